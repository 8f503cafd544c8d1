/- slices.Insert at loans where there is no room. -/
import Derived.Test.YtpddnkefggaigaaI1
namespace Go.Proofs.Ytpddnkefggaigaa
open Go.RowKit


theorem wpList_appendK {P : Program} (w : World) {ops : Array Oper} {rest : List Oper} {o : Oper} {a : Act} {Q : Exit → Act → World → Prop} (hgd : o.guard = none) (d s : Operand) (t t' : TypeId)
    (ho : o.op = .call { callee := .builtin .append, args := #[d, s], argTypes := #[t, t'] }) (v u : Value) (hd : a.eval d = v) (hs : a.eval s = u) {v' : Value} {w' : World}
    (hr : (Builtin.append_ #[t, t'] o.type #[v, u]).run P w = .ok v' w') (h : wpList P ops Q rest (a.put o.dst v') w') : wpList P ops Q (o :: rest) a w := by
  refine wpList_plain hgd fun K hK => ?_
  unfold Oper.wp execOp
  simp only [ho, resolve, invoke, builtin, Sem.run_bind, Sem.run_pure, Result.andThen_ok, List.map_toArray, List.map_cons, List.map_nil, hd, hs, hr]
  exact hK _ _ h

theorem grow_list {α : Type} (L x3 Z : List α) (a N : Nat) (ha : a ≤ N) (hL : N ≤ L.length) (h3 : x3.length = 3) (hZ : N + 3 - a ≤ Z.length) :
    let R := L.take a ++ Z
    let c1 := R.take a ++ x3 ++ R.drop (a + x3.length)
    let c2 := c1.take (a + 3) ++ (L.take N).drop a ++ c1.drop (a + 3 + ((L.take N).drop a).length)
    c1.length = R.length ∧ c2.length = R.length ∧ c2.take (N + 3) = (L.take N).take a ++ x3 ++ (L.take N).drop a := by
  have hd : ((L.take N).drop a).length = N - a := by rw [List.length_drop, List.length_take]; omega
  have e0 : (L.take a ++ Z).take a = L.take a := by
    rw [List.take_append_of_le_length (by rw [List.length_take]; omega), List.take_take, Nat.min_self]
  have hR : (L.take a ++ Z).length = a + Z.length := by rw [List.length_append, List.length_take]; omega
  have hl1 : ((L.take a ++ Z).take a ++ x3 ++ (L.take a ++ Z).drop (a + x3.length)).length = (L.take a ++ Z).length := by
    rw [e0, List.length_append, List.length_append, List.length_drop, hR, h3, List.length_take]; omega
  refine ⟨hl1, ?_, ?_⟩
  · rw [List.length_append, List.length_append, hd, List.length_take, List.length_drop, hl1, hR]; omega
  · have e1 : ((L.take a ++ Z).take a ++ x3 ++ (L.take a ++ Z).drop (a + x3.length)).take (a + 3) = L.take a ++ x3 := by
      rw [e0, List.take_append_of_le_length (by rw [List.length_append, List.length_take, h3]; omega), List.take_of_length_le (by rw [List.length_append, List.length_take, h3]; omega)]
    rw [e1, List.take_append_of_le_length (by rw [List.length_append, List.length_append, hd, h3, List.length_take]; omega), List.take_of_length_le (by rw [List.length_append, List.length_append, hd, h3, List.length_take]; omega), List.take_take, Nat.min_eq_left ha]

set_option maxHeartbeats 1000000 in
theorem insert_grow (base g n i : Nat) (cur : Array Value) (x3 : List Value) (vb : Nat) (w : World) (hg : Blk w g 28 cur) (hbw : base ≤ w.heap.size) (hcs : cur.size = n * 3) (hin : i < n) (h1c : ∀ u ∈ cur.toList.take (n * 3), u.oneCell' = true)
    (hvb : Blk w vb 28 x3.toArray) (hx3 : x3.length = 3) (h1 : ∀ u ∈ x3, u.oneCell' = true) (hn : n ≤ 1099511627776) :
    Calls Try.prog 69 #[.slice (some ⟨g, 0, none⟩) n n, .int .i64 i, .slice (some ⟨vb, 0, none⟩) 1 1] w (OwnRet w base 28 3 (n + 1) ((cur.toList.take (n * 3)).take (i * 3) ++ x3 ++ (cur.toList.take (n * 3)).drop (i * 3)) (some g)) := by
  obtain ⟨i0, hi0, hz0, hzs, hzb⟩ := info_parts infoLoan
  have hgw := hg.lt
  have hvw := hvb.lt
  have hold : (Builtin.firstCells i0.size i (.slice (some ⟨g, 0, none⟩) i n)).run Try.prog w.drew = .ok (cur.toList.take (i * 3)).toArray w.drew := by
    rw [hzs]
    exact run_firstCells_some w.drew 3 i ⟨g, 0, none⟩ i n (cur.toList.take (i * 3)) (by rw [List.length_take, Array.length_toList]; omega) (fun j u hj => by
      rw [Addr.add_lit, Nat.zero_add, hg.drew.cell]
      rw [List.getElem?_take] at hj
      split at hj
      · simpa using hj
      · cases hj)
  have hik : i + (n + 1 - i) = n + 1 := by omega
  have hrz := Lib.run_append_grow_zeros w 24 3 24 28 i0 _ .i64 .i64 Try.underlying24 Try.underlying3 hi0 hz0 (some ⟨g, 0, none⟩) i n (cur.toList.take (i * 3)) hold (n + 1 - i) (by omega) (by omega) (by omega) (by omega) (by rw [hzb]; omega) (by rw [hzb, hik]; exact growslice_fits (by omega) (by omega))
  rw [hik] at hrz
  have hkk : ((n + 1 - i : Nat) : Int) = (n : Int) + 1 - (i : Int) := by omega
  rw [hkk] at hrz
  clear hkk hik hold
  generalize hG : grownCap w (n + 1) n 28 = G at hrz
  have hG1 : n + 1 ≤ G := by rw [← hG]; exact grownCap_ge w _ _ _
  have hG2 : G ≤ maxLen := by rw [← hG]; exact grownCap_le_maxLen w _ _ _ (by unfold maxLen; omega)
  have hG3 : G ≤ 9223372036854775807 := hG2
  clear hG
  obtain ⟨ROW, hROW⟩ : ∃ ROW : Array Value, ROW = (cur.toList.take (i * 3)).toArray ++ Builtin.zeroCells (Value.agg #[.int .i64 0, .int .i64 0, .int .i64 0]).cells (n + 1 - i) ++ Builtin.zeroCells (Value.agg #[.int .i64 0, .int .i64 0, .int .i64 0]).cells (G - (n + 1)) := ⟨_, rfl⟩
  rw [← hROW] at hrz
  have hRl : ROW.size = G * 3 := by
    rw [hROW]
    simp only [Array.size_append, size_zeroCells, List.size_toArray, List.length_take, Array.length_toList, Value.cells]
    simp
    omega
  have hW : w.drew.alloc (.cells ROW 28) = (w.alloc (.cells ROW 28)).drew := rfl
  rw [hW] at hrz
  clear hW
  have hg1 : Blk (w.alloc (.cells ROW 28)).drew w.heap.size 28 ROW := (Blk.new w 28 ROW).drew
  have hgo : Blk (w.alloc (.cells ROW 28)).drew g 28 cur := (hg.alloc _).drew
  have hvo : Blk (w.alloc (.cells ROW 28)).drew vb 28 x3.toArray := (hvb.alloc _).drew
  have hgr1 : w.grownBy (w.alloc (.cells ROW 28)).drew (some g) := only_drew (only_alloc (World.grownBy.refl w _) _)
  generalize hw1 : (w.alloc (.cells ROW 28)).drew = w1 at hrz hg1 hgo hvo hgr1
  clear hw1
  have hgl := grow_list cur.toList x3 (Builtin.zeroCells (Value.agg #[.int .i64 0, .int .i64 0, .int .i64 0]).cells (n + 1 - i) ++ Builtin.zeroCells (Value.agg #[.int .i64 0, .int .i64 0, .int .i64 0]).cells (G - (n + 1))).toList (i * 3) (n * 3) (by omega) (by rw [Array.length_toList]; omega) hx3 (by
    rw [Array.length_toList, Array.size_append, size_zeroCells, size_zeroCells]
    simp only [Value.cells]
    simp
    omega)
  have hRR : cur.toList.take (i * 3) ++ (Builtin.zeroCells (Value.agg #[.int .i64 0, .int .i64 0, .int .i64 0]).cells (n + 1 - i) ++ Builtin.zeroCells (Value.agg #[.int .i64 0, .int .i64 0, .int .i64 0]).cells (G - (n + 1))).toList = ROW.toList := by
    rw [hROW]; simp
  rw [hRR] at hgl
  simp only at hgl
  obtain ⟨hl1, hl2, hl3⟩ := hgl
  clear hRR hROW
  have hcp1 := run_copyK (P := Try.prog) w1 24 24 3 28 3 w.heap.size (i * 3) (n + 1 - i) (G - i) ⟨vb, 0, none⟩ 1 1 ROW 28 x3 Try.underlying24 sizeLoan hg1 (by rw [hx3]; simp only [Nat.min_def]; split <;> omega)
    (fun j u hj => by rw [Addr.add_lit, Nat.zero_add, hvo.cell]; simpa using hj) (by rw [hRl, hx3]; omega) h1
  generalize hcur1 : ROW.toList.take (i * 3) ++ x3 ++ ROW.toList.drop (i * 3 + x3.length) = cur1 at hcp1 hl1 hl2 hl3
  clear hcur1
  have hg2 := setRow_blk hg1 cur1.toArray
  have hgo2 := setRow_far (g := w.heap.size) hgo (by omega) cur1.toArray
  have hgr2 : w.grownBy (w1.setRow w.heap.size cur1.toArray) (some g) := ⟨hgr1.os, hgr1.tape, hgr1.output, Nat.le_trans hgr1.size (setRow_grown w1 _ _).size, fun k hk hne => ((setRow_grown w1 w.heap.size cur1.toArray).block k (by have := hgr1.size; omega) (by simp; omega)).trans (hgr1.block k hk hne)⟩
  generalize hw2 : w1.setRow w.heap.size cur1.toArray = w2 at hcp1 hg2 hgo2 hgr2
  clear hw2
  have hdl : ((cur.toList.take (n * 3)).drop (i * 3)).length = (n - i) * 3 := by rw [List.length_drop, List.length_take, Array.length_toList]; omega
  have hcp2 : ∀ W : World, Blk W w.heap.size 28 cur1.toArray → Blk W g 28 cur → (Builtin.copy_ #[24, 24] 3 #[.slice (some ⟨w.heap.size, i * 3 + 3, none⟩) (n - i) (G - (i + 1)), .slice (some ⟨g, i * 3, none⟩) (n - i) (n - i)]).run Try.prog W = .ok (goInt ((n - i : Nat) : Int)) (W.setRow w.heap.size (cur1.take (i * 3 + 3) ++ (cur.toList.take (n * 3)).drop (i * 3) ++ cur1.drop (i * 3 + 3 + ((cur.toList.take (n * 3)).drop (i * 3)).length)).toArray) := fun W hW hWg => by
    have := run_copyK (P := Try.prog) W 24 24 3 28 3 w.heap.size (i * 3 + 3) (n - i) (G - (i + 1)) ⟨g, i * 3, none⟩ (n - i) (n - i) cur1.toArray 28 ((cur.toList.take (n * 3)).drop (i * 3)) Try.underlying24 sizeLoan hW (by rw [hdl]; simp)
      (fun j u hj => by
        rw [Addr.add_lit, hWg.cell]
        rw [List.getElem?_drop, List.getElem?_take] at hj
        split at hj
        · simpa using hj
        · cases hj) (by rw [hdl]; simp only [List.size_toArray, hl1, Array.length_toList, hRl]; omega) (fun u hu => h1c u (List.mem_of_mem_drop hu))
    simpa using this
  generalize hcur2 : cur1.take (i * 3 + 3) ++ (cur.toList.take (n * 3)).drop (i * 3) ++ cur1.drop (i * 3 + 3 + ((cur.toList.take (n * 3)).drop (i * 3)).length) = cur2 at hcp2 hl2 hl3
  clear hcur2 hdl
  have H3 := Lib.hid hl3
  have HZ := Lib.hid hrz
  have HC1 := Lib.hid hcp1
  have HC2 := Lib.hid hcp2
  have HL2 := Lib.hid hl2
  have HR := Lib.hid hRl
  clear hl3 hrz hcp1 hcp2 hl1 hl2 hRl
  have hz2 : ((i : Int) == (n : Int)) = false := by simp; omega
  have hni : ¬ n = i := by omega
  have hGi : ¬ G = i := by omega
  have hGi1 : ¬ G = i + 1 := by omega
  go_enter Try.func69, Try.ntmps69
  go_wp2_with (first
    | (refine wpList_appendK _ rfl (.tmp 34) (.tmp 39) 24 3 rfl (.slice (some ⟨g, 0, none⟩) i n) (.int .i64 ((n : Int) + 1 - (i : Int))) rfl rfl HZ.out ?_)
    | (refine wpList_copyK _ rfl (.tmp 43) (.tmp 44) 24 24 rfl (.slice (some ⟨w.heap.size, i * 3, none⟩) (n + 1 - i) (G - i)) (.slice (some ⟨vb, 0, none⟩) 1 1) rfl rfl HC1.out ?_))
  simp only [Act.put, List.setIfInBounds_toArray, List.set_cons_zero, List.set_cons_succ]
  have hw1 : IntKind.i64.wrap ((i : Int) + 1) = (i : Int) + 1 := IntWalk.i64_in _ (by omega)
  have ht1 : ((i : Int) + 1).toNat = i + 1 := by omega
  have hb1 : (0 : Int) ≤ (i : Int) + 1 := by omega
  have hi2 : (i : Int) ≤ (n : Int) := by omega
  have hi3 : i ≤ n := by omega
  refine wp_region_obl 8 (fun ix vals v w1 => match ix with | 0 => v = .slice (some ⟨w.heap.size, 0, none⟩) (n + 1) G | 1 => v = .int .i64 i | 2 => v = .int .i64 1 | 3 => v = .int .i64 ((i : Int) + 1) | 4 => v = .slice (some ⟨w.heap.size, (i + 1) * 3, none⟩) (n - i) (G - (i + 1)) | 5 => v = .slice (some ⟨g, 0, none⟩) n n | 6 => v = .int .i64 i | _ => v = .slice (some ⟨g, i * 3, none⟩) (n - i) (n - i)) (by kernel_rfl) (by kernel_rfl) ?_ ?_ ?_ ?_
  · intro ix vals v w1 w2 hi hr hx
    match ix, hr with
    | 0, hr => exact hr
    | 1, hr => exact hr
    | 2, hr => exact hr
    | 3, hr => exact hr
    | 4, hr => exact hr
    | 5, hr => exact hr
    | 6, hr => exact hr
    | (kx + 7), hr => exact hr
  · intro ix vals vals_ v w1 hi hv hr
    exact hr
  · refine ⟨?_, ?_, ?_, ?_, ?_, ?_, ?_, ?_, trivial⟩
    · intro vals w1 hx hd ha
      clear hd ha
      simp only [Lf]
      go_wp2
      exact ⟨rfl, Ext.refl _, rfl⟩
    · intro vals w1 hx hd ha
      clear hd ha
      simp only [Lf, dstAt, Act.put, List.getElem?_toArray, List.getElem?_cons_zero, Option.bind_some, List.setIfInBounds_toArray, List.set_cons_zero, List.set_cons_succ]
      go_wp2
      exact ⟨rfl, Ext.refl _, rfl⟩
    · intro vals w1 hx hd ha
      clear hd ha
      simp only [Lf, dstAt, Act.put, List.getElem?_toArray, List.getElem?_cons_zero, List.getElem?_cons_succ, Option.bind_some, List.setIfInBounds_toArray, List.set_cons_zero, List.set_cons_succ]
      go_wp2
      exact ⟨rfl, Ext.refl _, rfl⟩
    · intro vals w1 hx hd ha
      have e1 : vals 1 = .int .i64 i := hd 1 (by decide)
      have e2 : vals 2 = .int .i64 1 := hd 2 (by decide)
      clear hd ha
      simp only [Lf, dstAt, Act.put, List.getElem?_toArray, List.getElem?_cons_zero, List.getElem?_cons_succ, Option.bind_some, List.setIfInBounds_toArray, List.set_cons_zero, List.set_cons_succ]
      simp only [e1, e2]
      clear e1 e2
      go_wp2
      exact ⟨rfl, Ext.refl _, rfl⟩
    · intro vals w1 hx hd ha
      have e0 : vals 0 = .slice (some ⟨w.heap.size, 0, none⟩) (n + 1) G := hd 0 (by decide)
      have e3 : vals 3 = .int .i64 ((i : Int) + 1) := hd 3 (by decide)
      clear hd ha
      simp only [Lf, dstAt, Act.put, List.getElem?_toArray, List.getElem?_cons_zero, List.getElem?_cons_succ, Option.bind_some, List.setIfInBounds_toArray, List.set_cons_zero, List.set_cons_succ]
      simp only [e0, e3]
      clear e0 e3
      go_wp2
      exact ⟨rfl, Ext.refl _, rfl⟩
    · intro vals w1 hx hd ha
      clear hd ha
      simp only [Lf, dstAt, Act.put, List.getElem?_toArray, List.getElem?_cons_zero, List.getElem?_cons_succ, Option.bind_some, List.setIfInBounds_toArray, List.set_cons_zero, List.set_cons_succ]
      go_wp2
      exact ⟨rfl, Ext.refl _, rfl⟩
    · intro vals w1 hx hd ha
      clear hd ha
      simp only [Lf, dstAt, Act.put, List.getElem?_toArray, List.getElem?_cons_zero, List.getElem?_cons_succ, Option.bind_some, List.setIfInBounds_toArray, List.set_cons_zero, List.set_cons_succ]
      go_wp2
      exact ⟨rfl, Ext.refl _, rfl⟩
    · intro vals w1 hx hd ha
      have e5 : vals 5 = .slice (some ⟨g, 0, none⟩) n n := hd 5 (by decide)
      have e6 : vals 6 = .int .i64 i := hd 6 (by decide)
      clear hd ha
      simp only [Lf, dstAt, Act.put, List.getElem?_toArray, List.getElem?_cons_zero, List.getElem?_cons_succ, Option.bind_some, List.setIfInBounds_toArray, List.set_cons_zero, List.set_cons_succ]
      simp only [e5, e6]
      clear e5 e6
      go_wp2
      exact ⟨rfl, Ext.refl _, rfl⟩
  clear hw1 ht1 hb1
  intro vals w3 hx hf
  have e4 : vals 4 = .slice (some ⟨w.heap.size, (i + 1) * 3, none⟩) (n - i) (G - (i + 1)) := hf 4 (by omega)
  have e7 : vals 7 = .slice (some ⟨g, i * 3, none⟩) (n - i) (n - i) := hf 7 (by omega)
  clear hf
  have hg3 := hg2.ext hx.undrew
  have hgo3 := hgo2.ext hx.undrew
  have hgr3 := grown_trans_ hgr2 (only_of_below hx.undrew (some g))
  refine tail1 8 _ (by kernel_rfl) (by kernel_rfl) rfl ?_
  simp only [Lf, dstAt, Act.put, List.getElem?_toArray, List.getElem?_cons_zero, List.getElem?_cons_succ, Option.bind_some, List.setIfInBounds_toArray, List.set_cons_zero, List.set_cons_succ]
  rw [e4, e7, show (i + 1) * 3 = i * 3 + 3 by omega]
  clear e4 e7
  have hcp := HC2.out w3 hg3 hgo3
  have hg4 := setRow_blk hg3 cur2.toArray
  have hgr4 : w.grownBy (w3.setRow w.heap.size cur2.toArray) (some g) := ⟨hgr3.os, hgr3.tape, hgr3.output, Nat.le_trans hgr3.size (setRow_grown w3 _ _).size, fun k hk hne => ((setRow_grown w3 w.heap.size cur2.toArray).block k (by have := hgr3.size; omega) (by simp; omega)).trans (hgr3.block k hk hne)⟩
  generalize hw4 : w3.setRow w.heap.size cur2.toArray = w4 at hcp hg4 hgr4
  have HCP := Lib.hid hcp
  clear hw4 hcp
  refine wpList_copyK _ rfl (.tmp 50) (.tmp 53) 24 24 rfl _ _ rfl rfl HCP.out ?_
  go_wp2
  go_ret
  refine ⟨_, rfl, ⟨?_, .inr ⟨w.heap.size, G, cur2.toArray, rfl, hbw, hg4, hG1, hG2, ?_, ?_⟩⟩, hgr4⟩
  · rw [List.length_append, List.length_append, hx3, List.length_take, List.length_drop, List.length_take, Array.length_toList, hcs]; omega
  · simp only [List.size_toArray, HL2.out, Array.length_toList, HR.out]
  · rw [show (n + 1) * 3 = n * 3 + 3 by omega]; exact H3.out

theorem insert_any (base : Nat) (v : Value) (n i : Nat) (xs x3 : List Value) (vb : Nat) (w : World) (hown : w.ownsRow base 28 3 v n xs) (hin : i ≤ n) (h1x : ∀ u ∈ xs, u.oneCell' = true) (hvb : Blk w vb 28 x3.toArray) (hx3 : x3.length = 3) (h1 : ∀ u ∈ x3, u.oneCell' = true)
    (hne : v.ownBlock ≠ some vb) (hbase : base ≤ w.heap.size) (hn : n ≤ 1099511627776) :
    Calls Try.prog 69 #[v, .int .i64 i, .slice (some ⟨vb, 0, none⟩) 1 1] w (OwnRet w base 28 3 (n + 1) (xs.take (i * 3) ++ x3 ++ xs.drop (i * 3)) v.ownBlock) := by
  have hl := hown.1
  by_cases hi : i = n
  · subst hi
    rw [List.take_of_length_le (by omega), List.drop_of_length_le (by omega), List.append_nil]
    exact insert_end base v i xs x3 vb w hown hvb hx3 h1 hbase hn
  · rcases hown.2 with ⟨_, h0⟩ | ⟨g, c, cur, rfl, hbg, hg, hnc, hcm, hcs, htk⟩
    · omega
    · have hne' : vb ≠ g := fun e => hne (by simp [Value.ownBlock, e])
      subst htk
      by_cases hc : n + 1 ≤ c
      · exact insert_shift base g n c i cur x3 vb w hg hbg hcs hcm hc (by omega) h1x hvb hx3 h1 hne' hn
      · obtain rfl : c = n := by omega
        exact insert_grow base g c i cur x3 vb w hg hbase hcs (by omega) h1x hvb hx3 h1 hn

end Go.Proofs.Ytpddnkefggaigaa
