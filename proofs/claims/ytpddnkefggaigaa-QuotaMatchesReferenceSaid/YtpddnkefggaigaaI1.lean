/- slices.Insert and slices.Delete at loans. -/
import Derived.Test.YtpddnkefggaigaaS3
import Derived.Test.YtpddnkefggaigaaReg
import Derived.Lib.AppendZerosOnto
import Derived.Lib.Overlaps
import Derived.Laws.IdiomCopy
import Derived.Deep.RegionLaw
namespace Go.Proofs.Ytpddnkefggaigaa
open Go.RowKit

def OwnRet (w : World) (base E size n : Nat) (xs : List Value) (row : Option Nat) (e : Ending) (w' : World) : Prop :=
  ∃ v, e = .returned v ∧ w'.ownsRow base E size v n xs ∧ w.grownBy w' row

theorem insert_end (base : Nat) (v : Value) (n : Nat) (xs x3 : List Value) (vb : Nat) (w : World) (hown : w.ownsRow base 28 3 v n xs) (hvb : Blk w vb 28 x3.toArray) (hx3 : x3.length = 3) (h1 : ∀ u ∈ x3, u.oneCell' = true)
    (hbase : base ≤ w.heap.size) (hn : n ≤ 1099511627776) :
    Calls Try.prog 69 #[v, .int .i64 n, .slice (some ⟨vb, 0, none⟩) 1 1] w (OwnRet w base 28 3 (n + 1) (xs ++ x3) v.ownBlock) := by
  obtain ⟨A, c, rfl, hnc, hcm⟩ := own_slice hown
  have hcm' : c ≤ 9223372036854775807 := hcm
  obtain ⟨i0, hi, hz0, hz1, hz2⟩ := info_parts infoLoan
  have hr : Reads w w.heap.size 3 (some ⟨vb, 0, none⟩) 1 x3 := ⟨by simp [hx3], fun _ => ⟨vb, 0, rfl, hvb.lt, fun j u hu => by rw [Nat.zero_add, hvb.cell]; simpa using hu⟩⟩
  have HR := Lib.hid hr
  have H1 := Lib.hid h1
  have hnn : ((n : Int) == (n : Int)) = true := by simp
  clear hr h1 hx3 hvb
  go_enter Try.func69, Try.ntmps69
  go_wp2_with (at_builtin; refine wpList_append_any _ rfl _ _ 24 rfl base 28 i0 (.agg #[.int .i64 0, .int .i64 0, .int .i64 0]) 3 24 Try.underlying24 hi hz0 hz1 hz2 rfl (by decide) _ n xs rfl hown w.heap.size (some ⟨vb, 0, none⟩) 1 1 x3 rfl HR.out H1.out (by unfold maxLen; omega) (by omega) hbase ?_)
  all_goals
    intro v' w' hown' hg hat
    go_wp2
    go_ret
    exact ⟨v', rfl, hown', by cases A <;> exact hg⟩

theorem run_copyK {P : Program} (w : World) (dT sT ty elem : TypeId) (size g o dLen dCap : Nat) (a : Addr) (sLen sCap : Nat) (cur : Array Value) (t : TypeId) (cs : List Value)
    (hu : P.underlying dT = some (.slice elem)) (hs : (P.info? elem).map (·.size) = some size)
    (hg : w.heap[g]? = some (.cells cur t (0, 0))) (hn : cs.length = Nat.min sLen dLen * size)
    (hsrc : ∀ j v, cs[j]? = some v → w.cell? (a.add j) = some v) (hfit : o + cs.length ≤ cur.size) (h1 : ∀ v ∈ cs, v.oneCell' = true) :
    (Builtin.copy_ #[dT, sT] ty #[.slice (some ⟨g, o, none⟩) dLen dCap, .slice (some a) sLen sCap]).run P w =
      .ok (goInt (Nat.min sLen dLen)) (w.setRow g (cur.toList.take o ++ cs ++ cur.toList.drop (o + cs.length)).toArray) := by
  have hl := run_loadCells_list (P := P) w a cs hsrc
  have hst := run_storeCells_at P g o t cs 0 cur w hg (by simpa using hfit) h1
  cases hq : P.info? elem with
  | none => simp [hq] at hs
  | some i =>
    have hi : i.size = size := by simpa [hq] using hs
    simp [Builtin.copy_, run_underlying hu, Builtin.lenOf, Builtin.firstCells, sizeOf, typeInfo, hq, hi, ← hn, hl, hst]

theorem wpList_copyK {P : Program} (w : World) {ops : Array Oper} {rest : List Oper} {o : Oper} {a : Act} {Q : Exit → Act → World → Prop} (hgd : o.guard = none) (d s : Operand) (t t' : TypeId)
    (ho : o.op = .call { callee := .builtin .copy, args := #[d, s], argTypes := #[t, t'] }) (v u : Value) (hd : a.eval d = v) (hs : a.eval s = u) {v' : Value} {w' : World}
    (hr : (Builtin.copy_ #[t, t'] o.type #[v, u]).run P w = .ok v' w') (h : wpList P ops Q rest (a.put o.dst v') w') : wpList P ops Q (o :: rest) a w := by
  refine wpList_plain hgd fun K hK => ?_
  unfold Oper.wp execOp
  simp only [ho, resolve, invoke, builtin, Sem.run_bind, Sem.run_pure, Result.andThen_ok, List.map_toArray, List.map_cons, List.map_nil, hd, hs, hr]
  exact hK _ _ h

theorem sizeLoan : (Try.prog.info? 28).map (·.size) = some 3 := by kernel_rfl

theorem setRow_blk {w : World} {g : Nat} {t : TypeId} {cur : Array Value} (h : Blk w g t cur) (cs : Array Value) : Blk (w.setRow g cs) g t cs := setRow_heap w g cur cs t (0, 0) h
theorem setRow_far {w : World} {g g' : Nat} {t : TypeId} {cur : Array Value} (h : Blk w g' t cur) (hne : g' ≠ g) (cs : Array Value) : Blk (w.setRow g cs) g' t cur := by
  unfold Blk at h ⊢
  simp only [World.setRow, Array.getElem?_modify]
  rw [if_neg (fun e => hne e.symm)]
  exact h
theorem setRow_grown (w : World) (g : Nat) (cs : Array Value) : w.grownBy (w.setRow g cs) (some g) :=
  ⟨rfl, rfl, rfl, by simp [World.setRow], fun k hk hne => by
    simp only [World.setRow, Array.getElem?_modify]
    rw [if_neg (fun e => hne (by rw [e]))]⟩
theorem grown_trans_ {a b c : World} {row : Option Nat} (h : a.grownBy b row) (k : b.grownBy c row) : a.grownBy c row :=
  ⟨k.os.trans h.os, k.tape.trans h.tape, k.output.trans h.output, Nat.le_trans h.size k.size, fun i hi hne => (k.block i (Nat.lt_of_lt_of_le hi h.size) hne).trans (h.block i hi hne)⟩

theorem shift_list {α : Type} (L x3 : List α) (a N : Nat) (ha : a ≤ N) (hN : N + 3 ≤ L.length) (h3 : x3.length = 3) :
    let c1 := L.take (a + 3) ++ (L.take N).drop a ++ L.drop (a + 3 + ((L.take N).drop a).length)
    let c2 := c1.take a ++ x3 ++ c1.drop (a + x3.length)
    c1.length = L.length ∧ c2.length = L.length ∧ c2.take (N + 3) = (L.take N).take a ++ x3 ++ (L.take N).drop a := by
  have hd : ((L.take N).drop a).length = N - a := by simp; omega
  have e1 : (L.take (a + 3) ++ (L.take N).drop a ++ L.drop (a + 3 + ((L.take N).drop a).length)).take a = L.take a := by
    rw [List.append_assoc, List.take_append_of_le_length (by simp; omega), List.take_take, Nat.min_eq_left (by omega)]
  have e2 : (L.take (a + 3) ++ (L.take N).drop a ++ L.drop (a + 3 + ((L.take N).drop a).length)).drop (a + 3) = (L.take N).drop a ++ L.drop (N + 3) := by
    rw [List.append_assoc, List.drop_append_of_le_length (by simp; omega), List.drop_of_length_le (by rw [List.length_take]; omega), List.nil_append, hd, show a + 3 + (N - a) = N + 3 by omega]
  have hl : (L.take (a + 3) ++ (L.take N).drop a ++ L.drop (a + 3 + ((L.take N).drop a).length)).length = L.length := by
    rw [List.length_append, List.length_append, hd, List.length_take, List.length_drop]; omega
  refine ⟨hl, ?_, ?_⟩
  · rw [h3, e1, e2, List.length_append, List.length_append, List.length_append, hd, h3, List.length_take, List.length_drop]; omega
  · rw [h3, e1, e2, ← List.append_assoc, List.take_append_of_le_length (by simp [hd, h3]; omega), List.take_of_length_le (by simp [hd, h3]; omega), List.take_take, Nat.min_eq_left (by omega)]

set_option maxHeartbeats 1000000 in
theorem insert_shift (base g n c i : Nat) (cur : Array Value) (x3 : List Value) (vb : Nat) (w : World) (hg : Blk w g 28 cur) (hbg : base ≤ g) (hcs : cur.size = c * 3) (hcm : c ≤ maxLen) (hnc : n + 1 ≤ c) (hin : i < n) (h1c : ∀ u ∈ cur.toList.take (n * 3), u.oneCell' = true)
    (hvb : Blk w vb 28 x3.toArray) (hx3 : x3.length = 3) (h1 : ∀ u ∈ x3, u.oneCell' = true) (hne : vb ≠ g) (hn : n ≤ 1099511627776) :
    Calls Try.prog 69 #[.slice (some ⟨g, 0, none⟩) n c, .int .i64 i, .slice (some ⟨vb, 0, none⟩) 1 1] w (OwnRet w base 28 3 (n + 1) ((cur.toList.take (n * 3)).take (i * 3) ++ x3 ++ (cur.toList.take (n * 3)).drop (i * 3)) (some g)) := by
  have hcm' : c ≤ 9223372036854775807 := hcm
  have hov : ∀ (W : World), Blk W g 28 cur → Blk W vb 28 x3.toArray → ∀ lb cb, (callFunc 72 #[.slice (some ⟨vb, 0, none⟩) 1 1, .slice (some ⟨g, (i + 1) * 3, none⟩) lb cb]).run Try.prog W = .ok (.value (.bool false)) W := fun W hg hvb lb cb => by
    rw [run_callFunc_extern Try.func72 (by kernel_rfl) (by kernel_rfl) (by kernel_rfl) (e := Extern.SlicesOverlaps.overlaps #[24, 24] #[4]) (by kernel_rfl),
      Lib.run_overlaps_apart W 24 4 28 Try.underlying24 3 Try.sizeOf28 ⟨vb, 0, none⟩ ⟨g, (i + 1) * 3, none⟩ 1 1 lb cb hne 28 28 3 (c * 3) (by unfold Blk at hvb; simp [World.shape?, hvb, hx3]) (by unfold Blk at hg; simp [World.shape?, hg, hcs]) (by omega) (hvb.frozen 0) (hvb.frozen 3)]
    rfl
  have HOV := hov w hg hvb
  have hz2 : ((i : Int) == (n : Int)) = false := by simp; omega
  clear hov
  go_enter Try.func69, Try.ntmps69
  go_wp2_with (simp only [HOV])
  clear HOV
  have hw1 : IntKind.i64.wrap ((i : Int) + 1) = (i : Int) + 1 := IntWalk.i64_in _ (by omega)
  have ht1 : ((i : Int) + 1).toNat = i + 1 := by omega
  have hb1 : (0 : Int) ≤ (i : Int) + 1 := by omega
  have hci : ¬ c = i := by omega
  have hci1 : ¬ c = i + 1 := by omega
  refine wp_region_obl 8 (fun ix vals v w1 => match ix with | 0 => v = .slice (some ⟨g, 0, none⟩) (n + 1) c | 1 => v = .int .i64 i | 2 => v = .int .i64 1 | 3 => v = .int .i64 ((i : Int) + 1) | 4 => v = .slice (some ⟨g, (i + 1) * 3, none⟩) (n - i) (c - (i + 1)) | 5 => v = .slice (some ⟨g, 0, none⟩) (n + 1) c | 6 => v = .int .i64 i | _ => v = .slice (some ⟨g, i * 3, none⟩) (n + 1 - i) (c - i)) (by kernel_rfl) (by kernel_rfl) ?_ ?_ ?_ ?_
  · intro ix vals v w1 w2 hi hr hx
    match ix, hr with
    | 0, hr => exact hr
    | 1, hr => exact hr
    | 2, hr => exact hr
    | 3, hr => exact hr
    | 4, hr => exact hr
    | 5, hr => exact hr
    | 6, hr => exact hr
    | (kx + 7), hr => exact hr
  · intro ix vals vals_ v w1 hi hv hr
    exact hr
  · refine ⟨?_, ?_, ?_, ?_, ?_, ?_, ?_, ?_, trivial⟩
    · intro vals w1 hx hd ha
      clear hd ha
      simp only [Lf]
      go_wp2
      exact ⟨rfl, Ext.refl _, rfl⟩
    · intro vals w1 hx hd ha
      clear hd ha
      simp only [Lf, dstAt, Act.put, List.getElem?_toArray, List.getElem?_cons_zero, Option.bind_some, List.setIfInBounds_toArray, List.set_cons_zero, List.set_cons_succ]
      go_wp2
      exact ⟨rfl, Ext.refl _, rfl⟩
    · intro vals w1 hx hd ha
      clear hd ha
      simp only [Lf, dstAt, Act.put, List.getElem?_toArray, List.getElem?_cons_zero, List.getElem?_cons_succ, Option.bind_some, List.setIfInBounds_toArray, List.set_cons_zero, List.set_cons_succ]
      go_wp2
      exact ⟨rfl, Ext.refl _, rfl⟩
    · intro vals w1 hx hd ha
      have e1 : vals 1 = .int .i64 i := hd 1 (by decide)
      have e2 : vals 2 = .int .i64 1 := hd 2 (by decide)
      clear hd ha
      simp only [Lf, dstAt, Act.put, List.getElem?_toArray, List.getElem?_cons_zero, List.getElem?_cons_succ, Option.bind_some, List.setIfInBounds_toArray, List.set_cons_zero, List.set_cons_succ]
      simp only [e1, e2]
      clear e1 e2
      go_wp2
      exact ⟨rfl, Ext.refl _, rfl⟩
    · intro vals w1 hx hd ha
      have e0 : vals 0 = .slice (some ⟨g, 0, none⟩) (n + 1) c := hd 0 (by decide)
      have e3 : vals 3 = .int .i64 ((i : Int) + 1) := hd 3 (by decide)
      clear hd ha
      simp only [Lf, dstAt, Act.put, List.getElem?_toArray, List.getElem?_cons_zero, List.getElem?_cons_succ, Option.bind_some, List.setIfInBounds_toArray, List.set_cons_zero, List.set_cons_succ]
      simp only [e0, e3]
      clear e0 e3
      go_wp2
      exact ⟨rfl, Ext.refl _, rfl⟩
    · intro vals w1 hx hd ha
      clear hd ha
      simp only [Lf, dstAt, Act.put, List.getElem?_toArray, List.getElem?_cons_zero, List.getElem?_cons_succ, Option.bind_some, List.setIfInBounds_toArray, List.set_cons_zero, List.set_cons_succ]
      go_wp2
      exact ⟨rfl, Ext.refl _, rfl⟩
    · intro vals w1 hx hd ha
      clear hd ha
      simp only [Lf, dstAt, Act.put, List.getElem?_toArray, List.getElem?_cons_zero, List.getElem?_cons_succ, Option.bind_some, List.setIfInBounds_toArray, List.set_cons_zero, List.set_cons_succ]
      go_wp2
      exact ⟨rfl, Ext.refl _, rfl⟩
    · intro vals w1 hx hd ha
      have e5 : vals 5 = .slice (some ⟨g, 0, none⟩) (n + 1) c := hd 5 (by decide)
      have e6 : vals 6 = .int .i64 i := hd 6 (by decide)
      clear hd ha
      simp only [Lf, dstAt, Act.put, List.getElem?_toArray, List.getElem?_cons_zero, List.getElem?_cons_succ, Option.bind_some, List.setIfInBounds_toArray, List.set_cons_zero, List.set_cons_succ]
      simp only [e5, e6]
      clear e5 e6
      go_wp2
      exact ⟨rfl, Ext.refl _, rfl⟩
  clear hw1 ht1 hb1
  intro vals w1 hx hf
  have e4 : vals 4 = .slice (some ⟨g, (i + 1) * 3, none⟩) (n - i) (c - (i + 1)) := hf 4 (by omega)
  have e7 : vals 7 = .slice (some ⟨g, i * 3, none⟩) (n + 1 - i) (c - i) := hf 7 (by omega)
  clear hf
  have hg1 := hg.ext hx.undrew
  have hvb1 := hvb.ext hx.undrew
  have hgr : w.grownBy w1 (some g) := only_of_below hx.undrew _
  refine tail1 8 _ (by kernel_rfl) (by kernel_rfl) rfl ?_
  simp only [Lf, dstAt, Act.put, List.getElem?_toArray, List.getElem?_cons_zero, List.getElem?_cons_succ, Option.bind_some, List.setIfInBounds_toArray, List.set_cons_zero, List.set_cons_succ]
  rw [e4, e7]
  clear e4 e7
  have hL : (n * 3) + 3 ≤ cur.toList.length := by rw [Array.length_toList, hcs]; omega
  have hmin : Nat.min (n + 1 - i) (n - i) = n - i := Nat.min_eq_right (by omega)
  have hsl := shift_list cur.toList x3 (i * 3) (n * 3) (by omega) hL hx3
  simp only at hsl
  obtain ⟨hl1, hl2, hl3⟩ := hsl
  have hdl : ((cur.toList.take (n * 3)).drop (i * 3)).length = (n - i) * 3 := by simp only [List.length_drop, List.length_take]; omega
  have hcp1 := run_copyK (P := Try.prog) w1 24 24 3 28 3 g ((i + 1) * 3) (n - i) (c - (i + 1)) ⟨g, i * 3, none⟩ (n + 1 - i) (c - i) cur 28 ((cur.toList.take (n * 3)).drop (i * 3)) Try.underlying24 sizeLoan hg1 (by rw [hmin]; exact hdl)
    (fun j u hj => by
      rw [Addr.add_lit, hg1.cell]
      rw [List.getElem?_drop, List.getElem?_take] at hj
      split at hj
      · simpa using hj
      · cases hj) (by rw [hdl, hcs]; omega) (fun u hu => h1c u (List.mem_of_mem_drop hu))
  rw [show (i + 1) * 3 = i * 3 + 3 by omega] at hcp1
  generalize hcur1 : cur.toList.take (i * 3 + 3) ++ (cur.toList.take (n * 3)).drop (i * 3) ++ cur.toList.drop (i * 3 + 3 + ((cur.toList.take (n * 3)).drop (i * 3)).length) = cur1 at hcp1 hl1 hl2 hl3
  clear hcur1
  have hg2 := setRow_blk hg1 cur1.toArray
  have hvb2 := setRow_far hvb1 hne cur1.toArray
  have hgr2 := grown_trans_ hgr (setRow_grown w1 g cur1.toArray)
  generalize hw2 : w1.setRow g cur1.toArray = w2 at hcp1 hg2 hvb2 hgr2
  clear hw2
  have hcp2 := run_copyK (P := Try.prog) w2 24 24 3 28 3 g (i * 3) (n + 1 - i) (c - i) ⟨vb, 0, none⟩ 1 1 cur1.toArray 28 x3 Try.underlying24 sizeLoan hg2 (by rw [hx3]; simp only [Nat.min_def]; split <;> omega)
    (fun j u hj => by rw [Addr.add_lit, Nat.zero_add, hvb2.cell]; simpa using hj) (by simp only [List.size_toArray, hl1, hx3]; omega) h1
  simp only at hcp2
  generalize hcur2 : cur1.take (i * 3) ++ x3 ++ cur1.drop (i * 3 + x3.length) = cur2 at hcp2 hl2 hl3
  clear hcur2
  have hg3 := setRow_blk hg2 cur2.toArray
  have hgr3 := grown_trans_ hgr2 (setRow_grown w2 g cur2.toArray)
  generalize hw3 : w2.setRow g cur2.toArray = w3 at hcp2 hg3 hgr3
  have H3 := Lib.hid hl3
  have HC1 := Lib.hid hcp1
  have HC2 := Lib.hid hcp2
  have HL2 := Lib.hid hl2
  clear hw3 hl3 hcp1 hcp2 hl1 hl2 hdl hmin hL
  have e3 : (i + 1) * 3 = i * 3 + 3 := by omega
  rw [e3]
  clear e3
  refine wpList_copyK _ rfl (.tmp 73) (.tmp 76) 24 24 rfl _ _ rfl rfl HC1.out ?_
  go_wp2_with (refine wpList_copyK _ rfl (.tmp 80) (.tmp 81) 24 24 rfl (.slice (some ⟨g, i * 3, none⟩) (n + 1 - i) (c - i)) (.slice (some ⟨vb, 0, none⟩) 1 1) rfl rfl HC2.out ?_)
  go_ret
  refine ⟨_, rfl, ⟨?_, .inr ⟨g, c, cur2.toArray, rfl, hbg, hg3, by omega, hcm, ?_, ?_⟩⟩, hgr3⟩
  · rw [List.length_append, List.length_append, hx3, List.length_take, List.length_drop, List.length_take, Array.length_toList, hcs]; omega
  · simp only [List.size_toArray, HL2.out, Array.length_toList, hcs]
  · rw [show (n + 1) * 3 = n * 3 + 3 by omega]; exact H3.out

end Go.Proofs.Ytpddnkefggaigaa
