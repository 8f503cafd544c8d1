/- slices.Delete at loans, one element. -/
import Derived.Test.YtpddnkefggaigaaI2
namespace Go.Proofs.Ytpddnkefggaigaa
open Go.RowKit


theorem run_clearK {P : Program} (w : World) (t e ty : TypeId) (z : Value) (ht : P.underlying t = some (.slice e)) (hv : ∀ w, (zeroValue e).run P w = .ok z w) (h1 : ∀ u ∈ (Builtin.zeroCells z.cells 1).toList, u.oneCell' = true) (g o c : Nat) (cur : Array Value) (et : TypeId)
    (hg : w.heap[g]? = some (.cells cur et (0, 0))) (hfit : o + (Builtin.zeroCells z.cells 1).toList.length ≤ cur.size) :
    (Builtin.clear_ #[t] ty #[.slice (some ⟨g, o, none⟩) 1 c]).run P w = .ok (.tuple #[]) (w.setRow g (cur.toList.take o ++ (Builtin.zeroCells z.cells 1).toList ++ cur.toList.drop (o + (Builtin.zeroCells z.cells 1).toList.length)).toArray) := by
  have hst := run_storeCells_at P g o et (Builtin.zeroCells z.cells 1).toList 0 cur w hg (by simpa using hfit) h1
  simp only [Nat.add_zero] at hst
  simp [Builtin.clear_, run_underlying ht, hv, hst]

theorem wpList_clearK {P : Program} (w : World) {ops : Array Oper} {rest : List Oper} {o : Oper} {a : Act} {Q : Exit → Act → World → Prop} (hgd : o.guard = none) (d : Operand) (t : TypeId)
    (ho : o.op = .call { callee := .builtin .clear, args := #[d], argTypes := #[t] }) (v : Value) (hd : a.eval d = v) {v' : Value} {w' : World}
    (hr : (Builtin.clear_ #[t] o.type #[v]).run P w = .ok v' w') (h : wpList P ops Q rest (a.put o.dst v') w') : wpList P ops Q (o :: rest) a w := by
  refine wpList_plain hgd fun K hK => ?_
  unfold Oper.wp execOp
  simp only [ho, resolve, invoke, builtin, Sem.run_bind, Sem.run_pure, Result.andThen_ok, List.map_toArray, List.map_cons, List.map_nil, hd, hr]
  exact hK _ _ h

theorem del_list {α : Type} (L Z : List α) (a N : Nat) (ha : a + 3 ≤ N) (hN : N ≤ L.length) (hZ : Z.length = 3) :
    let c1 := L.take a ++ (L.take N).drop (a + 3) ++ L.drop (a + ((L.take N).drop (a + 3)).length)
    let c2 := c1.take (N - 3) ++ Z ++ c1.drop (N - 3 + Z.length)
    c1.length = L.length ∧ c2.length = L.length ∧ c2.take (N - 3) = (L.take N).take a ++ (L.take N).drop (a + 3) := by
  have hd : ((L.take N).drop (a + 3)).length = N - (a + 3) := by rw [List.length_drop, List.length_take]; omega
  have hl1 : (L.take a ++ (L.take N).drop (a + 3) ++ L.drop (a + ((L.take N).drop (a + 3)).length)).length = L.length := by
    rw [List.length_append, List.length_append, hd, List.length_take, List.length_drop]; omega
  refine ⟨hl1, ?_, ?_⟩
  · generalize L.take a ++ (L.take N).drop (a + 3) ++ L.drop (a + ((L.take N).drop (a + 3)).length) = c1 at hl1
    rw [List.length_append, List.length_append, List.length_take, List.length_drop, hl1, hZ]; omega
  · rw [List.append_assoc (List.take _ _) Z, List.take_append_of_le_length (by rw [List.length_take, hl1]; omega), List.take_take, Nat.min_self, List.take_append_of_le_length (by rw [List.length_append, hd, List.length_take]; omega), List.take_of_length_le (by rw [List.length_append, hd, List.length_take]; omega), List.take_take, Nat.min_eq_left (by omega)]

set_option maxHeartbeats 1000000 in
theorem delete_mid (base g k c i : Nat) (cur : Array Value) (w : World) (hg : Blk w g 28 cur) (hbg : base ≤ g) (hcs : cur.size = c * 3) (hcm : c ≤ maxLen) (hnc : k + 1 ≤ c) (hin : i < k + 1) (hci : ¬ c = i + 1) (h1c : ∀ u ∈ cur.toList.take ((k + 1) * 3), u.oneCell' = true) (hn : k + 1 ≤ 1099511627776) :
    Calls Try.prog 70 #[.slice (some ⟨g, 0, none⟩) (k + 1) c, .int .i64 i, .int .i64 ((i : Int) + 1)] w (OwnRet w base 28 3 k ((cur.toList.take ((k + 1) * 3)).take (i * 3) ++ (cur.toList.take ((k + 1) * 3)).drop (i * 3 + 3)) (some g)) := by
  have hcm' : c ≤ 9223372036854775807 := hcm
  have hz : ((i : Int) == (i : Int) + 1) = false := by simp; omega
  obtain ⟨i0, hi0, hz0, hzs, hzb⟩ := info_parts infoLoan
  have hzv : ∀ w, (zeroValue 28).run Try.prog w = .ok (.agg #[.int .i64 0, .int .i64 0, .int .i64 0]) w := fun _ => by kernel_rfl
  have hzc : (Builtin.zeroCells (Value.agg #[.int .i64 0, .int .i64 0, .int .i64 0]).cells 1).toList = [.int .i64 0, .int .i64 0, .int .i64 0] := by kernel_rfl
  go_enter Try.func70, Try.ntmps70
  go_wp2_with fail
  have ht1 : ((i : Int) + 1).toNat = i + 1 := by omega
  have hb1 : (0 : Int) ≤ (i : Int) + 1 := by omega
  have hb2 : (i : Int) + 1 ≤ (k : Int) + 1 := by omega
  have hb3 : (i : Int) < (k : Int) + 1 := by omega
  refine wp_region_obl 6 (fun ix vals v w1 => match ix with | 0 => v = .slice (some ⟨g, 0, none⟩) (k + 1) c | 1 => v = .int .i64 i | 2 => v = .slice (some ⟨g, 0, none⟩) i c | 3 => v = .slice (some ⟨g, 0, none⟩) (k + 1) c | 4 => v = .int .i64 ((i : Int) + 1) | _ => v = .slice (some ⟨g, (i + 1) * 3, none⟩) (k - i) (c - (i + 1))) (by kernel_rfl) (by kernel_rfl) ?_ ?_ ?_ ?_
  · intro ix vals v w1 w2 hi hr hx
    match ix, hr with
    | 0, hr => exact hr
    | 1, hr => exact hr
    | 2, hr => exact hr
    | 3, hr => exact hr
    | 4, hr => exact hr
    | (kx + 5), hr => exact hr
  · intro ix vals vals_ v w1 hi hv hr
    exact hr
  · refine ⟨?_, ?_, ?_, ?_, ?_, ?_, trivial⟩
    · intro vals w1 hx hd ha
      clear hd ha
      simp only [Lf]
      go_wp2
      exact ⟨rfl, Ext.refl _, rfl⟩
    · intro vals w1 hx hd ha
      clear hd ha
      simp only [Lf, dstAt, Act.put, List.getElem?_toArray, List.getElem?_cons_zero, Option.bind_some, List.setIfInBounds_toArray, List.set_cons_zero, List.set_cons_succ]
      go_wp2
      exact ⟨rfl, Ext.refl _, rfl⟩
    · intro vals w1 hx hd ha
      have e0 : vals 0 = .slice (some ⟨g, 0, none⟩) (k + 1) c := hd 0 (by decide)
      have e1 : vals 1 = .int .i64 i := hd 1 (by decide)
      clear hd ha
      simp only [Lf, dstAt, Act.put, List.getElem?_toArray, List.getElem?_cons_zero, List.getElem?_cons_succ, Option.bind_some, List.setIfInBounds_toArray, List.set_cons_zero, List.set_cons_succ]
      simp only [e0, e1]
      clear e0 e1
      go_wp2
      exact ⟨rfl, Ext.refl _, rfl⟩
    · intro vals w1 hx hd ha
      clear hd ha
      simp only [Lf, dstAt, Act.put, List.getElem?_toArray, List.getElem?_cons_zero, List.getElem?_cons_succ, Option.bind_some, List.setIfInBounds_toArray, List.set_cons_zero, List.set_cons_succ]
      go_wp2
      exact ⟨rfl, Ext.refl _, rfl⟩
    · intro vals w1 hx hd ha
      clear hd ha
      simp only [Lf, dstAt, Act.put, List.getElem?_toArray, List.getElem?_cons_zero, List.getElem?_cons_succ, Option.bind_some, List.setIfInBounds_toArray, List.set_cons_zero, List.set_cons_succ]
      go_wp2
      exact ⟨rfl, Ext.refl _, rfl⟩
    · intro vals w1 hx hd ha
      have e3 : vals 3 = .slice (some ⟨g, 0, none⟩) (k + 1) c := hd 3 (by decide)
      have e4 : vals 4 = .int .i64 ((i : Int) + 1) := hd 4 (by decide)
      clear hd ha
      simp only [Lf, dstAt, Act.put, List.getElem?_toArray, List.getElem?_cons_zero, List.getElem?_cons_succ, Option.bind_some, List.setIfInBounds_toArray, List.set_cons_zero, List.set_cons_succ]
      simp only [e3, e4]
      clear e3 e4
      go_wp2
      exact ⟨rfl, Ext.refl _, rfl⟩
  clear ht1 hb1
  intro vals w1 hx hf
  have e2 : vals 2 = .slice (some ⟨g, 0, none⟩) i c := hf 2 (by omega)
  have e5 : vals 5 = .slice (some ⟨g, (i + 1) * 3, none⟩) (k - i) (c - (i + 1)) := hf 5 (by omega)
  clear hf
  have hg1 := hg.ext hx.undrew
  have hgr : w.grownBy w1 (some g) := only_of_below hx.undrew _
  refine tailF 6 _ _ 1 (by kernel_rfl) rfl ?_ (fun a w q => tail1 7 _ (by kernel_rfl) (by kernel_rfl) rfl q)
  simp only [Lf, dstAt, Act.put, List.getElem?_toArray, List.getElem?_cons_zero, List.getElem?_cons_succ, Option.bind_some, List.setIfInBounds_toArray, List.set_cons_zero, List.set_cons_succ]
  rw [e2, e5]
  clear e2 e5
  have hL : (k + 1) * 3 ≤ cur.toList.length := by rw [Array.length_toList, hcs]; omega
  have hdl := del_list cur.toList [.int .i64 0, .int .i64 0, .int .i64 0] (i * 3) ((k + 1) * 3) (by omega) hL rfl
  simp only [show (k + 1) * 3 - 3 = k * 3 by omega] at hdl
  obtain ⟨hl1, hl2, hl3⟩ := hdl
  have hd : ((cur.toList.take ((k + 1) * 3)).drop (i * 3 + 3)).length = (k - i) * 3 := by rw [List.length_drop, List.length_take]; omega
  have hap := run_append_room (P := Try.prog) w1 24 24 28 i0 Try.underlying24 hi0 g i c cur hg1 ⟨g, (i + 1) * 3, none⟩ (k - i) (c - (i + 1)) ((cur.toList.take ((k + 1) * 3)).drop (i * 3 + 3)) (by rw [hzs, hd]) (fun j u hj => by
      rw [Addr.add_lit, hg1.cell]
      rw [List.getElem?_drop, List.getElem?_take] at hj
      split at hj
      · rw [show (i + 1) * 3 + j = i * 3 + 3 + j by omega]; simpa using hj
      · cases hj) (fun u hu => h1c u (List.mem_of_mem_drop hu)) (by omega) (by rw [hzs, hd, hcs]; omega)
  rw [hzs] at hap
  generalize hcur1 : cur.toList.take (i * 3) ++ (cur.toList.take ((k + 1) * 3)).drop (i * 3 + 3) ++ cur.toList.drop (i * 3 + ((cur.toList.take ((k + 1) * 3)).drop (i * 3 + 3)).length) = cur1 at hap hl1 hl2 hl3
  clear hcur1 hd
  have hg2 := setRow_blk hg1 cur1.toArray
  have hgr2 := grown_trans_ hgr (setRow_grown w1 g cur1.toArray)
  generalize hw2 : w1.setRow g cur1.toArray = w2 at hap hg2 hgr2
  clear hw2
  have hcl := run_clearK (P := Try.prog) w2 24 28 0 _ Try.underlying24 hzv (by rw [hzc]; simp; rfl) g (k * 3) (c - k) cur1.toArray 28 hg2 (by rw [hzc]; simp only [List.size_toArray, hl1, List.length_cons, List.length_nil]; omega)
  rw [hzc] at hcl
  simp only at hcl
  generalize hcur2 : cur1.take (k * 3) ++ [Value.int .i64 0, .int .i64 0, .int .i64 0] ++ cur1.drop (k * 3 + [Value.int .i64 0, .int .i64 0, .int .i64 0].length) = cur2 at hcl hl2 hl3
  clear hcur2
  have hg3 := setRow_blk hg2 cur2.toArray
  have hgr3 := grown_trans_ hgr2 (setRow_grown w2 g cur2.toArray)
  generalize hw3 : w2.setRow g cur2.toArray = w3 at hcl hg3 hgr3
  have hik : i + (k - i) = k := by omega
  rw [hik] at hap
  have HA := Lib.hid hap
  have HC := Lib.hid hcl
  have H2 := Lib.hid hl2
  have H3 := Lib.hid hl3
  clear hw3 hap hcl hl1 hl2 hl3 hL
  refine wpList_appendK _ rfl (.tmp 22) (.tmp 25) 24 24 rfl _ _ rfl rfl HA.out ?_
  go_wp2_with (refine wpList_clearK _ rfl (.tmp 31) 24 rfl (.slice (some ⟨g, k * 3, none⟩) 1 (c - k)) rfl HC.out ?_)
  go_ret
  refine ⟨_, rfl, ⟨?_, .inr ⟨g, c, cur2.toArray, rfl, hbg, hg3, by omega, hcm, ?_, ?_⟩⟩, hgr3⟩
  · rw [List.length_append, List.length_take, List.length_drop, List.length_take, Array.length_toList, hcs]; omega
  · simp only [List.size_toArray, H2.out, Array.length_toList, hcs]
  · exact H3.out

set_option maxHeartbeats 1000000 in
theorem delete_last (base g i : Nat) (cur : Array Value) (w : World) (hg : Blk w g 28 cur) (hbg : base ≤ g) (hcs : cur.size = (i + 1) * 3) (hcm : (i + 1) ≤ maxLen) (h1c : ∀ u ∈ cur.toList.take ((i + 1) * 3), u.oneCell' = true) (hn : i + 1 ≤ 1099511627776) :
    Calls Try.prog 70 #[.slice (some ⟨g, 0, none⟩) (i + 1) (i + 1), .int .i64 i, .int .i64 ((i : Int) + 1)] w (OwnRet w base 28 3 i ((cur.toList.take ((i + 1) * 3)).take (i * 3) ++ (cur.toList.take ((i + 1) * 3)).drop (i * 3 + 3)) (some g)) := by
  have hcm' : (i + 1) ≤ 9223372036854775807 := hcm
  have hz : ((i : Int) == (i : Int) + 1) = false := by simp; omega
  obtain ⟨i0, hi0, hz0, hzs, hzb⟩ := info_parts infoLoan
  have hzv : ∀ w, (zeroValue 28).run Try.prog w = .ok (.agg #[.int .i64 0, .int .i64 0, .int .i64 0]) w := fun _ => by kernel_rfl
  have hzc : (Builtin.zeroCells (Value.agg #[.int .i64 0, .int .i64 0, .int .i64 0]).cells 1).toList = [.int .i64 0, .int .i64 0, .int .i64 0] := by kernel_rfl
  go_enter Try.func70, Try.ntmps70
  go_wp2_with fail
  have ht1 : ((i : Int) + 1).toNat = i + 1 := by omega
  have hb1 : (0 : Int) ≤ (i : Int) + 1 := by omega
  have hb3 : (i : Int) < (i : Int) + 1 := by omega
  refine wp_region_obl 6 (fun ix vals v w1 => match ix with | 0 => v = .slice (some ⟨g, 0, none⟩) (i + 1) (i + 1) | 1 => v = .int .i64 i | 2 => v = .slice (some ⟨g, 0, none⟩) i (i + 1) | 3 => v = .slice (some ⟨g, 0, none⟩) (i + 1) (i + 1) | 4 => v = .int .i64 ((i : Int) + 1) | _ => v = .slice (some ⟨g, 0, none⟩) 0 0) (by kernel_rfl) (by kernel_rfl) ?_ ?_ ?_ ?_
  · intro ix vals v w1 w2 hi hr hx
    match ix, hr with
    | 0, hr => exact hr
    | 1, hr => exact hr
    | 2, hr => exact hr
    | 3, hr => exact hr
    | 4, hr => exact hr
    | (kx + 5), hr => exact hr
  · intro ix vals vals_ v w1 hi hv hr
    exact hr
  · refine ⟨?_, ?_, ?_, ?_, ?_, ?_, trivial⟩
    · intro vals w1 hx hd ha
      clear hd ha
      simp only [Lf]
      go_wp2
      exact ⟨rfl, Ext.refl _, rfl⟩
    · intro vals w1 hx hd ha
      clear hd ha
      simp only [Lf, dstAt, Act.put, List.getElem?_toArray, List.getElem?_cons_zero, Option.bind_some, List.setIfInBounds_toArray, List.set_cons_zero, List.set_cons_succ]
      go_wp2
      exact ⟨rfl, Ext.refl _, rfl⟩
    · intro vals w1 hx hd ha
      have e0 : vals 0 = .slice (some ⟨g, 0, none⟩) (i + 1) (i + 1) := hd 0 (by decide)
      have e1 : vals 1 = .int .i64 i := hd 1 (by decide)
      clear hd ha
      simp only [Lf, dstAt, Act.put, List.getElem?_toArray, List.getElem?_cons_zero, List.getElem?_cons_succ, Option.bind_some, List.setIfInBounds_toArray, List.set_cons_zero, List.set_cons_succ]
      simp only [e0, e1]
      clear e0 e1
      go_wp2
      exact ⟨rfl, Ext.refl _, rfl⟩
    · intro vals w1 hx hd ha
      clear hd ha
      simp only [Lf, dstAt, Act.put, List.getElem?_toArray, List.getElem?_cons_zero, List.getElem?_cons_succ, Option.bind_some, List.setIfInBounds_toArray, List.set_cons_zero, List.set_cons_succ]
      go_wp2
      exact ⟨rfl, Ext.refl _, rfl⟩
    · intro vals w1 hx hd ha
      clear hd ha
      simp only [Lf, dstAt, Act.put, List.getElem?_toArray, List.getElem?_cons_zero, List.getElem?_cons_succ, Option.bind_some, List.setIfInBounds_toArray, List.set_cons_zero, List.set_cons_succ]
      go_wp2
      exact ⟨rfl, Ext.refl _, rfl⟩
    · intro vals w1 hx hd ha
      have e3 : vals 3 = .slice (some ⟨g, 0, none⟩) (i + 1) (i + 1) := hd 3 (by decide)
      have e4 : vals 4 = .int .i64 ((i : Int) + 1) := hd 4 (by decide)
      clear hd ha
      simp only [Lf, dstAt, Act.put, List.getElem?_toArray, List.getElem?_cons_zero, List.getElem?_cons_succ, Option.bind_some, List.setIfInBounds_toArray, List.set_cons_zero, List.set_cons_succ]
      simp only [e3, e4]
      clear e3 e4
      go_wp2
      exact ⟨rfl, Ext.refl _, rfl⟩
  clear ht1 hb1
  intro vals w1 hx hf
  have e2 : vals 2 = .slice (some ⟨g, 0, none⟩) i (i + 1) := hf 2 (by omega)
  have e5 : vals 5 = .slice (some ⟨g, 0, none⟩) 0 0 := hf 5 (by omega)
  clear hf
  have hg1 := hg.ext hx.undrew
  have hgr : w.grownBy w1 (some g) := only_of_below hx.undrew _
  refine tailF 6 _ _ 1 (by kernel_rfl) rfl ?_ (fun a w q => tail1 7 _ (by kernel_rfl) (by kernel_rfl) rfl q)
  simp only [Lf, dstAt, Act.put, List.getElem?_toArray, List.getElem?_cons_zero, List.getElem?_cons_succ, Option.bind_some, List.setIfInBounds_toArray, List.set_cons_zero, List.set_cons_succ]
  rw [e2, e5]
  clear e2 e5
  have hL : (i + 1) * 3 ≤ cur.toList.length := by rw [Array.length_toList, hcs]; omega
  have hdl := del_list cur.toList [.int .i64 0, .int .i64 0, .int .i64 0] (i * 3) ((i + 1) * 3) (by omega) hL rfl
  simp only [show (i + 1) * 3 - 3 = i * 3 by omega] at hdl
  obtain ⟨hl1, hl2, hl3⟩ := hdl
  have hd : ((cur.toList.take ((i + 1) * 3)).drop (i * 3 + 3)).length = 0 * 3 := by rw [List.length_drop, List.length_take]; omega
  have hap := run_append_room (P := Try.prog) w1 24 24 28 i0 Try.underlying24 hi0 g i (i + 1) cur hg1 ⟨g, 0, none⟩ 0 0 ((cur.toList.take ((i + 1) * 3)).drop (i * 3 + 3)) (by rw [hzs, hd]) (fun j u hj => by
      rw [Addr.add_lit, hg1.cell]
      rw [List.getElem?_drop, List.getElem?_take] at hj
      split at hj
      · rename_i hlt; exact absurd hlt (by omega)
      · cases hj) (fun u hu => h1c u (List.mem_of_mem_drop hu)) (by omega) (by rw [hzs, hd, hcs]; omega)
  rw [hzs] at hap
  generalize hcur1 : cur.toList.take (i * 3) ++ (cur.toList.take ((i + 1) * 3)).drop (i * 3 + 3) ++ cur.toList.drop (i * 3 + ((cur.toList.take ((i + 1) * 3)).drop (i * 3 + 3)).length) = cur1 at hap hl1 hl2 hl3
  clear hcur1 hd
  have hg2 := setRow_blk hg1 cur1.toArray
  have hgr2 := grown_trans_ hgr (setRow_grown w1 g cur1.toArray)
  generalize hw2 : w1.setRow g cur1.toArray = w2 at hap hg2 hgr2
  clear hw2
  have hcl := run_clearK (P := Try.prog) w2 24 28 0 _ Try.underlying24 hzv (by rw [hzc]; simp; rfl) g (i * 3) 1 cur1.toArray 28 hg2 (by rw [hzc]; simp only [List.size_toArray, hl1, List.length_cons, List.length_nil]; omega)
  rw [hzc] at hcl
  simp only at hcl
  generalize hcur2 : cur1.take (i * 3) ++ [Value.int .i64 0, .int .i64 0, .int .i64 0] ++ cur1.drop (i * 3 + [Value.int .i64 0, .int .i64 0, .int .i64 0].length) = cur2 at hcl hl2 hl3
  clear hcur2
  have hg3 := setRow_blk hg2 cur2.toArray
  have hgr3 := grown_trans_ hgr2 (setRow_grown w2 g cur2.toArray)
  generalize hw3 : w2.setRow g cur2.toArray = w3 at hcl hg3 hgr3
  rw [Nat.add_zero] at hap
  have HA := Lib.hid hap
  have HC := Lib.hid hcl
  have H2 := Lib.hid hl2
  have H3 := Lib.hid hl3
  clear hw3 hap hcl hl1 hl2 hl3 hL
  refine wpList_appendK _ rfl (.tmp 22) (.tmp 25) 24 24 rfl _ _ rfl rfl HA.out ?_
  go_wp2_with (refine wpList_clearK _ rfl (.tmp 31) 24 rfl (.slice (some ⟨g, i * 3, none⟩) 1 1) rfl HC.out ?_)
  go_ret
  refine ⟨_, rfl, ⟨?_, .inr ⟨g, (i + 1), cur2.toArray, rfl, hbg, hg3, by omega, hcm, ?_, ?_⟩⟩, hgr3⟩
  · rw [List.length_append, List.length_take, List.length_drop, List.length_take, Array.length_toList, hcs]; omega
  · simp only [List.size_toArray, H2.out, Array.length_toList, hcs]
  · exact H3.out

theorem delete_any (base : Nat) (v : Value) (n i : Nat) (xs : List Value) (w : World) (hown : w.ownsRow base 28 3 v n xs) (hin : i < n) (h1x : ∀ u ∈ xs, u.oneCell' = true) (hn : n ≤ 1099511627776) :
    Calls Try.prog 70 #[v, .int .i64 i, .int .i64 ((i : Int) + 1)] w (OwnRet w base 28 3 (n - 1) (xs.take (i * 3) ++ xs.drop (i * 3 + 3)) v.ownBlock) := by
  rcases hown.2 with ⟨_, h0⟩ | ⟨g, c, cur, rfl, hbg, hg, hnc, hcm, hcs, htk⟩
  · omega
  · subst htk
    obtain ⟨k, rfl⟩ : ∃ k, n = k + 1 := ⟨n - 1, by omega⟩
    by_cases hc : c = i + 1
    · obtain rfl : k = i := by omega
      subst hc
      exact delete_last base g k cur w hg hbg hcs hcm h1x hn
    · exact delete_mid base g k c i cur w hg hbg hcs hcm hnc hin hc h1x hn

end Go.Proofs.Ytpddnkefggaigaa
