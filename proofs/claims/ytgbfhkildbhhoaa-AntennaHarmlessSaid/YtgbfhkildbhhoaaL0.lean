/- Words for the laws: cuts of lists, a list behind a list. -/
import Derived.Test.YtgbfhkildbhhoaaR3
import Derived.Test.YtgbfhkildbhhoaaD1
import Derived.Test.YtgbfhkildbhhoaaQ1
import Derived.Deep.CutRange
namespace Go.Proofs.Ytgbfhkildbhhoaa
open Go.RowKit

theorem flat_take {α : Type} {cells : α → List Value} {s : Nat} (hs : ∀ x, (cells x).length = s) (l : List α) (k : Nat) : (l.take k).flatMap cells = (l.flatMap cells).take (k * s) := by
  induction l generalizing k with
  | nil => simp
  | cons x r ih =>
    cases k with
    | zero => simp
    | succ k =>
      rw [List.take_succ_cons, List.flatMap_cons, List.flatMap_cons, ih, List.take_append, hs, Nat.succ_mul, List.take_of_length_le (l := cells x) (i := k * s + s) (by rw [hs]; omega), Nat.add_sub_cancel]
theorem flat_drop {α : Type} {cells : α → List Value} {s : Nat} (hs : ∀ x, (cells x).length = s) (l : List α) (k : Nat) : (l.drop k).flatMap cells = (l.flatMap cells).drop (k * s) := by
  induction l generalizing k with
  | nil => simp
  | cons x r ih =>
    cases k with
    | zero => simp
    | succ k =>
      rw [List.drop_succ_cons, List.flatMap_cons, ih, List.drop_append, hs, Nat.succ_mul, List.drop_of_length_le (l := cells x) (i := k * s + s) (by rw [hs]; omega), List.nil_append, Nat.add_sub_cancel]
theorem RA.cut {α : Type} {cells : α → List Value} {s : Nat} (hs : ∀ x, (cells x).length = s) {w : World} {B n c : Nat} {A : Option Addr} {l : List α} (h : RA cells s w B A n c l) (k : Nat) (hk : k ≤ n) : RA cells s w B A k c (l.take k) := by
  refine ⟨?_, by rw [List.length_take, h.len]; omega, Nat.le_trans hk h.cap, h.capM, Nat.le_trans hk h.le⟩
  rw [flat_take hs]
  exact h.rd.upto hk
theorem RA.tail {α : Type} {cells : α → List Value} {s : Nat} (hs : ∀ x, (cells x).length = s) {w : World} {B n c : Nat} {A : Option Addr} {l : List α} (h : RA cells s w B A n c l) (k : Nat) (hk : k ≤ n) : RA cells s w B (if c = k then A else A.map (·.add (k * s))) (n - k) (c - k) (l.drop k) := by
  have hc := h.cap
  have hm := h.capM
  have hl := h.le
  refine ⟨?_, by rw [List.length_drop, h.len], by omega, by omega, by omega⟩
  rw [flat_drop hs]
  exact h.rd.cut hk h.cap
theorem run_append_none2 {P : Program} (w : World) (t ty e : TypeId) (i : TypeInfo) (ht : P.underlying t = some (.slice e)) (hi : P.info? e = some i) (A : Option Addr) (c' : Nat) :
    (Builtin.append_ #[t, t] ty #[.slice none 0 0, .slice A 0 c']).run P w = .ok (.slice none 0 0) w := by
  cases A <;> simp [Builtin.append_, run_underlying ht, sizeOf, typeInfo, hi, Builtin.lenOf, Builtin.firstCells, loadCells, loadCellsFrom]
theorem use_ones (l : List Use) : ∀ u ∈ l.flatMap useCells, u.oneCell' = true := by
  intro u hu
  obtain ⟨x, _, hx⟩ := List.mem_flatMap.1 hu
  simp [useCells] at hx
  rcases hx with rfl | rfl | rfl <;> rfl
/-- A list behind a list of one's own. -/
theorem join_use {w : World} (ty : TypeId) (xs ys : List Use) (v : Value) (base b m c : Nat) (A : Option Addr) (h : OwnU w base v xs) (hy : RA useCells 3 w b A m c ys) (hn : xs.length + m ≤ 900) (hb : base ≤ w.heap.size) :
    ∃ v' w', (Builtin.append_ #[27, 27] ty #[v, .slice A m c]).run Try.prog w = .ok v' w' ∧ w.grownBy w' v.ownBlock ∧ OwnU w' base v' (xs ++ ys) := by
  obtain ⟨i0, hi0, hz0, hz1, hz2⟩ := info_parts info_useR
  have hl := hy.len
  have hcap := hy.cap
  rcases Nat.eq_zero_or_pos m with h0 | h0
  · subst h0
    obtain rfl : ys = [] := List.eq_nil_of_length_eq_zero hl
    rw [List.append_nil]
    rcases h.2 with ⟨rfl, hz⟩ | ⟨g, cap, cur, rfl, hbb, hg, r1, r2, r3, r4⟩
    · exact ⟨_, _, run_append_none2 w _ _ _ i0 Try.underlying27 hi0 A c, ⟨rfl, rfl, rfl, Nat.le_refl _, fun _ _ _ => rfl⟩, h⟩
    · exact ⟨_, _, run_append_none w _ _ _ i0 Try.underlying27 hi0 ⟨g, 0, none⟩ xs.length cap r1 A c, ⟨rfl, rfl, rfl, Nat.le_refl _, fun _ _ _ => rfl⟩, h⟩
  · obtain ⟨b', o, rfl, hb', hc⟩ := hy.rd.2 h0
    obtain ⟨v2, W7, hr, hrow2, hg2, -⟩ := run_append_own (P := Try.prog) w base 27 ty 26 i0 _ 3 24 Try.underlying27 hi0 hz0 hz1 hz2 rfl (by omega) _ _ _ h ⟨b', o, none⟩ m c _ hy.rd.1 (fun j u hu => by rw [Addr.add_lit]; exact hc j u hu) (use_ones ys) (by unfold maxLen; omega) (by omega) hb
    refine ⟨v2, W7, hr, hg2, ?_⟩
    unfold OwnU
    rw [List.length_append, List.flatMap_append, hl]
    exact hrow2
end Go.Proofs.Ytgbfhkildbhhoaa
