/- Deeds of the reference: the walk. -/
import Derived.Test.YtpddnkefggaigaaT3
import Derived.Test.YtpddnkefggaigaaR3
namespace Go.Proofs.Ytpddnkefggaigaa
open Go.RowKit

section
variable {w w' : World} {B B' : Nat} {s : Sl} {xs : List Quad}
theorem RQ.below (h : RQ w B s xs) (hb : Below B w w') : RQ w' B s xs := ⟨h.1.below hb, h.2⟩
theorem RQ.more (h : RQ w B s xs) (hb : B ≤ B') : RQ w B' s xs := ⟨h.1.more hb, h.2⟩
theorem RQ.le (h : RQ w B s xs) : s.n ≤ 9223372036854775807 := h.2.2.2
theorem len_flatQ (ls : List Quad) : (ls.flatMap quadCells).length = ls.length * 4 := by
  induction ls with
  | nil => rfl
  | cons x r ih => simp [List.flatMap_cons, ih, quadCells]; omega
theorem RQ.len (h : RQ w B s xs) : xs.length = s.n := by have := h.1.1; rw [len_flatQ] at this; omega
theorem get_flatQ (ls : List Quad) (k : Nat) (h : k < ls.length) : (ls.flatMap quadCells)[k * 4]? = some (I64 ls[k].a) ∧ (ls.flatMap quadCells)[k * 4 + 1]? = some (I64 ls[k].b) ∧ (ls.flatMap quadCells)[k * 4 + 2]? = some (I64 ls[k].c) ∧ (ls.flatMap quadCells)[k * 4 + 3]? = some (I64 ls[k].d) := by
  induction ls generalizing k with
  | nil => simp at h
  | cons x r ih =>
    cases k with
    | zero => simp [List.flatMap_cons, quadCells]
    | succ k =>
      have := ih k (by simpa using h)
      rw [List.flatMap_cons]
      have e : (quadCells x).length = 4 := rfl
      rw [List.getElem?_append_right (by omega), List.getElem?_append_right (by omega), List.getElem?_append_right (by omega), List.getElem?_append_right (by omega), e, show (k + 1) * 4 - 4 = k * 4 by omega, show (k + 1) * 4 + 1 - 4 = k * 4 + 1 by omega, show (k + 1) * 4 + 2 - 4 = k * 4 + 2 by omega, show (k + 1) * 4 + 3 - 4 = k * 4 + 3 by omega]
      simpa using this
theorem RQ.at_ (h : RQ w B s xs) {k : Nat} (hk : k < s.n) : ∃ (b o : Nat) (hz : k < xs.length), s.A = some ⟨b, o, none⟩ ∧ b < B ∧ w.cell? ⟨b, o + k * 4, none⟩ = some (I64 xs[k].a) ∧ w.cell? ⟨b, o + k * 4 + 1, none⟩ = some (I64 xs[k].b) ∧ w.cell? ⟨b, o + k * 4 + 2, none⟩ = some (I64 xs[k].c) ∧ w.cell? ⟨b, o + k * 4 + 3, none⟩ = some (I64 xs[k].d) := by
  have hl := h.len
  obtain ⟨b, o, e, hb, hc⟩ := h.1.2 (by omega)
  have g := get_flatQ xs k (by omega)
  exact ⟨b, o, by omega, e, hb, hc _ _ g.1, hc _ _ g.2.1, hc _ _ g.2.2.1, hc _ _ g.2.2.2⟩
end

end Go.Proofs.Ytpddnkefggaigaa
