/- Numbers within their bounds: areIn; a station's validity. -/
import Derived.Test.YtlmpmhfbjblhnaaA7
namespace Go.Proofs.Ytlmpmhfbjblhnaa
open Go.RowKit

theorem containsBnd (l : List Bnd) (b n c : Nat) (w : World) (hl : l.length = n) (h : BndR w b l) (hb : b < w.heap.size) (hn : n ≤ 1099511627776) :
    Calls Try.prog 73 #[.slice (some ⟨b, 0, none⟩) n c, .func (.func 74) #[] #[]] w
      fun e w' => e = .returned (.bool (l.any bndOut)) ∧ Below w.heap.size w w' := by
  have hf := indexBnd l b n c w hl h hb hn
  have hbb : l.any bndOut = decide (0 ≤ idxB bndOut l 0) := by
    rw [Bool.eq_iff_iff, ← idxB_any _ _ 0 (by omega), decide_eq_true_iff]
  rw [hbb]
  generalize idxB bndOut l 0 = r at hf
  have HF := Lib.hid hf
  clear hf hbb h hl
  go_enter Try.func73, Try.ntmps73
  go_wp2_with (go_at_call 86; refine HF.out.mono ?_; rintro e w' ⟨rfl, hb'⟩)
  go_ret
  exact ⟨rfl, (by repeat (first | exact Below.refl _ _ | assumption | refine Below.drew ?_ | refine below_drewN ?_ _ | refine bl_alloc ?_ _ | refine Below.setCell ?_ (by first | (simp; done) | omega | (simp; omega)) _ | refine bl_then ?_ (by assumption)))⟩

theorem areIn_any (l : List Bnd) (b n c : Nat) (w : World) (hl : l.length = n) (h : BndR w b l) (hb : b < w.heap.size) (hn : n ≤ 1099511627776) :
    Calls Try.prog 49 #[.slice (some ⟨b, 0, none⟩) n c] w
      fun e w' => e = .returned (.bool (l.all fun x => inB x.n x.lo x.hi)) ∧ Below w.heap.size w w' := by
  have hf := containsBnd l b n c w hl h hb hn
  have hbb : (l.all fun x => inB x.n x.lo x.hi) = !(l.any bndOut) := by
    rw [List.any_eq_not_all_not, Bool.not_not]
    simp [bndOut]
  rw [hbb]
  generalize l.any bndOut = r at hf
  have HF := Lib.hid hf
  clear hf hbb h hl
  go_enter Try.func49, Try.ntmps49
  go_wp2_with (go_at_call 73; refine HF.out.mono ?_; rintro e w' ⟨rfl, hb'⟩)
  go_ret
  exact ⟨by simp, (by repeat (first | exact Below.refl _ _ | assumption | refine Below.drew ?_ | refine below_drewN ?_ _ | refine bl_alloc ?_ _ | refine Below.setCell ?_ (by first | (simp; done) | omega | (simp; omega)) _ | refine bl_then ?_ (by assumption)))⟩

theorem BndR.of_blk4 {w : World} {b : Nat} {t : TypeId} {b0 b1 b2 b3 : Bnd} (h : Blk w b t (bndCells b0 ++ bndCells b1 ++ bndCells b2 ++ bndCells b3).toArray) : BndR w b [b0, b1, b2, b3] := fun k hk => by
  have hk : k < 4 := hk
  match k, hk with
  | 0, _ => exact ⟨h.cell 0, h.cell 1, h.cell 2⟩
  | 1, _ => exact ⟨h.cell 3, h.cell 4, h.cell 5⟩
  | 2, _ => exact ⟨h.cell 6, h.cell 7, h.cell 8⟩
  | 3, _ => exact ⟨h.cell 9, h.cell 10, h.cell 11⟩

end Go.Proofs.Ytlmpmhfbjblhnaa
