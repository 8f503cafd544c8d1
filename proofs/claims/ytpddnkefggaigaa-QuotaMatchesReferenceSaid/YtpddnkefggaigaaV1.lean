/- quota.Valid where a list is out of bounds. -/
import Derived.Test.YtpddnkefggaigaaV0
namespace Go.Proofs.Ytpddnkefggaigaa
open Go.RowKit

theorem valid_no1 (s1 s2 s3 s4 : Sl) (p : Pool) (w : World) (h : PoolR w w.heap.size s1 s2 s3 s4 p) (b1 : withinB p.has 0 1000000 = false) :
    Calls Try.prog 15 #[poolV s1 s2 s3 s4] w fun e w' => e = .returned (.bool (validB p)) ∧ Below w.heap.size w w' := by
  obtain ⟨h1, h2, h3, h4⟩ := h
  have hv : validB p = false := by simp [validB, b1]
  rw [hv]
  have B1 := Lib.hid b1
  clear hv b1
  go_enter Try.func15, Try.ntmps15
  go_wp2_with fail
  refine (within_any p.has 0 1000000 s1.A s1.n s1.c _ ((h1.1.alloc (Nat.le_refl _) _).more (by simp)) (by have := h1.le; omega)).mono ?_
  rintro e w1 ⟨rfl, hb1⟩
  rw [B1.out]
  go_wp2
  go_ret
  exact ⟨rfl, (by repeat (first | exact Below.refl _ _ | assumption | refine Below.drew ?_ | refine below_drewN ?_ _ | refine bl_alloc ?_ _ | refine Below.setCell ?_ (by first | (simp; done) | omega | (simp; omega)) _ | refine bl_then ?_ (by assumption)))⟩

theorem valid_no2 (s1 s2 s3 s4 : Sl) (p : Pool) (w : World) (h : PoolR w w.heap.size s1 s2 s3 s4 p) (b1 : withinB p.has 0 1000000 = true) (b2 : withinB p.used 0 1000000 = false) :
    Calls Try.prog 15 #[poolV s1 s2 s3 s4] w fun e w' => e = .returned (.bool (validB p)) ∧ Below w.heap.size w w' := by
  obtain ⟨h1, h2, h3, h4⟩ := h
  have hv : validB p = false := by simp [validB, b2]
  rw [hv]
  have B1 := Lib.hid b1
  have B2 := Lib.hid b2
  clear hv b1 b2
  go_enter Try.func15, Try.ntmps15
  go_wp2_with fail
  refine (within_any p.has 0 1000000 s1.A s1.n s1.c _ ((h1.1.alloc (Nat.le_refl _) _).more (by simp)) (by have := h1.le; omega)).mono ?_
  rintro e w1 ⟨rfl, hb1⟩
  rw [B1.out]
  obtain ⟨hc1, hf1⟩ := bcell hb1
  go_wp2_with fail
  refine (within_any p.used 0 1000000 s2.A s2.n s2.c _ (((h2.1.alloc (Nat.le_refl _) _).below (hb1.mono (by simp))).more (by have := hb1.size; simp at this; omega)) (by have := h2.le; omega)).mono ?_
  rintro e w2 ⟨rfl, hb2⟩
  rw [B2.out]
  go_wp2
  go_ret
  exact ⟨rfl, (by repeat (first | exact Below.refl _ _ | assumption | refine Below.drew ?_ | refine below_drewN ?_ _ | refine bl_alloc ?_ _ | refine Below.setCell ?_ (by first | (simp; done) | omega | (simp; omega)) _ | refine bl_then ?_ (by assumption)))⟩

theorem valid_no4 (s1 s2 s3 s4 : Sl) (p : Pool) (w : World) (h : PoolR w w.heap.size s1 s2 s3 s4 p) (b1 : withinB p.has 0 1000000 = true) (b2 : withinB p.used 0 1000000 = true) (b4 : withinB p.cents (-1000000000000) 1000000000000 = false) :
    Calls Try.prog 15 #[poolV s1 s2 s3 s4] w fun e w' => e = .returned (.bool (validB p)) ∧ Below w.heap.size w w' := by
  obtain ⟨h1, h2, h3, h4⟩ := h
  have hv : validB p = false := by simp [validB, b4]
  rw [hv]
  have B1 := Lib.hid b1
  have B2 := Lib.hid b2
  have B4 := Lib.hid b4
  clear hv b1 b2 b4
  go_enter Try.func15, Try.ntmps15
  go_wp2_with fail
  refine (within_any p.has 0 1000000 s1.A s1.n s1.c _ ((h1.1.alloc (Nat.le_refl _) _).more (by simp)) (by have := h1.le; omega)).mono ?_
  rintro e w1 ⟨rfl, hb1⟩
  rw [B1.out]
  obtain ⟨hc1, hf1⟩ := bcell hb1
  have hz1 : w.heap.size < w1.heap.size := by have := hb1.size; simp at this; omega
  go_wp2_with fail
  refine (within_any p.used 0 1000000 s2.A s2.n s2.c _ (((h2.1.alloc (Nat.le_refl _) _).below (hb1.mono (by simp))).more (by omega)) (by have := h2.le; omega)).mono ?_
  rintro e w2 ⟨rfl, hb2⟩
  rw [B2.out]
  obtain ⟨hc2, hf2⟩ := bcell hb2
  go_wp2_with fail
  refine (within_any p.cents (-1000000000000) 1000000000000 s4.A s4.n s4.c _ ((((h4.1.alloc (Nat.le_refl _) _).below (hb1.mono (by simp))).below (hb2.mono (by omega))).more (by have := hb2.size; omega)) (by have := h4.le; omega)).mono ?_
  rintro e w3 ⟨rfl, hb3⟩
  rw [B4.out]
  go_wp2
  go_ret
  exact ⟨rfl, (by repeat (first | exact Below.refl _ _ | assumption | refine Below.drew ?_ | refine below_drewN ?_ _ | refine bl_alloc ?_ _ | refine Below.setCell ?_ (by first | (simp; done) | omega | (simp; omega)) _ | refine bl_then ?_ (by assumption)))⟩

end Go.Proofs.Ytpddnkefggaigaa
