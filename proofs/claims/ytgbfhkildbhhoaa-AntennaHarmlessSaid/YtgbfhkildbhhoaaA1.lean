/- Small functions: isIn, isFormed, meet, and the closures. -/
import Derived.Test.YtgbfhkildbhhoaaLst
import Derived.Test.YtgbfhkildbhhoaaMp
namespace Go.Proofs.Ytgbfhkildbhhoaa
open Go.RowKit

theorem isIn_any (n lo hi : Int) (w : World) : Calls Try.prog 53 #[.int .i64 n, .int .i64 lo, .int .i64 hi] w fun e w' => e = .returned (.bool (inB n lo hi)) ∧ w = w' := by
  have hb : inB n lo hi = (decide (lo ≤ n) && decide (n ≤ hi)) := by simp [inB]
  rw [hb]
  clear hb
  by_cases h : lo ≤ n
  · go_enter Try.func53, Try.ntmps53
    go_wp2
    go_ret
    exact ⟨by simp [h], rfl⟩
  · go_enter Try.func53, Try.ntmps53
    go_wp2
    go_ret
    exact ⟨by simp; omega, rfl⟩
theorem meet_any (a b c d : Int) (w : World) : Calls Try.prog 50 #[.agg #[.int .i64 a, .int .i64 b], .agg #[.int .i64 c, .int .i64 d]] w fun e w' => e = .returned (.bool (meetP ⟨a, b⟩ ⟨c, d⟩)) ∧ Below w.heap.size w w' := by
  have hb : meetP ⟨a, b⟩ ⟨c, d⟩ = (decide (a < d) && decide (c < b)) := rfl
  rw [hb]
  clear hb
  by_cases h : a < d
  · go_enter Try.func50, Try.ntmps50
    go_wp2
    go_ret
    exact ⟨by simp [h], (by repeat (first | exact Below.refl _ _ | assumption | refine Below.drew ?_ | refine below_drewN ?_ _ | refine bl_alloc ?_ _ | refine Below.setCell ?_ (by first | (simp; done) | omega | (simp; omega)) _ | refine bl_then ?_ (by assumption)))⟩
  · go_enter Try.func50, Try.ntmps50
    go_wp2
    go_ret
    exact ⟨by simp; omega, (by repeat (first | exact Below.refl _ _ | assumption | refine Below.drew ?_ | refine below_drewN ?_ _ | refine bl_alloc ?_ _ | refine Below.setCell ?_ (by first | (simp; done) | omega | (simp; omega)) _ | refine bl_then ?_ (by assumption)))⟩
set_option maxHeartbeats 1000000 in
theorem isFormed_any (s a b : Int) (w : World) : Calls Try.prog 47 #[.agg #[.int .i64 s, .int .i64 a, .int .i64 b]] w fun e w' => e = .returned (.bool (formedP ⟨s, a, b⟩)) ∧ Below w.heap.size w w' := by
  have hI := fun w => isIn_any s 0 23 w
  have hb : formedP ⟨s, a, b⟩ = (inB s 0 23 && decide (0 ≤ a) && decide (a < b) && decide (b ≤ 1000001)) := rfl
  rw [hb]
  clear hb
  generalize inB s 0 23 = q at hI ⊢
  have HI := Lib.hid hI
  clear hI
  cases q
  · go_enter Try.func47, Try.ntmps47
    go_wp2_with (go_at_call 53; refine (HI.out _).mono ?_; rintro e w' ⟨rfl, rfl⟩)
    go_ret
    exact ⟨by simp, (by repeat (first | exact Below.refl _ _ | assumption | refine Below.drew ?_ | refine below_drewN ?_ _ | refine bl_alloc ?_ _ | refine Below.setCell ?_ (by first | (simp; done) | omega | (simp; omega)) _ | refine bl_then ?_ (by assumption)))⟩
  · by_cases h1 : 0 ≤ a
    · by_cases h2 : a < b
      · go_enter Try.func47, Try.ntmps47
        go_wp2_with (go_at_call 53; refine (HI.out _).mono ?_; rintro e w' ⟨rfl, rfl⟩)
        go_ret
        exact ⟨by simp [h1, h2], (by repeat (first | exact Below.refl _ _ | assumption | refine Below.drew ?_ | refine below_drewN ?_ _ | refine bl_alloc ?_ _ | refine Below.setCell ?_ (by first | (simp; done) | omega | (simp; omega)) _ | refine bl_then ?_ (by assumption)))⟩
      · go_enter Try.func47, Try.ntmps47
        go_wp2_with (go_at_call 53; refine (HI.out _).mono ?_; rintro e w' ⟨rfl, rfl⟩)
        go_ret
        exact ⟨by simp; omega, (by repeat (first | exact Below.refl _ _ | assumption | refine Below.drew ?_ | refine below_drewN ?_ _ | refine bl_alloc ?_ _ | refine Below.setCell ?_ (by first | (simp; done) | omega | (simp; omega)) _ | refine bl_then ?_ (by assumption)))⟩
    · go_enter Try.func47, Try.ntmps47
      go_wp2_with (go_at_call 53; refine (HI.out _).mono ?_; rintro e w' ⟨rfl, rfl⟩)
      go_ret
      exact ⟨by simp; omega, (by repeat (first | exact Below.refl _ _ | assumption | refine Below.drew ?_ | refine below_drewN ?_ _ | refine bl_alloc ?_ _ | refine Below.setCell ?_ (by first | (simp; done) | omega | (simp; omega)) _ | refine bl_then ?_ (by assumption)))⟩
theorem at1_any (s a b t : Int) (g : Nat) (w : World) (hg : w.cell? ⟨g, 0, none⟩ = some (.int .i64 t)) : Calls Try.prog 61 #[.agg #[.int .i64 s, .int .i64 a, .int .i64 b], .pointer (some ⟨g, 0, none⟩)] w fun e w' => e = .returned (.bool (hasT t ⟨s, a, b⟩)) ∧ Below w.heap.size w w' := by
  have hb : hasT t ⟨s, a, b⟩ = (decide (a ≤ t) && decide (t < b)) := rfl
  rw [hb]
  clear hb
  have hc := World.cell?_alloc_lt w (.cells #[.int .i64 s, .int .i64 a, .int .i64 b] 26) ⟨g, 0, none⟩ (World.block_lt_of_cell? w _ hg)
  rw [hg] at hc
  by_cases h : a ≤ t
  · go_enter Try.func61, Try.ntmps61
    go_wp2
    go_ret
    exact ⟨by simp [h], (by repeat (first | exact Below.refl _ _ | assumption | refine Below.drew ?_ | refine below_drewN ?_ _ | refine bl_alloc ?_ _ | refine Below.setCell ?_ (by first | (simp; done) | omega | (simp; omega)) _ | refine bl_then ?_ (by assumption)))⟩
  · go_enter Try.func61, Try.ntmps61
    go_wp2
    go_ret
    exact ⟨by simp; omega, (by repeat (first | exact Below.refl _ _ | assumption | refine Below.drew ?_ | refine below_drewN ?_ _ | refine bl_alloc ?_ _ | refine Below.setCell ?_ (by first | (simp; done) | omega | (simp; omega)) _ | refine bl_then ?_ (by assumption)))⟩
theorem order1_any (s a b : Int) (w : World) : Calls Try.prog 62 #[.agg #[.int .i64 s, .int .i64 a, .int .i64 b]] w fun e w' => e = .returned (.bool true) ∧ Below w.heap.size w w' := by
  go_enter Try.func62, Try.ntmps62
  go_wp2
  go_ret
  exact ⟨rfl, (by repeat (first | exact Below.refl _ _ | assumption | refine Below.drew ?_ | refine below_drewN ?_ _ | refine bl_alloc ?_ _ | refine Below.setCell ?_ (by first | (simp; done) | omega | (simp; omega)) _ | refine bl_then ?_ (by assumption)))⟩
theorem valid1_any (a b c d : Int) (g : Nat) (w : World) (h0 : w.cell? ⟨g, 1, none⟩ = some (.int .i64 c)) (h1 : w.cell? ⟨g, 2, none⟩ = some (.int .i64 d)) : Calls Try.prog 49 #[.agg #[.int .i64 a, .int .i64 b], .pointer (some ⟨g, 0, none⟩)] w fun e w' => e = .returned (.bool (meetP ⟨a, b⟩ ⟨c, d⟩)) ∧ Below w.heap.size w w' := by
  have hM := fun w => meet_any a b c d w
  generalize meetP ⟨a, b⟩ ⟨c, d⟩ = q at hM ⊢
  have HM := Lib.hid hM
  clear hM
  have hc := World.cell?_alloc_lt w (.cells #[.int .i64 a, .int .i64 b] 24) ⟨g, 1, none⟩ (World.block_lt_of_cell? w _ h0)
  have hd := World.cell?_alloc_lt w (.cells #[.int .i64 a, .int .i64 b] 24) ⟨g, 2, none⟩ (World.block_lt_of_cell? w _ h1)
  rw [h0] at hc
  rw [h1] at hd
  go_enter Try.func49, Try.ntmps49
  go_wp2_with (go_at_call 50; refine (HM.out _).mono ?_; rintro e w' ⟨rfl, hb⟩)
  go_ret
  exact ⟨rfl, (by repeat (first | exact Below.refl _ _ | assumption | refine Below.drew ?_ | refine below_drewN ?_ _ | refine bl_alloc ?_ _ | refine Below.setCell ?_ (by first | (simp; done) | omega | (simp; omega)) _ | refine bl_then ?_ (by assumption)))⟩
end Go.Proofs.Ytgbfhkildbhhoaa
