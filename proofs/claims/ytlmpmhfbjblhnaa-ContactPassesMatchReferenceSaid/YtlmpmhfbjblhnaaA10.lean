/- Spans. -/
import Derived.Test.YtlmpmhfbjblhnaaA9
namespace Go.Proofs.Ytlmpmhfbjblhnaa
open Go.RowKit

theorem isSpan_any (a b : Int) (w : World) :
    Calls Try.prog 58 #[.agg #[.int .i64 a, .int .i64 b]] w fun e w' => e = .returned (.bool (spanOK ⟨a, b⟩)) ∧ Below w.heap.size w w' := by
  by_cases h : 0 ≤ a ∧ a < b ∧ b ≤ 1000001
  · obtain ⟨h1, h2, h3⟩ := h
    have hs : spanOK ⟨a, b⟩ = decide (b - a ≤ 4320) := by simp [spanOK, h1, h2, h3]
    rw [hs]
    clear hs
    go_enter Try.func58, Try.ntmps58
    go_wp2
    go_ret
    exact ⟨by simp [*], (by repeat (first | exact Below.refl _ _ | assumption | refine Below.drew ?_ | refine below_drewN ?_ _ | refine bl_alloc ?_ _ | refine Below.setCell ?_ (by first | (simp; done) | omega | (simp; omega)) _ | refine bl_then ?_ (by assumption)))⟩
  · have hs : spanOK ⟨a, b⟩ = false := by
      simp only [spanOK, decide_eq_false_iff_not]
      omega
    rw [hs]
    clear hs
    by_cases h1 : 0 ≤ a
    · by_cases h2 : a < b
      · have h3 : ¬ b ≤ 1000001 := by omega
        clear h
        go_enter Try.func58, Try.ntmps58
        go_wp2
        go_ret
        exact ⟨by simp [*], (by repeat (first | exact Below.refl _ _ | assumption | refine Below.drew ?_ | refine below_drewN ?_ _ | refine bl_alloc ?_ _ | refine Below.setCell ?_ (by first | (simp; done) | omega | (simp; omega)) _ | refine bl_then ?_ (by assumption)))⟩
      · clear h
        go_enter Try.func58, Try.ntmps58
        go_wp2
        go_ret
        exact ⟨by simp [*], (by repeat (first | exact Below.refl _ _ | assumption | refine Below.drew ?_ | refine below_drewN ?_ _ | refine bl_alloc ?_ _ | refine Below.setCell ?_ (by first | (simp; done) | omega | (simp; omega)) _ | refine bl_then ?_ (by assumption)))⟩
    · clear h
      go_enter Try.func58, Try.ntmps58
      go_wp2
      go_ret
      exact ⟨by simp [*], (by repeat (first | exact Below.refl _ _ | assumption | refine Below.drew ?_ | refine below_drewN ?_ _ | refine bl_alloc ?_ _ | refine Below.setCell ?_ (by first | (simp; done) | omega | (simp; omega)) _ | refine bl_then ?_ (by assumption)))⟩

end Go.Proofs.Ytlmpmhfbjblhnaa
