/- pick, of the reference and of the laws. -/
import Derived.Test.YtpddnkefggaigaaMem
namespace Go.Proofs.Ytpddnkefggaigaa
open Go.RowKit

/-- An index in 0 .. n - 1 of an arbitrary number. -/
def pickI (c n : Int) : Int := (if c < 0 then -(c + 1) else c) % n
theorem pickI_bd (c n : Int) (hn : 0 < n) : 0 ≤ pickI c n ∧ pickI c n < n := ⟨Int.emod_nonneg _ (by omega), Int.emod_lt_of_pos _ hn⟩

theorem rpick_any (c n : Int) (w : World) (h1 : -9223372036854775808 ≤ c) (h2 : c ≤ 9223372036854775807) (hn : 0 < n) (hn2 : n ≤ 1000000) :
    Calls Try.prog 33 #[.int .i64 c, .int .i64 n] w fun e w' => e = .returned (.int .i64 (pickI c n)) ∧ w = w' := by
  have hn0 : ¬ n = 0 := by omega
  have hn1 : (n == 0) = false := by simp; omega
  by_cases hc : c < 0
  · have hp : pickI c n = -((c + 1).tmod n) := by unfold pickI; rw [if_pos hc, ← Int.tmod_eq_emod_of_nonneg (by omega), Int.neg_tmod]
    have hb := pickI_bd c n hn
    rw [hp] at hb ⊢
    have hb1 := hb.1
    have hb2 := hb.2
    clear hb hp
    go_enter Try.func33, Try.ntmps33
    go_wp2
    go_ret
    exact ⟨rfl, rfl⟩
  · have hp : pickI c n = c % n := by unfold pickI; rw [if_neg hc]
    have hb := pickI_bd c n hn
    rw [hp] at hb ⊢
    have hb1 := hb.1
    have hb2 := hb.2
    clear hb hp
    go_enter Try.func33, Try.ntmps33
    go_wp2
    go_ret
    exact ⟨rfl, rfl⟩

theorem lpick_any (c n : Int) (w : World) (h1 : -9223372036854775808 ≤ c) (h2 : c ≤ 9223372036854775807) (hn : 0 < n) (hn2 : n ≤ 1000000) :
    Calls Try.prog 12 #[.int .i64 c, .int .i64 n] w fun e w' => e = .returned (.int .i64 (pickI c n)) ∧ w = w' := by
  have hn0 : ¬ n = 0 := by omega
  have hn1 : (n == 0) = false := by simp; omega
  by_cases hc : c < 0
  · have hp : pickI c n = -((c + 1).tmod n) := by unfold pickI; rw [if_pos hc, ← Int.tmod_eq_emod_of_nonneg (by omega), Int.neg_tmod]
    have hb := pickI_bd c n hn
    rw [hp] at hb ⊢
    have hb1 := hb.1
    have hb2 := hb.2
    clear hb hp
    go_enter Try.func12, Try.ntmps12
    go_wp2
    go_ret
    exact ⟨rfl, rfl⟩
  · have hp : pickI c n = c % n := by unfold pickI; rw [if_neg hc]
    have hb := pickI_bd c n hn
    rw [hp] at hb ⊢
    have hb1 := hb.1
    have hb2 := hb.2
    clear hb hp
    go_enter Try.func12, Try.ntmps12
    go_wp2
    go_ret
    exact ⟨rfl, rfl⟩

end Go.Proofs.Ytpddnkefggaigaa
