/- Contracts of the small functions: the bounds, cells of the globe, orbits' validity. -/
import Derived.Test.YtlmpmhfbjblhnaaMem
import Derived.Test.YtlmpmhfbjblhnaaPc
namespace Go.Proofs.Ytlmpmhfbjblhnaa
open Go.RowKit

abbrev I64 (n : Int) : Value := .int .i64 n
def celV (c : Cel) : Value := .agg #[I64 c.x, I64 c.y]
def splV (s : Spl) : Value := .agg #[I64 s.fr, I64 s.tt]
def orbV (o : Orb) : Value := .agg #[I64 o.period, I64 o.phase, I64 o.low, I64 o.high, I64 o.node, I64 o.turn, I64 o.slack]

theorem isIn_any (n lo hi : Int) (w : World) :
    Calls Try.prog 59 #[.int .i64 n, .int .i64 lo, .int .i64 hi] w fun e w' => e = .returned (.bool (inB n lo hi)) ∧ w = w' := by
  by_cases h1 : lo ≤ n
  · have e : inB n lo hi = decide (n ≤ hi) := by simp [inB, h1]
    rw [e]
    go_enter Try.func59, Try.ntmps59
    go_wp2
    go_ret
    exact ⟨by first | rfl | simp [*], rfl⟩
  · have e : inB n lo hi = false := by simp [inB, h1]
    rw [e]
    go_enter Try.func59, Try.ntmps59
    go_wp2
    go_ret
    exact ⟨rfl, rfl⟩

theorem oin_any (n lo hi : Int) (w : World) :
    Calls Try.prog 75 #[.int .i64 n, .int .i64 lo, .int .i64 hi] w fun e w' => e = .returned (.bool (inB n lo hi)) ∧ w = w' := by
  by_cases h1 : lo ≤ n
  · have e : inB n lo hi = decide (n ≤ hi) := by simp [inB, h1]
    rw [e]
    go_enter Try.func75, Try.ntmps75
    go_wp2
    go_ret
    exact ⟨by first | rfl | simp [*], rfl⟩
  · have e : inB n lo hi = false := by simp [inB, h1]
    rw [e]
    go_enter Try.func75, Try.ntmps75
    go_wp2
    go_ret
    exact ⟨rfl, rfl⟩

theorem gin_any (n lo hi : Int) (w : World) :
    Calls Try.prog 77 #[.int .i64 n, .int .i64 lo, .int .i64 hi] w fun e w' => e = .returned (.bool (inB n lo hi)) ∧ w = w' := by
  by_cases h1 : lo ≤ n
  · have e : inB n lo hi = decide (n ≤ hi) := by simp [inB, h1]
    rw [e]
    go_enter Try.func77, Try.ntmps77
    go_wp2
    go_ret
    exact ⟨by first | rfl | simp [*], rfl⟩
  · have e : inB n lo hi = false := by simp [inB, h1]
    rw [e]
    go_enter Try.func77, Try.ntmps77
    go_wp2
    go_ret
    exact ⟨rfl, rfl⟩

theorem rin_any (n lo hi : Int) (w : World) :
    Calls Try.prog 47 #[.int .i64 n, .int .i64 lo, .int .i64 hi] w fun e w' => e = .returned (.bool (inB n lo hi)) ∧ w = w' := by
  by_cases h1 : lo ≤ n
  · have e : inB n lo hi = decide (n ≤ hi) := by simp [inB, h1]
    rw [e]
    go_enter Try.func47, Try.ntmps47
    go_wp2
    go_ret
    exact ⟨by first | rfl | simp [*], rfl⟩
  · have e : inB n lo hi = false := by simp [inB, h1]
    rw [e]
    go_enter Try.func47, Try.ntmps47
    go_wp2
    go_ret
    exact ⟨rfl, rfl⟩

theorem sin_any (n lo hi : Int) (w : World) :
    Calls Try.prog 76 #[.int .i64 n, .int .i64 lo, .int .i64 hi] w fun e w' => e = .returned (.bool (inB n lo hi)) ∧ w = w' := by
  by_cases h1 : lo ≤ n
  · have e : inB n lo hi = decide (n ≤ hi) := by simp [inB, h1]
    rw [e]
    go_enter Try.func76, Try.ntmps76
    go_wp2
    go_ret
    exact ⟨by first | rfl | simp [*], rfl⟩
  · have e : inB n lo hi = false := by simp [inB, h1]
    rw [e]
    go_enter Try.func76, Try.ntmps76
    go_wp2
    go_ret
    exact ⟨rfl, rfl⟩

theorem validCell_any (x y : Int) (w : World) :
    Calls Try.prog 52 #[.agg #[.int .i64 x, .int .i64 y]] w fun e w' => e = .returned (.bool (celOK ⟨x, y⟩)) ∧ Below w.heap.size w w' := by
  have hb : celOK ⟨x, y⟩ = (inB x 0 47 && inB y 0 23) := rfl
  rw [hb]
  clear hb
  generalize e0 : inB x 0 47 = b0
  generalize e1 : inB y 0 23 = b1
  have E0 := Lib.hid e0
  have E1 := Lib.hid e1
  clear e0 e1
  go_enter Try.func52, Try.ntmps52
  go_wp2_with (go_at_call 77; refine (gin_any _ _ _ _).mono ?_; rintro e w' ⟨rfl, rfl⟩; first | rw [E0.out] | rw [E1.out])
  all_goals
    go_ret
    exact ⟨by simp [*], (by repeat (first | exact Below.refl _ _ | assumption | refine Below.drew ?_ | refine below_drewN ?_ _ | refine bl_alloc ?_ _ | refine Below.setCell ?_ (by first | (simp; done) | omega | (simp; omega)) _ | refine bl_then ?_ (by assumption)))⟩

theorem orbit_valid (p f lo hi no tu sl : Int) (w : World) :
    Calls Try.prog 50 #[.agg #[.int .i64 p, .int .i64 f, .int .i64 lo, .int .i64 hi, .int .i64 no, .int .i64 tu, .int .i64 sl]] w fun e w' => e = .returned (.bool (orbOK ⟨p, f, lo, hi, no, tu, sl⟩)) ∧ Below w.heap.size w w' := by
  have hb : orbOK ⟨p, f, lo, hi, no, tu, sl⟩ = (inB p 20 2000 && (p % 2 == 0) && inB f 0 (p - 1) && inB lo 0 23999 && inB hi 0 23999 && decide (lo < hi) && inB no 0 47999 && inB tu (-2000) 2000 && inB sl 0 10) := rfl
  rw [hb]
  clear hb
  generalize e0 : inB p 20 2000 = b0
  generalize e1 : inB f 0 (p - 1) = b1
  generalize e2 : inB lo 0 23999 = b2
  generalize e3 : inB hi 0 23999 = b3
  generalize e4 : inB no 0 47999 = b4
  generalize e5 : inB tu (-2000) 2000 = b5
  generalize e6 : inB sl 0 10 = b6
  have E0 := Lib.hid e0
  have E1 := Lib.hid e1
  have E2 := Lib.hid e2
  have E3 := Lib.hid e3
  have E4 := Lib.hid e4
  have E5 := Lib.hid e5
  have E6 := Lib.hid e6
  clear e0 e1 e2 e3 e4 e5 e6
  generalize hlt : decide (lo < hi) = lt
  cases b0
  · go_enter Try.func50, Try.ntmps50
    go_wp2_with (go_at_call 75; refine (oin_any _ _ _ _).mono ?_; rintro e w' ⟨rfl, rfl⟩; first | rw [E0.out] | rw [E1.out] | rw [E2.out] | rw [E3.out] | rw [E4.out] | rw [E5.out] | rw [E6.out])
    all_goals
      go_ret
      exact ⟨by simp [*], (by repeat (first | exact Below.refl _ _ | assumption | refine Below.drew ?_ | refine below_drewN ?_ _ | refine bl_alloc ?_ _ | refine Below.setCell ?_ (by first | (simp; done) | omega | (simp; omega)) _ | refine bl_then ?_ (by assumption)))⟩
  · obtain ⟨p1, p2⟩ := inB_iff.1 E0.out
    have hm : p.tmod 2 = p % 2 := Int.tmod_eq_emod_of_nonneg (by omega)
    generalize hq : p % 2 = q at hm ⊢
    go_enter Try.func50, Try.ntmps50
    go_wp2_with (go_at_call 75; refine (oin_any _ _ _ _).mono ?_; rintro e w' ⟨rfl, rfl⟩; first | rw [E0.out] | rw [E1.out] | rw [E2.out] | rw [E3.out] | rw [E4.out] | rw [E5.out] | rw [E6.out])
    all_goals
      go_ret
      exact ⟨by simp [*], (by repeat (first | exact Below.refl _ _ | assumption | refine Below.drew ?_ | refine below_drewN ?_ _ | refine bl_alloc ?_ _ | refine Below.setCell ?_ (by first | (simp; done) | omega | (simp; omega)) _ | refine bl_then ?_ (by assumption)))⟩

end Go.Proofs.Ytlmpmhfbjblhnaa
