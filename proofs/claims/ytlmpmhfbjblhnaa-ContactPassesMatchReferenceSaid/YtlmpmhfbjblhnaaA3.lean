/- Where a satellite is: row, column. -/
import Derived.Test.YtlmpmhfbjblhnaaA2
namespace Go.Proofs.Ytlmpmhfbjblhnaa
open Go.RowKit

theorem column_any (p f lo hi no tu sl t : Int) (h1 : -4000000000 ≤ tu * t) (h2 : tu * t ≤ 4000000000) (h3 : 0 ≤ no) (h4 : no ≤ 47999) (w : World) :
    Calls Try.prog 87 #[.agg #[.int .i64 p, .int .i64 f, .int .i64 lo, .int .i64 hi, .int .i64 no, .int .i64 tu, .int .i64 sl, .int .i64 t]] w fun e w' => e = .returned (.int .i64 ((no + tu * t) % 48000)) ∧ Below w.heap.size w w' := by
  go_enter Try.func87, Try.ntmps87
  go_wp2_with (go_at_call 93; refine (around_any _ _ (by omega) (by omega) _).mono ?_; rintro e w' ⟨rfl, rfl⟩)
  go_ret
  exact ⟨rfl, (by repeat (first | exact Below.refl _ _ | assumption | refine Below.drew ?_ | refine below_drewN ?_ _ | refine bl_alloc ?_ _ | refine Below.setCell ?_ (by first | (simp; done) | omega | (simp; omega)) _ | refine bl_then ?_ (by assumption)))⟩

theorem row_any (p f lo hi no tu sl t : Int) (h1 : 20 ≤ p) (h2 : p ≤ 2000) (h3 : 0 ≤ f) (h4 : f ≤ 1999) (h5 : 0 ≤ lo) (h6 : lo < hi) (h7 : hi ≤ 23999) (h8 : -10 ≤ t) (h9 : t ≤ 1000010) (w : World) :
    Calls Try.prog 88 #[.agg #[.int .i64 p, .int .i64 f, .int .i64 lo, .int .i64 hi, .int .i64 no, .int .i64 tu, .int .i64 sl, .int .i64 t]] w fun e w' => e = .returned (.int .i64 (rowP ⟨p, f, lo, hi, no, tu, sl⟩ t)) ∧ Below w.heap.size w w' := by
  have hm : rowP ⟨p, f, lo, hi, no, tu, sl⟩ t = lo + (hi - lo) * 2 * (if p - (t + f) % p < (t + f) % p then p - (t + f) % p else (t + f) % p) / p := by
    simp only [rowP]
    congr 3
    split <;> omega
  rw [hm]
  clear hm
  have u1 := Int.emod_nonneg (t + f) (b := p) (by omega)
  have u2 := Int.emod_lt_of_pos (t + f) (b := p) (by omega)
  have A1 := fun w => around_any (t + f) p (by omega) (by omega) w
  generalize (t + f) % p = u at u1 u2 A1 ⊢
  have AA := Lib.hid A1
  clear A1
  by_cases hc : p - u < u
  · rw [if_pos hc]
    have v1 : 0 ≤ p - u := by omega
    have v2 : p - u ≤ 2000 := by omega
    have m1 : 0 ≤ (hi - lo) * 2 * (p - u) := Int.mul_nonneg (by omega) v1
    have m2 : (hi - lo) * 2 * (p - u) ≤ 96000000 := by
      have := Int.mul_le_mul (a := (hi - lo) * 2) (b := p - u) (c := 48000) (d := 2000) (by omega) v2 v1 (by omega)
      omega
    have d0 : ((hi - lo) * 2 * (p - u)).tdiv p = (hi - lo) * 2 * (p - u) / p := Int.tdiv_eq_ediv_of_nonneg m1
    have x1 : IntKind.i64.wrap (hi - lo) = hi - lo := IntWalk.i64_in _ (by omega)
    have x2 : IntKind.i64.wrap ((hi - lo) * 2) = (hi - lo) * 2 := IntWalk.i64_in _ (by omega)
    have x3 : IntKind.i64.wrap (p - u) = p - u := IntWalk.i64_in _ (by omega)
    have x4 : IntKind.i64.wrap ((hi - lo) * 2 * (p - u)) = (hi - lo) * 2 * (p - u) := IntWalk.i64_in _ (by omega)
    have d1 : 0 ≤ (hi - lo) * 2 * (p - u) / p := Int.ediv_nonneg m1 (by omega)
    have d2 : (hi - lo) * 2 * (p - u) / p ≤ 96000000 := Int.le_trans (Int.ediv_le_self _ m1) m2
    have x5 : IntKind.i64.wrap ((hi - lo) * 2 * (p - u) / p) = (hi - lo) * 2 * (p - u) / p := IntWalk.i64_in _ (by omega)
    have x6 : IntKind.i64.wrap (lo + (hi - lo) * 2 * (p - u) / p) = lo + (hi - lo) * 2 * (p - u) / p := IntWalk.i64_in _ (by omega)
    have pz : p ≠ 0 := by omega
    go_enter Try.func88, Try.ntmps88
    go_wp2_with (go_at_call 93; refine (AA.out _).mono ?_; rintro e w' ⟨rfl, rfl⟩)
    have K : Blk (w.alloc (.cells #[.int .i64 p, .int .i64 f, .int .i64 lo, .int .i64 hi, .int .i64 no, .int .i64 tu, .int .i64 sl, .int .i64 t] 111)) w.heap.size 111 #[.int .i64 p, .int .i64 f, .int .i64 lo, .int .i64 hi, .int .i64 no, .int .i64 tu, .int .i64 sl, .int .i64 t] := Blk.new _ _ _
    have hb : Below w.heap.size w (w.alloc (.cells #[.int .i64 p, .int .i64 f, .int .i64 lo, .int .i64 hi, .int .i64 no, .int .i64 tu, .int .i64 sl, .int .i64 t] 111)) := (by repeat (first | exact Below.refl _ _ | assumption | refine Below.drew ?_ | refine below_drewN ?_ _ | refine bl_alloc ?_ _ | refine Below.setCell ?_ (by first | (simp; done) | omega | (simp; omega)) _ | refine bl_then ?_ (by assumption)))
    generalize w.alloc (.cells #[.int .i64 p, .int .i64 f, .int .i64 lo, .int .i64 hi, .int .i64 no, .int .i64 tu, .int .i64 sl, .int .i64 t] 111) = W at K hb ⊢
    have f0 : W.cell? ⟨w.heap.size, 0, none⟩ = some (.int .i64 p) := K.cell 0
    have f2 : W.cell? ⟨w.heap.size, 2, none⟩ = some (.int .i64 lo) := K.cell 2
    have f3 : W.cell? ⟨w.heap.size, 3, none⟩ = some (.int .i64 hi) := K.cell 3
    clear K
    go_region_held3 (fun w' => w'.cell? ⟨w.heap.size, 0, none⟩ = some (.int .i64 p) ∧ w'.cell? ⟨w.heap.size, 2, none⟩ = some (.int .i64 lo) ∧ w'.cell? ⟨w.heap.size, 3, none⟩ = some (.int .i64 hi))
      (first | go_keep)
      (fail)
    go_wp2
    go_ret
    exact ⟨rfl, (by repeat (first | exact Below.refl _ _ | assumption | refine Below.drew ?_ | refine below_drewN ?_ _ | refine bl_alloc ?_ _ | refine Below.setCell ?_ (by first | (simp; done) | omega | (simp; omega)) _ | refine bl_then ?_ (by assumption)))⟩
  · rw [if_neg hc]
    have v1 : 0 ≤ u := by omega
    have v2 : u ≤ 2000 := by omega
    have m1 : 0 ≤ (hi - lo) * 2 * (u) := Int.mul_nonneg (by omega) v1
    have m2 : (hi - lo) * 2 * (u) ≤ 96000000 := by
      have := Int.mul_le_mul (a := (hi - lo) * 2) (b := u) (c := 48000) (d := 2000) (by omega) v2 v1 (by omega)
      omega
    have d0 : ((hi - lo) * 2 * (u)).tdiv p = (hi - lo) * 2 * (u) / p := Int.tdiv_eq_ediv_of_nonneg m1
    have x1 : IntKind.i64.wrap (hi - lo) = hi - lo := IntWalk.i64_in _ (by omega)
    have x2 : IntKind.i64.wrap ((hi - lo) * 2) = (hi - lo) * 2 := IntWalk.i64_in _ (by omega)
    have x3 : IntKind.i64.wrap (p - u) = p - u := IntWalk.i64_in _ (by omega)
    have x4 : IntKind.i64.wrap ((hi - lo) * 2 * (u)) = (hi - lo) * 2 * (u) := IntWalk.i64_in _ (by omega)
    have d1 : 0 ≤ (hi - lo) * 2 * (u) / p := Int.ediv_nonneg m1 (by omega)
    have d2 : (hi - lo) * 2 * (u) / p ≤ 96000000 := Int.le_trans (Int.ediv_le_self _ m1) m2
    have x5 : IntKind.i64.wrap ((hi - lo) * 2 * (u) / p) = (hi - lo) * 2 * (u) / p := IntWalk.i64_in _ (by omega)
    have x6 : IntKind.i64.wrap (lo + (hi - lo) * 2 * (u) / p) = lo + (hi - lo) * 2 * (u) / p := IntWalk.i64_in _ (by omega)
    have pz : p ≠ 0 := by omega
    go_enter Try.func88, Try.ntmps88
    go_wp2_with (go_at_call 93; refine (AA.out _).mono ?_; rintro e w' ⟨rfl, rfl⟩)
    have K : Blk (w.alloc (.cells #[.int .i64 p, .int .i64 f, .int .i64 lo, .int .i64 hi, .int .i64 no, .int .i64 tu, .int .i64 sl, .int .i64 t] 111)) w.heap.size 111 #[.int .i64 p, .int .i64 f, .int .i64 lo, .int .i64 hi, .int .i64 no, .int .i64 tu, .int .i64 sl, .int .i64 t] := Blk.new _ _ _
    have hb : Below w.heap.size w (w.alloc (.cells #[.int .i64 p, .int .i64 f, .int .i64 lo, .int .i64 hi, .int .i64 no, .int .i64 tu, .int .i64 sl, .int .i64 t] 111)) := (by repeat (first | exact Below.refl _ _ | assumption | refine Below.drew ?_ | refine below_drewN ?_ _ | refine bl_alloc ?_ _ | refine Below.setCell ?_ (by first | (simp; done) | omega | (simp; omega)) _ | refine bl_then ?_ (by assumption)))
    generalize w.alloc (.cells #[.int .i64 p, .int .i64 f, .int .i64 lo, .int .i64 hi, .int .i64 no, .int .i64 tu, .int .i64 sl, .int .i64 t] 111) = W at K hb ⊢
    have f0 : W.cell? ⟨w.heap.size, 0, none⟩ = some (.int .i64 p) := K.cell 0
    have f2 : W.cell? ⟨w.heap.size, 2, none⟩ = some (.int .i64 lo) := K.cell 2
    have f3 : W.cell? ⟨w.heap.size, 3, none⟩ = some (.int .i64 hi) := K.cell 3
    clear K
    go_region_held3 (fun w' => w'.cell? ⟨w.heap.size, 0, none⟩ = some (.int .i64 p) ∧ w'.cell? ⟨w.heap.size, 2, none⟩ = some (.int .i64 lo) ∧ w'.cell? ⟨w.heap.size, 3, none⟩ = some (.int .i64 hi))
      (first | go_keep)
      (fail)
    go_wp2
    go_ret
    exact ⟨rfl, (by repeat (first | exact Below.refl _ _ | assumption | refine Below.drew ?_ | refine below_drewN ?_ _ | refine bl_alloc ?_ _ | refine Below.setCell ?_ (by first | (simp; done) | omega | (simp; omega)) _ | refine bl_then ?_ (by assumption)))⟩

end Go.Proofs.Ytlmpmhfbjblhnaa
