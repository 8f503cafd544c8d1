/- The reference: pick, equality of lists, Formed, Meet (printed by antenna_r1.py). -/
import Derived.Test.YtgbfhkildbhhoaaA2
import Derived.Laws.Small
namespace Go.Proofs.Ytgbfhkildbhhoaa
open Go.RowKit

def pickI (c n : Int) : Int := (if c < 0 then -(c + 1) else c) % n
theorem pickI_bd (c n : Int) (hn : 0 < n) : 0 ≤ pickI c n ∧ pickI c n < n := ⟨Int.emod_nonneg _ (by omega), Int.emod_lt_of_pos _ hn⟩
theorem pickr_any (c n : Int) (w : World) (h1 : -9223372036854775808 ≤ c) (h2 : c ≤ 9223372036854775807) (hn : 0 < n) (hn2 : n ≤ 1000000) :
    Calls Try.prog 34 #[.int .i64 c, .int .i64 n] w fun e w' => e = .returned (.int .i64 (pickI c n)) ∧ w = w' := by
  have hn0 : ¬ n = 0 := by omega
  have hn1 : (n == 0) = false := by simp; omega
  by_cases hc : c < 0
  · have hp : pickI c n = -((c + 1).tmod n) := by unfold pickI; rw [if_pos hc, ← Int.tmod_eq_emod_of_nonneg (by omega), Int.neg_tmod]
    have hb := pickI_bd c n hn
    rw [hp] at hb ⊢
    have hb1 := hb.1
    have hb2 := hb.2
    clear hb hp
    go_enter Try.func34, Try.ntmps34
    go_wp2
    go_ret
    exact ⟨rfl, rfl⟩
  · have hp : pickI c n = c % n := by unfold pickI; rw [if_neg hc]
    have hb := pickI_bd c n hn
    rw [hp] at hb ⊢
    have hb1 := hb.1
    have hb2 := hb.2
    clear hb hp
    go_enter Try.func34, Try.ntmps34
    go_wp2
    go_ret
    exact ⟨rfl, rfl⟩
theorem pickl_any (c n : Int) (w : World) (h1 : -9223372036854775808 ≤ c) (h2 : c ≤ 9223372036854775807) (hn : 0 < n) (hn2 : n ≤ 1000000) :
    Calls Try.prog 12 #[.int .i64 c, .int .i64 n] w fun e w' => e = .returned (.int .i64 (pickI c n)) ∧ w = w' := by
  have hn0 : ¬ n = 0 := by omega
  have hn1 : (n == 0) = false := by simp; omega
  by_cases hc : c < 0
  · have hp : pickI c n = -((c + 1).tmod n) := by unfold pickI; rw [if_pos hc, ← Int.tmod_eq_emod_of_nonneg (by omega), Int.neg_tmod]
    have hb := pickI_bd c n hn
    rw [hp] at hb ⊢
    have hb1 := hb.1
    have hb2 := hb.2
    clear hb hp
    go_enter Try.func12, Try.ntmps12
    go_wp2
    go_ret
    exact ⟨rfl, rfl⟩
  · have hp : pickI c n = c % n := by unfold pickI; rw [if_neg hc]
    have hb := pickI_bd c n hn
    rw [hp] at hb ⊢
    have hb1 := hb.1
    have hb2 := hb.2
    clear hb hp
    go_enter Try.func12, Try.ntmps12
    go_wp2
    go_ret
    exact ⟨rfl, rfl⟩

theorem take_succ_eq {α : Type} {xs ys : List α} {k : Nat} (h : xs.take k = ys.take k) (hx : k < xs.length) (hy : k < ys.length) (he : xs[k] = ys[k]) : xs.take (k + 1) = ys.take (k + 1) := by
  rw [List.take_succ_eq_append_getElem hx, List.take_succ_eq_append_getElem hy, h, he]
theorem ne_of_get {α : Type} {xs ys : List α} {k : Nat} (hx : k < xs.length) (hy : k < ys.length) (he : ¬ xs[k] = ys[k]) : ¬ xs = ys := by
  rintro rfl
  exact he rfl
theorem eqIn_spl (a b c d : Int) (w : World) : (Op.equalIn 9999 24 (.agg #[.int .i64 a, .int .i64 b]) (.agg #[.int .i64 c, .int .i64 d])).run Try.prog w = .ok (a == c && b == d) w := by
  have u3 := Try.underlying3
  have hS : Try.prog.underlying 24 = some (.struct (Try.prog.fieldsOf 24)) := by kernel_rfl
  have hp : Try.prog.stoodInHeld 24 = false := by kernel_rfl
  rw [show (9999 : Nat) = 9998 + 1 from rfl, run_equalIn_agg w 9998 24 _ _ hS hp]
  clear hS hp
  simp only [Program.fieldsOf, Try.underlying24]
  go_simp
  by_cases h0 : a = c <;> by_cases h1 : b = d <;> simp [h0, h1]
theorem neq_use (a b : Use) (w : World) : (binOp .neq 26 (.agg #[.int .i64 a.sat, .int .i64 a.fr, .int .i64 a.tt]) (.agg #[.int .i64 b.sat, .int .i64 b.fr, .int .i64 b.tt])).run Try.prog w = .ok (.bool (!decide (a = b))) w := by
  have u3 := Try.underlying3
  have hS : Try.prog.underlying 26 = some (.struct (Try.prog.fieldsOf 26)) := by kernel_rfl
  have hp : Try.prog.stoodInHeld 26 = false := by kernel_rfl
  rw [run_neq_struct, show (10000 : Nat) = 9999 + 1 from rfl, run_equalIn_agg w 9999 26 _ _ hS hp]
  have e2 := eqIn_spl
  clear hS hp
  simp only [Program.fieldsOf, Try.underlying26]
  go_simp
  obtain ⟨a1, a2, a3⟩ := a
  obtain ⟨b1, b2, b3⟩ := b
  by_cases h0 : a1 = b1 <;> by_cases h1 : a2 = b2 <;> by_cases h2 : a3 = b3 <;> simp [h0, h1, h2]
set_option maxHeartbeats 1000000 in
theorem ints_any (A1 A2 : Option Addr) (n1 n2 c1 c2 : Nat) (xs ys : List Int) (w : World) (h1 : RA intCells 1 w w.heap.size A1 n1 c1 xs) (h2 : RA intCells 1 w w.heap.size A2 n2 c2 ys) :
    Calls Try.prog 24 #[.slice A1 n1 c1, .slice A2 n2 c2] w fun e w' => e = .returned (.bool (decide (xs = ys))) ∧ Below w.heap.size w w' := by
  have hn1 : n1 ≤ 9223372036854775807 := h1.le
  have hn2 : n2 ≤ 9223372036854775807 := h2.le
  have L1 : Hid (xs.length = n1) := h1.len
  have L2 : Hid (ys.length = n2) := h2.len
  have H1 := Lib.hid h1
  have H2 := Lib.hid h2
  clear h1 h2
  by_cases hne : n1 = n2
  · subst hne
    have hd : ((n1 : Int) != (n1 : Int)) = false := by simp
    go_enter Try.func24, Try.ntmps24
    go_wp2
    go_loopw [5] (fun i wr => ∃ k : Nat, k ≤ n1 ∧ i = .int .i64 k ∧ Hid (xs.take k = ys.take k) ∧ Below w.heap.size w wr) (fun i _ => n1 - (intOf i).toNat)
    case atStart => exact ⟨0, Nat.zero_le _, rfl, rfl, Below.refl _ _⟩
    case round =>
      obtain ⟨k, hk, rfl, H, hB⟩ := hrel
      by_cases hlt : k < n1
      · obtain ⟨b, o, hz, hA, hb, hc⟩ := (H1.out.below hB).at_ int_len hlt
        obtain ⟨b', o', hz', hA', hb', hc'⟩ := (H2.out.below hB).at_ int_len hlt
        subst hA hA'
        have hstep := take_succ_eq (k := k) H.out hz hz'
        have hstop := ne_of_get (k := k) hz hz'
        generalize xs[k] = x at hc hstep hstop
        generalize ys[k] = y at hc' hstep hstop
        have c0 : wr.cell? ⟨b, o + k * 1, none⟩ = some (.int .i64 x) := hc 0 (by omega)
        rw [Nat.mul_one] at c0
        have d0 : wr.cell? ⟨b', o' + k * 1, none⟩ = some (.int .i64 y) := hc' 0 (by omega)
        rw [Nat.mul_one] at d0
        clear hc hc'
        by_cases hxy : x = y
        · have HS := Lib.hid (hstep hxy)
          clear hstep hstop
          have he : (x != y) = false := by simp [hxy]
          go_wp2
          go_quiet (fail)
          go_wp2
          go_roundw
          case rel => exact ⟨k + 1, by omega, by go_num, HS.out, (by repeat (first | exact Below.refl _ _ | assumption | refine Below.drew ?_ | refine below_drewN ?_ _ | refine bl_alloc ?_ _ | refine Below.setCell ?_ (by first | (simp; done) | omega | (simp; omega)) _ | refine bl_then ?_ (by assumption)))⟩
          case measure => simp [intOf]; omega
        · have he : (x != y) = true := by simp [hxy]
          have HX := Lib.hid (hstop hxy)
          clear hxy hstep hstop
          go_wp2
          go_quiet (fail)
          go_wp2
          go_ret
          exact ⟨by rw [decide_eq_false HX.out]; rfl, (by repeat (first | exact Below.refl _ _ | assumption | refine Below.drew ?_ | refine below_drewN ?_ _ | refine bl_alloc ?_ _ | refine Below.setCell ?_ (by first | (simp; done) | omega | (simp; omega)) _ | refine bl_then ?_ (by assumption)))⟩
      · go_wp2
        go_ret
        refine ⟨?_, (by repeat (first | exact Below.refl _ _ | assumption | refine Below.drew ?_ | refine below_drewN ?_ _ | refine bl_alloc ?_ _ | refine Below.setCell ?_ (by first | (simp; done) | omega | (simp; omega)) _ | refine bl_then ?_ (by assumption)))⟩
        have hxy : xs = ys := by
          have := H.out
          rwa [List.take_of_length_le (by rw [L1.out]; omega), List.take_of_length_le (by rw [L2.out]; omega)] at this
        rw [decide_eq_true hxy]
        rfl
  · have hd : ((n1 : Int) != (n2 : Int)) = true := by simp; omega
    have hxy : ¬ xs = ys := by
      rintro rfl
      exact hne (L1.out.symm.trans L2.out)
    rw [decide_eq_false hxy]
    clear hxy
    go_enter Try.func24, Try.ntmps24
    go_wp2
    go_ret
    exact ⟨rfl, Below.refl _ _⟩
set_option maxHeartbeats 1000000 in
theorem sameUses_any (A1 A2 : Option Addr) (n1 n2 c1 c2 : Nat) (xs ys : List Use) (w : World) (h1 : RA useCells 3 w w.heap.size A1 n1 c1 xs) (h2 : RA useCells 3 w w.heap.size A2 n2 c2 ys) :
    Calls Try.prog 33 #[.slice A1 n1 c1, .slice A2 n2 c2] w fun e w' => e = .returned (.bool (decide (xs = ys))) ∧ Below w.heap.size w w' := by
  have hn1 : n1 ≤ 9223372036854775807 := h1.le
  have hn2 : n2 ≤ 9223372036854775807 := h2.le
  have L1 : Hid (xs.length = n1) := h1.len
  have L2 : Hid (ys.length = n2) := h2.len
  have H1 := Lib.hid h1
  have H2 := Lib.hid h2
  clear h1 h2
  by_cases hne : n1 = n2
  · subst hne
    have hd : ((n1 : Int) != (n1 : Int)) = false := by simp
    go_enter Try.func33, Try.ntmps33
    go_wp2
    go_loopw [5] (fun i wr => ∃ k : Nat, k ≤ n1 ∧ i = .int .i64 k ∧ Hid (xs.take k = ys.take k) ∧ Below w.heap.size w wr) (fun i _ => n1 - (intOf i).toNat)
    case atStart => exact ⟨0, Nat.zero_le _, rfl, rfl, Below.refl _ _⟩
    case round =>
      obtain ⟨k, hk, rfl, H, hB⟩ := hrel
      by_cases hlt : k < n1
      · obtain ⟨b, o, hz, hA, hb, hc⟩ := (H1.out.below hB).at_ use_len hlt
        obtain ⟨b', o', hz', hA', hb', hc'⟩ := (H2.out.below hB).at_ use_len hlt
        subst hA hA'
        have hstep := take_succ_eq (k := k) H.out hz hz'
        have hstop := ne_of_get (k := k) hz hz'
        generalize xs[k] = x at hc hstep hstop
        generalize ys[k] = y at hc' hstep hstop
        have c0 : wr.cell? ⟨b, o + k * 3, none⟩ = some (.int .i64 x.sat) := hc 0 (by omega)
        have c1 : wr.cell? ⟨b, o + k * 3 + 1, none⟩ = some (.int .i64 x.fr) := hc 1 (by omega)
        have c2 : wr.cell? ⟨b, o + k * 3 + 2, none⟩ = some (.int .i64 x.tt) := hc 2 (by omega)
        have d0 : wr.cell? ⟨b', o' + k * 3, none⟩ = some (.int .i64 y.sat) := hc' 0 (by omega)
        have d1 : wr.cell? ⟨b', o' + k * 3 + 1, none⟩ = some (.int .i64 y.fr) := hc' 1 (by omega)
        have d2 : wr.cell? ⟨b', o' + k * 3 + 2, none⟩ = some (.int .i64 y.tt) := hc' 2 (by omega)
        clear hc hc'
        by_cases hxy : x = y
        · have HS := Lib.hid (hstep hxy)
          clear hstep hstop
          subst hxy
          have he : (!decide (x = x)) = false := by simp
          have hnq := neq_use
          go_wp2
          go_quiet (fail)
          go_wp2
          go_roundw
          case rel => exact ⟨k + 1, by omega, by go_num, HS.out, (by repeat (first | exact Below.refl _ _ | assumption | refine Below.drew ?_ | refine below_drewN ?_ _ | refine bl_alloc ?_ _ | refine Below.setCell ?_ (by first | (simp; done) | omega | (simp; omega)) _ | refine bl_then ?_ (by assumption)))⟩
          case measure => simp [intOf]; omega
        · have he : (!decide (x = y)) = true := by simp [hxy]
          have HX := Lib.hid (hstop hxy)
          clear hxy hstep hstop
          have hnq := neq_use
          go_wp2
          go_quiet (fail)
          go_wp2
          go_ret
          exact ⟨by rw [decide_eq_false HX.out]; rfl, (by repeat (first | exact Below.refl _ _ | assumption | refine Below.drew ?_ | refine below_drewN ?_ _ | refine bl_alloc ?_ _ | refine Below.setCell ?_ (by first | (simp; done) | omega | (simp; omega)) _ | refine bl_then ?_ (by assumption)))⟩
      · go_wp2
        go_ret
        refine ⟨?_, (by repeat (first | exact Below.refl _ _ | assumption | refine Below.drew ?_ | refine below_drewN ?_ _ | refine bl_alloc ?_ _ | refine Below.setCell ?_ (by first | (simp; done) | omega | (simp; omega)) _ | refine bl_then ?_ (by assumption)))⟩
        have hxy : xs = ys := by
          have := H.out
          rwa [List.take_of_length_le (by rw [L1.out]; omega), List.take_of_length_le (by rw [L2.out]; omega)] at this
        rw [decide_eq_true hxy]
        rfl
  · have hd : ((n1 : Int) != (n2 : Int)) = true := by simp; omega
    have hxy : ¬ xs = ys := by
      rintro rfl
      exact hne (L1.out.symm.trans L2.out)
    rw [decide_eq_false hxy]
    clear hxy
    go_enter Try.func33, Try.ntmps33
    go_wp2
    go_ret
    exact ⟨rfl, Below.refl _ _⟩
end Go.Proofs.Ytgbfhkildbhhoaa
