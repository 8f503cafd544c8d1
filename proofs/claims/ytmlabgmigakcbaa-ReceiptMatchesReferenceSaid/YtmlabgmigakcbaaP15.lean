/- The reference: options that are valid for passes. -/
import Derived.Test.YtmlabgmigakcbaaP10
import Derived.Laws.Small
import Derived.Test.YtmlabgmigakcbaaP14
import Derived.BigQuiet
import Derived.Test.YtmlabgmigakcbaaP07
namespace Go.Proofs.Ytmlabgmigakcbaa
open Go.RowKit
deriving instance DecidableEq for Rcp
deriving instance DecidableEq for Nte
deriving instance DecidableEq for Dsc
deriving instance DecidableEq for FteP
def pickI (c n : Int) : Int := (if c < 0 then -(c + 1) else c) % n
theorem pickI_bd (c n : Int) (hn : 0 < n) : 0 ≤ pickI c n ∧ pickI c n < n := ⟨Int.emod_nonneg _ (by omega), Int.emod_lt_of_pos _ hn⟩
theorem pickr_any (c n : Int) (w : World) (h1 : -9223372036854775808 ≤ c) (h2 : c ≤ 9223372036854775807) (hn : 0 < n) (hn2 : n ≤ 2000000) :
  Calls Try.prog 68 #[.int .i64 c, .int .i64 n] w fun e w' => e = .returned (.int .i64 (pickI c n)) ∧ w = w' := by
 have hn0 : ¬ n = 0 := by omega
 have hn1 : (n == 0) = false := by simp; omega
 by_cases hc : c < 0
 ·have hp : pickI c n = -((c + 1).tmod n) := by unfold pickI; rw [if_pos hc, ← Int.tmod_eq_emod_of_nonneg (by omega), Int.neg_tmod]
  have hb := pickI_bd c n hn
  rw [hp] at hb ⊢
  have hb1 := hb.1
  have hb2 := hb.2
  clear hb hp
  go_enter Try.func68, Try.ntmps68
  go_wp2
  go_ret
  exact ⟨rfl, rfl⟩
 ·have hp : pickI c n = c % n := by unfold pickI; rw [if_neg hc]
  have hb := pickI_bd c n hn
  rw [hp] at hb ⊢
  have hb1 := hb.1
  have hb2 := hb.2
  clear hb hp
  go_enter Try.func68, Try.ntmps68
  go_wp2
  go_ret
  exact ⟨rfl, rfl⟩
theorem pickl_any (c n : Int) (w : World) (h1 : -9223372036854775808 ≤ c) (h2 : c ≤ 9223372036854775807) (hn : 0 < n) (hn2 : n ≤ 2000000) :
  Calls Try.prog 13 #[.int .i64 c, .int .i64 n] w fun e w' => e = .returned (.int .i64 (pickI c n)) ∧ w = w' := by
 have hn0 : ¬ n = 0 := by omega
 have hn1 : (n == 0) = false := by simp; omega
 by_cases hc : c < 0
 ·have hp : pickI c n = -((c + 1).tmod n) := by unfold pickI; rw [if_pos hc, ← Int.tmod_eq_emod_of_nonneg (by omega), Int.neg_tmod]
  have hb := pickI_bd c n hn
  rw [hp] at hb ⊢
  have hb1 := hb.1
  have hb2 := hb.2
  clear hb hp
  go_enter Try.func13, Try.ntmps13
  go_wp2
  go_ret
  exact ⟨rfl, rfl⟩
 ·have hp : pickI c n = c % n := by unfold pickI; rw [if_neg hc]
  have hb := pickI_bd c n hn
  rw [hp] at hb ⊢
  have hb1 := hb.1
  have hb2 := hb.2
  clear hb hp
  go_enter Try.func13, Try.ntmps13
  go_wp2
  go_ret
  exact ⟨rfl, rfl⟩
theorem picks_any (c n : Int) (w : World) (h1 : -9223372036854775808 ≤ c) (h2 : c ≤ 9223372036854775807) (hn : 0 < n) (hn2 : n ≤ 2000000) :
  Calls Try.prog 59 #[.int .i64 c, .int .i64 n] w fun e w' => e = .returned (.int .i64 (pickI c n)) ∧ w = w' := by
 have hn0 : ¬ n = 0 := by omega
 have hn1 : (n == 0) = false := by simp; omega
 by_cases hc : c < 0
 ·have hp : pickI c n = -((c + 1).tmod n) := by unfold pickI; rw [if_pos hc, ← Int.tmod_eq_emod_of_nonneg (by omega), Int.neg_tmod]
  have hb := pickI_bd c n hn
  rw [hp] at hb ⊢
  have hb1 := hb.1
  have hb2 := hb.2
  clear hb hp
  go_enter Try.func59, Try.ntmps59
  go_wp2
  go_ret
  exact ⟨rfl, rfl⟩
 ·have hp : pickI c n = c % n := by unfold pickI; rw [if_neg hc]
  have hb := pickI_bd c n hn
  rw [hp] at hb ⊢
  have hb1 := hb.1
  have hb2 := hb.2
  clear hb hp
  go_enter Try.func59, Try.ntmps59
  go_wp2
  go_ret
  exact ⟨rfl, rfl⟩
theorem take_succ_eq {α : Type} {xs ys : List α} {k : Nat} (h : xs.take k = ys.take k) (hx : k < xs.length) (hy : k < ys.length) (he : xs[k] = ys[k]) : xs.take (k + 1) = ys.take (k + 1) := by
 rw [List.take_succ_eq_append_getElem hx, List.take_succ_eq_append_getElem hy, h, he]
theorem ne_of_get {α : Type} {xs ys : List α} {k : Nat} (hx : k < xs.length) (hy : k < ys.length) (he : ¬ xs[k] = ys[k]) : ¬ xs = ys := by
 rintro rfl
 exact he rfl
set_option maxHeartbeats 1000000 in
theorem ints_any (A1 A2 : Option Addr) (n1 n2 c1 c2 : Nat) (xs ys : List Int) (w : World) (h1 : RA intCells 1 w w.heap.size A1 n1 c1 xs) (h2 : RA intCells 1 w w.heap.size A2 n2 c2 ys) :
  Calls Try.prog 22 #[.slice A1 n1 c1, .slice A2 n2 c2] w fun e w' => e = .returned (.bool (decide (xs = ys))) ∧ Below w.heap.size w w' := by
 have hn1 : n1 ≤ 9223372036854775807 := h1.le
 have hn2 : n2 ≤ 9223372036854775807 := h2.le
 have L1 : Hid (xs.length = n1) := h1.len
 have L2 : Hid (ys.length = n2) := h2.len
 have H1 := Lib.hid h1
 have H2 := Lib.hid h2
 clear h1 h2
 by_cases hne : n1 = n2
 ·subst hne
  have hd : ((n1 : Int) != (n1 : Int)) = false := by simp
  go_enter Try.func22, Try.ntmps22
  go_wp2
  go_loopw [5] (fun i wr => ∃ k : Nat, k ≤ n1 ∧ i = .int .i64 k ∧ Hid (xs.take k = ys.take k) ∧ Below w.heap.size w wr) (fun i _ => n1 - (intOf i).toNat)
  case atStart => exact ⟨0, Nat.zero_le _, rfl, rfl, Below.refl _ _⟩
  case round =>
   obtain ⟨k, hk, rfl, H, hB⟩ := hrel
   by_cases hlt : k < n1
   ·obtain ⟨b, o, hz, hA, hb, hc⟩ := (H1.out.below hB).at_ int_len hlt
    obtain ⟨b', o', hz', hA', hb', hc'⟩ := (H2.out.below hB).at_ int_len hlt
    subst hA hA'
    have hstep := take_succ_eq (k := k) H.out hz hz'
    have hstop := ne_of_get (k := k) hz hz'
    generalize xs[k] = x at hc hstep hstop
    generalize ys[k] = y at hc' hstep hstop
    have c0 : wr.cell? ⟨b, o + k * 1, none⟩ = some (.int .i64 x) := hc 0 (by omega)
    rw [Nat.mul_one] at c0
    have d0 : wr.cell? ⟨b', o' + k * 1, none⟩ = some (.int .i64 y) := hc' 0 (by omega)
    rw [Nat.mul_one] at d0
    clear hc hc'
    by_cases hxy : x = y
    ·have HS := Lib.hid (hstep hxy)
     clear hstep hstop
     have he : (x != y) = false := by simp [hxy]
     go_wp2
     go_quiet (fail)
     go_wp2
     go_roundw
     case rel => exact ⟨k + 1, by omega, by go_num, HS.out, (by repeat (first | exact Below.refl _ _ | assumption | refine Below.drew ?_ | refine below_drewN ?_ _ | refine bl_alloc ?_ _ | refine Below.setCell ?_ (by first | (simp; done) | omega | (simp; omega)) _ | refine bl_then ?_ (by assumption)))⟩
     case measure => simp [intOf]; omega
    ·have he : (x != y) = true := by simp [hxy]
     have HX := Lib.hid (hstop hxy)
     clear hxy hstep hstop
     go_wp2
     go_quiet (fail)
     go_wp2
     go_ret
     exact ⟨by rw [decide_eq_false HX.out]; rfl, (by repeat (first | exact Below.refl _ _ | assumption | refine Below.drew ?_ | refine below_drewN ?_ _ | refine bl_alloc ?_ _ | refine Below.setCell ?_ (by first | (simp; done) | omega | (simp; omega)) _ | refine bl_then ?_ (by assumption)))⟩
   ·go_wp2
    go_ret
    refine ⟨?_, (by repeat (first | exact Below.refl _ _ | assumption | refine Below.drew ?_ | refine below_drewN ?_ _ | refine bl_alloc ?_ _ | refine Below.setCell ?_ (by first | (simp; done) | omega | (simp; omega)) _ | refine bl_then ?_ (by assumption)))⟩
    have hxy : xs = ys := by
     have := H.out
     rwa [List.take_of_length_le (by rw [L1.out]; omega), List.take_of_length_le (by rw [L2.out]; omega)] at this
    rw [decide_eq_true hxy]
    rfl
 ·have hd : ((n1 : Int) != (n2 : Int)) = true := by simp; omega
  have hxy : ¬ xs = ys := by
   rintro rfl
   exact hne (L1.out.symm.trans L2.out)
  rw [decide_eq_false hxy]
  clear hxy
  go_enter Try.func22, Try.ntmps22
  go_wp2
  go_ret
  exact ⟨rfl, Below.refl _ _⟩
theorem neq_rcp (a b : Rcp) (w : World) : (binOp .neq 63 (.agg #[.int .i64 a.sn, .int .i64 a.im, .int .i64 a.at_]) (.agg #[.int .i64 b.sn, .int .i64 b.im, .int .i64 b.at_])).run Try.prog w = .ok (.bool (!decide (a = b))) w := by
 have u3 := Try.underlying3
 have u4 := Try.underlying4
 have hS : Try.prog.underlying 63 = some (.struct (Try.prog.fieldsOf 63)) := by kernel_rfl
 have hp : Try.prog.stoodInHeld 63 = false := by kernel_rfl
 rw [run_neq_struct, show (10000 : Nat) = 9999 + 1 from rfl, run_equalIn_agg w 9999 63 _ _ hS hp]
 clear hS hp
 simp only [Program.fieldsOf, Try.underlying63]
 go_simp
 obtain ⟨a0, a1, a2⟩ := a
 obtain ⟨b0, b1, b2⟩ := b
 by_cases h0 : a0 = b0 <;> by_cases h1 : a1 = b1 <;> by_cases h2 : a2 = b2 <;> simp [h0, h1, h2]
set_option maxHeartbeats 1000000 in
theorem same_rcp (A1 A2 : Option Addr) (n1 n2 c1 c2 : Nat) (xs ys : List Rcp) (w : World) (h1 : RA rcpCells 3 w w.heap.size A1 n1 c1 xs) (h2 : RA rcpCells 3 w w.heap.size A2 n2 c2 ys) :
  Calls Try.prog 28 #[.slice A1 n1 c1, .slice A2 n2 c2] w fun e w' => e = .returned (.bool (decide (xs = ys))) ∧ Below w.heap.size w w' := by
 have hn1 : n1 ≤ 9223372036854775807 := h1.le
 have hn2 : n2 ≤ 9223372036854775807 := h2.le
 have L1 : Hid (xs.length = n1) := h1.len
 have L2 : Hid (ys.length = n2) := h2.len
 have H1 := Lib.hid h1
 have H2 := Lib.hid h2
 clear h1 h2
 by_cases hne : n1 = n2
 ·subst hne
  have hd : ((n1 : Int) != (n1 : Int)) = false := by simp
  go_enter Try.func28, Try.ntmps28
  go_wp2
  go_loopw [5] (fun i wr => ∃ k : Nat, k ≤ n1 ∧ i = .int .i64 k ∧ Hid (xs.take k = ys.take k) ∧ Below w.heap.size w wr) (fun i _ => n1 - (intOf i).toNat)
  case atStart => exact ⟨0, Nat.zero_le _, rfl, rfl, Below.refl _ _⟩
  case round =>
   obtain ⟨k, hk, rfl, H, hB⟩ := hrel
   by_cases hlt : k < n1
   ·obtain ⟨b, o, hz, hA, hb, hc⟩ := (H1.out.below hB).at_ rcp_len hlt
    obtain ⟨b', o', hz', hA', hb', hc'⟩ := (H2.out.below hB).at_ rcp_len hlt
    subst hA hA'
    have hstep := take_succ_eq (k := k) H.out hz hz'
    have hstop := ne_of_get (k := k) hz hz'
    generalize xs[k] = x at hc hstep hstop
    generalize ys[k] = y at hc' hstep hstop
    have c0 : wr.cell? ⟨b, o + k * 3, none⟩ = some (.int .i64 x.sn) := hc 0 (by omega)
    have c1 : wr.cell? ⟨b, o + k * 3 + 1, none⟩ = some (.int .i64 x.im) := hc 1 (by omega)
    have c2 : wr.cell? ⟨b, o + k * 3 + 2, none⟩ = some (.int .i64 x.at_) := hc 2 (by omega)
    have d0 : wr.cell? ⟨b', o' + k * 3, none⟩ = some (.int .i64 y.sn) := hc' 0 (by omega)
    have d1 : wr.cell? ⟨b', o' + k * 3 + 1, none⟩ = some (.int .i64 y.im) := hc' 1 (by omega)
    have d2 : wr.cell? ⟨b', o' + k * 3 + 2, none⟩ = some (.int .i64 y.at_) := hc' 2 (by omega)
    clear hc hc'
    by_cases hxy : x = y
    ·have HS := Lib.hid (hstep hxy)
     clear hstep hstop
     subst hxy
     have he : (!decide (x = x)) = false := by simp
     have hnq := neq_rcp
     go_wp2
     go_quiet (fail)
     go_wp2
     go_roundw
     case rel => exact ⟨k + 1, by omega, by go_num, HS.out, (by repeat (first | exact Below.refl _ _ | assumption | refine Below.drew ?_ | refine below_drewN ?_ _ | refine bl_alloc ?_ _ | refine Below.setCell ?_ (by first | (simp; done) | omega | (simp; omega)) _ | refine bl_then ?_ (by assumption)))⟩
     case measure => simp [intOf]; omega
    ·have he : (!decide (x = y)) = true := by simp [hxy]
     have HX := Lib.hid (hstop hxy)
     clear hxy hstep hstop
     have hnq := neq_rcp
     go_wp2
     go_quiet (fail)
     go_wp2
     go_ret
     exact ⟨by rw [decide_eq_false HX.out]; rfl, (by repeat (first | exact Below.refl _ _ | assumption | refine Below.drew ?_ | refine below_drewN ?_ _ | refine bl_alloc ?_ _ | refine Below.setCell ?_ (by first | (simp; done) | omega | (simp; omega)) _ | refine bl_then ?_ (by assumption)))⟩
   ·go_wp2
    go_ret
    refine ⟨?_, (by repeat (first | exact Below.refl _ _ | assumption | refine Below.drew ?_ | refine below_drewN ?_ _ | refine bl_alloc ?_ _ | refine Below.setCell ?_ (by first | (simp; done) | omega | (simp; omega)) _ | refine bl_then ?_ (by assumption)))⟩
    have hxy : xs = ys := by
     have := H.out
     rwa [List.take_of_length_le (by rw [L1.out]; omega), List.take_of_length_le (by rw [L2.out]; omega)] at this
    rw [decide_eq_true hxy]
    rfl
 ·have hd : ((n1 : Int) != (n2 : Int)) = true := by simp; omega
  have hxy : ¬ xs = ys := by
   rintro rfl
   exact hne (L1.out.symm.trans L2.out)
  rw [decide_eq_false hxy]
  clear hxy
  go_enter Try.func28, Try.ntmps28
  go_wp2
  go_ret
  exact ⟨rfl, Below.refl _ _⟩
theorem neq_nte (a b : Nte) (w : World) : (binOp .neq 89 (.agg #[.int .i64 a.im, .int .i64 a.slot, .bool a.is_]) (.agg #[.int .i64 b.im, .int .i64 b.slot, .bool b.is_])).run Try.prog w = .ok (.bool (!decide (a = b))) w := by
 have u3 := Try.underlying3
 have u4 := Try.underlying4
 have hS : Try.prog.underlying 89 = some (.struct (Try.prog.fieldsOf 89)) := by kernel_rfl
 have hp : Try.prog.stoodInHeld 89 = false := by kernel_rfl
 rw [run_neq_struct, show (10000 : Nat) = 9999 + 1 from rfl, run_equalIn_agg w 9999 89 _ _ hS hp]
 clear hS hp
 simp only [Program.fieldsOf, Try.underlying89]
 go_simp
 obtain ⟨a0, a1, a2⟩ := a
 obtain ⟨b0, b1, b2⟩ := b
 by_cases h0 : a0 = b0 <;> by_cases h1 : a1 = b1 <;> by_cases h2 : a2 = b2 <;> simp [h0, h1, h2]
set_option maxHeartbeats 1000000 in
theorem same_nte (A1 A2 : Option Addr) (n1 n2 c1 c2 : Nat) (xs ys : List Nte) (w : World) (h1 : RA nteCells 3 w w.heap.size A1 n1 c1 xs) (h2 : RA nteCells 3 w w.heap.size A2 n2 c2 ys) :
  Calls Try.prog 29 #[.slice A1 n1 c1, .slice A2 n2 c2] w fun e w' => e = .returned (.bool (decide (xs = ys))) ∧ Below w.heap.size w w' := by
 have hn1 : n1 ≤ 9223372036854775807 := h1.le
 have hn2 : n2 ≤ 9223372036854775807 := h2.le
 have L1 : Hid (xs.length = n1) := h1.len
 have L2 : Hid (ys.length = n2) := h2.len
 have H1 := Lib.hid h1
 have H2 := Lib.hid h2
 clear h1 h2
 by_cases hne : n1 = n2
 ·subst hne
  have hd : ((n1 : Int) != (n1 : Int)) = false := by simp
  go_enter Try.func29, Try.ntmps29
  go_wp2
  go_loopw [5] (fun i wr => ∃ k : Nat, k ≤ n1 ∧ i = .int .i64 k ∧ Hid (xs.take k = ys.take k) ∧ Below w.heap.size w wr) (fun i _ => n1 - (intOf i).toNat)
  case atStart => exact ⟨0, Nat.zero_le _, rfl, rfl, Below.refl _ _⟩
  case round =>
   obtain ⟨k, hk, rfl, H, hB⟩ := hrel
   by_cases hlt : k < n1
   ·obtain ⟨b, o, hz, hA, hb, hc⟩ := (H1.out.below hB).at_ nte_len hlt
    obtain ⟨b', o', hz', hA', hb', hc'⟩ := (H2.out.below hB).at_ nte_len hlt
    subst hA hA'
    have hstep := take_succ_eq (k := k) H.out hz hz'
    have hstop := ne_of_get (k := k) hz hz'
    generalize xs[k] = x at hc hstep hstop
    generalize ys[k] = y at hc' hstep hstop
    have c0 : wr.cell? ⟨b, o + k * 3, none⟩ = some (.int .i64 x.im) := hc 0 (by omega)
    have c1 : wr.cell? ⟨b, o + k * 3 + 1, none⟩ = some (.int .i64 x.slot) := hc 1 (by omega)
    have c2 : wr.cell? ⟨b, o + k * 3 + 2, none⟩ = some (.bool x.is_) := hc 2 (by omega)
    have d0 : wr.cell? ⟨b', o' + k * 3, none⟩ = some (.int .i64 y.im) := hc' 0 (by omega)
    have d1 : wr.cell? ⟨b', o' + k * 3 + 1, none⟩ = some (.int .i64 y.slot) := hc' 1 (by omega)
    have d2 : wr.cell? ⟨b', o' + k * 3 + 2, none⟩ = some (.bool y.is_) := hc' 2 (by omega)
    clear hc hc'
    by_cases hxy : x = y
    ·have HS := Lib.hid (hstep hxy)
     clear hstep hstop
     subst hxy
     have he : (!decide (x = x)) = false := by simp
     have hnq := neq_nte
     go_wp2
     go_quiet (fail)
     go_wp2
     go_roundw
     case rel => exact ⟨k + 1, by omega, by go_num, HS.out, (by repeat (first | exact Below.refl _ _ | assumption | refine Below.drew ?_ | refine below_drewN ?_ _ | refine bl_alloc ?_ _ | refine Below.setCell ?_ (by first | (simp; done) | omega | (simp; omega)) _ | refine bl_then ?_ (by assumption)))⟩
     case measure => simp [intOf]; omega
    ·have he : (!decide (x = y)) = true := by simp [hxy]
     have HX := Lib.hid (hstop hxy)
     clear hxy hstep hstop
     have hnq := neq_nte
     go_wp2
     go_quiet (fail)
     go_wp2
     go_ret
     exact ⟨by rw [decide_eq_false HX.out]; rfl, (by repeat (first | exact Below.refl _ _ | assumption | refine Below.drew ?_ | refine below_drewN ?_ _ | refine bl_alloc ?_ _ | refine Below.setCell ?_ (by first | (simp; done) | omega | (simp; omega)) _ | refine bl_then ?_ (by assumption)))⟩
   ·go_wp2
    go_ret
    refine ⟨?_, (by repeat (first | exact Below.refl _ _ | assumption | refine Below.drew ?_ | refine below_drewN ?_ _ | refine bl_alloc ?_ _ | refine Below.setCell ?_ (by first | (simp; done) | omega | (simp; omega)) _ | refine bl_then ?_ (by assumption)))⟩
    have hxy : xs = ys := by
     have := H.out
     rwa [List.take_of_length_le (by rw [L1.out]; omega), List.take_of_length_le (by rw [L2.out]; omega)] at this
    rw [decide_eq_true hxy]
    rfl
 ·have hd : ((n1 : Int) != (n2 : Int)) = true := by simp; omega
  have hxy : ¬ xs = ys := by
   rintro rfl
   exact hne (L1.out.symm.trans L2.out)
  rw [decide_eq_false hxy]
  clear hxy
  go_enter Try.func29, Try.ntmps29
  go_wp2
  go_ret
  exact ⟨rfl, Below.refl _ _⟩
theorem has_any (l : List Int) (x : Int) (LA : Option Addr) (n c : Nat) (w : World) (hl : RA intCells 1 w w.heap.size LA n c l) :
  Calls Try.prog 33 #[.slice LA n c, .int .i64 x] w fun e w' => e = .returned (.bool (hasI l x)) ∧ w = w' := by
 have hle := hl.le
 have HL := Lib.hid hl
 obtain ⟨fin, hfin⟩ : ∃ y, y = hasI l x := ⟨_, rfl⟩
 rw [← hfin]
 have HF0 : Hid (fin = hasI (l.drop 0) x) := Lib.hid hfin
 clear hfin hl
 go_enter Try.func33, Try.ntmps33
 go_wp2
 go_loopw [5] (fun y wr => ∃ k : Nat, k ≤ n ∧ y = .int .i64 k ∧ Hid (fin = hasI (l.drop k) x) ∧ wr = w) (fun y _ => n - (intOf y).toNat)
 case atStart => exact ⟨0, Nat.zero_le _, rfl, HF0, rfl⟩
 case round =>
  clear HF0
  obtain ⟨k, hk, rfl, HF, rfl⟩ := hrel
  by_cases hkn : k < n
  ·obtain ⟨b, ob, hz, hA, _, hc⟩ := HL.out.at_ int_len hkn
   have hst := HF.out
   rw [List.drop_eq_getElem_cons hz] at hst
   have hst2 : fin = (decide (x = l[k]) || hasI (l.drop (k + 1)) x) := hst
   have c0 : wr.cell? ⟨b, ob + k, none⟩ = some (.int .i64 l[k]) := by have := hc 0 (by omega); rw [Nat.mul_one] at this; exact this
   generalize l[k] = y at hst2 c0
   have HST := Lib.hid hst2
   subst hA
   clear hc hz hst hst2 HF
   by_cases hxy : y = x
   ·have hft : fin = true := by rw [HST.out, decide_eq_true hxy.symm]; rfl
    have HFT := Lib.hid hft
    subst hxy
    clear hft HST
    go_wp2
    go_ret
    exact ⟨by rw [HFT.out]; rfl, rfl⟩
   ·have HN2 : Hid (fin = hasI (l.drop (k + 1)) x) := Lib.hid (by rw [HST.out, decide_eq_false (fun e => hxy e.symm)]; rfl)
    have hxy1 : (y == x) = false := by simpa using hxy
    clear HST
    go_wp2
    go_roundw
    case rel => exact ⟨k + 1, by omega, by go_num, HN2, (by first | rfl | trivial)⟩
    case measure => simp [intOf]; omega
  ·have hff : fin = false := by rw [HF.out, List.drop_of_length_le (by rw [HL.out.len]; omega)]; rfl
   have HFF := Lib.hid hff
   clear hff HF
   go_wp2
   go_ret
   exact ⟨by rw [HFF.out]; rfl, rfl⟩
structure Fts (w : World) (B : Nat) (A : Option Addr) (n c : Nat) (fs : List Fte) : Prop where
 out : RA fteCells 5 w B A n c fs
 each : ∀ x ∈ fs, RA natCells 1 w B x.a x.p.l.length x.c x.p.l
theorem Fts.below {w w' : World} {B n c : Nat} {A : Option Addr} {fs : List Fte} (h : Fts w B A n c fs) (hb : Below B w w') : Fts w' B A n c fs := ⟨h.out.below hb, fun r hr => (h.each r hr).below hb⟩
theorem Fts.ext {w w' : World} {n c : Nat} {A : Option Addr} {fs : List Fte} (h : Fts w w.heap.size A n c fs) (hx : Ext w w') : Fts w' w'.heap.size A n c fs := ⟨ra_ext h.out hx, fun r hr => ra_ext (h.each r hr) hx⟩
theorem OwnFs.fts {w : World} {b n c : Nat} {A : Option Addr} {fs : List Fte} (h : OwnFs w b (.slice A n c) fs) (hn : fs.length ≤ 100000) (hl : ∀ x ∈ fs, x.p.l.length ≤ 100000) : Fts w w.heap.size A n c fs := by
 have e := h.1
 obtain ⟨_, _, hv, _, _⟩ := own_slice e
 injection hv with _ hv _
 rw [← hv] at e
 exact ⟨RA.of_own e hv.symm (by omega), fun x hx => RA.of_own (h.2 x hx) rfl (hl x hx)⟩
theorem RA.nat {w : World} {B n c : Nat} {A : Option Addr} {l : List Nat} (h : RA natCells 1 w B A n c l) : RA intCells 1 w B A n c (l.map fun k : Nat => (k : Int)) := by
 refine ⟨?_, by rw [List.length_map]; exact h.len, h.cap, h.capM, h.le⟩
 have : (l.map fun k : Nat => (k : Int)).flatMap intCells = l.flatMap natCells := by
  clear h
  induction l with
  | nil => rfl
  | cons x r ih => simp only [List.map_cons, List.flatMap_cons, ih]; rfl
 rw [this]
 exact h.rd
theorem map_nat_inj {a b : List Nat} : (a.map (fun k : Nat => (k : Int)) = b.map (fun k : Nat => (k : Int))) ↔ a = b := by
 constructor
 ·intro h
  induction a generalizing b with
  | nil => cases b <;> simp_all
  | cons x r ih => cases b with
   | nil => simp at h
   | cons y s =>
    simp only [List.map_cons, List.cons.injEq] at h
    rw [ih h.2, show x = y by omega]
 ·rintro rfl; rfl
theorem ints_nat (A1 A2 : Option Addr) (n1 n2 c1 c2 : Nat) (xs ys : List Nat) (w : World) (h1 : RA natCells 1 w w.heap.size A1 n1 c1 xs) (h2 : RA natCells 1 w w.heap.size A2 n2 c2 ys) :
  Calls Try.prog 22 #[.slice A1 n1 c1, .slice A2 n2 c2] w fun e w' => e = .returned (.bool (decide (xs = ys))) ∧ Below w.heap.size w w' := by
 have h := ints_any A1 A2 n1 n2 c1 c2 _ _ w h1.nat h2.nat
 rw [show decide (xs.map (fun k : Nat => (k : Int)) = ys.map (fun k : Nat => (k : Int))) = decide (xs = ys) from decide_eq_decide.2 map_nat_inj] at h
 exact h
set_option maxRecDepth 100000 in
set_option maxHeartbeats 4000000 in
theorem sameF_any (A1 A2 : Option Addr) (n1 n2 c1 c2 : Nat) (xs ys : List Fte) (w : World) (h1 : Fts w w.heap.size A1 n1 c1 xs) (h2 : Fts w w.heap.size A2 n2 c2 ys) :
  Calls Try.prog 18 #[.slice A1 n1 c1, .slice A2 n2 c2] w fun e w' => e = .returned (.bool (decide (xs.map (·.p) = ys.map (·.p)))) ∧ Below w.heap.size w w' := by
 have hn1 : n1 ≤ 9223372036854775807 := h1.out.le
 have hn2 : n2 ≤ 9223372036854775807 := h2.out.le
 have L1 : Hid (xs.length = n1) := h1.out.len
 have L2 : Hid (ys.length = n2) := h2.out.len
 have H1 := Lib.hid h1
 have H2 := Lib.hid h2
 clear h1 h2
 by_cases hne : n1 = n2
 ·subst hne
  have hd : ((n1 : Int) != (n1 : Int)) = false := by simp
  obtain ⟨fin, hfin⟩ : ∃ y, y = decide (xs.map (·.p) = ys.map (·.p)) := ⟨_, rfl⟩
  rw [← hfin]
  have HFIN := Lib.hid hfin
  clear hfin
  go_enter Try.func18, Try.ntmps18
  go_wp2
  go_loopw [5] (fun i wr => ∃ k : Nat, k ≤ n1 ∧ i = .int .i64 k ∧ Hid ((xs.map (·.p)).take k = (ys.map (·.p)).take k) ∧ Ext w wr) (fun i _ => n1 - (intOf i).toNat)
  case atStart => exact ⟨0, Nat.zero_le _, rfl, rfl, Ext.refl _⟩
  case round =>
   obtain ⟨k, hk, rfl, H, hx⟩ := hrel
   by_cases hlt : k < n1
   ·obtain ⟨b, o, hz, hA, hb, hc⟩ := (H1.out.below hx).out.at_ fte_len hlt
    obtain ⟨b', o', hz', hA', hb', hc'⟩ := (H2.out.below hx).out.at_ fte_len hlt
    subst hA hA'
    have e1 := H1.out.each xs[k] (List.getElem_mem hz)
    have e2 := H2.out.each ys[k] (List.getElem_mem hz')
    have hz1 : k < (xs.map (·.p)).length := by simpa using hz
    have hz2 : k < (ys.map (·.p)).length := by simpa using hz'
    have hstep := take_succ_eq (k := k) H.out hz1 hz2
    have hstop := ne_of_get (k := k) hz1 hz2
    rw [List.getElem_map, List.getElem_map] at hstep hstop
    have HI := Lib.hid (fun (W : World) (hW : Ext w W) => ints_nat xs[k].a ys[k].a _ _ xs[k].c ys[k].c xs[k].p.l ys[k].p.l W (ra_ext e1 hW) (ra_ext e2 hW))
    generalize xs[k] = x at hc hstep hstop e1 HI
    generalize ys[k] = y at hc' hstep hstop e2 HI
    obtain ⟨⟨im1, st1, l1, fr1, tt1⟩, a1, d1⟩ := x
    obtain ⟨⟨im2, st2, l2, fr2, tt2⟩, a2, d2⟩ := y
    dsimp only at hstep hstop HI
    have p0 : wr.cell? ⟨b, o + k * 5, none⟩ = some (.int .i64 im1) := hc 0 (by omega)
    have p1 : wr.cell? ⟨b, o + k * 5 + 1, none⟩ = some (.int .i64 st1) := hc 1 (by omega)
    have p2 : wr.cell? ⟨b, o + k * 5 + 2, none⟩ = some (.slice a1 l1.length d1) := hc 2 (by omega)
    have p3 : wr.cell? ⟨b, o + k * 5 + 3, none⟩ = some (.int .i64 fr1) := hc 3 (by omega)
    have p4 : wr.cell? ⟨b, o + k * 5 + 4, none⟩ = some (.int .i64 tt1) := hc 4 (by omega)
    have q0 : wr.cell? ⟨b', o' + k * 5, none⟩ = some (.int .i64 im2) := hc' 0 (by omega)
    have q1 : wr.cell? ⟨b', o' + k * 5 + 1, none⟩ = some (.int .i64 st2) := hc' 1 (by omega)
    have q2 : wr.cell? ⟨b', o' + k * 5 + 2, none⟩ = some (.slice a2 l2.length d2) := hc' 2 (by omega)
    have q3 : wr.cell? ⟨b', o' + k * 5 + 3, none⟩ = some (.int .i64 fr2) := hc' 3 (by omega)
    have q4 : wr.cell? ⟨b', o' + k * 5 + 4, none⟩ = some (.int .i64 tt2) := hc' 4 (by omega)
    clear hc hc' hz hz' hz1 hz2 e1 e2
    have HSP := Lib.hid hstep
    have HST := Lib.hid hstop
    clear hstep hstop
    generalize hm1 : l1.length = m1 at p2 HI
    generalize hm2 : l2.length = m2 at q2 HI
    clear hm1 hm2
    go_upto_region 7 with (fail)
    have hya : Ext wr (wr.alloc (.cells #[.int .i64 im1, .int .i64 st1, .slice a1 m1 d1, .int .i64 fr1, .int .i64 tt1] 76)) := bl_alloc (Below.refl _ _) _
    have J0 := Blk.new wr 76 #[.int .i64 im1, .int .i64 st1, .slice a1 m1 d1, .int .i64 fr1, .int .i64 tt1]
    generalize wr.heap.size = g6 at J0 ⊢
    generalize wr.alloc (.cells #[.int .i64 im1, .int .i64 st1, .slice a1 m1 d1, .int .i64 fr1, .int .i64 tt1] 76) = W0 at hya J0 ⊢
    have q0 := ext_cell hya q0
    have q1 := ext_cell hya q1
    have q2 := ext_cell hya q2
    have q3 := ext_cell hya q3
    have q4 := ext_cell hya q4
    go_upto_region 8 with (fail)
    have hyb : Ext W0 (W0.alloc (.cells #[.int .i64 im2, .int .i64 st2, .slice a2 m2 d2, .int .i64 fr2, .int .i64 tt2] 76)) := bl_alloc (Below.refl _ _) _
    have J1 := Blk.new W0 76 #[.int .i64 im2, .int .i64 st2, .slice a2 m2 d2, .int .i64 fr2, .int .i64 tt2]
    clear p0 p1 p2 p3 p4 q0 q1 q2 q3 q4
    generalize W0.heap.size = g7 at J1 ⊢
    generalize W0.alloc (.cells #[.int .i64 im2, .int .i64 st2, .slice a2 m2 d2, .int .i64 fr2, .int .i64 tt2] 76) = W1 at hyb J1 ⊢
    have J0 := J0.ext hyb
    have hx1 := Ext.trans hya hyb
    clear hya hyb
    have p0 : W1.cell? ⟨g6, 0, none⟩ = some (.int .i64 im1) := J0.cell 0
    have p1 : W1.cell? ⟨g6, 1, none⟩ = some (.int .i64 st1) := J0.cell 1
    have p2 : W1.cell? ⟨g6, 2, none⟩ = some (.slice a1 m1 d1) := J0.cell 2
    have p3 : W1.cell? ⟨g6, 3, none⟩ = some (.int .i64 fr1) := J0.cell 3
    have p4 : W1.cell? ⟨g6, 4, none⟩ = some (.int .i64 tt1) := J0.cell 4
    have q0 : W1.cell? ⟨g7, 0, none⟩ = some (.int .i64 im2) := J1.cell 0
    have q1 : W1.cell? ⟨g7, 1, none⟩ = some (.int .i64 st2) := J1.cell 1
    have q2 : W1.cell? ⟨g7, 2, none⟩ = some (.slice a2 m2 d2) := J1.cell 2
    have q3 : W1.cell? ⟨g7, 3, none⟩ = some (.int .i64 fr2) := J1.cell 3
    have q4 : W1.cell? ⟨g7, 4, none⟩ = some (.int .i64 tt2) := J1.cell 4
    have hxw := Ext.trans hx hx1
    clear J0 J1 hx1 hx
    by_cases h_im : im1 = im2
    ·subst h_im
     have hq_im : (im1 != im1) = false := by simp
     by_cases h_st : st1 = st2
     ·subst h_st
      have hq_st : (st1 != st1) = false := by simp
      by_cases h_fr : fr1 = fr2
      ·subst h_fr
       have hq_fr : (fr1 != fr1) = false := by simp
       by_cases h_tt : tt1 = tt2
       ·subst h_tt
        have hq_tt : (tt1 != tt1) = false := by simp
        have HC := Lib.hid (HI.out W1 hxw)
        clear HI
        go_wp2_with fail
        refine HC.out.mono ?_
        rintro e W2 ⟨rfl, hy⟩
        have hx2 := Ext.trans hxw hy
        clear HC hy p0 p1 p2 p3 p4 q0 q1 q2 q3 q4
        by_cases hl : l1 = l2
        ·have HN2 := Lib.hid (HSP.out (by rw [hl]))
         rw [decide_eq_true hl]
         clear HSP HST hl
         go_wp2
         go_roundw
         case rel => exact ⟨k + 1, by omega, by go_num, HN2, hx2⟩
         case measure => simp [intOf]; omega
        ·have HX : Hid (¬ xs.map (·.p) = ys.map (·.p)) := Lib.hid (HST.out (by intro e; injection e with e1 e2 e3 e4 e5; exact hl e3))
         rw [decide_eq_false hl]
         clear HSP HST hl
         go_wp2
         go_ret
         exact ⟨by rw [HFIN.out, decide_eq_false HX.out]; rfl, hx2⟩
       ·have HX : Hid (¬ xs.map (·.p) = ys.map (·.p)) := Lib.hid (HST.out (by intro e; injection e with e1 e2 e3 e4 e5; exact h_tt e5))
        have hq_tt : (tt1 != tt2) = true := by simpa using h_tt
        clear HSP HST HI
        go_wp2
        go_ret
        exact ⟨by rw [HFIN.out, decide_eq_false HX.out]; rfl, hxw⟩
      ·have HX : Hid (¬ xs.map (·.p) = ys.map (·.p)) := Lib.hid (HST.out (by intro e; injection e with e1 e2 e3 e4 e5; exact h_fr e4))
       have hq_fr : (fr1 != fr2) = true := by simpa using h_fr
       clear HSP HST HI
       go_wp2
       go_ret
       exact ⟨by rw [HFIN.out, decide_eq_false HX.out]; rfl, hxw⟩
     ·have HX : Hid (¬ xs.map (·.p) = ys.map (·.p)) := Lib.hid (HST.out (by intro e; injection e with e1 e2 e3 e4 e5; exact h_st e2))
      have hq_st : (st1 != st2) = true := by simpa using h_st
      clear HSP HST HI
      go_wp2
      go_ret
      exact ⟨by rw [HFIN.out, decide_eq_false HX.out]; rfl, hxw⟩
    ·have HX : Hid (¬ xs.map (·.p) = ys.map (·.p)) := Lib.hid (HST.out (by intro e; injection e with e1 e2 e3 e4 e5; exact h_im e1))
     have hq_im : (im1 != im2) = true := by simpa using h_im
     clear HSP HST HI
     go_wp2
     go_ret
     exact ⟨by rw [HFIN.out, decide_eq_false HX.out]; rfl, hxw⟩
   ·have hxy : xs.map (·.p) = ys.map (·.p) := by
     have := H.out
     rwa [List.take_of_length_le (by rw [List.length_map, L1.out]; omega), List.take_of_length_le (by rw [List.length_map, L2.out]; omega)] at this
    have hft : fin = true := by rw [HFIN.out, decide_eq_true hxy]
    have HFT := Lib.hid hft
    clear hxy hft
    go_wp2
    go_ret
    exact ⟨by rw [HFT.out]; rfl, hx⟩
 ·have hd : ((n1 : Int) != (n2 : Int)) = true := by simp; omega
  have hxy : ¬ xs.map (·.p) = ys.map (·.p) := by
   intro h
   have := congrArg List.length h
   rw [List.length_map, List.length_map, L1.out, L2.out] at this
   exact hne this
  rw [decide_eq_false hxy]
  clear hxy
  go_enter Try.func18, Try.ntmps18
  go_wp2
  go_ret
  exact ⟨rfl, Below.refl _ _⟩
end Go.Proofs.Ytmlabgmigakcbaa
namespace Go.Proofs.Ytmlabgmigakcbaa
open Go.RowKit
set_option maxRecDepth 100000 in
set_option maxHeartbeats 4000000 in
theorem rstation_any (x : Int) (sts : List Stn) (SA : Option Addr) (n c : Nat) (w : World) (hs : RA stnCells 6 w w.heap.size SA n c sts) :
  Calls Try.prog 45 #[.slice SA n c, .int .i64 x] w fun e w' => e = .returned (.int .i64 (stI x 0 sts)) ∧ w = w' := by
 have hle := hs.le
 have HL := Lib.hid hs
 obtain ⟨fin, hfin⟩ : ∃ y, y = stI x 0 sts := ⟨_, rfl⟩
 rw [← hfin]
 have HF0 : Hid (fin = stI x 0 (sts.drop 0)) := Lib.hid hfin
 clear hfin hs
 go_enter Try.func45, Try.ntmps45
 go_wp2
 go_loopw [5] (fun y wr => ∃ k : Nat, k ≤ n ∧ y = .int .i64 k ∧ Hid (fin = stI x k (sts.drop k)) ∧ wr = w) (fun y _ => n - (intOf y).toNat)
 case atStart => exact ⟨0, Nat.zero_le _, rfl, HF0, rfl⟩
 case round =>
  clear HF0
  obtain ⟨k, hk, rfl, HF, rfl⟩ := hrel
  by_cases hkn : k < n
  ·obtain ⟨b, ob, hz, hA, _, hc⟩ := HL.out.at_ stn_len hkn
   have hst := HF.out
   rw [List.drop_eq_getElem_cons hz, stI_cons] at hst
   have c0 : wr.cell? ⟨b, ob + k * 6, none⟩ = some (.int .i64 sts[k].id) := hc 0 (by omega)
   generalize sts[k] = s at hst c0
   obtain ⟨sid, scl, sre, san, ssk⟩ := s
   dsimp only at hst c0
   have HST := Lib.hid hst
   subst hA
   clear hc hz hst HF
   by_cases hxy : sid = x
   ·have hft : fin = (k : Int) := by rw [HST.out, if_pos hxy]
    have HFT := Lib.hid hft
    subst hxy
    clear hft HST
    go_wp2
    go_ret
    exact ⟨by rw [HFT.out]; rfl, rfl⟩
   ·have HN2 : Hid (fin = stI x (k + 1) (sts.drop (k + 1))) := Lib.hid (by rw [HST.out, if_neg hxy])
    have hxy1 : (sid == x) = false := by simpa using hxy
    clear HST
    go_wp2
    go_roundw
    case rel => exact ⟨k + 1, by omega, by go_num, HN2, (by first | rfl | trivial)⟩
    case measure => simp [intOf]; omega
  ·have hff : fin = -1 := by rw [HF.out, List.drop_of_length_le (by rw [HL.out.len]; omega)]; rfl
   have HFF := Lib.hid hff
   clear hff HF
   go_wp2
   go_ret
   exact ⟨by rw [HFF.out]; rfl, rfl⟩
set_option maxRecDepth 100000 in
set_option maxHeartbeats 4000000 in
theorem rset_any (ps : List Pas) (lost : List Int) (PA LA : Option Addr) (pn pc n c : Nat) (w : World) (hp : RA pasCells 6 w w.heap.size PA pn pc ps) (hl : RA intCells 1 w w.heap.size LA n c lost) :
  Calls Try.prog 87 #[.slice PA pn pc, .slice LA n c] w fun e w' => e = .returned (.bool (setR ps.length (-1) lost && properP ps)) ∧ Ext w w' := by
 have hle := hl.le
 have hple := hp.le
 have HPR := Lib.hid (fun (W : World) (hW : Ext w W) => rproper_any ps PA pn pc W (ra_ext hp hW))
 have HL := Lib.hid hl
 rw [hp.len]
 obtain ⟨fin, hfin⟩ : ∃ x, x = (setR pn (-1) lost && properP ps) := ⟨_, rfl⟩
 rw [← hfin]
 have HF0 : Hid (fin = (setR pn (-1) (lost.drop 0) && properP ps)) := Lib.hid hfin
 clear hfin hp hl
 go_enter Try.func87, Try.ntmps87
 go_wp2
 go_loopw [5] (fun y wr => ∃ (k : Nat) (p : Int), k ≤ n ∧ y = .int .i64 k ∧ Hid (fin = (setR pn p (lost.drop k) && properP ps)) ∧ (k = 0 → p = -1) ∧ (0 < k → 0 ≤ p ∧ Hid (∀ b o, LA = some ⟨b, o, none⟩ → w.cell? ⟨b, o + (k - 1), none⟩ = some (.int .i64 p))) ∧ Ext w wr) (fun y _ => n - (intOf y).toNat)
 case atStart => exact ⟨0, -1, Nat.zero_le _, rfl, HF0, fun _ => rfl, fun h => absurd h (by omega), Ext.refl _⟩
 case round =>
  clear HF0
  obtain ⟨k, p, hk, rfl, HF, hp0, hp1, hx⟩ := hrel
  by_cases hkn : k < n
  ·obtain ⟨b, ob, hz, hA, _, hc⟩ := HL.out.at_ int_len hkn
   have hst := HF.out
   rw [List.drop_eq_getElem_cons hz, setR_cons] at hst
   have hc1 : ∀ b' o', LA = some ⟨b', o', none⟩ → w.cell? ⟨b', o' + k, none⟩ = some (.int .i64 lost[k]) := by
    intro b' o' e
    rw [hA] at e
    injection e with e
    injection e with e1 e2 _
    subst e1 e2
    have := hc 0 (by omega)
    rw [Nat.mul_one] at this
    exact this
   generalize lost[k] = x at hst hc hc1
   have c0 : wr.cell? ⟨b, ob + k, none⟩ = some (.int .i64 x) := ext_cell hx (hc1 b ob hA)
   have HC1 := Lib.hid hc1
   have HST := Lib.hid hst
   have hp1' : 0 < k → 0 ≤ p ∧ wr.cell? ⟨b, ob + (k - 1), none⟩ = some (.int .i64 p) := fun h => ⟨(hp1 h).1, ext_cell hx ((hp1 h).2.out b ob hA)⟩
   clear hc hz hst hc1 hp1 HF
   have HLA := Lib.hid hA
   have hkz : (k : Int) < (n : Int) := by omega
   clear HL
   subst hA
   go_upto_region 4 with (fail)
   by_cases hx0 : x < 0
   ·have hff : fin = false := by rw [HST.out, decide_eq_false (by intro h; rcases Nat.eq_zero_or_pos k with e | e; (have := hp0 e; omega); (have := (hp1' e).1; omega))]; rfl
    have HFF := Lib.hid hff
    have hx0' : decide (x < 0) = true := decide_eq_true hx0
    clear hff HST hp0 hp1'
    go_quiet (fail)
    have HY : Hid (Ext w (wr.drewN nq)) := Lib.hid (Ext.trans hx (by repeat (first | exact Below.refl _ _ | assumption | refine Below.drew ?_ | refine below_drewN ?_ _ | refine bl_alloc ?_ _ | refine Below.setCell ?_ (by first | (simp; done) | omega | (simp; omega)) _ | refine bl_then ?_ (by assumption))))
    clear hx
    go_wp2
    go_ret
    exact ⟨by rw [HFF.out]; rfl, HY.out⟩
   ·have hx0' : decide (x < 0) = false := decide_eq_false hx0
    by_cases hxn : (pn : Int) ≤ x
    ·have hff : fin = false := by rw [HST.out, decide_eq_false (by omega)]; rfl
     have HFF := Lib.hid hff
     have hxn' : decide ((pn : Int) ≤ x) = true := decide_eq_true hxn
     clear hff HST hp0 hp1'
     go_quiet (fail)
     have HY : Hid (Ext w (wr.drewN nq)) := Lib.hid (Ext.trans hx (by repeat (first | exact Below.refl _ _ | assumption | refine Below.drew ?_ | refine below_drewN ?_ _ | refine bl_alloc ?_ _ | refine Below.setCell ?_ (by first | (simp; done) | omega | (simp; omega)) _ | refine bl_then ?_ (by assumption))))
     clear hx
     go_wp2
     go_ret
     exact ⟨by rw [HFF.out]; rfl, HY.out⟩
    ·have hxn' : decide ((pn : Int) ≤ x) = false := decide_eq_false hxn
     by_cases hk0 : k = 0
     ·subst hk0
      have hp := hp0 rfl
      subst hp
      have HN2 : Hid (fin = (setR pn x (lost.drop 1) && properP ps)) := Lib.hid (by rw [HST.out, decide_eq_true (by omega)]; rfl)
      have c0' : wr.cell? ⟨b, ob, none⟩ = some (.int .i64 x) := c0
      clear HST hp0 hp1' c0
      go_quiet (fail)
      have HY : Hid (Ext w (wr.drewN nq)) := Lib.hid (Ext.trans hx (by repeat (first | exact Below.refl _ _ | assumption | refine Below.drew ?_ | refine below_drewN ?_ _ | refine bl_alloc ?_ _ | refine Below.setCell ?_ (by first | (simp; done) | omega | (simp; omega)) _ | refine bl_then ?_ (by assumption))))
      clear hx
      go_wp2
      go_roundw
      case rel => exact ⟨1, x, by omega, by go_num, HN2, fun h => absurd h (by omega), fun _ => ⟨by omega, Lib.hid (fun b' o' e => HC1.out b' o' e)⟩, HY.out⟩
      case measure => simp [intOf]; omega
     ·obtain ⟨hpn, cp⟩ := hp1' (by omega)
      have hk2 : (0 : Int) < (k : Int) := by omega
      have hk2' : decide ((0 : Int) < (k : Int)) = true := decide_eq_true hk2
      have hk3 : (0 : Int) ≤ (k : Int) - 1 := by omega
      have hk4 : (k : Int) - 1 < (n : Int) := by omega
      obtain ⟨k1, hk5⟩ : ∃ k1, k = k1 + 1 := ⟨k - 1, by omega⟩
      subst hk5
      have hw1 : IntKind.i64.wrap (((k1 + 1 : Nat) : Int) - 1) = (k1 : Int) := by
       rw [IntWalk.i64_in _ (by omega)]
       omega
      have hk6 : ((k1 + 1 : Nat) : Int) - 1 = (k1 : Int) := by omega
      have cp' : wr.cell? ⟨b, ob + k1, none⟩ = some (.int .i64 p) := cp
      clear cp hp0 hp1'
      by_cases hxp : x ≤ p
      ·have hff : fin = false := by rw [HST.out, decide_eq_false (by omega)]; rfl
       have HFF := Lib.hid hff
       have hxp' : decide (x ≤ p) = true := decide_eq_true hxp
       clear hff HST
       go_quiet (fail)
       have HY : Hid (Ext w (wr.drewN nq)) := Lib.hid (Ext.trans hx (by repeat (first | exact Below.refl _ _ | assumption | refine Below.drew ?_ | refine below_drewN ?_ _ | refine bl_alloc ?_ _ | refine Below.setCell ?_ (by first | (simp; done) | omega | (simp; omega)) _ | refine bl_then ?_ (by assumption))))
       clear hx
       go_wp2
       go_ret
       exact ⟨by rw [HFF.out]; rfl, HY.out⟩
      ·have HN2 : Hid (fin = (setR pn x (lost.drop (k1 + 1 + 1)) && properP ps)) := Lib.hid (by rw [HST.out, decide_eq_true (by omega)]; rfl)
       have hxp' : decide (x ≤ p) = false := decide_eq_false hxp
       clear HST
       go_quiet (fail)
       have HY : Hid (Ext w (wr.drewN nq)) := Lib.hid (Ext.trans hx (by repeat (first | exact Below.refl _ _ | assumption | refine Below.drew ?_ | refine below_drewN ?_ _ | refine bl_alloc ?_ _ | refine Below.setCell ?_ (by first | (simp; done) | omega | (simp; omega)) _ | refine bl_then ?_ (by assumption))))
       clear hx
       go_wp2
       go_roundw
       case rel => exact ⟨k1 + 1 + 1, x, by omega, by go_num, HN2, fun h => absurd h (by omega), fun _ => ⟨by omega, Lib.hid (fun b' o' e => HC1.out b' o' e)⟩, HY.out⟩
       case measure => simp [intOf]; omega
  ·have hst := HF.out
   rw [List.drop_of_length_le (by rw [HL.out.len]; omega), setR, Bool.true_and] at hst
   have HST := Lib.hid hst
   have HC := Lib.hid (HPR.out wr hx)
   have HX := Lib.hid hx
   clear hst HF hp0 hp1 hx
   go_wp2_with fail
   refine HC.out.mono ?_
   rintro e W ⟨rfl, hy⟩
   go_wp2
   go_ret
   exact ⟨by rw [HST.out]; rfl, Ext.trans HX.out hy⟩
set_option maxRecDepth 100000 in
set_option maxHeartbeats 4000000 in
theorem rsent0_any (o : Opt) (lost : List Int) (LA : Option Addr) (ln lc : Nat) (w : World) (ho : RA sltCells 3 w w.heap.size o.a o.n o.c o.l) (hl : RA intCells 1 w w.heap.size LA ln lc lost) :
  Calls Try.prog 88 #[.agg (optCells o).toArray, .slice LA ln lc] w fun e w' => e = .returned (.int .i64 (sentI lost 0 o.l)) ∧ Ext w w' := by
 obtain ⟨id, i1, i2, i3, i4, i5, i6, i7, a, n, c, l⟩ := o
 dsimp only at ho ⊢
 have hle := ho.le
 obtain ⟨fin, hfin⟩ : ∃ y, y = sentI lost 0 l := ⟨_, rfl⟩
 rw [← hfin]
 have HF0 : Hid (fin = sentI lost 0 (l.drop 0)) := Lib.hid hfin
 clear hfin
 show Calls Try.prog 88 #[.agg #[.int .i64 id, .int .i64 i1, .int .i64 i2, .int .i64 i3, .int .i64 i4, .int .i64 i5, .int .i64 i6, .int .i64 i7, .slice a n c], .slice LA ln lc] w _
 go_enter Try.func88, Try.ntmps88
 go_upto_region 1 with (fail)
 have hx1 : Ext w (w.alloc (.cells #[.int .i64 id, .int .i64 i1, .int .i64 i2, .int .i64 i3, .int .i64 i4, .int .i64 i5, .int .i64 i6, .int .i64 i7, .slice a n c] 32)) := bl_alloc (Below.refl _ _) _
 have J := Blk.new w 32 #[.int .i64 id, .int .i64 i1, .int .i64 i2, .int .i64 i3, .int .i64 i4, .int .i64 i5, .int .i64 i6, .int .i64 i7, .slice a n c]
 obtain ⟨g3, hg3⟩ : ∃ g, g = w.heap.size := ⟨_, rfl⟩
 rw [← hg3] at J ⊢
 clear hg3
 generalize w.alloc (.cells #[.int .i64 id, .int .i64 i1, .int .i64 i2, .int .i64 i3, .int .i64 i4, .int .i64 i5, .int .i64 i6, .int .i64 i7, .slice a n c] 32) = W1 at hx1 J ⊢
 have d8 : W1.cell? ⟨g3, 8, none⟩ = some (.slice a n c) := J.cell 8
 have d8' : W1.cell? ⟨g3, 7 + 1, none⟩ = some (.slice a n c) := d8
 have HL := Lib.hid (ra_ext hl hx1)
 have HO := Lib.hid (ra_ext ho hx1)
 have HX := Lib.hid hx1
 clear J hx1 hl ho
 go_wp2_with fail
 go_loopw [5] (fun y wr => ∃ k : Nat, k ≤ n ∧ y = .int .i64 k ∧ Hid (fin = sentI lost k (l.drop k)) ∧ wr = W1) (fun y _ => n - (intOf y).toNat)
 case atStart => exact ⟨0, Nat.zero_le _, rfl, HF0, rfl⟩
 case round =>
  clear HF0
  obtain ⟨k, hk, rfl, HF, rfl⟩ := hrel
  by_cases hkn : k < n
  ·obtain ⟨b, ob, hz, hA, _, hc⟩ := HO.out.at_ slt_len hkn
   have hst := HF.out
   rw [List.drop_eq_getElem_cons hz, sentI_cons] at hst
   have c0 : wr.cell? ⟨b, ob + k * 3, none⟩ = some (.int .i64 l[k].p) := hc 0 (by omega)
   have hH := has_any lost l[k].p LA ln lc wr HL.out
   generalize l[k].p = x at hst c0 hH
   generalize hasI lost x = q at hst hH
   have HST := Lib.hid hst
   have HH := Lib.hid hH
   subst hA
   have hkz : (k : Int) < (n : Int) := by omega
   clear hc hz hst hH HF
   cases q
   ·have hft : fin = (k : Int) := by rw [HST.out]; rfl
    have HFT := Lib.hid hft
    clear hft HST
    go_wp2_with (refine HH.out.mono ?_; rintro e w2 ⟨rfl, rfl⟩)
    go_ret
    exact ⟨by rw [HFT.out]; rfl, HX.out⟩
   ·have HN2 : Hid (fin = sentI lost (k + 1) (l.drop (k + 1))) := Lib.hid (by rw [HST.out]; rfl)
    clear HST
    go_wp2_with (refine HH.out.mono ?_; rintro e w2 ⟨rfl, rfl⟩)
    go_roundw
    case rel => exact ⟨k + 1, by omega, by go_num, HN2, (by first | rfl | trivial)⟩
    case measure => simp [intOf]; omega
  ·have hff : fin = -1 := by rw [HF.out, List.drop_of_length_le (by rw [HO.out.len]; omega)]; rfl
   have HFF := Lib.hid hff
   clear hff HF
   go_wp2
   go_ret
   exact ⟨by rw [HFF.out]; rfl, HX.out⟩
end Go.Proofs.Ytmlabgmigakcbaa
namespace Go.Proofs.Ytmlabgmigakcbaa
open Go.RowKit
def prevT (l : List Slt) (k : Nat) : Int := if k = 0 then 0 else ttAt l (k - 1)
theorem prevT_succ (l : List Slt) (k : Nat) (h : k < l.length) : prevT l (k + 1) = l[k].tt := by
 unfold prevT
 rw [if_neg (by omega), Nat.add_sub_cancel, ttAt_eq h]
theorem proper_sure {ps : List Pas} (h : properP ps = true) {p : Pas} (hp : p ∈ ps) : 0 ≤ p.sure.fr := by
 unfold properP at h
 simp only [Bool.and_eq_true] at h
 exact (pas_bd (List.all_eq_true.1 h.1.2 p hp)).1
set_option maxRecDepth 100000 in
set_option maxHeartbeats 8000000 in
theorem rloss_valid (o : Opt) (ps : List Pas) (PA : Option Addr) (pn pc : Nat) (w : World) (ho : RA sltCells 3 w w.heap.size o.a o.n o.c o.l) (hp : RA pasCells 6 w w.heap.size PA pn pc ps) :
  Calls Try.prog 46 #[.agg (optCells o).toArray, .slice PA pn pc] w fun e w' => e = .returned (.bool (properP ps && lossOK ps o.l)) ∧ Ext w w' := by
 obtain ⟨id, i1, i2, i3, i4, i5, i6, i7, a, n, c, l⟩ := o
 dsimp only at ho ⊢
 show Calls Try.prog 46 #[.agg #[.int .i64 id, .int .i64 i1, .int .i64 i2, .int .i64 i3, .int .i64 i4, .int .i64 i5, .int .i64 i6, .int .i64 i7, .slice a n c], .slice PA pn pc] w _
 have hle := ho.le
 have hple := hp.le
 have HO := Lib.hid ho
 have HP := Lib.hid hp
 have HL := Lib.hid ho.len
 have HPL := Lib.hid hp.len
 have hPR := (fun (W : World) (hW : Ext w W) => rproper_any ps PA pn pc W (ra_ext hp hW))
 have hPB := (fun (h : properP ps = true) (p : Pas) (hm : p ∈ ps) => proper_sure h hm)
 have hlo : lossOK ps l = (decide (1 ≤ n ∧ n ≤ 6) && slotsOK ps 0 l) := by rw [lossOK, ho.len]
 rw [hlo]
 clear ho hp hlo
 obtain ⟨vt, hvt⟩ : ∃ b, b = (properP ps && (decide (1 ≤ n ∧ n ≤ 6) && slotsOK ps 0 l)) := ⟨_, rfl⟩
 rw [← hvt]
 generalize properP ps = q at hvt hPR hPB
 have HVT := Lib.hid hvt
 have HPR := Lib.hid hPR
 have HPB := Lib.hid hPB
 clear hvt hPR hPB
 go_enter Try.func46, Try.ntmps46
 go_upto_region 1 with (fail)
 have hx0 : Ext w (w.alloc (.cells #[.int .i64 id, .int .i64 i1, .int .i64 i2, .int .i64 i3, .int .i64 i4, .int .i64 i5, .int .i64 i6, .int .i64 i7, .slice a n c] 32)) := bl_alloc (Below.refl _ _) _
 have J := Blk.new w 32 #[.int .i64 id, .int .i64 i1, .int .i64 i2, .int .i64 i3, .int .i64 i4, .int .i64 i5, .int .i64 i6, .int .i64 i7, .slice a n c]
 obtain ⟨g2, hg2⟩ : ∃ g, g = w.heap.size := ⟨_, rfl⟩
 rw [← hg2] at J ⊢
 clear hg2
 generalize w.alloc (.cells #[.int .i64 id, .int .i64 i1, .int .i64 i2, .int .i64 i3, .int .i64 i4, .int .i64 i5, .int .i64 i6, .int .i64 i7, .slice a n c] 32) = W1 at hx0 J ⊢
 have HJ := Lib.hid J
 clear J
 go_wp2_with fail
 refine (HPR.out _ hx0).mono ?_
 rintro e W2 ⟨rfl, hy⟩
 have HX2 := Lib.hid (Ext.trans hx0 hy)
 have HJ2 := Lib.hid (HJ.out.ext hy)
 clear HPR hy hx0 HJ
 have e7 : W2.cell? ⟨g2, 7 + 1, none⟩ = some (.slice a n c) := HJ2.out.cell 8
 cases q
 ·have hvt := HVT.out
  rw [Bool.false_and] at hvt
  subst hvt
  go_wp2_with fail
  go_ret
  exact ⟨rfl, HX2.out⟩
 by_cases h1 : 1 ≤ n
 case neg =>
  have hvt := HVT.out
  rw [decide_eq_false (show ¬ (1 ≤ n ∧ n ≤ 6) from fun h => h1 h.1), Bool.false_and, Bool.and_false] at hvt
  subst hvt
  have h1' : (n : Int) < 1 := by omega
  go_wp2_with fail
  go_ret
  exact ⟨rfl, HX2.out⟩
 by_cases h6 : n ≤ 6
 case neg =>
  have hvt := HVT.out
  rw [decide_eq_false (show ¬ (1 ≤ n ∧ n ≤ 6) from fun h => h6 h.2), Bool.false_and, Bool.and_false] at hvt
  subst hvt
  have h1' : ¬ (n : Int) < 1 := by omega
  have h6' : (6 : Int) < (n : Int) := by omega
  have h1b : decide ((n : Int) < 1) = false := decide_eq_false h1'
  have h6b : decide ((6 : Int) < (n : Int)) = true := decide_eq_true h6'
  go_wp2_with fail
  go_ret
  exact ⟨rfl, HX2.out⟩
 have HV0 : Hid (vt = slotsOK ps (prevT l 0) (l.drop 0)) := Lib.hid (by
  have hvt := HVT.out
  rw [decide_eq_true (show 1 ≤ n ∧ n ≤ 6 from ⟨h1, h6⟩), Bool.true_and, Bool.true_and] at hvt
  exact hvt)
 have h1' : ¬ (n : Int) < 1 := by omega
 have h6' : ¬ (6 : Int) < (n : Int) := by omega
 have h1b : decide ((n : Int) < 1) = false := decide_eq_false h1'
 have h6b : decide ((6 : Int) < (n : Int)) = false := decide_eq_false h6'
 clear HVT
 go_wp2_with fail
 go_loopw [6] (fun z wr => ∃ k : Nat, k ≤ n ∧ z = .int .i64 k ∧ Hid (vt = slotsOK ps (prevT l k) (l.drop k)) ∧ Ext W2 wr) (fun z _ => n - (intOf z).toNat)
 case atStart => exact ⟨0, Nat.zero_le _, rfl, HV0, Ext.refl _⟩
 case round =>
  clear HV0 e7 h1' h6' h1b h6b
  obtain ⟨k, hk, rfl, HV, hx⟩ := hrel
  have e7 : wr.cell? ⟨g2, 7 + 1, none⟩ = some (.slice a n c) := (HJ2.out.ext hx).cell 8
  by_cases hkn : k < n
  ·have HO2 := Lib.hid (HO.out.below (Ext.trans HX2.out hx))
   obtain ⟨b, o, hz, hA, _, hc⟩ := HO2.out.at_ slt_len hkn
   have hst := HV.out
   rw [List.drop_eq_getElem_cons hz, slotsOK_cons] at hst
   have hsu := prevT_succ l k hz
   generalize l[k] = s at hst hc hsu
   obtain ⟨sp, sf, st⟩ := s
   dsimp only at hst hsu
   rw [show slotsOK ps st (l.drop (k + 1)) = slotsOK ps (prevT l (k + 1)) (l.drop (k + 1)) by rw [hsu]] at hst
   have HSU := Lib.hid hsu
   have hprev : ∀ k1, k = k1 + 1 → wr.cell? ⟨b, o + k1 * 3 + 2, none⟩ = some (.int .i64 (prevT l k)) := fun k1 e => by
    subst e
    obtain ⟨b', o', hz', hA', _, hc'⟩ := HO2.out.at_ slt_len (show k1 < n by omega)
    rw [hA] at hA'
    injection hA' with hA'
    injection hA' with hb1 hb2 _
    subst hb1 hb2
    rw [prevT_succ l k1 hz']
    exact hc' 2 (by omega)
   have hp0 : k = 0 → prevT l k = 0 := fun e => by unfold prevT; rw [if_pos e]
   generalize prevT l k = e at hst hprev hp0
   have c0 : wr.cell? ⟨b, o + k * 3, none⟩ = some (.int .i64 sp) := hc 0 (by omega)
   have c1 : wr.cell? ⟨b, o + k * 3 + 1, none⟩ = some (.int .i64 sf) := hc 1 (by omega)
   have c2 : wr.cell? ⟨b, o + k * 3 + 2, none⟩ = some (.int .i64 st) := hc 2 (by omega)
   have hkz : (k : Int) < (n : Int) := by omega
   have HPV := Lib.hid hprev
   have HP0 := Lib.hid hp0
   subst hA
   have HST := Lib.hid hst
   clear hst hc hz HV hsu hprev hp0 HO2
   go_upto_region 8 with (fail)
   have hy : Ext wr (wr.alloc (.cells #[.int .i64 sp, .int .i64 sf, .int .i64 st] 78)) := bl_alloc (Below.refl _ _) _
   have J := Blk.new wr 78 #[.int .i64 sp, .int .i64 sf, .int .i64 st]
   obtain ⟨g7, hg7⟩ : ∃ g, g = wr.heap.size := ⟨_, rfl⟩
   rw [← hg7] at J ⊢
   clear hg7
   generalize wr.alloc (.cells #[.int .i64 sp, .int .i64 sf, .int .i64 st] 78) = W3 at hy J ⊢
   have hx := Ext.trans hx hy
   have d0 : W3.cell? ⟨g7, 0, none⟩ = some (.int .i64 sp) := J.cell 0
   have HPV := Lib.hid (fun k1 e => ext_cell hy (HPV.out k1 e))
   clear c0 c1 c2 hy e7
   by_cases hp0 : sp < 0
   ·have hst := HST.out
    rw [show inB sp 0 ((ps.length : Int) - 1) = false by simp [inB]; omega, Bool.false_and, Bool.false_and] at hst
    subst hst
    go_wp2_with fail
    go_ret
    exact ⟨rfl, Ext.trans HX2.out hx⟩
   by_cases hp1 : (pn : Int) ≤ sp
   ·have hst := HST.out
    rw [show inB sp 0 ((ps.length : Int) - 1) = false by rw [HPL.out]; simp [inB]; omega, Bool.false_and, Bool.false_and] at hst
    subst hst
    go_wp2_with fail
    go_ret
    exact ⟨rfl, Ext.trans HX2.out hx⟩
   obtain ⟨m, rfl, hm⟩ : ∃ m : Nat, sp = m ∧ m < pn := ⟨sp.toNat, by omega, by omega⟩
   obtain ⟨bp, op, hzp, hPA, _, hcp⟩ := (HP.out.below (Ext.trans HX2.out hx)).at_ pas_len hm
   have hst := HST.out
   rw [show inB (m : Int) 0 ((ps.length : Int) - 1) = true by rw [HPL.out, inB_iff]; omega, Bool.true_and, Int.toNat_natCast, List.getElem?_eq_getElem hzp] at hst
   dsimp only at hst
   have hpa0 := HPB.out (by first | rfl | trivial) ps[m] (List.getElem_mem hzp)
   generalize ps[m] = p at hst hcp hpa0
   obtain ⟨psa, psn, ⟨pa, pb⟩, ⟨pc1, pd⟩⟩ := p
   dsimp only at hst hpa0
   have f2 : W3.cell? ⟨bp, op + m * 6 + 2, none⟩ = some (.int .i64 pa) := hcp 2 (by omega)
   have f3 : W3.cell? ⟨bp, op + m * 6 + 3, none⟩ = some (.int .i64 pb) := hcp 3 (by omega)
   subst hPA
   have HST2 := Lib.hid hst
   have hmp : (m : Int) < (pn : Int) := by omega
   have HJ3 := Lib.hid J
   clear hst hcp hzp HST J
   go_upto_region 11 with (fail)
   have hy : Ext W3 (W3.alloc (.cells #[.int .i64 pa, .int .i64 pb] 29)) := bl_alloc (Below.refl _ _) _
   have J := Blk.new W3 29 #[.int .i64 pa, .int .i64 pb]
   obtain ⟨g8, hg8⟩ : ∃ g, g = W3.heap.size := ⟨_, rfl⟩
   rw [← hg8] at J ⊢
   clear hg8
   generalize W3.alloc (.cells #[.int .i64 pa, .int .i64 pb] 29) = W4 at hy J ⊢
   have hx := Ext.trans hx hy
   have J3 := HJ3.out.ext hy
   have e7 : W4.cell? ⟨g2, 7 + 1, none⟩ = some (.slice (some ⟨b, o, none⟩) n c) := (HJ2.out.ext hx).cell 8
   have d1 : W4.cell? ⟨g7, 1, none⟩ = some (.int .i64 sf) := J3.cell 1
   have d2 : W4.cell? ⟨g7, 2, none⟩ = some (.int .i64 st) := J3.cell 2
   have d2' : W4.cell? ⟨g7, 1 + 1, none⟩ = some (.int .i64 st) := d2
   have k0 : W4.cell? ⟨g8, 0, none⟩ = some (.int .i64 pa) := J.cell 0
   have k1s : W4.cell? ⟨g8, 1, none⟩ = some (.int .i64 pb) := J.cell 1
   have HPV := Lib.hid (fun k1 e => ext_cell hy (HPV.out k1 e))
   clear f2 f3 d0 hy HJ3 J3 J
   by_cases hc1 : sf < pa
   ·have hst := HST2.out
    rw [decide_eq_false (show ¬ max e pa ≤ sf by omega), Bool.false_and, Bool.false_and, Bool.false_and] at hst
    have hc1' : decide (sf < pa) = true := decide_eq_true hc1
    clear HST2 HPV HP0
    go_quiet (fail)
    have HY : Hid (Ext W2 (W4.drewN nq)) := Lib.hid (Ext.trans hx (by repeat (first | exact Below.refl _ _ | assumption | refine Below.drew ?_ | refine below_drewN ?_ _ | refine bl_alloc ?_ _ | refine Below.setCell ?_ (by first | (simp; done) | omega | (simp; omega)) _ | refine bl_then ?_ (by assumption))))
    clear hx
    subst hst
    go_wp2
    go_ret
    exact ⟨rfl, Ext.trans HX2.out HY.out⟩
   have hc1' : decide (sf < pa) = false := decide_eq_false hc1
   by_cases hc2 : st ≤ sf
   ·have hst := HST2.out
    rw [decide_eq_false (show ¬ sf < st by omega), Bool.and_false, Bool.false_and, Bool.false_and] at hst
    have hc2' : decide (st ≤ sf) = true := decide_eq_true hc2
    clear HST2 HPV HP0
    go_quiet (fail)
    have HY : Hid (Ext W2 (W4.drewN nq)) := Lib.hid (Ext.trans hx (by repeat (first | exact Below.refl _ _ | assumption | refine Below.drew ?_ | refine below_drewN ?_ _ | refine bl_alloc ?_ _ | refine Below.setCell ?_ (by first | (simp; done) | omega | (simp; omega)) _ | refine bl_then ?_ (by assumption))))
    clear hx
    subst hst
    go_wp2
    go_ret
    exact ⟨rfl, Ext.trans HX2.out HY.out⟩
   have hc2' : decide (st ≤ sf) = false := decide_eq_false hc2
   by_cases hc3 : pb < st
   ·have hst := HST2.out
    rw [decide_eq_false (show ¬ st ≤ pb by omega), Bool.and_false, Bool.false_and] at hst
    have hc3' : decide (pb < st) = true := decide_eq_true hc3
    clear HST2 HPV HP0
    go_quiet (fail)
    have HY : Hid (Ext W2 (W4.drewN nq)) := Lib.hid (Ext.trans hx (by repeat (first | exact Below.refl _ _ | assumption | refine Below.drew ?_ | refine below_drewN ?_ _ | refine bl_alloc ?_ _ | refine Below.setCell ?_ (by first | (simp; done) | omega | (simp; omega)) _ | refine bl_then ?_ (by assumption))))
    clear hx
    subst hst
    go_wp2
    go_ret
    exact ⟨rfl, Ext.trans HX2.out HY.out⟩
   have hc3' : decide (pb < st) = false := decide_eq_false hc3
   by_cases hk0 : k = 0
   ·have he := HP0.out hk0
    subst hk0
    have HN2 : Hid (vt = slotsOK ps (prevT l (0 + 1)) (l.drop (0 + 1))) := Lib.hid (by
     have hst := HST2.out
     rw [decide_eq_true (show max e pa ≤ sf by omega), decide_eq_true (show sf < st by omega), decide_eq_true (show st ≤ pb by omega), Bool.true_and, Bool.true_and, Bool.true_and] at hst
     exact hst)
    clear HST2 HPV HP0 he HSU
    go_quiet (fail)
    have HY : Hid (Ext W2 (W4.drewN nq)) := Lib.hid (Ext.trans hx (by repeat (first | exact Below.refl _ _ | assumption | refine Below.drew ?_ | refine below_drewN ?_ _ | refine bl_alloc ?_ _ | refine Below.setCell ?_ (by first | (simp; done) | omega | (simp; omega)) _ | refine bl_then ?_ (by assumption))))
    clear hx
    go_wp2
    go_roundw
    case rel => exact ⟨0 + 1, by omega, by go_num, HN2, HY.out⟩
    case measure => simp [intOf]; omega
   obtain ⟨k1, hk5⟩ : ∃ k1, k = k1 + 1 := ⟨k - 1, by omega⟩
   have cp := HPV.out k1 hk5
   subst hk5
   have cp' : W4.cell? ⟨b, o + k1 * 3 + 1 + 1, none⟩ = some (.int .i64 e) := cp
   have hk2 : (0 : Int) < ((k1 + 1 : Nat) : Int) := by omega
   have hk2' : decide ((0 : Int) < ((k1 + 1 : Nat) : Int)) = true := decide_eq_true hk2
   have hk3 : (0 : Int) ≤ ((k1 + 1 : Nat) : Int) - 1 := by omega
   have hk4 : ((k1 + 1 : Nat) : Int) - 1 < (n : Int) := by omega
   have hw1 : IntKind.i64.wrap (((k1 + 1 : Nat) : Int) - 1) = (k1 : Int) := by
    rw [IntWalk.i64_in _ (by omega)]
    omega
   have hk6 : ((k1 + 1 : Nat) : Int) - 1 = (k1 : Int) := by omega
   by_cases hc5 : sf < e
   ·have hst := HST2.out
    rw [decide_eq_false (show ¬ max e pa ≤ sf by omega), Bool.false_and, Bool.false_and, Bool.false_and] at hst
    have hc5' : decide (sf < e) = true := decide_eq_true hc5
    clear HST2 HPV HP0 HSU
    go_quiet (fail)
    have HY : Hid (Ext W2 (W4.drewN nq)) := Lib.hid (Ext.trans hx (by repeat (first | exact Below.refl _ _ | assumption | refine Below.drew ?_ | refine below_drewN ?_ _ | refine bl_alloc ?_ _ | refine Below.setCell ?_ (by first | (simp; done) | omega | (simp; omega)) _ | refine bl_then ?_ (by assumption))))
    clear hx
    subst hst
    go_wp2
    go_ret
    exact ⟨rfl, Ext.trans HX2.out HY.out⟩
   ·have hc5' : decide (sf < e) = false := decide_eq_false hc5
    have HN2 : Hid (vt = slotsOK ps (prevT l (k1 + 1 + 1)) (l.drop (k1 + 1 + 1))) := Lib.hid (by
     have hst := HST2.out
     rw [decide_eq_true (show max e pa ≤ sf by omega), decide_eq_true (show sf < st by omega), decide_eq_true (show st ≤ pb by omega), Bool.true_and, Bool.true_and, Bool.true_and] at hst
     exact hst)
    clear HST2 HPV HP0 HSU
    go_quiet (fail)
    have HY : Hid (Ext W2 (W4.drewN nq)) := Lib.hid (Ext.trans hx (by repeat (first | exact Below.refl _ _ | assumption | refine Below.drew ?_ | refine below_drewN ?_ _ | refine bl_alloc ?_ _ | refine Below.setCell ?_ (by first | (simp; done) | omega | (simp; omega)) _ | refine bl_then ?_ (by assumption))))
    clear hx
    go_wp2
    go_roundw
    case rel => exact ⟨k1 + 1 + 1, by omega, by go_num, HN2, HY.out⟩
    case measure => simp [intOf]; omega
  ·have hst := HV.out
   rw [List.drop_of_length_le (by rw [HL.out]; omega), slotsOK] at hst
   subst hst
   have HX := Lib.hid (Ext.trans HX2.out hx)
   clear hx
   go_wp2_with fail
   go_ret
   exact ⟨rfl, HX.out⟩
end Go.Proofs.Ytmlabgmigakcbaa
