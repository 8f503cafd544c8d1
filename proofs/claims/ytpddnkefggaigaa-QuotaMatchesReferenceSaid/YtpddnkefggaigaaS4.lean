/- slices.Equal at ints and at loans. -/
import Derived.Test.YtpddnkefggaigaaS3
import Derived.Laws.StructEq
namespace Go.Proofs.Ytpddnkefggaigaa
open Go.RowKit

theorem take_succ_eq {α : Type} {xs ys : List α} {k : Nat} (h : xs.take k = ys.take k) (hx : k < xs.length) (hy : k < ys.length) (he : xs[k] = ys[k]) : xs.take (k + 1) = ys.take (k + 1) := by
  rw [List.take_succ_eq_append_getElem hx, List.take_succ_eq_append_getElem hy, h, he]
theorem ne_of_get {α : Type} {xs ys : List α} {k : Nat} (hx : k < xs.length) (hy : k < ys.length) (he : ¬ xs[k] = ys[k]) : ¬ xs = ys := by
  rintro rfl
  exact he rfl

theorem equal_int (A1 A2 : Option Addr) (n1 n2 c1 c2 : Nat) (xs ys : List Int) (w : World) (h1 : RI w w.heap.size ⟨A1, n1, c1⟩ xs) (h2 : RI w w.heap.size ⟨A2, n2, c2⟩ ys) :
    Calls Try.prog 42 #[.slice A1 n1 c1, .slice A2 n2 c2] w fun e w' => e = .returned (.bool (decide (xs = ys))) ∧ Below w.heap.size w w' := by
  have hn1 : n1 ≤ 1099511627776 := h1.le
  have hn2 : n2 ≤ 1099511627776 := h2.le
  have L1 : Hid (xs.length = n1) := h1.len
  have L2 : Hid (ys.length = n2) := h2.len
  by_cases hne : n1 = n2
  · subst hne
    have hd : ((n1 : Int) != (n1 : Int)) = false := by simp
    go_enter Try.func42, Try.ntmps42
    go_wp2
    go_loopw [13] (fun i wr => ∃ k : Nat, k ≤ n1 ∧ i = .int .i64 k ∧ Hid (xs.take k = ys.take k) ∧ Below w.heap.size w wr) (fun i _ => n1 - (intOf i).toNat)
    case atStart => exact ⟨0, Nat.zero_le _, rfl, rfl, Below.refl _ _⟩
    case round =>
      obtain ⟨k, hk, rfl, H, hB⟩ := hrel
      by_cases hlt : k < n1
      · obtain ⟨b, o, hz, hA, hb, hc⟩ := (h1.below hB).at_ hlt
        obtain ⟨b', o', hz', hA', hb', hc'⟩ := (h2.below hB).at_ hlt
        have hA : A1 = some ⟨b, o, none⟩ := hA
        have hA' : A2 = some ⟨b', o', none⟩ := hA'
        subst hA hA'
        have hstep := take_succ_eq (k := k) H.out hz hz'
        have hstop := ne_of_get (k := k) hz hz'
        generalize xs[k] = x at hc hstep hstop
        generalize ys[k] = y at hc' hstep hstop
        by_cases hxy : x = y
        · have HS := Lib.hid (hstep hxy)
          clear hstep hstop
          subst hxy
          have he : (x != x) = false := by simp
          go_wp2
          go_quiet (fail)
          go_wp2
          go_roundw
          case rel => exact ⟨k + 1, by omega, by go_num, HS.out, (by repeat (first | exact Below.refl _ _ | assumption | refine Below.drew ?_ | refine below_drewN ?_ _ | refine bl_alloc ?_ _ | refine Below.setCell ?_ (by first | (simp; done) | omega | (simp; omega)) _ | refine bl_then ?_ (by assumption)))⟩
          case measure => simp [intOf]; omega
        · have he : (x != y) = true := by simp [hxy]
          have HX := Lib.hid (hstop hxy)
          clear hxy hstep hstop
          go_wp2
          go_quiet (fail)
          go_wp2
          go_ret
          exact ⟨by rw [decide_eq_false HX.out]; rfl, (by repeat (first | exact Below.refl _ _ | assumption | refine Below.drew ?_ | refine below_drewN ?_ _ | refine bl_alloc ?_ _ | refine Below.setCell ?_ (by first | (simp; done) | omega | (simp; omega)) _ | refine bl_then ?_ (by assumption)))⟩
      · go_wp2
        go_ret
        refine ⟨?_, (by repeat (first | exact Below.refl _ _ | assumption | refine Below.drew ?_ | refine below_drewN ?_ _ | refine bl_alloc ?_ _ | refine Below.setCell ?_ (by first | (simp; done) | omega | (simp; omega)) _ | refine bl_then ?_ (by assumption)))⟩
        have hxy : xs = ys := by
          have := H.out
          rwa [List.take_of_length_le (by rw [L1.out]; omega), List.take_of_length_le (by rw [L2.out]; omega)] at this
        rw [decide_eq_true hxy]
        rfl
  · have hd : ((n1 : Int) != (n2 : Int)) = true := by simp; omega
    have hxy : ¬ xs = ys := by
      rintro rfl
      exact hne (L1.out.symm.trans L2.out)
    rw [decide_eq_false hxy]
    clear hxy
    go_enter Try.func42, Try.ntmps42
    go_wp2
    go_ret
    exact ⟨rfl, Below.refl _ _⟩

theorem neq_loan (a b : Loan) (w : World) : (binOp .neq 28 (.agg #[.int .i64 a.fr, .int .i64 a.to, .int .i64 a.units]) (.agg #[.int .i64 b.fr, .int .i64 b.to, .int .i64 b.units])).run Try.prog w = .ok (.bool (!decide (a = b))) w := by
  have u3 := Try.underlying3
  have hS : Try.prog.underlying 28 = some (.struct (Try.prog.fieldsOf 28)) := by kernel_rfl
  have hp : Try.prog.stoodInHeld 28 = false := by kernel_rfl
  have he : decide (a = b) = (a.fr == b.fr && (a.to == b.to && a.units == b.units)) := by
    obtain ⟨a1, a2, a3⟩ := a
    obtain ⟨b1, b2, b3⟩ := b
    rw [Bool.eq_iff_iff]
    simp
  rw [he, run_neq_struct, show (10000 : Nat) = 9999 + 1 from rfl, run_equalIn_agg w 9999 28 _ _ hS hp]
  simp only [Program.fieldsOf, Try.underlying28]
  go_simp
  by_cases h1 : a.fr = b.fr <;> by_cases h2 : a.to = b.to <;> by_cases h3 : a.units = b.units <;> simp [h1, h2, h3]

theorem equal_loan (A1 A2 : Option Addr) (n1 n2 c1 c2 : Nat) (xs ys : List Loan) (w : World) (h1 : RL w w.heap.size ⟨A1, n1, c1⟩ xs) (h2 : RL w w.heap.size ⟨A2, n2, c2⟩ ys) :
    Calls Try.prog 43 #[.slice A1 n1 c1, .slice A2 n2 c2] w fun e w' => e = .returned (.bool (decide (xs = ys))) ∧ Below w.heap.size w w' := by
  have hn1 : n1 ≤ 1099511627776 := h1.le
  have hn2 : n2 ≤ 1099511627776 := h2.le
  have L1 : Hid (xs.length = n1) := h1.len
  have L2 : Hid (ys.length = n2) := h2.len
  by_cases hne : n1 = n2
  · subst hne
    have hd : ((n1 : Int) != (n1 : Int)) = false := by simp
    go_enter Try.func43, Try.ntmps43
    go_wp2
    go_loopw [13] (fun i wr => ∃ k : Nat, k ≤ n1 ∧ i = .int .i64 k ∧ Hid (xs.take k = ys.take k) ∧ Below w.heap.size w wr) (fun i _ => n1 - (intOf i).toNat)
    case atStart => exact ⟨0, Nat.zero_le _, rfl, rfl, Below.refl _ _⟩
    case round =>
      obtain ⟨k, hk, rfl, H, hB⟩ := hrel
      by_cases hlt : k < n1
      · obtain ⟨b, o, hz, hA, hb, hc, hd1, hd2⟩ := (h1.below hB).at_ hlt
        obtain ⟨b', o', hz', hA', hb', hc', hd1', hd2'⟩ := (h2.below hB).at_ hlt
        have hA : A1 = some ⟨b, o, none⟩ := hA
        have hA' : A2 = some ⟨b', o', none⟩ := hA'
        subst hA hA'
        have hstep := take_succ_eq (k := k) H.out hz hz'
        have hstop := ne_of_get (k := k) hz hz'
        generalize xs[k] = x at hc hd1 hd2 hstep hstop
        generalize ys[k] = y at hc' hd1' hd2' hstep hstop
        by_cases hxy : x = y
        · have HS := Lib.hid (hstep hxy)
          clear hstep hstop
          subst hxy
          have he : (!decide (x = x)) = false := by simp
          have hnq := neq_loan
          go_wp2
          go_quiet (fail)
          go_wp2
          go_roundw
          case rel => exact ⟨k + 1, by omega, by go_num, HS.out, (by repeat (first | exact Below.refl _ _ | assumption | refine Below.drew ?_ | refine below_drewN ?_ _ | refine bl_alloc ?_ _ | refine Below.setCell ?_ (by first | (simp; done) | omega | (simp; omega)) _ | refine bl_then ?_ (by assumption)))⟩
          case measure => simp [intOf]; omega
        · have he : (!decide (x = y)) = true := by simp [hxy]
          have HX := Lib.hid (hstop hxy)
          clear hxy hstep hstop
          have hnq := neq_loan
          go_wp2
          go_quiet (fail)
          go_wp2
          go_ret
          exact ⟨by rw [decide_eq_false HX.out]; rfl, (by repeat (first | exact Below.refl _ _ | assumption | refine Below.drew ?_ | refine below_drewN ?_ _ | refine bl_alloc ?_ _ | refine Below.setCell ?_ (by first | (simp; done) | omega | (simp; omega)) _ | refine bl_then ?_ (by assumption)))⟩
      · go_wp2
        go_ret
        refine ⟨?_, (by repeat (first | exact Below.refl _ _ | assumption | refine Below.drew ?_ | refine below_drewN ?_ _ | refine bl_alloc ?_ _ | refine Below.setCell ?_ (by first | (simp; done) | omega | (simp; omega)) _ | refine bl_then ?_ (by assumption)))⟩
        have hxy : xs = ys := by
          have := H.out
          rwa [List.take_of_length_le (by rw [L1.out]; omega), List.take_of_length_le (by rw [L2.out]; omega)] at this
        rw [decide_eq_true hxy]
        rfl
  · have hd : ((n1 : Int) != (n2 : Int)) = true := by simp; omega
    have hxy : ¬ xs = ys := by
      rintro rfl
      exact hne (L1.out.symm.trans L2.out)
    rw [decide_eq_false hxy]
    clear hxy
    go_enter Try.func43, Try.ntmps43
    go_wp2
    go_ret
    exact ⟨rfl, Below.refl _ _⟩

end Go.Proofs.Ytpddnkefggaigaa
