/- The reference: in, owner, Valid. -/
import Derived.Test.YtpddnkefggaigaaV2
namespace Go.Proofs.Ytpddnkefggaigaa
open Go.RowKit

theorem rin_any (n lo hi : Int) (w : World) :
    Calls Try.prog 40 #[.int .i64 n, .int .i64 lo, .int .i64 hi] w fun e w' => e = .returned (.bool (inB n lo hi)) ∧ w = w' := by
  by_cases h1 : lo ≤ n
  · have e : inB n lo hi = decide (n ≤ hi) := by simp [inB, h1]
    rw [e]
    go_enter Try.func40, Try.ntmps40
    go_wp2
    go_ret
    exact ⟨by first | rfl | simp [*], rfl⟩
  · have e : inB n lo hi = false := by simp [inB, h1]
    rw [e]
    go_enter Try.func40, Try.ntmps40
    go_wp2
    go_ret
    exact ⟨rfl, rfl⟩

theorem rowner_any (n : Int) (w : World) :
    Calls Try.prog 41 #[.int .i64 n] w fun e w' => e = .returned (.bool (ownerB n)) ∧ w = w' := by
  go_enter Try.func41, Try.ntmps41
  go_wp2_with (go_at_call 40; refine (rin_any _ _ _ _).mono ?_; rintro e w' ⟨rfl, rfl⟩)
  go_ret
  exact ⟨rfl, rfl⟩

theorem within_false {zs : List Int} {lo hi : Int} (k : Nat) (hk : k < zs.length) (h : inB zs[k] lo hi = false) : withinB zs lo hi = false := by
  cases e : withinB zs lo hi
  · rfl
  · have := within_mem e zs[k] (List.getElem_mem _)
    rw [inB_iff.2 this] at h
    cases h
theorem within_true {zs : List Int} {lo hi : Int} (hl : zs.length = 16) (h : ∀ k (hk : k < zs.length), inB zs[k] lo hi = true) : withinB zs lo hi = true := by
  simp only [withinB, hl, Bool.and_eq_true, List.all_eq_true]
  refine ⟨rfl, fun x hx => ?_⟩
  obtain ⟨k, hk, rfl⟩ := List.getElem_of_mem hx
  exact h k hk
/-- The first k numbers of the three lists are within bounds. -/
def okTo (p : Pool) (k : Nat) : Prop := ∀ j, j < k → inB (p.has.getD j 0) 0 1000000 = true ∧ inB (p.used.getD j 0) 0 1000000 = true ∧ inB (p.cents.getD j 0) (-1000000000000) 1000000000000 = true
theorem okTo_step {p : Pool} {k : Nat} (h : okTo p k) {a b c : Int} (ha : p.has.getD k 0 = a) (hb : p.used.getD k 0 = b) (hc : p.cents.getD k 0 = c) (h1 : inB a 0 1000000 = true) (h2 : inB b 0 1000000 = true) (h3 : inB c (-1000000000000) 1000000000000 = true) : okTo p (k + 1) := by
  intro j hj
  by_cases e : j = k
  · subst e; rw [ha, hb, hc]; exact ⟨h1, h2, h3⟩
  · exact h j (by omega)
theorem okTo_sum {p : Pool} {k : Nat} (h : okTo p k) (hk : k ≤ p.cents.length) : -(1000000000000 * k : Int) ≤ (p.cents.take k).sum ∧ (p.cents.take k).sum ≤ 1000000000000 * k := by
  induction k with
  | zero => simp
  | succ k ih =>
    have := ih (fun j hj => h j (by omega)) (by omega)
    rw [sum_take_succ _ _ (by omega)]
    have hx := inB_iff.1 (h k (by omega)).2.2
    rw [List.getD_eq_getElem?_getD, List.getElem?_eq_getElem (by omega)] at hx
    simp only [Option.getD_some] at hx
    omega
theorem okTo_end {p : Pool} (h : okTo p 16) (h1 : p.has.length = 16) (h2 : p.used.length = 16) (h3 : p.cents.length = 16) : validB p = (loansOK none p.loans && decide (p.cents.sum = 0)) := by
  have e1 : withinB p.has 0 1000000 = true := within_true h1 fun k hk => by have := (h k (by omega)).1; simpa [List.getD_eq_getElem?_getD, List.getElem?_eq_getElem hk] using this
  have e2 : withinB p.used 0 1000000 = true := within_true h2 fun k hk => by have := (h k (by omega)).2.1; simpa [List.getD_eq_getElem?_getD, List.getElem?_eq_getElem hk] using this
  have e3 : withinB p.cents (-1000000000000) 1000000000000 = true := within_true h3 fun k hk => by have := (h k (by omega)).2.2; simpa [List.getD_eq_getElem?_getD, List.getElem?_eq_getElem hk] using this
  simp [validB, e1, e2, e3]
theorem valid_no_has {p : Pool} (h : withinB p.has 0 1000000 = false) : validB p = false := by simp [validB, h]
theorem valid_no_used {p : Pool} (h : withinB p.used 0 1000000 = false) : validB p = false := by simp [validB, h]
theorem valid_no_cents {p : Pool} (h : withinB p.cents (-1000000000000) 1000000000000 = false) : validB p = false := by simp [validB, h]
theorem within_short {zs : List Int} {lo hi : Int} (h : zs.length ≠ 16) : withinB zs lo hi = false := by simp [withinB, h]

theorem getD_of_lt {zs : List Int} {k : Nat} (h : k < zs.length) : zs.getD k 0 = zs[k] := by simp [List.getD_eq_getElem?_getD, List.getElem?_eq_getElem h]

theorem lessB_ref (x y : Loan) : (decide (x.fr < y.fr) || (x.fr == y.fr && decide (x.to ≤ y.to))) = !lessB y x := by
  simp only [lessB, cmpL, orI, cmpI]
  by_cases h1 : y.fr < x.fr
  · have : ¬ x.fr < y.fr := by omega
    have h3 : ¬ x.fr = y.fr := by omega
    simp [h1, this, h3]
  · by_cases h2 : x.fr < y.fr
    · simp [h1, h2]
    · have h3 : x.fr = y.fr := by omega
      simp only [h3]
      by_cases h4 : y.to < x.to
      · have : ¬ x.to ≤ y.to := by omega
        simp [h4, this]
      · by_cases h5 : x.to < y.to
        · have : x.to ≤ y.to := by omega
          simp [h4, h5, this]
        · have : x.to ≤ y.to := by omega
          simp [h4, h5, this]

set_option maxHeartbeats 1000000 in
set_option maxRecDepth 100000 in
theorem rvalid_any (s1 s2 s3 s4 : Sl) (p : Pool) (w : World) (h : PoolR w w.heap.size s1 s2 s3 s4 p) :
    Calls Try.prog 16 #[poolV s1 s2 s3 s4] w fun e w' => e = .returned (.bool (validB p)) ∧ Below w.heap.size w w' := by
  obtain ⟨h1, h2, h3, h4⟩ := h
  obtain ⟨A1, n1, c1⟩ := s1
  obtain ⟨A2, n2, c2⟩ := s2
  obtain ⟨A3, n3, c3⟩ := s3
  obtain ⟨A4, n4, c4⟩ := s4
  have hn1 : n1 ≤ 1099511627776 := h1.le
  have hn2 : n2 ≤ 1099511627776 := h2.le
  have hn3 : n3 ≤ 1099511627776 := h3.le
  have hn4 : n4 ≤ 1099511627776 := h4.le
  have hl1 : p.has.length = n1 := h1.len
  have hl2 : p.used.length = n2 := h2.len
  have hl4 : p.cents.length = n4 := h4.len
  have hl3 : p.loans.length = n3 := h3.len
  show Calls Try.prog 16 #[.agg #[.slice A1 n1 c1, .slice A2 n2 c2, .slice A3 n3 c3, .slice A4 n4 c4]] w _
  by_cases e1 : n1 = 16
  case neg =>
    rw [valid_no_has (within_short (by omega))]
    have e1' : ((n1 : Int) != 16) = true := by simp; omega
    clear e1
    go_enter Try.func16, Try.ntmps16
    go_wp2
    go_ret
    exact ⟨rfl, (by repeat (first | exact Below.refl _ _ | assumption | refine Below.drew ?_ | refine below_drewN ?_ _ | refine bl_alloc ?_ _ | refine Below.setCell ?_ (by first | (simp; done) | omega | (simp; omega)) _ | refine bl_then ?_ (by assumption)))⟩
  by_cases e2 : n2 = 16
  case neg =>
    rw [valid_no_used (within_short (by omega))]
    subst e1
    have e2' : ((n2 : Int) != 16) = true := by simp; omega
    clear e2
    go_enter Try.func16, Try.ntmps16
    go_wp2
    go_ret
    exact ⟨rfl, (by repeat (first | exact Below.refl _ _ | assumption | refine Below.drew ?_ | refine below_drewN ?_ _ | refine bl_alloc ?_ _ | refine Below.setCell ?_ (by first | (simp; done) | omega | (simp; omega)) _ | refine bl_then ?_ (by assumption)))⟩
  by_cases e4 : n4 = 16
  case neg =>
    rw [valid_no_cents (within_short (by omega))]
    subst e1
    subst e2
    have e4' : ((n4 : Int) != 16) = true := by simp; omega
    clear e4
    go_enter Try.func16, Try.ntmps16
    go_wp2
    go_ret
    exact ⟨rfl, (by repeat (first | exact Below.refl _ _ | assumption | refine Below.drew ?_ | refine below_drewN ?_ _ | refine bl_alloc ?_ _ | refine Below.setCell ?_ (by first | (simp; done) | omega | (simp; omega)) _ | refine bl_then ?_ (by assumption)))⟩
  subst e1 e2 e4
  have HL1 := Lib.hid hl1
  have HL2 := Lib.hid hl2
  have HL4 := Lib.hid hl4
  have HL3 := Lib.hid hl3
  clear hl1 hl2 hl3 hl4 hn1 hn2 hn4
  have H := Lib.hid (show validB p = validB p from rfl)
  generalize hvv : validB p = vv at H ⊢
  have HV := Lib.hid hvv
  clear hvv H
  go_enter Try.func16, Try.ntmps16
  go_wp2
  go_loop [3, 4] (fun t i => ∃ k : Nat, k ≤ 16 ∧ i = .int .i64 k ∧ t = .int .i64 (p.cents.take k).sum ∧ Hid (okTo p k)) (fun _ i => 16 - (intOf i).toNat)
  case atStart => exact ⟨0, Nat.zero_le _, rfl, rfl, fun j hj => absurd hj (by omega)⟩
  case round =>
    obtain ⟨k, hk, rfl, rfl, HO⟩ := hrel
    have hbd := okTo_sum HO.out (by have := HL4.out; omega)
    have hbd1 : -16000000000000 ≤ (p.cents.take k).sum := by omega
    have hbd2 : (p.cents.take k).sum ≤ 16000000000000 := by omega
    clear hbd
    by_cases hlt : k < 16
    · obtain ⟨b1, o1, hz1, hA, hb1, hc1⟩ := h1.at_ hlt
      have hA : A1 = some ⟨b1, o1, none⟩ := hA
      subst hA
      obtain ⟨b2, o2, hz2, hA, hb2, hc2⟩ := h2.at_ hlt
      have hA : A2 = some ⟨b2, o2, none⟩ := hA
      subst hA
      obtain ⟨b4, o4, hz4, hA, hb4, hc4⟩ := h4.at_ hlt
      have hA : A4 = some ⟨b4, o4, none⟩ := hA
      subst hA
      have hst := sum_take_succ p.cents k hz4
      have hg1 := getD_of_lt hz1
      have hg2 := getD_of_lt hz2
      have hg4 := getD_of_lt hz4
      have hf1 := fun e => HV.out.symm.trans (valid_no_has (within_false k hz1 e))
      have hf2 := fun e => HV.out.symm.trans (valid_no_used (within_false k hz2 e))
      have hf4 := fun e => HV.out.symm.trans (valid_no_cents (within_false k hz4 e))
      generalize p.has[k] = x1 at hc1 hg1 hf1
      generalize p.used[k] = x2 at hc2 hg2 hf2
      generalize p.cents[k] = x4 at hc4 hg4 hf4 hst
      have HS := Lib.hid hst
      have HG1 := Lib.hid hg1
      have HG2 := Lib.hid hg2
      have HG4 := Lib.hid hg4
      have HF1 := Lib.hid hf1
      have HF2 := Lib.hid hf2
      have HF4 := Lib.hid hf4
      clear hst hg1 hg2 hg4 hf1 hf2 hf4 hz1 hz2 hz4
      generalize (p.cents.take k).sum = t at hbd1 hbd2 HS
      have HV' := HV
      clear HV
      cases q1 : inB x1 0 1000000
      · go_wp2_with (first | (go_at_call 41; refine (rowner_any _ _).mono ?_; rintro e w' ⟨rfl, rfl⟩) | (go_at_call 40; refine (rin_any _ _ _ _).mono ?_; rintro e w' ⟨rfl, rfl⟩))
        go_ret
        exact ⟨by rw [HF1.out q1]; rfl, (by repeat (first | exact Below.refl _ _ | assumption | refine Below.drew ?_ | refine below_drewN ?_ _ | refine bl_alloc ?_ _ | refine Below.setCell ?_ (by first | (simp; done) | omega | (simp; omega)) _ | refine bl_then ?_ (by assumption)))⟩
      cases q2 : inB x2 0 1000000
      · go_wp2_with (first | (go_at_call 41; refine (rowner_any _ _).mono ?_; rintro e w' ⟨rfl, rfl⟩) | (go_at_call 40; refine (rin_any _ _ _ _).mono ?_; rintro e w' ⟨rfl, rfl⟩))
        go_ret
        exact ⟨by rw [HF2.out q2]; rfl, (by repeat (first | exact Below.refl _ _ | assumption | refine Below.drew ?_ | refine below_drewN ?_ _ | refine bl_alloc ?_ _ | refine Below.setCell ?_ (by first | (simp; done) | omega | (simp; omega)) _ | refine bl_then ?_ (by assumption)))⟩
      cases q4 : inB x4 (-1000000000000) 1000000000000
      · go_wp2_with (first | (go_at_call 41; refine (rowner_any _ _).mono ?_; rintro e w' ⟨rfl, rfl⟩) | (go_at_call 40; refine (rin_any _ _ _ _).mono ?_; rintro e w' ⟨rfl, rfl⟩))
        go_ret
        exact ⟨by rw [HF4.out q4]; rfl, (by repeat (first | exact Below.refl _ _ | assumption | refine Below.drew ?_ | refine below_drewN ?_ _ | refine bl_alloc ?_ _ | refine Below.setCell ?_ (by first | (simp; done) | omega | (simp; omega)) _ | refine bl_then ?_ (by assumption)))⟩
      have hx4 := inB_iff.1 q4
      have hx41 := hx4.1
      have hx42 := hx4.2
      clear hx4
      go_wp2_with (first | (go_at_call 41; refine (rowner_any _ _).mono ?_; rintro e w' ⟨rfl, rfl⟩) | (go_at_call 40; refine (rin_any _ _ _ _).mono ?_; rintro e w' ⟨rfl, rfl⟩))
      go_round
      case rel => exact ⟨k + 1, by omega, by go_num, by rw [HS.out], okTo_step HO.out HG1.out HG2.out HG4.out q1 q2 q4⟩
      case measure => simp [intOf]; omega
    · obtain rfl : k = 16 := by omega
      rw [List.take_of_length_le (by have := HL4.out; omega)]
      have hve := HV.out.symm.trans (okTo_end HO.out HL1.out HL2.out HL4.out)
      have HE := Lib.hid hve
      clear hbd1 hbd2 hlt hk hve HV HO HL1 HL2 HL4 h1 h2 h4
      have hB3 : Below w.heap.size w w := Below.refl _ _
      go_wp2
      go_loopw [5] (fun i wr => ∃ k : Nat, k ≤ n3 ∧ i = .int .i64 k ∧ Hid (loansOK none p.loans = loansOK (prevOf p.loans k) (p.loans.drop k)) ∧ Below (w.heap.size + 1) (w.alloc (.cells #[.slice A1 16 c1, .slice A2 16 c2, .slice A3 n3 c3, .slice A4 16 c4] 26)) wr) (fun i _ => n3 - (intOf i).toNat)
      case atStart => exact ⟨0, Nat.zero_le _, rfl, rfl, Below.refl _ _⟩
      case round =>
        obtain ⟨k, hk, rfl, H, hB⟩ := hrel
        have h3r := (h3.below ((Below.refl _ w).alloc (Nat.le_refl _) _)).below (hB.mono (by omega))
        have hcb : wr.cell? ⟨w.heap.size, 2, none⟩ = some (.slice A3 n3 c3) := by rw [hB.cell (p := ⟨w.heap.size, 2, none⟩) (by simp)]; go_simp
        by_cases hlt : k < n3
        · obtain ⟨b, o, hz, hA, hb, hc0, hc1, hc2⟩ := h3r.at_ hlt
          have hA : A3 = some ⟨b, o, none⟩ := hA
          subst hA
          have hst := loansOK_step p.loans k hz
          rw [← H.out] at hst
          generalize p.loans[k] = x at hc0 hc1 hc2 hst
          have HS := Lib.hid hst
          have HN := Lib.hid h3r
          clear hst h3r
          go_wp2_with fail
          have hzr : w.heap.size + 1 ≤ wr.heap.size := by have := hB.size; simp at this; omega
          have hBr : Below w.heap.size w wr := ((Below.refl _ w).alloc (Nat.le_refl _) _).trans (hB.mono (by omega))
          cases o1 : ownerB x.fr
          · go_wp2_with (first | (go_at_call 41; refine (rowner_any _ _).mono ?_; rintro e w' ⟨rfl, rfl⟩) | (go_at_call 40; refine (rin_any _ _ _ _).mono ?_; rintro e w' ⟨rfl, rfl⟩))
            go_ret
            exact ⟨by rw [HE.out, HS.out]; simp [loanOK, o1], (by repeat (first | exact Below.refl _ _ | assumption | refine Below.drew ?_ | refine below_drewN ?_ _ | refine bl_alloc ?_ _ | refine Below.setCell ?_ (by first | (simp; done) | omega | (simp; omega)) _ | refine bl_then ?_ (by assumption)))⟩
          cases o2 : ownerB x.to
          · go_wp2_with (first | (go_at_call 41; refine (rowner_any _ _).mono ?_; rintro e w' ⟨rfl, rfl⟩) | (go_at_call 40; refine (rin_any _ _ _ _).mono ?_; rintro e w' ⟨rfl, rfl⟩))
            go_ret
            exact ⟨by rw [HE.out, HS.out]; simp [loanOK, o2], (by repeat (first | exact Below.refl _ _ | assumption | refine Below.drew ?_ | refine below_drewN ?_ _ | refine bl_alloc ?_ _ | refine Below.setCell ?_ (by first | (simp; done) | omega | (simp; omega)) _ | refine bl_then ?_ (by assumption)))⟩
          by_cases o3 : x.fr = x.to
          · have o3' : (x.fr == x.to) = true := by simp [o3]
            have O3 := Lib.hid o3
            clear o3
            go_wp2_with (first | (go_at_call 41; refine (rowner_any _ _).mono ?_; rintro e w' ⟨rfl, rfl⟩) | (go_at_call 40; refine (rin_any _ _ _ _).mono ?_; rintro e w' ⟨rfl, rfl⟩))
            go_ret
            exact ⟨by rw [HE.out, HS.out]; simp [loanOK, O3.out], (by repeat (first | exact Below.refl _ _ | assumption | refine Below.drew ?_ | refine below_drewN ?_ _ | refine bl_alloc ?_ _ | refine Below.setCell ?_ (by first | (simp; done) | omega | (simp; omega)) _ | refine bl_then ?_ (by assumption)))⟩
          have o3' : (x.fr == x.to) = false := by simp [o3]
          have O3 := Lib.hid o3
          clear o3
          cases o4 : inB x.units 1 1000000
          · go_wp2_with (first | (go_at_call 41; refine (rowner_any _ _).mono ?_; rintro e w' ⟨rfl, rfl⟩) | (go_at_call 40; refine (rin_any _ _ _ _).mono ?_; rintro e w' ⟨rfl, rfl⟩))
            go_ret
            exact ⟨by rw [HE.out, HS.out]; simp [loanOK, o4], (by repeat (first | exact Below.refl _ _ | assumption | refine Below.drew ?_ | refine below_drewN ?_ _ | refine bl_alloc ?_ _ | refine Below.setCell ?_ (by first | (simp; done) | omega | (simp; omega)) _ | refine bl_then ?_ (by assumption)))⟩
          have hok : loanOK x = true := by simp [loanOK, o1, o2, o4, O3.out]
          rw [hok] at HS
          clear hok
          go_wp2_with (first | (go_at_call 41; refine (rowner_any _ _).mono ?_; rintro e w' ⟨rfl, rfl⟩) | (go_at_call 40; refine (rin_any _ _ _ _).mono ?_; rintro e w' ⟨rfl, rfl⟩))
          by_cases hk0 : k = 0
          · subst hk0
            go_quiet (fail)
            go_wp2
            go_roundw
            case rel => exact ⟨1, by omega, by go_num, HS.out.trans (by simp [prevOf]), (by repeat (first | exact Below.refl _ _ | assumption | refine Below.drew ?_ | refine below_drewN ?_ _ | refine Below.alloc ?_ (by first | omega | (simp; omega)) _ | refine Below.setCell ?_ (by first | (simp; done) | omega | (simp; omega)) _ | refine Below.trans ?_ (Below.mono (by assumption) (by first | omega | (simp; omega)))))⟩
            case measure => simp [intOf]; omega
          · have hk1 : k - 1 < n3 := by omega
            obtain ⟨b', o', hz', hA', hb', hd0, hd1, hd2⟩ := HN.out.at_ hk1
            have hA' : (some ⟨b, o, none⟩ : Option Addr) = some ⟨b', o', none⟩ := hA'
            injection hA' with hA'
            injection hA' with e1 e2
            subst e1 e2
            have hprev : prevOf p.loans k = some p.loans[k - 1] := by simp [prevOf, hk0]
            rw [hprev] at HS
            generalize p.loans[k - 1] = y at hd0 hd1 hd2 HS
            clear hprev
            have hw1 : IntKind.i64.wrap ((k : Int) - 1) = (k : Int) - 1 := IntWalk.i64_in _ (by omega)
            have ht1 : ((k : Int) - 1).toNat = k - 1 := by omega
            have hp1 : decide (0 < (k : Int)) = true := by simp; omega
            have hp0 : 0 < k := by omega
            have hz0 : (0 : Int) ≤ (k : Int) - 1 := by omega
            have hi1 : (k : Int) - 1 < (n3 : Int) := by omega
            have hi2 : (1 : Int) ≤ (k : Int) := by omega
            have hi3 : 1 ≤ k := by omega
            have hi4 : (k : Int) ≤ (n3 : Int) := by omega
            have hs1 : w.heap.size ≤ wr.heap.size := by omega
            have hs2 : b ≤ wr.heap.size := by omega
            have hs3 : w.heap.size < wr.heap.size + 1 := by omega
            have hs4 : b < wr.heap.size + 1 := by omega
            have hs5 : w.heap.size < wr.heap.size := by omega
            have hs6 : b < wr.heap.size := by omega
            have hs7 : ¬ w.heap.size = wr.heap.size := by omega
            have hs8 : ¬ b = wr.heap.size := by omega
            have hs9 : ¬ wr.heap.size = w.heap.size := by omega
            have hs10 : ¬ wr.heap.size = b := by omega
            clear hk0
            have hl := lessB_ref x y
            have HL := Lib.hid hl
            clear hl
            cases d1 : decide (x.fr < y.fr)
            · cases d2 : x.fr == y.fr
              · go_quiet (fail)
                go_wp2
                go_roundw
                case rel => exact ⟨k + 1, by omega, by go_num, HS.out.trans (by have := HL.out; simp only [d1, d2] at this; simp at this; simp [this]), (by repeat (first | exact Below.refl _ _ | assumption | refine Below.drew ?_ | refine below_drewN ?_ _ | refine Below.alloc ?_ (by first | omega | (simp; omega)) _ | refine Below.setCell ?_ (by first | (simp; done) | omega | (simp; omega)) _ | refine Below.trans ?_ (Below.mono (by assumption) (by first | omega | (simp; omega)))))⟩
                case measure => simp [intOf]; omega
              · cases d3 : decide (x.to ≤ y.to)
                · go_quiet (fail)
                  go_wp2
                  go_roundw
                  case rel => exact ⟨k + 1, by omega, by go_num, HS.out.trans (by have := HL.out; simp only [d1, d2, d3] at this; simp at this; simp [this]), (by repeat (first | exact Below.refl _ _ | assumption | refine Below.drew ?_ | refine below_drewN ?_ _ | refine Below.alloc ?_ (by first | omega | (simp; omega)) _ | refine Below.setCell ?_ (by first | (simp; done) | omega | (simp; omega)) _ | refine Below.trans ?_ (Below.mono (by assumption) (by first | omega | (simp; omega)))))⟩
                  case measure => simp [intOf]; omega
                · go_quiet (fail)
                  go_wp2
                  go_ret
                  exact ⟨by rw [HE.out, HS.out]; have := HL.out; simp only [d1, d2, d3] at this; simp at this; simp [this], (by repeat (first | exact Below.refl _ _ | assumption | refine Below.drew ?_ | refine below_drewN ?_ _ | refine bl_alloc ?_ _ | refine Below.setCell ?_ (by first | (simp; done) | omega | (simp; omega)) _ | refine bl_then ?_ (by assumption)))⟩
            · go_quiet (fail)
              go_wp2
              go_ret
              exact ⟨by rw [HE.out, HS.out]; have := HL.out; simp only [d1] at this; simp at this; simp [this], (by repeat (first | exact Below.refl _ _ | assumption | refine Below.drew ?_ | refine below_drewN ?_ _ | refine bl_alloc ?_ _ | refine Below.setCell ?_ (by first | (simp; done) | omega | (simp; omega)) _ | refine bl_then ?_ (by assumption)))⟩
        · clear h3r
          have HF := H.out
          rw [List.drop_of_length_le (by have : p.loans.length = n3 := HL3.out; omega)] at HF
          have HF : Hid (loansOK none p.loans = true) := HF.trans rfl
          have hBr : Below w.heap.size w wr := ((Below.refl _ w).alloc (Nat.le_refl _) _).trans (hB.mono (by omega))
          go_wp2
          go_ret
          exact ⟨by rw [HE.out, HF.out, Bool.true_and]; rfl, (by repeat (first | exact Below.refl _ _ | assumption | refine Below.drew ?_ | refine below_drewN ?_ _ | refine bl_alloc ?_ _ | refine Below.setCell ?_ (by first | (simp; done) | omega | (simp; omega)) _ | refine bl_then ?_ (by assumption)))⟩

end Go.Proofs.Ytpddnkefggaigaa
