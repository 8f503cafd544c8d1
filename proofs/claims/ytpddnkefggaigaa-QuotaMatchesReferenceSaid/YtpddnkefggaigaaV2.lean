/- quota.Valid where the three lists are within bounds. -/
import Derived.Test.YtpddnkefggaigaaV1
namespace Go.Proofs.Ytpddnkefggaigaa
open Go.RowKit

theorem loansOK_step (ls : List Loan) (k : Nat) (h : k < ls.length) :
    loansOK (prevOf ls k) (ls.drop k) = (loanOK ls[k] && (match prevOf ls k with | none => true | some y => lessB y ls[k]) && loansOK (prevOf ls (k + 1)) (ls.drop (k + 1))) := by
  rw [List.drop_eq_getElem_cons h]
  have e : prevOf ls (k + 1) = some ls[k] := by simp [prevOf, List.getElem?_eq_getElem h]
  rw [e]
  cases hp : prevOf ls k <;> simp [loansOK]

set_option maxHeartbeats 1000000 in
theorem valid_yes (s1 s2 s3 s4 : Sl) (p : Pool) (w : World) (h : PoolR w w.heap.size s1 s2 s3 s4 p) (b1 : withinB p.has 0 1000000 = true) (b2 : withinB p.used 0 1000000 = true) (b4 : withinB p.cents (-1000000000000) 1000000000000 = true) :
    Calls Try.prog 15 #[poolV s1 s2 s3 s4] w fun e w' => e = .returned (.bool (validB p)) ∧ Below w.heap.size w w' := by
  obtain ⟨h1, h2, h3, h4⟩ := h
  obtain ⟨A1, n1, c1⟩ := s1
  obtain ⟨A2, n2, c2⟩ := s2
  obtain ⟨A3, n3, c3⟩ := s3
  obtain ⟨A4, n4, c4⟩ := s4
  have hn1 : n1 ≤ 1099511627776 := h1.le
  have hn2 : n2 ≤ 1099511627776 := h2.le
  have hn3 : n3 ≤ 1099511627776 := h3.le
  have hn4 : n4 ≤ 1099511627776 := h4.le
  show Calls Try.prog 15 #[.agg #[.slice A1 n1 c1, .slice A2 n2 c2, .slice A3 n3 c3, .slice A4 n4 c4]] w _
  have hv : validB p = (loansOK none p.loans && decide (p.cents.sum = 0)) := by simp [validB, b1, b2, b4]
  have hl4 := within_len b4
  have hm4 := within_mem b4
  have HN4 : Hid (n4 = 16) := h4.len.symm.trans hl4
  have HM4 := Lib.hid hm4
  have HL4 := Lib.hid hl4
  rw [hv]
  have B1 := Lib.hid b1
  have B2 := Lib.hid b2
  have B4 := Lib.hid b4
  clear hv b1 b2 b4 hl4 hm4
  go_enter Try.func15, Try.ntmps15
  go_wp2_with fail
  refine (within_any p.has 0 1000000 A1 n1 c1 _ ((h1.1.alloc (Nat.le_refl _) _).more (by simp)) (by omega)).mono ?_
  rintro e w1 ⟨rfl, hb1⟩
  rw [B1.out]
  obtain ⟨hc1, hf1⟩ := bcell hb1
  have hz1 : w.heap.size < w1.heap.size := by have := hb1.size; simp at this; omega
  go_wp2_with fail
  refine (within_any p.used 0 1000000 A2 n2 c2 _ (((h2.1.alloc (Nat.le_refl _) _).below (hb1.mono (by simp))).more (by omega)) (by omega)).mono ?_
  rintro e w2 ⟨rfl, hb2⟩
  rw [B2.out]
  obtain ⟨hc2, hf2⟩ := bcell hb2
  have hz2 : w.heap.size < w2.heap.size := by have := hb2.size; omega
  go_wp2_with fail
  refine (within_any p.cents (-1000000000000) 1000000000000 A4 n4 c4 _ ((((h4.1.alloc (Nat.le_refl _) _).below (hb1.mono (by simp))).below (hb2.mono (by omega))).more (by omega)) (by omega)).mono ?_
  rintro e w3 ⟨rfl, hb3⟩
  rw [B4.out]
  obtain ⟨hc3, hf3⟩ := bcell hb3
  have hz3 : w.heap.size < w3.heap.size := by have := hb3.size; omega
  have hB3 : Below w.heap.size w w3 := (by repeat (first | exact Below.refl _ _ | assumption | refine Below.drew ?_ | refine below_drewN ?_ _ | refine bl_alloc ?_ _ | refine Below.setCell ?_ (by first | (simp; done) | omega | (simp; omega)) _ | refine bl_then ?_ (by assumption)))
  have hbx : ∀ o, w3.cell? ⟨w.heap.size, o, none⟩ = (w.alloc (.cells #[.slice A1 n1 c1, .slice A2 n2 c2, .slice A3 n3 c3, .slice A4 n4 c4] 26)).cell? ⟨w.heap.size, o, none⟩ := fun o => by rw [hc3 _ _ hz2, hc2 _ _ hz1, hc1 _ _ (by simp)]
  have h33 := h3.below hB3
  have h43 := h4.below hB3
  clear hb1 hb2 hb3 hc1 hc2 hc3 hf1 hf2 hf3 hz1 hz2 h1 h2 h3 h4 B1 B2 B4
  go_wp2
  obtain rfl : n4 = 16 := HN4.out
  go_loop [4, 31] (fun t i => ∃ k : Nat, k ≤ 16 ∧ i = .int .i64 k ∧ t = .int .i64 (p.cents.take k).sum) (fun _ i => 16 - (intOf i).toNat)
  case atStart => exact ⟨0, Nat.zero_le _, rfl, rfl⟩
  case round =>
    obtain ⟨k, hk, rfl, rfl⟩ := hrel
    have hbd := sum_take_bd p.cents 1000000000000 HM4.out k (by have := HL4.out; omega)
    have hbd1 : -16000000000000 ≤ (p.cents.take k).sum := by omega
    have hbd2 : (p.cents.take k).sum ≤ 16000000000000 := by omega
    clear hbd
    by_cases hlt : k < 16
    · obtain ⟨b, o, hz, hA, hb, hc⟩ := h43.at_ hlt
      have hA : A4 = some ⟨b, o, none⟩ := hA
      subst hA
      have hxm := HM4.out p.cents[k] (List.getElem_mem _)
      have hst := sum_take_succ p.cents k hz
      generalize p.cents[k] = x at hc hxm hst
      have HS := Lib.hid hst
      have hx1 := hxm.1
      have hx2 := hxm.2
      clear hst hxm
      generalize (p.cents.take k).sum = t at hbd1 hbd2 HS
      go_wp2
      go_round
      case rel => exact ⟨k + 1, by omega, by go_num, by rw [HS.out]⟩
      case measure => simp [intOf]; omega
    · obtain rfl : k = 16 := by omega
      rw [List.take_of_length_le (by have := HL4.out; omega)]
      clear hbd1 hbd2 hlt hk
      clear HM4 HL4 h43 HN4
      go_wp2
      clear hn1 hn2 hn4
      have HX := Lib.hid hbx
      clear hbx
      go_loopw [42] (fun i wr => ∃ k : Nat, k ≤ n3 ∧ i = .int .i64 k ∧ Hid (loansOK none p.loans = loansOK (prevOf p.loans k) (p.loans.drop k)) ∧ Below (w.heap.size + 1) w3 wr) (fun i _ => n3 - (intOf i).toNat)
      case atStart => exact ⟨0, Nat.zero_le _, rfl, rfl, Below.refl _ _⟩
      case round =>
        obtain ⟨k, hk, rfl, H, hB⟩ := hrel
        have h3r := h33.below (hB.mono (by omega))
        have hcb : wr.cell? ⟨w.heap.size, 2, none⟩ = some (.slice A3 n3 c3) := by rw [hB.cell (p := ⟨w.heap.size, 2, none⟩) (by simp), HX.out]; go_simp
        by_cases hlt : k < n3
        · obtain ⟨b, o, hz, hA, hb, hc0, hc1, hc2⟩ := h3r.at_ hlt
          have hA : A3 = some ⟨b, o, none⟩ := hA
          subst hA
          have hst := loansOK_step p.loans k hz
          rw [← H.out] at hst
          generalize p.loans[k] = x at hc0 hc1 hc2 hst
          have HS := Lib.hid hst
          have HN := Lib.hid h3r
          clear hst h3r
          go_wp2_with fail
          have hzr : w.heap.size + 1 ≤ wr.heap.size := by have := hB.size; omega
          have hBr : Below w.heap.size w wr := hB3.trans (hB.mono (by omega))
          cases o1 : ownerB x.fr
          · go_quiet (first | (go_at_call 38; exact quiet_left (owner_any _ _)) | (go_at_call 37; exact quiet_left (in_any _ _ _ _)))
            go_wp2
            go_ret
            exact ⟨by rw [HS.out]; simp [loanOK, o1], (by repeat (first | exact Below.refl _ _ | assumption | refine Below.drew ?_ | refine below_drewN ?_ _ | refine bl_alloc ?_ _ | refine Below.setCell ?_ (by first | (simp; done) | omega | (simp; omega)) _ | refine bl_then ?_ (by assumption)))⟩
          cases o2 : ownerB x.to
          · go_quiet (first | (go_at_call 38; exact quiet_left (owner_any _ _)) | (go_at_call 37; exact quiet_left (in_any _ _ _ _)))
            go_wp2
            go_ret
            exact ⟨by rw [HS.out]; simp [loanOK, o2], (by repeat (first | exact Below.refl _ _ | assumption | refine Below.drew ?_ | refine below_drewN ?_ _ | refine bl_alloc ?_ _ | refine Below.setCell ?_ (by first | (simp; done) | omega | (simp; omega)) _ | refine bl_then ?_ (by assumption)))⟩
          by_cases o3 : x.fr = x.to
          · have o3' : (x.fr == x.to) = true := by simp [o3]
            have O3 := Lib.hid o3
            clear o3
            go_quiet (first | (go_at_call 38; exact quiet_left (owner_any _ _)) | (go_at_call 37; exact quiet_left (in_any _ _ _ _)))
            go_wp2
            go_ret
            exact ⟨by rw [HS.out]; simp [loanOK, O3.out], (by repeat (first | exact Below.refl _ _ | assumption | refine Below.drew ?_ | refine below_drewN ?_ _ | refine bl_alloc ?_ _ | refine Below.setCell ?_ (by first | (simp; done) | omega | (simp; omega)) _ | refine bl_then ?_ (by assumption)))⟩
          have o3' : (x.fr == x.to) = false := by simp [o3]
          have O3 := Lib.hid o3
          clear o3
          cases o4 : inB x.units 1 1000000
          · go_quiet (first | (go_at_call 38; exact quiet_left (owner_any _ _)) | (go_at_call 37; exact quiet_left (in_any _ _ _ _)))
            go_wp2
            go_ret
            exact ⟨by rw [HS.out]; simp [loanOK, o4], (by repeat (first | exact Below.refl _ _ | assumption | refine Below.drew ?_ | refine below_drewN ?_ _ | refine bl_alloc ?_ _ | refine Below.setCell ?_ (by first | (simp; done) | omega | (simp; omega)) _ | refine bl_then ?_ (by assumption)))⟩
          have hok : loanOK x = true := by simp [loanOK, o1, o2, o4, O3.out]
          rw [hok] at HS
          clear hok
          by_cases hk0 : k = 0
          · subst hk0
            go_quiet (first | (go_at_call 38; exact quiet_left (owner_any _ _)) | (go_at_call 37; exact quiet_left (in_any _ _ _ _)))
            go_wp2
            go_roundw
            case rel => exact ⟨1, by omega, by go_num, HS.out.trans (by simp [prevOf]), (by repeat (first | exact Below.refl _ _ | assumption | refine Below.drew ?_ | refine below_drewN ?_ _ | refine Below.alloc ?_ (by first | omega | (simp; omega)) _ | refine Below.setCell ?_ (by first | (simp; done) | omega | (simp; omega)) _ | refine Below.trans ?_ (Below.mono (by assumption) (by first | omega | (simp; omega)))))⟩
            case measure => simp [intOf]; omega
          · have hk1 : k - 1 < n3 := by omega
            obtain ⟨b', o', hz', hA', hb', hd0, hd1, hd2⟩ := HN.out.at_ hk1
            have hA' : (some ⟨b, o, none⟩ : Option Addr) = some ⟨b', o', none⟩ := hA'
            injection hA' with hA'
            injection hA' with e1 e2
            subst e1 e2
            have hprev : prevOf p.loans k = some p.loans[k - 1] := by simp [prevOf, hk0]
            rw [hprev] at HS
            generalize p.loans[k - 1] = y at hd0 hd1 hd2 HS
            clear hprev
            have hw1 : IntKind.i64.wrap ((k : Int) - 1) = (k : Int) - 1 := IntWalk.i64_in _ (by omega)
            have ht1 : ((k : Int) - 1).toNat = k - 1 := by omega
            have hp1 : decide (0 < (k : Int)) = true := by simp; omega
            have hp0 : 0 < k := by omega
            have hz0 : (0 : Int) ≤ (k : Int) - 1 := by omega
            have hi1 : (k : Int) - 1 < (n3 : Int) := by omega
            have hi2 : (1 : Int) ≤ (k : Int) := by omega
            have hi3 : 1 ≤ k := by omega
            have hi4 : (k : Int) ≤ (n3 : Int) := by omega
            have hs1 : w.heap.size ≤ wr.heap.size := by omega
            have hs2 : b ≤ wr.heap.size := by omega
            have hs3 : w.heap.size < wr.heap.size + 1 := by omega
            have hs4 : b < wr.heap.size + 1 := by omega
            clear hk0
            by_cases hc : cmpL y.fr y.to x.fr x.to < 0
            · have hcd : decide (0 ≤ cmpL y.fr y.to x.fr x.to) = false := by simp; omega
              have HC := Lib.hid hc
              clear hc
              go_region_held3 (fun w' => w'.cell? ⟨wr.heap.size, 0, none⟩ = some (.int .i64 x.fr) ∧ w'.cell? ⟨wr.heap.size, 1, none⟩ = some (.int .i64 x.to) ∧ w'.cell? ⟨wr.heap.size, 2, none⟩ = some (.int .i64 x.units) ∧ w'.cell? ⟨w.heap.size, 2, none⟩ = some (.slice (some ⟨b, o, none⟩) n3 c3) ∧ w'.cell? ⟨b, o + (k - 1) * 3, none⟩ = some (.int .i64 y.fr) ∧ w'.cell? ⟨b, o + (k - 1) * 3 + 1, none⟩ = some (.int .i64 y.to) ∧ w'.cell? ⟨b, o + (k - 1) * 3 + 2, none⟩ = some (.int .i64 y.units))
                (first | go_keep)
                (first | (go_at_call 38; refine (owner_any _ _).mono ?_; rintro e w' ⟨rfl, rfl⟩) | (go_at_call 37; refine (in_any _ _ _ _).mono ?_; rintro e w' ⟨rfl, rfl⟩) | (go_at_call 39; refine (order_any _ _ _ _ _ _ _).mono ?_; rintro e w' ⟨rfl, hbo⟩; obtain ⟨hco, hfo⟩ := bcell hbo))
              go_wp2
              go_roundw
              case rel => exact ⟨k + 1, by omega, by go_num, HS.out.trans (by simp [lessB, HC.out]), (by repeat (first | exact Below.refl _ _ | assumption | refine Below.drew ?_ | refine below_drewN ?_ _ | refine Below.alloc ?_ (by first | omega | (simp; omega)) _ | refine Below.setCell ?_ (by first | (simp; done) | omega | (simp; omega)) _ | refine Below.trans ?_ (Below.mono (by assumption) (by first | omega | (simp; omega)))))⟩
              case measure => simp [intOf]; omega
            · have hcd : decide (0 ≤ cmpL y.fr y.to x.fr x.to) = true := by simp; omega
              have HC := Lib.hid hc
              clear hc
              go_region_held3 (fun w' => w'.cell? ⟨wr.heap.size, 0, none⟩ = some (.int .i64 x.fr) ∧ w'.cell? ⟨wr.heap.size, 1, none⟩ = some (.int .i64 x.to) ∧ w'.cell? ⟨wr.heap.size, 2, none⟩ = some (.int .i64 x.units) ∧ w'.cell? ⟨w.heap.size, 2, none⟩ = some (.slice (some ⟨b, o, none⟩) n3 c3) ∧ w'.cell? ⟨b, o + (k - 1) * 3, none⟩ = some (.int .i64 y.fr) ∧ w'.cell? ⟨b, o + (k - 1) * 3 + 1, none⟩ = some (.int .i64 y.to) ∧ w'.cell? ⟨b, o + (k - 1) * 3 + 2, none⟩ = some (.int .i64 y.units))
                (first | go_keep)
                (first | (go_at_call 38; refine (owner_any _ _).mono ?_; rintro e w' ⟨rfl, rfl⟩) | (go_at_call 37; refine (in_any _ _ _ _).mono ?_; rintro e w' ⟨rfl, rfl⟩) | (go_at_call 39; refine (order_any _ _ _ _ _ _ _).mono ?_; rintro e w' ⟨rfl, hbo⟩; obtain ⟨hco, hfo⟩ := bcell hbo))
              go_wp2
              go_ret
              exact ⟨by rw [HS.out]; simp [lessB]; intro h; have := HC.out; omega, (by repeat (first | exact Below.refl _ _ | assumption | refine Below.drew ?_ | refine below_drewN ?_ _ | refine bl_alloc ?_ _ | refine Below.setCell ?_ (by first | (simp; done) | omega | (simp; omega)) _ | refine bl_then ?_ (by assumption)))⟩
        · clear hcb h3r
          have HE := H.out
          rw [List.drop_of_length_le (by have : p.loans.length = n3 := h33.len; omega)] at HE
          have HE : Hid (loansOK none p.loans = true) := HE.trans rfl
          have hBr : Below w.heap.size w wr := hB3.trans (hB.mono (by omega))
          go_wp2
          go_ret
          exact ⟨by rw [HE.out, Bool.true_and]; rfl, (by repeat (first | exact Below.refl _ _ | assumption | refine Below.drew ?_ | refine below_drewN ?_ _ | refine bl_alloc ?_ _ | refine Below.setCell ?_ (by first | (simp; done) | omega | (simp; omega)) _ | refine bl_then ?_ (by assumption)))⟩

theorem valid_any (s1 s2 s3 s4 : Sl) (p : Pool) (w : World) (h : PoolR w w.heap.size s1 s2 s3 s4 p) :
    Calls Try.prog 15 #[poolV s1 s2 s3 s4] w fun e w' => e = .returned (.bool (validB p)) ∧ Below w.heap.size w w' := by
  cases b1 : withinB p.has 0 1000000
  · exact valid_no1 s1 s2 s3 s4 p w h b1
  cases b2 : withinB p.used 0 1000000
  · exact valid_no2 s1 s2 s3 s4 p w h b1 b2
  cases b4 : withinB p.cents (-1000000000000) 1000000000000
  · exact valid_no4 s1 s2 s3 s4 p w h b1 b2 b4
  exact valid_yes s1 s2 s3 s4 p w h b1 b2 b4

end Go.Proofs.Ytpddnkefggaigaa
