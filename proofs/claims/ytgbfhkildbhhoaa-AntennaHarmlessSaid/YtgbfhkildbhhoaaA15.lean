/- right: the walk. -/
import Derived.Test.YtgbfhkildbhhoaaA14
namespace Go.Proofs.Ytgbfhkildbhhoaa
open Go.RowKit

set_option maxRecDepth 100000 in
set_option maxHeartbeats 4000000 in
theorem right_any (rs : List Req) (A : Option Addr) (n c : Nat) (w : World) (hr : Rqs w w.heap.size A n c rs) (hn : n ≤ 1000) :
    Calls Try.prog 54 #[.slice A n c] w fun e w' => e = .returned (.bool (rightP rs)) ∧ Ext w w' := by
  have hle := hr.out.le
  have HR := Lib.hid hr
  have HL := Lib.hid hr.out.len
  have hv : rightP rs = (rightR (List.replicate 64 false) rs && decide (n ≤ 16)) := by rw [rightP, hr.out.len]
  rw [hv]
  clear hv hr
  obtain ⟨vr, hvr⟩ : ∃ b, b = rightR (List.replicate 64 false) rs := ⟨_, rfl⟩
  rw [← hvr]
  have HV0 : Hid (rightR (List.replicate 64 false) (rs.drop 0) = vr) := Lib.hid hvr.symm
  clear hvr
  go_enter Try.func54, Try.ntmps54
  go_upto_region 2 with (fail)
  change Code.wp _ _ _ _ (w.alloc (.cells (boolArr (List.replicate 64 false)) 66))
  have hx1 : Ext w (w.alloc (.cells (boolArr (List.replicate 64 false)) 66)) := bl_alloc (Below.refl _ _) _
  have J : Blk (w.alloc (.cells (boolArr (List.replicate 64 false)) 66)) w.heap.size 66 (boolArr (List.replicate 64 false)) := Blk.new _ _ _
  have hgw : w.heap.size ≤ w.heap.size := Nat.le_refl _
  generalize w.alloc (.cells (boolArr (List.replicate 64 false)) 66) = W1 at J hx1 ⊢
  obtain ⟨g3, hg3⟩ : ∃ g, g = w.heap.size := ⟨_, rfl⟩
  have hg3w : w.heap.size ≤ g3 := by omega
  rw [← hg3] at J ⊢
  clear hg3 hgw
  have HJ0 := Lib.hid J
  clear J
  go_wp2_with fail
  go_loopw [10] (fun x wr => ∃ (k : Nat) (s : List Bool), k ≤ n ∧ x = .int .i64 k ∧ s.length = 64 ∧ Hid (rightR s (rs.drop k) = vr) ∧ Hid (Blk wr g3 66 (boolArr s)) ∧ Ext w wr) (fun x _ => n - (intOf x).toNat)
  case atStart => exact ⟨0, _, Nat.zero_le _, rfl, by simp, HV0, HJ0, hx1⟩
  case round =>
    clear HV0 HJ0 hx1
    obtain ⟨k, s, hk, rfl, hsl, HV, HB, hx⟩ := hrel
    by_cases hkn : k < n
    · obtain ⟨b, o, hz, hA, _, hc⟩ := (HR.out.out.below hx).at_ req_len hkn
      have hdk : rs.drop k = rs[k] :: rs.drop (k + 1) := List.drop_eq_getElem_cons hz
      obtain ⟨hin, hrn⟩ := HR.out.each rs[k] (List.getElem_mem hz)
      have hs := HV.out
      rw [hdk, rightR_cons] at hs
      generalize rs[k] = r at hs hc hin hrn
      obtain ⟨im, ra, rn, rc, rl⟩ := r
      dsimp only at hs hin hrn
      have hpl := hin.len
      rw [hpl] at hs
      have d0 : wr.cell? ⟨b, o + k * 2, none⟩ = some (.int .i64 im) := hc 0 (by omega)
      have d1 : wr.cell? ⟨b, o + k * 2 + 1, none⟩ = some (.slice ra rn rc) := hc 1 (by omega)
      subst hA
      have HIN := Lib.hid hin
      have HPL := Lib.hid hpl
      clear hdk hc hz hin hpl HV
      go_upto_region 5 with (fail)
      clear d0 d1
      have hy : Ext wr (wr.alloc (.cells #[.int .i64 im, .slice ra rn rc] 30)) := bl_alloc (Below.refl _ _) _
      have J : Blk (wr.alloc (.cells #[.int .i64 im, .slice ra rn rc] 30)) wr.heap.size 30 #[.int .i64 im, .slice ra rn rc] := Blk.new _ _ _
      have hg5 := HB.out.lt
      obtain ⟨g5, hge⟩ : ∃ g, g = wr.heap.size := ⟨_, rfl⟩
      rw [← hge] at J hg5 ⊢
      clear hge
      generalize wr.alloc (.cells #[.int .i64 im, .slice ra rn rc] 30) = W2 at hy J ⊢
      have hx := Ext.trans hx hy
      have HB := Lib.hid (HB.out.ext hy)
      clear hy
      have hI := fun w => isIn_any im 0 63 w
      have him : inB im 0 63 = true → ∃ m : Nat, im = m ∧ m < 64 := fun h => by
        rw [inB_iff] at h
        exact ⟨im.toNat, by omega, by omega⟩
      generalize inB im 0 63 = q1 at hs hI him
      have HI := Lib.hid hI
      have HS := Lib.hid hs
      clear hs hI
      have e0 : W2.cell? ⟨g5, 0, none⟩ = some (.int .i64 im) := J.cell 0
      have e1 : W2.cell? ⟨g5, 1, none⟩ = some (.slice ra rn rc) := J.cell 1
      cases q1
      · have HF : Hid (vr = false) := Lib.hid (by rw [← HS.out]; rfl)
        clear HS him
        go_wp2_with (go_at_call 53; refine (HI.out _).mono ?_; rintro e w' ⟨rfl, rfl⟩)
        go_ret
        exact ⟨by rw [HF.out]; rfl, hx⟩
      · obtain ⟨m, rfl, hm⟩ := him rfl
        have hm64 : (m : Int) < 64 := by omega
        have hs := HS.out
        rw [Bool.true_and, Int.toNat_natCast] at hs
        have ds : W2.cell? ⟨g3, m, none⟩ = some (.bool (s.getD m false)) := (HB.out.cell m).trans (boolArr_at s m (by omega))
        have df : W2.frozen? ⟨g3, m, none⟩ = false := HB.out.frozen m
        generalize s.getD m false = q2 at hs ds
        have HS2 := Lib.hid hs
        clear hs HS
        cases q2
        · by_cases h12 : rn ≤ 12
          · have h12' : ¬ (12 : Int) < (rn : Int) := by omega
            have hs := HS2.out
            rw [decide_eq_true h12, Bool.not_false, Bool.true_and, Bool.true_and] at hs
            obtain ⟨rest, hrest⟩ : ∃ b, b = rightR (s.set m true) (rs.drop (k + 1)) := ⟨_, rfl⟩
            rw [← hrest] at hs
            have HREST := Lib.hid hrest
            have HP0 : Hid ((passOK (prevP rl 0) (rl.drop 0) && rest) = vr) := Lib.hid hs
            clear hs HS2 hrest
            go_upto_region 8 with (go_at_call 53; refine (HI.out _).mono ?_; rintro e w' ⟨rfl, rfl⟩)
            have HB3 := HB.out.set_ m (.bool true)
            rw [boolArr_set] at HB3
            have J3 := J.far (p := ⟨g3, m, none⟩) (show g5 ≠ g3 by omega) (.bool true)
            have hx3 := hx.setCell (p := ⟨g3, m, none⟩) hg3w (.bool true)
            generalize W2.setCell ⟨g3, m, none⟩ (.bool true) = W3 at HB3 J3 hx3 ⊢
            clear e0 e1 ds df HB J hx
            have HB := Lib.hid HB3
            have e1 : W3.cell? ⟨g5, 1, none⟩ = some (.slice ra rn rc) := J3.cell 1
            clear HB3
            go_wp2_with fail
            go_loopw [36] (fun x wi => ∃ j : Nat, j ≤ rn ∧ x = .int .i64 j ∧ Hid ((passOK (prevP rl j) (rl.drop j) && rest) = vr) ∧ wi = W3) (fun x _ => rn - (intOf x).toNat)
            case atStart => exact ⟨0, Nat.zero_le _, rfl, HP0, rfl⟩
            case round =>
              clear HP0
              obtain ⟨j, hj, rfl, HP, rfl⟩ := hrel
              by_cases hjn : j < rn
              · obtain ⟨b6, o6, hz, hA6, _, hc6⟩ := (HIN.out.below hx3).at_ int_len hjn
                have hp := HP.out
                rw [passOK_drop rl j hz] at hp
                have c0 : wr.cell? ⟨b6, o6 + j * 1, none⟩ = some (.int .i64 rl[j]) := hc6 0 (by omega)
                rw [Nat.mul_one] at c0
                have hI6 := fun w => isIn_any rl[j] 0 63 w
                generalize rl[j] = p at hp c0 hI6
                generalize inB p 0 63 = q3 at hp hI6
                have HI6 := Lib.hid hI6
                have HP2 := Lib.hid hp
                clear hp hI6 HP hc6
                cases q3
                · have HF : Hid (vr = false) := Lib.hid (by rw [← HP2.out]; rfl)
                  clear HP2
                  subst hA6
                  go_wp2_with (go_at_call 53; refine (HI6.out _).mono ?_; rintro e w' ⟨rfl, rfl⟩)
                  go_ret
                  exact ⟨by rw [HF.out]; rfl, hx3⟩
                · by_cases hj0 : j = 0
                  · have hj1 : ¬ (0 : Int) < (j : Int) := by omega
                    have HP3 : Hid ((passOK (prevP rl (j + 1)) (rl.drop (j + 1)) && rest) = vr) := Lib.hid (by rw [← HP2.out, decide_eq_true hj0]; rfl)
                    clear HP2 hj0
                    subst hA6
                    go_wp2_with (go_at_call 53; refine (HI6.out _).mono ?_; rintro e w' ⟨rfl, rfl⟩)
                    go_roundw
                    case rel => exact ⟨j + 1, by omega, by go_num, HP3, trivial⟩
                    case measure => simp [intOf]; omega
                  · obtain ⟨b7, o7, hz7, hA7, _, hc7⟩ := (HIN.out.below hx3).at_ int_len (show j - 1 < rn by omega)
                    rw [hA6] at hA7
                    injection hA7 with hA7
                    injection hA7 with e7 e8 _
                    subst e7 e8
                    have c1 : wr.cell? ⟨b6, o6 + (j - 1) * 1, none⟩ = some (.int .i64 rl[j - 1]) := hc7 0 (by omega)
                    rw [Nat.mul_one] at c1
                    have hgd : rl.getD (j - 1) 0 = rl[j - 1] := by rw [List.getD_eq_getElem?_getD, List.getElem?_eq_getElem hz7]; rfl
                    have hp := HP2.out
                    rw [hgd, decide_eq_false hj0, Bool.false_or, Bool.true_and] at hp
                    generalize rl[j - 1] = pp at hp c1
                    have hj1 : (0 : Int) < (j : Int) := by omega
                    have hki : IntKind.i64.wrap ((j : Int) - 1) = (j : Int) - 1 := IntWalk.i64_in _ (by omega)
                    have hkn : ((j : Int) - 1).toNat = j - 1 := by omega
                    have hk0 : (0 : Int) ≤ (j : Int) - 1 := by omega
                    have hk1 : (j : Int) - 1 < (rn : Int) := by omega
                    subst hA6
                    by_cases hlt : pp < p
                    · have hlt2 : ¬ p ≤ pp := by omega
                      rw [decide_eq_true hlt, Bool.true_and] at hp
                      have HP3 := Lib.hid hp
                      clear hp HP2 hc7 hgd
                      go_wp2_with (go_at_call 53; refine (HI6.out _).mono ?_; rintro e w' ⟨rfl, rfl⟩)
                      go_roundw
                      case rel => exact ⟨j + 1, by omega, by go_num, HP3, trivial⟩
                      case measure => simp [intOf]; omega
                    · have hlt2 : p ≤ pp := by omega
                      have HF : Hid (vr = false) := Lib.hid (by rw [← hp, decide_eq_false hlt]; rfl)
                      clear hp HP2 hc7 hgd
                      go_wp2_with (go_at_call 53; refine (HI6.out _).mono ?_; rintro e w' ⟨rfl, rfl⟩)
                      go_ret
                      exact ⟨by rw [HF.out]; rfl, hx3⟩
              · have hp := HP.out
                rw [List.drop_of_length_le (by rw [HPL.out]; omega)] at hp
                have hpo : ∀ o, passOK o [] = true := fun o => by cases o <;> rfl
                rw [hpo, Bool.true_and, HREST.out] at hp
                have HP3 := Lib.hid hp
                clear hp HP hpo
                go_wp2
                go_roundw
                case rel => exact ⟨k + 1, s.set m true, by omega, by go_num, by simpa using hsl, HP3, HB, hx3⟩
                case measure => simp [intOf]; omega
          · have h12' : (12 : Int) < (rn : Int) := by omega
            have HF : Hid (vr = false) := Lib.hid (by rw [← HS2.out, decide_eq_false h12]; simp)
            clear HS2
            go_wp2_with (go_at_call 53; refine (HI.out _).mono ?_; rintro e w' ⟨rfl, rfl⟩)
            go_ret
            exact ⟨by rw [HF.out]; rfl, hx⟩
        · have HF : Hid (vr = false) := Lib.hid (by rw [← HS2.out]; rfl)
          clear HS2
          go_wp2_with (go_at_call 53; refine (HI.out _).mono ?_; rintro e w' ⟨rfl, rfl⟩)
          go_ret
          exact ⟨by rw [HF.out]; rfl, hx⟩
    · have hs := HV.out
      rw [List.drop_of_length_le (by rw [HL.out]; omega), rightR] at hs
      subst hs
      clear HV HB
      have hdd : decide ((n : Int) ≤ 16) = decide (n ≤ 16) := by simp only [decide_eq_decide]; omega
      go_wp2
      go_ret
      exact ⟨by rw [Bool.true_and, ← hdd]; rfl, hx⟩
end Go.Proofs.Ytgbfhkildbhhoaa
