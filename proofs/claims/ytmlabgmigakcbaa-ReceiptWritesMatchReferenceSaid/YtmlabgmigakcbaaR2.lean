/- Options that are valid for passes. -/
import Derived.Test.YtmlabgmigakcbaaRo
import Derived.BigQuiet
namespace Go.Proofs.Ytmlabgmigakcbaa
open Go.RowKit

set_option maxRecDepth 100000 in
set_option maxHeartbeats 4000000 in
theorem loss_valid (o : Opt) (ps : List Pas) (PA : Option Addr) (pn pc : Nat) (w : World) (ho : RA sltCells 3 w w.heap.size o.a o.n o.c o.l) (hp : RA pasCells 6 w w.heap.size PA pn pc ps) :
    Calls Try.prog 42 #[.agg (optCells o).toArray, .slice PA pn pc] w fun e w' => e = .returned (.bool (properP ps && lossOK ps o.l)) ∧ Ext w w' := by
  obtain ⟨id, i1, i2, i3, i4, i5, i6, i7, a, n, c, l⟩ := o
  dsimp only at ho ⊢
  show Calls Try.prog 42 #[.agg #[.int .i64 id, .int .i64 i1, .int .i64 i2, .int .i64 i3, .int .i64 i4, .int .i64 i5, .int .i64 i6, .int .i64 i7, .slice a n c], .slice PA pn pc] w _
  have hle := ho.le
  have hple := hp.le
  have HO := Lib.hid ho
  have HP := Lib.hid hp
  have HL := Lib.hid ho.len
  have HPL := Lib.hid hp.len
  have HPR := Lib.hid (fun (W : World) (hW : Ext w W) => proper_any ps PA pn pc W (ra_ext hp hW))
  have hlo : lossOK ps l = (decide (1 ≤ n ∧ n ≤ 6) && slotsOK ps 0 l) := by rw [lossOK, ho.len]
  rw [hlo]
  clear ho hp hlo
  obtain ⟨vt, hvt⟩ : ∃ b, b = (properP ps && (decide (1 ≤ n ∧ n ≤ 6) && slotsOK ps 0 l)) := ⟨_, rfl⟩
  rw [← hvt]
  have HVT := Lib.hid hvt
  clear hvt
  by_cases h1 : 1 ≤ n
  · by_cases h6 : n ≤ 6
    · have hvt := HVT.out
      rw [decide_eq_true (show 1 ≤ n ∧ n ≤ 6 from ⟨h1, h6⟩), Bool.true_and] at hvt
      generalize properP ps = q at hvt HPR
      have HVT2 := Lib.hid hvt
      clear hvt HVT
      have h1' : ¬ (n : Int) < 1 := by omega
      have h6' : ¬ (6 : Int) < (n : Int) := by omega
      go_enter Try.func42, Try.ntmps42
      go_upto_region 1 with (fail)
      have hx0 : Ext w (w.alloc (.cells #[.int .i64 id, .int .i64 i1, .int .i64 i2, .int .i64 i3, .int .i64 i4, .int .i64 i5, .int .i64 i6, .int .i64 i7, .slice a n c] 32)) := bl_alloc (Below.refl _ _) _
      have J := Blk.new w 32 #[.int .i64 id, .int .i64 i1, .int .i64 i2, .int .i64 i3, .int .i64 i4, .int .i64 i5, .int .i64 i6, .int .i64 i7, .slice a n c]
      obtain ⟨g2, hg2⟩ : ∃ g, g = w.heap.size := ⟨_, rfl⟩
      rw [← hg2] at J ⊢
      clear hg2
      generalize w.alloc (.cells #[.int .i64 id, .int .i64 i1, .int .i64 i2, .int .i64 i3, .int .i64 i4, .int .i64 i5, .int .i64 i6, .int .i64 i7, .slice a n c] 32) = W1 at hx0 J ⊢
      have e7 : W1.cell? ⟨g2, 7 + 1, none⟩ = some (.slice a n c) := J.cell 8
      have HJ := Lib.hid J
      clear J
      go_wp2_with fail
      refine (HPR.out _ hx0).mono ?_
      rintro e W2 ⟨rfl, hy⟩
      have hx := Ext.trans hx0 hy
      have HJ2 := Lib.hid (HJ.out.ext hy)
      clear HPR hy hx0 e7 HJ
      have e7 : W2.cell? ⟨g2, 7 + 1, none⟩ = some (.slice a n c) := HJ2.out.cell 8
      cases q
      · go_wp2_with fail
        go_ret
        exact ⟨by rw [HVT2.out]; rfl, hx⟩
      · have HV0 : Hid (vt = slotsOK ps 0 (l.drop 0)) := Lib.hid (by have := HVT2.out; rwa [Bool.true_and] at this)
        clear HVT2
        go_wp2_with fail
        go_loopw [5, 27] (fun y z wr => ∃ (k : Nat) (e : Int), k ≤ n ∧ z = .int .i64 k ∧ y = .int .i64 e ∧ Hid (vt = slotsOK ps e (l.drop k)) ∧ Ext w wr) (fun _ z _ => n - (intOf z).toNat)
        case atStart => exact ⟨0, 0, Nat.zero_le _, rfl, rfl, HV0, hx⟩
        case round =>
          clear HV0 hx HJ2 e7
          obtain ⟨k, e, hk, rfl, rfl, HV, hx⟩ := hrel
          by_cases hkn : k < n
          · obtain ⟨b, o, hz, hA, _, hc⟩ := (HO.out.below hx).at_ slt_len hkn
            have hst := HV.out
            rw [List.drop_eq_getElem_cons hz, slotsOK_cons] at hst
            generalize l[k] = s at hst hc
            obtain ⟨sp, sf, st⟩ := s
            dsimp only at hst
            have c0 : wr.cell? ⟨b, o + k * 3, none⟩ = some (.int .i64 sp) := hc 0 (by omega)
            have c1 : wr.cell? ⟨b, o + k * 3 + 1, none⟩ = some (.int .i64 sf) := hc 1 (by omega)
            have c2 : wr.cell? ⟨b, o + k * 3 + 2, none⟩ = some (.int .i64 st) := hc 2 (by omega)
            subst hA
            have HST := Lib.hid hst
            clear hst hc hz HV
            go_upto_region 7 with (fail)
            have hy : Ext wr (wr.alloc (.cells #[.int .i64 sp, .int .i64 sf, .int .i64 st] 78)) := bl_alloc (Below.refl _ _) _
            have J := Blk.new wr 78 #[.int .i64 sp, .int .i64 sf, .int .i64 st]
            obtain ⟨g7, hg7⟩ : ∃ g, g = wr.heap.size := ⟨_, rfl⟩
            rw [← hg7] at J ⊢
            clear hg7
            generalize wr.alloc (.cells #[.int .i64 sp, .int .i64 sf, .int .i64 st] 78) = W3 at hy J ⊢
            have hx := Ext.trans hx hy
            have d0 : W3.cell? ⟨g7, 0, none⟩ = some (.int .i64 sp) := J.cell 0
            clear c0 c1 c2 hy
            by_cases hp0 : sp < 0
            · have hst := HST.out
              rw [show inB sp 0 ((ps.length : Int) - 1) = false by simp [inB]; omega, Bool.false_and, Bool.false_and] at hst
              subst hst
              go_wp2_with fail
              go_ret
              exact ⟨rfl, hx⟩
            · by_cases hp1 : (pn : Int) ≤ sp
              · have hst := HST.out
                rw [show inB sp 0 ((ps.length : Int) - 1) = false by rw [HPL.out]; simp [inB]; omega, Bool.false_and, Bool.false_and] at hst
                subst hst
                go_wp2_with fail
                go_ret
                exact ⟨rfl, hx⟩
              · obtain ⟨m, rfl, hm⟩ : ∃ m : Nat, sp = m ∧ m < pn := ⟨sp.toNat, by omega, by omega⟩
                obtain ⟨bp, op, hzp, hPA, _, hcp⟩ := (HP.out.below hx).at_ pas_len hm
                have hst := HST.out
                rw [show inB (m : Int) 0 ((ps.length : Int) - 1) = true by rw [HPL.out, inB_iff]; omega, Bool.true_and, Int.toNat_natCast, List.getElem?_eq_getElem hzp] at hst
                dsimp only at hst
                generalize ps[m] = p at hst hcp
                obtain ⟨psa, psn, ⟨pa, pb⟩, ⟨pc1, pd⟩⟩ := p
                dsimp only at hst
                have f2 : W3.cell? ⟨bp, op + m * 6 + 2, none⟩ = some (.int .i64 pa) := hcp 2 (by omega)
                have f3 : W3.cell? ⟨bp, op + m * 6 + 3, none⟩ = some (.int .i64 pb) := hcp 3 (by omega)
                subst hPA
                have HST2 := Lib.hid hst
                have hmp : (m : Int) < (pn : Int) := by omega
                have HJ3 := Lib.hid J
                clear hst hcp hzp HST J
                go_upto_region 10 with (fail)
                have hy : Ext W3 (W3.alloc (.cells #[.int .i64 pa, .int .i64 pb] 29)) := bl_alloc (Below.refl _ _) _
                have J := Blk.new W3 29 #[.int .i64 pa, .int .i64 pb]
                obtain ⟨g8, hg8⟩ : ∃ g, g = W3.heap.size := ⟨_, rfl⟩
                rw [← hg8] at J ⊢
                clear hg8
                generalize W3.alloc (.cells #[.int .i64 pa, .int .i64 pb] 29) = W4 at hy J ⊢
                have hx := Ext.trans hx hy
                have J3 := HJ3.out.ext hy
                have d1 : W4.cell? ⟨g7, 1, none⟩ = some (.int .i64 sf) := J3.cell 1
                have d2 : W4.cell? ⟨g7, 2, none⟩ = some (.int .i64 st) := J3.cell 2
                have h0 : W4.cell? ⟨g8, 0, none⟩ = some (.int .i64 pa) := J.cell 0
                have h1s : W4.cell? ⟨g8, 1, none⟩ = some (.int .i64 pb) := J.cell 1
                clear f2 f3 d0 hy HJ3 J3 J
                obtain ⟨z, hz⟩ : ∃ z, z = max e pa := ⟨_, rfl⟩
                have HZ := Lib.hid hz
                clear hz
                by_cases hle1 : max e pa ≤ sf
                · by_cases hle2 : sf < st
                  · by_cases hle3 : st ≤ pb
                    · have hst := HST2.out
                      rw [decide_eq_true hle1, decide_eq_true hle2, decide_eq_true hle3, Bool.true_and, Bool.true_and, Bool.true_and] at hst
                      have HN := Lib.hid hst
                      clear hst HST2
                      go_wp2_with fail
                      go_roundw
                      case rel => exact ⟨k + 1, st, by omega, by go_num, rfl, HN, hx⟩
                      case measure => simp [intOf]; omega
                    · have hst := HST2.out
                      rw [decide_eq_false hle3, Bool.and_false, Bool.false_and] at hst
                      subst hst
                      go_wp2_with fail
                      all_goals (
                        go_ret
                        exact ⟨rfl, hx⟩)
                  · have hst := HST2.out
                    rw [decide_eq_false hle2, Bool.and_false, Bool.false_and, Bool.false_and] at hst
                    subst hst
                    go_wp2_with fail
                    all_goals (
                      go_ret
                      exact ⟨rfl, hx⟩)
                · have hst := HST2.out
                  rw [decide_eq_false hle1, Bool.false_and, Bool.false_and, Bool.false_and] at hst
                  subst hst
                  go_wp2_with fail
                  all_goals (
                    go_ret
                    exact ⟨rfl, hx⟩)
          · have hst := HV.out
            rw [List.drop_of_length_le (by rw [HL.out]; omega), slotsOK] at hst
            subst hst
            go_wp2_with fail
            go_ret
            exact ⟨rfl, hx⟩
    · have hvt := HVT.out
      rw [decide_eq_false (show ¬ (1 ≤ n ∧ n ≤ 6) from fun h => h6 h.2), Bool.false_and, Bool.and_false] at hvt
      subst hvt
      have h1' : ¬ (n : Int) < 1 := by omega
      have h6' : (6 : Int) < (n : Int) := by omega
      go_enter Try.func42, Try.ntmps42
      go_wp2_with fail
      go_ret
      exact ⟨rfl, (by repeat (first | exact Below.refl _ _ | assumption | refine Below.drew ?_ | refine below_drewN ?_ _ | refine bl_alloc ?_ _ | refine Below.setCell ?_ (by first | (simp; done) | omega | (simp; omega)) _ | refine bl_then ?_ (by assumption)))⟩
  · have hvt := HVT.out
    rw [decide_eq_false (show ¬ (1 ≤ n ∧ n ≤ 6) from fun h => h1 h.1), Bool.false_and, Bool.and_false] at hvt
    subst hvt
    have h1' : (n : Int) < 1 := by omega
    go_enter Try.func42, Try.ntmps42
    go_wp2_with fail
    go_ret
    exact ⟨rfl, (by repeat (first | exact Below.refl _ _ | assumption | refine Below.drew ?_ | refine below_drewN ?_ _ | refine bl_alloc ?_ _ | refine Below.setCell ?_ (by first | (simp; done) | omega | (simp; omega)) _ | refine bl_then ?_ (by assumption)))⟩
end Go.Proofs.Ytmlabgmigakcbaa
