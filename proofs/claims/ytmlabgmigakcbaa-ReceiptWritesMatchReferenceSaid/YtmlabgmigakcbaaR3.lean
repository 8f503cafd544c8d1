/- Options, passes and stations that are valid together. -/
import Derived.Test.YtmlabgmigakcbaaR2
namespace Go.Proofs.Ytmlabgmigakcbaa
open Go.RowKit

def optsR (ps : List Pas) : (Int → Bool) → List Opt → Bool
  | _, [] => true
  | seen, o :: r => inB o.id 0 63 && !seen o.id && (properP ps && lossOK ps o.l) && optsR ps (fun k => if k = o.id then true else seen k) r
theorem optsR_cons (ps : List Pas) (seen : Int → Bool) (o : Opt) (r : List Opt) : optsR ps seen (o :: r) = (inB o.id 0 63 && !seen o.id && (properP ps && lossOK ps o.l) && optsR ps (fun k => if k = o.id then true else seen k) r) := by rw [optsR]
def stnIn (f : Int → Option Int) (ps : List Pas) : Bool := ps.all (fun p => (f p.station).isSome)
def validP (os : List Opt) (ps : List Pas) (sts : List Stn) : Bool := decide (os.length ≤ 24) && (properP ps && (stnsOK sts && (stnIn (skewF sts) ps && optsR ps (fun _ => false) os)))
def bM (f : Int → Bool) : Int → Option Value := fun k => if f k then some (.bool true) else none
theorem bM_put (f : Int → Bool) (k j : Int) : (if j = k then some (Value.bool true) else bM f j) = bM (fun j => if j = k then true else f j) j := by
  unfold bM
  by_cases h : j = k <;> simp [h]
theorem bM_get (f : Int → Bool) (k : Int) : (bM f k).getD (.bool false) = .bool (f k) := by
  unfold bM
  cases f k <;> rfl
theorem iM_some (f : Int → Option Int) (k : Int) : (iM f k).isSome = (f k).isSome := by
  unfold iM
  cases f k <;> rfl
theorem iM_get (f : Int → Option Int) (k : Int) : (iM f k).getD (.int .i64 0) = .int .i64 ((f k).getD 0) := by
  unfold iM
  cases f k <;> rfl

set_option maxRecDepth 100000 in
set_option maxHeartbeats 4000000 in
theorem valid_any (os : List Opt) (ps : List Pas) (sts : List Stn) (OA PA SA : Option Addr) (n c pn pc sn sc : Nat) (w : World) (ho : Ops w w.heap.size OA n c os) (hp : RA pasCells 6 w w.heap.size PA pn pc ps) (hs : RA stnCells 6 w w.heap.size SA sn sc sts) :
    Calls Try.prog 14 #[.slice OA n c, .slice PA pn pc, .slice SA sn sc] w fun e w' => e = .returned (.bool (validP os ps sts)) ∧ Ext w w' := by
  have hle := ho.out.le
  have hple := hp.le
  have HO := Lib.hid ho
  have HP := Lib.hid hp
  have HL := Lib.hid ho.out.len
  have HPL := Lib.hid hp.len
  have HPR := Lib.hid (fun (W : World) (hW : Ext w W) => proper_any ps PA pn pc W (ra_ext hp hW))
  have HVS := Lib.hid (fun (W : World) (hW : Ext w W) => validStns_any sts SA sn sc W (ra_ext hs hW))
  have hsk : ∀ (W : World), Ext w W → Calls Try.prog 41 #[.slice SA sn sc] W fun e w' => ∃ g, e = .returned (.map (some g)) ∧ W.heap.size ≤ g ∧ MapI w' g (iM (skewF sts)) ∧ Ext W w' := fun W hW => skews_any sts SA sn sc W (ra_ext hs hW)
  have HLV := Lib.hid (fun (o : Opt) (W : World) (hW : Ext w W) (h : RA sltCells 3 W W.heap.size o.a o.n o.c o.l) => loss_valid o ps PA pn pc W h (ra_ext hp hW))
  obtain ⟨vt, hvt⟩ : ∃ b, b = validP os ps sts := ⟨_, rfl⟩
  rw [← hvt]
  rw [validP, ho.out.len] at hvt
  clear ho hp hs
  by_cases h24 : n ≤ 24
  · rw [decide_eq_true h24, Bool.true_and] at hvt
    have h24' : ¬ (24 : Int) < (n : Int) := by omega
    obtain ⟨pr, hpr⟩ : ∃ b, b = properP ps := ⟨_, rfl⟩
    rw [← hpr] at hvt HPR
    have HPRE := Lib.hid hpr
    obtain ⟨so, hso⟩ : ∃ b, b = stnsOK sts := ⟨_, rfl⟩
    rw [← hso] at hvt HVS
    generalize skewF sts = f at hvt hsk
    have HSK := Lib.hid hsk
    have HVT := Lib.hid hvt
    clear hvt hpr hso hsk
    go_enter Try.func14, Try.ntmps14
    go_wp2_with fail
    refine (HPR.out _ (Ext.refl _)).mono ?_
    rintro e W1 ⟨rfl, hx⟩
    clear HPR
    cases pr
    · have HF : Hid (vt = false) := Lib.hid (by rw [HVT.out, Bool.false_and])
      clear HVT
      go_wp2_with fail
      go_ret
      exact ⟨by rw [HF.out]; rfl, hx⟩
    · have HVT2 : Hid (vt = (so && (stnIn f ps && optsR ps (fun _ => false) os))) := Lib.hid (by rw [HVT.out, Bool.true_and])
      clear HVT
      go_wp2_with fail
      refine (HVS.out _ hx).mono ?_
      rintro e W2 ⟨rfl, hy⟩
      have hx2 := Ext.trans hx hy
      clear HVS hx hy
      cases so
      · have HF : Hid (vt = false) := Lib.hid (by rw [HVT2.out, Bool.false_and])
        clear HVT2
        go_wp2_with fail
        go_ret
        exact ⟨by rw [HF.out]; rfl, hx2⟩
      · have HVT : Hid (vt = (stnIn f ps && optsR ps (fun _ => false) os)) := Lib.hid (by rw [HVT2.out, Bool.true_and])
        clear HVT2
        go_wp2_with fail
        refine (HSK.out _ hx2).mono ?_
        rintro e W3 ⟨g7, rfl, hg7, hm7, hy⟩
        have hx := Ext.trans hx2 hy
        have HM0 := Lib.hid hm7
        have hg7w : w.heap.size ≤ g7 := Nat.le_trans (Below.size hx2) hg7
        clear hx2 hy hm7 hg7 HSK
        have HS0 : Hid (stnIn f ps = stnIn f (ps.drop 0)) := Lib.hid rfl
        go_wp2_with fail
        go_loopw [32] (fun y wr => ∃ k : Nat, k ≤ pn ∧ y = .int .i64 k ∧ Hid (stnIn f ps = stnIn f (ps.drop k)) ∧ Hid (MapI wr g7 (iM f)) ∧ Ext w wr) (fun y _ => pn - (intOf y).toNat)
        case atStart => exact ⟨0, Nat.zero_le _, rfl, HS0, HM0, hx⟩
        case round =>
          clear HS0 HM0 hx
          obtain ⟨k, hk, rfl, HS, HM, hx⟩ := hrel
          by_cases hkp : k < pn
          · obtain ⟨b, o, hz, hA, _, hc⟩ := (HP.out.below hx).at_ pas_len hkp
            have hst := HS.out
            rw [List.drop_eq_getElem_cons hz, show ∀ x r, stnIn f (x :: r) = ((f x.station).isSome && stnIn f r) from fun x r => by simp [stnIn]] at hst
            generalize ps[k] = p at hst hc
            obtain ⟨psa, psn, ⟨pa, pb⟩, ⟨pc1, pd⟩⟩ := p
            dsimp only at hst
            have c0 : wr.cell? ⟨b, o + k * 6, none⟩ = some (.int .i64 psa) := hc 0 (by omega)
            have c1 : wr.cell? ⟨b, o + k * 6 + 1, none⟩ = some (.int .i64 psn) := hc 1 (by omega)
            have c2 : wr.cell? ⟨b, o + k * 6 + 2, none⟩ = some (.int .i64 pa) := hc 2 (by omega)
            have c3 : wr.cell? ⟨b, o + k * 6 + 3, none⟩ = some (.int .i64 pb) := hc 3 (by omega)
            have c4 : wr.cell? ⟨b, o + k * 6 + 4, none⟩ = some (.int .i64 pc1) := hc 4 (by omega)
            have c5 : wr.cell? ⟨b, o + k * 6 + 5, none⟩ = some (.int .i64 pd) := hc 5 (by omega)
            subst hA
            have HST := Lib.hid hst
            clear hst hc hz HS
            go_upto_region 7 with (fail)
            have hy : Ext wr (wr.alloc (.cells #[.int .i64 psa, .int .i64 psn, .int .i64 pa, .int .i64 pb, .int .i64 pc1, .int .i64 pd] 98)) := bl_alloc (Below.refl _ _) _
            have J := Blk.new wr 98 #[.int .i64 psa, .int .i64 psn, .int .i64 pa, .int .i64 pb, .int .i64 pc1, .int .i64 pd]
            obtain ⟨g9, hg9⟩ : ∃ g, g = wr.heap.size := ⟨_, rfl⟩
            rw [← hg9] at J ⊢
            clear hg9
            generalize wr.alloc (.cells #[.int .i64 psa, .int .i64 psn, .int .i64 pa, .int .i64 pb, .int .i64 pc1, .int .i64 pd] 98) = W4 at hy J ⊢
            have hx := Ext.trans hx hy
            have HM4 := Lib.hid (HM.out.ext hy)
            have d1 : W4.cell? ⟨g9, 1, none⟩ = some (.int .i64 psn) := J.cell 1
            clear c0 c1 c2 c3 c4 c5 hy HM J
            have hlk := HM4.out.look_ok Try.underlying95 Try.underlying3 (zero_int W4) psn
            rw [iM_some, iM_get] at hlk
            generalize (f psn).getD 0 = sv at hlk
            generalize (f psn).isSome = si at hlk HST
            cases si
            · have HF : Hid (vt = false) := Lib.hid (by rw [HVT.out, HST.out]; rfl)
              clear HVT HST
              go_wp2_with fail
              go_ret
              exact ⟨by rw [HF.out]; rfl, hx⟩
            · have HN : Hid (stnIn f ps = stnIn f (ps.drop (k + 1))) := Lib.hid (by rw [HST.out, Bool.true_and])
              clear HST
              go_wp2_with fail
              go_roundw
              case rel => exact ⟨k + 1, by omega, by go_num, HN, HM4, hx⟩
              case measure => simp [intOf]; omega
          · have hst := HS.out
            rw [List.drop_of_length_le (by rw [HPL.out]; omega), show stnIn f [] = true from rfl] at hst
            have HV0 : Hid (vt = optsR ps (fun _ => false) (os.drop 0)) := Lib.hid (by rw [HVT.out, hst]; rfl)
            have hmm : ∀ w : World, (Instr.makeMap 100 none).run Try.prog w = .ok (.map (some w.heap.size)) (w.alloc (.map #[] 0)) := fun w => by simp [Instr.makeMap]
            clear hst HS HVT HM
            go_upto_region 12 with (fail)
            clear hmm
            have hx2 : Ext w (wr.alloc (.map #[] 0)) := Ext.trans hx (bl_alloc (Below.refl _ _) _)
            have hm2 := MapI.new wr
            have hgw := Below.size hx
            obtain ⟨g12, hg12⟩ : ∃ g, g = wr.heap.size := ⟨_, rfl⟩
            rw [← hg12] at hm2 hgw ⊢
            have HM0 : Hid (MapI (wr.alloc (.map #[] 0)) g12 (bM (fun _ => false))) := Lib.hid (hm2.congr fun _ => rfl)
            clear hg12 hm2 hx
            generalize wr.alloc (.map #[] 0) = W5 at hx2 HM0 ⊢
            go_wp2_with fail
            go_loopw [49] (fun y wr => ∃ (k : Nat) (seen : Int → Bool), k ≤ n ∧ y = .int .i64 k ∧ Hid (vt = optsR ps seen (os.drop k)) ∧ Hid (MapI wr g12 (bM seen)) ∧ Ext w wr) (fun y _ => n - (intOf y).toNat)
            case atStart => exact ⟨0, _, Nat.zero_le _, rfl, HV0, HM0, hx2⟩
            case round =>
              clear HV0 HM0 hx2
              obtain ⟨k, seen, hk, rfl, HV, HM, hx⟩ := hrel
              by_cases hkn : k < n
              · obtain ⟨b, o, hz, hA, _, hc⟩ := (HO.out.out.below hx).at_ opt_len hkn
                have hrs := (HO.out.each os[k] (List.getElem_mem hz))
                have hst := HV.out
                rw [List.drop_eq_getElem_cons hz, optsR_cons] at hst
                have hlv := HLV.out os[k]
                generalize os[k] = x at hst hc hrs hlv
                rw [← HPRE.out, Bool.true_and] at hst hlv
                obtain ⟨id, i1, i2, i3, i4, i5, i6, i7, a, ln, lc, l⟩ := x
                dsimp only at hst hrs hlv
                have c0 : wr.cell? ⟨b, o + k * 9, none⟩ = some (.int .i64 id) := hc 0 (by omega)
                have c1 : wr.cell? ⟨b, o + k * 9 + 1, none⟩ = some (.int .i64 i1) := hc 1 (by omega)
                have c2 : wr.cell? ⟨b, o + k * 9 + 2, none⟩ = some (.int .i64 i2) := hc 2 (by omega)
                have c3 : wr.cell? ⟨b, o + k * 9 + 3, none⟩ = some (.int .i64 i3) := hc 3 (by omega)
                have c4 : wr.cell? ⟨b, o + k * 9 + 4, none⟩ = some (.int .i64 i4) := hc 4 (by omega)
                have c5 : wr.cell? ⟨b, o + k * 9 + 5, none⟩ = some (.int .i64 i5) := hc 5 (by omega)
                have c6 : wr.cell? ⟨b, o + k * 9 + 6, none⟩ = some (.int .i64 i6) := hc 6 (by omega)
                have c7 : wr.cell? ⟨b, o + k * 9 + 7, none⟩ = some (.int .i64 i7) := hc 7 (by omega)
                have c8 : wr.cell? ⟨b, o + k * 9 + 8, none⟩ = some (.slice a ln lc) := hc 8 (by omega)
                subst hA
                have HST := Lib.hid hst
                have HRS := Lib.hid hrs
                have HLO := Lib.hid hlv
                clear hst hc hz HV hrs hlv
                go_upto_region 15 with (fail)
                have hy : Ext wr (wr.alloc (.cells #[.int .i64 id, .int .i64 i1, .int .i64 i2, .int .i64 i3, .int .i64 i4, .int .i64 i5, .int .i64 i6, .int .i64 i7, .slice a ln lc] 32)) := bl_alloc (Below.refl _ _) _
                have J := Blk.new wr 32 #[.int .i64 id, .int .i64 i1, .int .i64 i2, .int .i64 i3, .int .i64 i4, .int .i64 i5, .int .i64 i6, .int .i64 i7, .slice a ln lc]
                have hgn : g12 ≠ wr.heap.size := by have := HM.out.lt; omega
                obtain ⟨g14, hg14⟩ : ∃ g, g = wr.heap.size := ⟨_, rfl⟩
                rw [← hg14] at J hgn ⊢
                clear hg14
                generalize wr.alloc (.cells #[.int .i64 id, .int .i64 i1, .int .i64 i2, .int .i64 i3, .int .i64 i4, .int .i64 i5, .int .i64 i6, .int .i64 i7, .slice a ln lc] 32) = W6 at hy J ⊢
                have hx := Ext.trans hx hy
                have HM6 := Lib.hid (HM.out.ext hy)
                have d0 : W6.cell? ⟨g14, 0, none⟩ = some (.int .i64 id) := J.cell 0
                have d1 : W6.cell? ⟨g14, 1, none⟩ = some (.int .i64 i1) := J.cell 1
                have d2 : W6.cell? ⟨g14, 2, none⟩ = some (.int .i64 i2) := J.cell 2
                have d3 : W6.cell? ⟨g14, 3, none⟩ = some (.int .i64 i3) := J.cell 3
                have d4 : W6.cell? ⟨g14, 4, none⟩ = some (.int .i64 i4) := J.cell 4
                have d5 : W6.cell? ⟨g14, 5, none⟩ = some (.int .i64 i5) := J.cell 5
                have d6 : W6.cell? ⟨g14, 6, none⟩ = some (.int .i64 i6) := J.cell 6
                have d7 : W6.cell? ⟨g14, 7, none⟩ = some (.int .i64 i7) := J.cell 7
                have d8 : W6.cell? ⟨g14, 8, none⟩ = some (.slice a ln lc) := J.cell 8
                have HJ6 := Lib.hid J
                clear c0 c1 c2 c3 c4 c5 c6 c7 c8 hy HM J
                have hlk := HM6.out.look Try.underlying100 Try.underlying3 (zero_bool W6) id
                rw [bM_get] at hlk
                by_cases hi0 : id < 0
                · have HF : Hid (vt = false) := Lib.hid (by rw [HST.out, show inB id 0 63 = false by simp [inB]; omega]; rfl)
                  clear HST
                  go_wp2_with fail
                  go_ret
                  exact ⟨by rw [HF.out]; rfl, hx⟩
                · by_cases hi1 : 64 ≤ id
                  · have HF : Hid (vt = false) := Lib.hid (by rw [HST.out, show inB id 0 63 = false by simp [inB]; omega]; rfl)
                    clear HST
                    go_wp2_with fail
                    go_ret
                    exact ⟨by rw [HF.out]; rfl, hx⟩
                  · have hin : inB id 0 63 = true := by rw [inB_iff]; omega
                    have hst := HST.out
                    rw [hin, Bool.true_and] at hst
                    generalize seen id = sd at hst hlk
                    cases sd
                    · rw [Bool.not_false, Bool.true_and] at hst
                      have hlo := HLO.out W6 hx (HRS.out.below hx |>.more (Below.size hx))
                      generalize lossOK ps l = lo at hst hlo
                      have HLO2 := Lib.hid hlo
                      have HST2 := Lib.hid hst
                      clear hst hlo HST HLO
                      go_wp2_with fail
                      refine HLO2.out.mono ?_
                      rintro e W7 ⟨rfl, hy⟩
                      have hx := Ext.trans hx hy
                      have HM7 := Lib.hid (HM6.out.ext hy)
                      have HJ7 := Lib.hid (HJ6.out.ext hy)
                      clear hlk d0 d1 d2 d3 d4 d5 d6 d7 d8 hy HM6 HJ6 HLO2
                      cases lo
                      · have HF : Hid (vt = false) := Lib.hid (by rw [HST2.out]; rfl)
                        clear HST2
                        go_wp2_with fail
                        go_ret
                        exact ⟨by rw [HF.out]; rfl, hx⟩
                      · have HN : Hid (vt = optsR ps (fun k => if k = id then true else seen k) (os.drop (k + 1))) := Lib.hid (by rw [HST2.out, Bool.true_and])
                        clear HST2
                        obtain ⟨W8, hu, hm8, hg8⟩ := HM7.out.update Try.underlying100 Try.underlying3 id (.bool true)
                        have hx8 : Ext w W8 := hx.grown hg8 (Below.size hx) (fun q e => by injection e with e; omega)
                        have HM8 : Hid (MapI W8 g12 (bM (fun j => if j = id then true else seen j))) := Lib.hid (hm8.congr fun j => bM_put seen id j)
                        have HU := Lib.hid hu
                        have d0 : W7.cell? ⟨g14, 0, none⟩ = some (.int .i64 id) := HJ7.out.cell 0
                        clear hu hm8 hg8 HM7 HJ7
                        go_wp2_with (refine wpList_mapUpdate_run rfl _ _ _ _ rfl rfl rfl rfl HU.out ?_)
                        go_roundw
                        case rel => exact ⟨k + 1, _, by omega, by go_num, HN, HM8, hx8⟩
                        case measure => simp [intOf]; omega
                    · have HF : Hid (vt = false) := Lib.hid (by rw [hst]; rfl)
                      clear hst HST
                      go_wp2_with fail
                      go_ret
                      exact ⟨by rw [HF.out]; rfl, hx⟩
              · have hst := HV.out
                rw [List.drop_of_length_le (by rw [HL.out]; omega), optsR] at hst
                subst hst
                go_wp2_with fail
                go_ret
                exact ⟨rfl, hx⟩
  · rw [decide_eq_false h24, Bool.false_and] at hvt
    subst hvt
    have h24' : (24 : Int) < (n : Int) := by omega
    go_enter Try.func14, Try.ntmps14
    go_wp2_with fail
    go_ret
    exact ⟨rfl, Ext.refl _⟩
end Go.Proofs.Ytmlabgmigakcbaa
