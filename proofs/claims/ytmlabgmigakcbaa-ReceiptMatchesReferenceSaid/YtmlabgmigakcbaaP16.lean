/- Inputs that integers determine: stations, lost sets, options. -/
import Derived.Test.YtmlabgmigakcbaaP15
import Derived.Test.YtmlabgmigakcbaaP08
import Derived.Test.YtmlabgmigakcbaaP07
import Derived.Test.YtmlabgmigakcbaaP12
namespace Go.Proofs.Ytmlabgmigakcbaa
open Go.RowKit
set_option maxRecDepth 100000 in
set_option maxHeartbeats 4000000 in
theorem rSent_any (o : Opt) (ps : List Pas) (lost : List Int) (PA LA : Option Addr) (pn pc ln lc : Nat) (w : World) (ho : RA sltCells 3 w w.heap.size o.a o.n o.c o.l) (hp : RA pasCells 6 w w.heap.size PA pn pc ps) (hl : RA intCells 1 w w.heap.size LA ln lc lost) :
  Calls Try.prog 63 #[.agg (optCells o).toArray, .slice PA pn pc, .slice LA ln lc] w fun e w' => e = .returned (.tuple #[.int .i64 (sentV o ps lost).1, .int .i64 (sentV o ps lost).2]) ∧ Ext w w' := by
 have HV := Lib.hid (fun (W : World) (hW : Ext w W) => rloss_valid o ps PA pn pc W (ra_ext ho hW) (ra_ext hp hW))
 have HIS := Lib.hid (fun (W : World) (hW : Ext w W) => rset_any ps lost PA LA pn pc ln lc W (ra_ext hp hW) (ra_ext hl hW))
 have HIX := Lib.hid (fun (W : World) (hW : Ext w W) => rsent0_any o lost LA ln lc W (ra_ext ho hW) (ra_ext hl hW))
 unfold sentV sentOK
 generalize sentI lost 0 o.l = z at HIX ⊢
 generalize (properP ps && lossOK ps o.l) = q1 at HV ⊢
 generalize (setR ps.length (-1) lost && properP ps) = q2 at HIS ⊢
 obtain ⟨id, i1, i2, i3, i4, i5, i6, i7, a, m, d, l⟩ := o
 have hoe : (optCells ⟨id, i1, i2, i3, i4, i5, i6, i7, a, m, d, l⟩).toArray = #[.int .i64 id, .int .i64 i1, .int .i64 i2, .int .i64 i3, .int .i64 i4, .int .i64 i5, .int .i64 i6, .int .i64 i7, .slice a m d] := rfl
 rw [hoe] at HV HIX ⊢
 clear ho hp hl hoe
 go_enter Try.func63, Try.ntmps63
 go_upto_region 1 with (fail)
 have hx1 : Ext w (w.alloc (.cells #[.int .i64 id, .int .i64 i1, .int .i64 i2, .int .i64 i3, .int .i64 i4, .int .i64 i5, .int .i64 i6, .int .i64 i7, .slice a m d] 32)) := bl_alloc (Below.refl _ _) _
 have J0 := Blk.new w 32 #[.int .i64 id, .int .i64 i1, .int .i64 i2, .int .i64 i3, .int .i64 i4, .int .i64 i5, .int .i64 i6, .int .i64 i7, .slice a m d]
 obtain ⟨g3, hg3⟩ : ∃ g, g = w.heap.size := ⟨_, rfl⟩
 rw [← hg3] at J0 ⊢
 clear hg3
 generalize w.alloc (.cells #[.int .i64 id, .int .i64 i1, .int .i64 i2, .int .i64 i3, .int .i64 i4, .int .i64 i5, .int .i64 i6, .int .i64 i7, .slice a m d] 32) = W1 at hx1 J0 ⊢
 have d0 : W1.cell? ⟨g3, 0, none⟩ = some (.int .i64 id) := J0.cell 0
 have d1 : W1.cell? ⟨g3, 1, none⟩ = some (.int .i64 i1) := J0.cell 1
 have d2 : W1.cell? ⟨g3, 2, none⟩ = some (.int .i64 i2) := J0.cell 2
 have d3 : W1.cell? ⟨g3, 3, none⟩ = some (.int .i64 i3) := J0.cell 3
 have d4 : W1.cell? ⟨g3, 4, none⟩ = some (.int .i64 i4) := J0.cell 4
 have d5 : W1.cell? ⟨g3, 5, none⟩ = some (.int .i64 i5) := J0.cell 5
 have d6 : W1.cell? ⟨g3, 6, none⟩ = some (.int .i64 i6) := J0.cell 6
 have d7 : W1.cell? ⟨g3, 7, none⟩ = some (.int .i64 i7) := J0.cell 7
 have d8 : W1.cell? ⟨g3, 8, none⟩ = some (.slice a m d) := J0.cell 8
 have HJ0 := Lib.hid J0
 have HK := Lib.hid (HV.out W1 hx1)
 clear J0 HV
 go_wp2_with fail
 refine HK.out.mono ?_
 rintro e W2 ⟨rfl, hy⟩
 have hx2 := Ext.trans hx1 hy
 have HJ0 := Lib.hid (HJ0.out.ext hy)
 clear d0 d1 d2 d3 d4 d5 d6 d7 d8 HK hx1 hy
 cases q1
 ·go_wp2
  exact bodyPost_ret (v := .tuple #[.int .i64 0, .int .i64 180]) (by simp [results, Try.results63, go_sem]) rfl ⟨rfl, hx2⟩
 ·have HK := Lib.hid (HIS.out W2 hx2)
  clear HIS
  go_wp2_with fail
  refine HK.out.mono ?_
  rintro e W3 ⟨rfl, hy⟩
  have hx3 := Ext.trans hx2 hy
  have J0 := HJ0.out.ext hy
  clear HK hx2 hy HJ0
  cases q2
  ·go_wp2
   exact bodyPost_ret (v := .tuple #[.int .i64 0, .int .i64 180]) (by simp [results, Try.results63, go_sem]) rfl ⟨rfl, hx3⟩
  ·have HK := Lib.hid (HIX.out W3 hx3)
   have d0 : W3.cell? ⟨g3, 0, none⟩ = some (.int .i64 id) := J0.cell 0
   have d1 : W3.cell? ⟨g3, 1, none⟩ = some (.int .i64 i1) := J0.cell 1
   have d2 : W3.cell? ⟨g3, 2, none⟩ = some (.int .i64 i2) := J0.cell 2
   have d3 : W3.cell? ⟨g3, 3, none⟩ = some (.int .i64 i3) := J0.cell 3
   have d4 : W3.cell? ⟨g3, 4, none⟩ = some (.int .i64 i4) := J0.cell 4
   have d5 : W3.cell? ⟨g3, 5, none⟩ = some (.int .i64 i5) := J0.cell 5
   have d6 : W3.cell? ⟨g3, 6, none⟩ = some (.int .i64 i6) := J0.cell 6
   have d7 : W3.cell? ⟨g3, 7, none⟩ = some (.int .i64 i7) := J0.cell 7
   have d8 : W3.cell? ⟨g3, 8, none⟩ = some (.slice a m d) := J0.cell 8
   clear HIX J0
   go_wp2_with fail
   refine HK.out.mono ?_
   rintro e W4 ⟨rfl, hy⟩
   have hx4 := Ext.trans hx3 hy
   clear d0 d1 d2 d3 d4 d5 d6 d7 d8 HK hx3 hy
   go_wp2
   exact bodyPost_ret (v := .tuple #[.int .i64 z, .int .i64 0]) (by simp [results, Try.results63, go_sem]) rfl ⟨rfl, hx4⟩
theorem stI_any (x : Int) : ∀ (l : List Stn) (i : Nat), decide (0 ≤ stI x i l) = l.any (fun s => decide (s.id = x))
 | [], i => rfl
 | s :: r, i => by
  rw [stI_cons, List.any_cons]
  by_cases h : s.id = x
  ·rw [if_pos h, decide_eq_true h, Bool.true_or]
   exact decide_eq_true (by omega)
  ·rw [if_neg h, decide_eq_false h, Bool.false_or]
   exact stI_any x r (i + 1)
theorem skewL_any (x : Int) : ∀ (l : List Stn) (f : Int → Option Int), (skewL f l x).isSome = ((f x).isSome || l.any (fun s => decide (s.id = x)))
 | [], f => by simp [skewL]
 | s :: r, f => by
  rw [skewL_cons, skewL_any x r, List.any_cons]
  by_cases h : x = s.id
  ·subst h; simp
  ·have h2 : ¬ s.id = x := fun e => h e.symm
   simp [h, h2]
theorem stn_some (x : Int) (l : List Stn) : (skewF l x).isSome = decide (0 ≤ stI x 0 l) := by
 rw [stI_any]
 have := skewL_any x l (fun _ => none)
 simpa [skewL, skewF] using this
def seenB (os : List Opt) (k : Nat) (x : Int) : Bool := (os.take k).any (fun o => decide (o.id = x))
theorem seenB_succ (os : List Opt) (k : Nat) (h : k < os.length) (x : Int) : seenB os (k + 1) x = if x = os[k].id then true else seenB os k x := by
 unfold seenB
 rw [List.take_succ_eq_append_getElem h, List.any_append]
 by_cases e : x = os[k].id
 ·rw [if_pos e]; simp [e]
 ·have e2 : ¬ os[k].id = x := fun h => e h.symm
  rw [if_neg e]; simp [e2]
theorem seenB_zero (os : List Opt) : seenB os 0 = fun _ => false := by funext x; simp [seenB]
theorem optsR_seen (ps : List Pas) (os : List Opt) (k : Nat) (h : k < os.length) : optsR ps (seenB os k) (os.drop k) = (inB os[k].id 0 63 && !seenB os k os[k].id && (properP ps && lossOK ps os[k].l) && optsR ps (seenB os (k + 1)) (os.drop (k + 1))) := by
 rw [List.drop_eq_getElem_cons h, optsR_cons]
 congr 2
 funext x
 exact (seenB_succ os k h x).symm
set_option maxRecDepth 100000 in
set_option maxHeartbeats 8000000 in
theorem rvalid_any (os : List Opt) (ps : List Pas) (sts : List Stn) (OA PA SA : Option Addr) (n c pn pc sn sc : Nat) (w : World) (ho : Ops w w.heap.size OA n c os) (hp : RA pasCells 6 w w.heap.size PA pn pc ps) (hs : RA stnCells 6 w w.heap.size SA sn sc sts) :
  Calls Try.prog 15 #[.slice OA n c, .slice PA pn pc, .slice SA sn sc] w fun e w' => e = .returned (.bool (validP os ps sts)) ∧ Ext w w' := by
 have hle := ho.out.le
 have hple := hp.le
 have hvt0 : validP os ps sts = (properP ps && (stnsOK sts && (decide (n ≤ 24) && (ps.all (fun p => decide (0 ≤ stI p.station 0 sts)) && optsR ps (seenB os 0) os)))) := by
  have hst : stnIn (skewF sts) ps = ps.all (fun p => decide (0 ≤ stI p.station 0 sts)) := by
   unfold stnIn
   congr 1
   funext p
   exact stn_some p.station sts
  unfold validP
  rw [ho.out.len, hst, seenB_zero]
  generalize properP ps = q1
  generalize stnsOK sts = q2
  generalize decide (n ≤ 24) = q3
  cases q1 <;> cases q2 <;> cases q3 <;> rfl
 obtain ⟨vt, hvt⟩ : ∃ b, b = validP os ps sts := ⟨_, rfl⟩
 rw [← hvt]
 rw [hvt0] at hvt
 have hPR := (fun (W : World) (hW : Ext w W) => rproper_any ps PA pn pc W (ra_ext hp hW))
 have hVS := (fun (W : World) (hW : Ext w W) => rvalidStns_any sts SA sn sc W (ra_ext hs hW))
 have HRS := Lib.hid (fun (x : Int) (W : World) (hW : Ext w W) => rstation_any x sts SA sn sc W (ra_ext hs hW))
 have hLV := (fun (o : Opt) (hm : o ∈ os) (W : World) (hW : Ext w W) => rloss_valid o ps PA pn pc W (ra_ext (ho.each o hm) hW) (ra_ext hp hW))
 have HOK := Lib.hid (fun (k : Nat) (h : k < os.length) => optsR_seen ps os k h)
 generalize properP ps = q1 at hvt hPR hLV HOK
 generalize stnsOK sts = q2 at hvt hVS
 have HVT := Lib.hid hvt
 have HPR := Lib.hid hPR
 have HVS := Lib.hid hVS
 have HLV := Lib.hid hLV
 have HO := Lib.hid ho
 have HP := Lib.hid hp
 clear hvt hvt0 hPR hVS hLV ho hp hs
 go_enter Try.func15, Try.ntmps15
 go_wp2_with fail
 refine (HPR.out w (Ext.refl _)).mono ?_
 rintro e W1 ⟨rfl, hx1⟩
 have HC := Lib.hid (HVS.out W1 hx1)
 clear HPR HVS
 go_wp2_with fail
 refine HC.out.mono ?_
 rintro e W2 ⟨rfl, hy⟩
 have hx2 : Ext w W2 := Ext.trans hx1 hy
 clear HC hx1 hy
 cases q1
 ·have hvt := HVT.out
  rw [Bool.false_and] at hvt
  subst hvt
  go_wp2_with fail
  go_ret
  exact ⟨rfl, hx2⟩
 cases q2
 ·have hvt := HVT.out
  rw [Bool.true_and, Bool.false_and] at hvt
  subst hvt
  go_wp2_with fail
  go_ret
  exact ⟨rfl, hx2⟩
 by_cases h24 : n ≤ 24
 case neg =>
  have hvt := HVT.out
  rw [Bool.true_and, Bool.true_and, decide_eq_false h24, Bool.false_and] at hvt
  subst hvt
  have h24' : (24 : Int) < (n : Int) := by omega
  have h24b : decide ((24 : Int) < (n : Int)) = true := decide_eq_true h24'
  go_wp2_with fail
  go_ret
  exact ⟨rfl, hx2⟩
 have h24' : ¬ (24 : Int) < (n : Int) := by omega
 have h24b : decide ((24 : Int) < (n : Int)) = false := decide_eq_false h24'
 have HV0 : Hid (vt = ((ps.drop 0).all (fun p => decide (0 ≤ stI p.station 0 sts)) && optsR ps (seenB os 0) os)) := Lib.hid (by
  have hvt := HVT.out
  rw [Bool.true_and, Bool.true_and, decide_eq_true h24, Bool.true_and] at hvt
  exact hvt)
 clear HVT
 go_wp2_with fail
 go_loopw [9] (fun z wr => ∃ k : Nat, k ≤ pn ∧ z = .int .i64 k ∧ Hid (vt = ((ps.drop k).all (fun p => decide (0 ≤ stI p.station 0 sts)) && optsR ps (seenB os 0) os)) ∧ wr = W2) (fun z _ => pn - (intOf z).toNat)
 case atStart => exact ⟨0, Nat.zero_le _, rfl, HV0, rfl⟩
 case round =>
  clear HV0 h24' h24b
  obtain ⟨k, hk, rfl, HV, rfl⟩ := hrel
  by_cases hkn : k < pn
  ·obtain ⟨b, ob, hz, hA, _, hc⟩ := (HP.out.below hx2).at_ pas_len hkn
   have hst := HV.out
   rw [List.drop_eq_getElem_cons hz, List.all_cons] at hst
   have c1 : wr.cell? ⟨b, ob + k * 6 + 1, none⟩ = some (.int .i64 ps[k].station) := hc 1 (by omega)
   have hS := HRS.out ps[k].station wr hx2
   generalize ps[k].station = x at hst c1 hS
   generalize stI x 0 sts = z at hst hS
   have HS := Lib.hid hS
   have HST := Lib.hid hst
   have hkz : (k : Int) < (pn : Int) := by omega
   subst hA
   clear hc hz hst hS HV
   by_cases hz0 : z < 0
   ·have hft : vt = false := by rw [HST.out, decide_eq_false (by omega)]; rfl
    subst hft
    go_wp2_with (refine HS.out.mono ?_; rintro e w2 ⟨rfl, rfl⟩)
    go_ret
    exact ⟨rfl, hx2⟩
   ·have HN2 : Hid (vt = ((ps.drop (k + 1)).all (fun p => decide (0 ≤ stI p.station 0 sts)) && optsR ps (seenB os 0) os)) := Lib.hid (by rw [HST.out, decide_eq_true (by omega), Bool.true_and])
    clear HST
    go_wp2_with (refine HS.out.mono ?_; rintro e w2 ⟨rfl, rfl⟩)
    go_roundw
    case rel => exact ⟨k + 1, by omega, by go_num, HN2, (by first | rfl | trivial)⟩
    case measure => simp [intOf]; omega
  ·have HV1 : Hid (vt = optsR ps (seenB os 0) (os.drop 0)) := Lib.hid (by
    have hst := HV.out
    rw [List.drop_of_length_le (by rw [HP.out.len]; omega), List.all_nil, Bool.true_and] at hst
    exact hst)
   clear HV HRS
   go_wp2_with fail
   go_loopw [10] (fun z wr => ∃ k : Nat, k ≤ n ∧ z = .int .i64 k ∧ Hid (vt = optsR ps (seenB os k) (os.drop k)) ∧ Ext w wr) (fun z _ => n - (intOf z).toNat)
   case atStart => exact ⟨0, Nat.zero_le _, rfl, HV1, hx2⟩
   case round =>
    clear HV1 hx2
    obtain ⟨k, hk, rfl, HV, hx⟩ := hrel
    by_cases hkn : k < n
    ·obtain ⟨b, ob, hz, hA, _, hc⟩ := (HO.out.out.below hx).at_ opt_len hkn
     have hst := HV.out
     rw [HOK.out k hz] at hst
     have hlv := HLV.out os[k] (List.getElem_mem hz)
     have HSEE : Hid (seenB os k os[k].id = (os.take k).any (fun o => decide (o.id = os[k].id))) := Lib.hid rfl
     have HIDK : Hid (∀ h : k < os.length, os[k].id = os[k].id) := Lib.hid (fun _ => rfl)
     clear HIDK
     have HID : Hid (∃ x, x = os[k].id) := Lib.hid ⟨_, rfl⟩
     clear HID
     generalize hoe : os[k] = o at hst hc hlv HSEE
     obtain ⟨id, i1, i2, i3, i4, i5, i6, i7, a, m, d, l⟩ := o
     have hoe2 : (optCells ⟨id, i1, i2, i3, i4, i5, i6, i7, a, m, d, l⟩).toArray = #[.int .i64 id, .int .i64 i1, .int .i64 i2, .int .i64 i3, .int .i64 i4, .int .i64 i5, .int .i64 i6, .int .i64 i7, .slice a m d] := rfl
     rw [hoe2] at hlv
     dsimp only at hst hlv HSEE
     generalize seenB os k id = sb at hst HSEE
     generalize (true && lossOK ps l) = q3 at hst hlv
     have c0 : wr.cell? ⟨b, ob + k * 9, none⟩ = some (.int .i64 id) := hc 0 (by omega)
     have c1_ : wr.cell? ⟨b, ob + k * 9 + 1, none⟩ = some (.int .i64 i1) := hc 1 (by omega)
     have c2_ : wr.cell? ⟨b, ob + k * 9 + 2, none⟩ = some (.int .i64 i2) := hc 2 (by omega)
     have c3_ : wr.cell? ⟨b, ob + k * 9 + 3, none⟩ = some (.int .i64 i3) := hc 3 (by omega)
     have c4_ : wr.cell? ⟨b, ob + k * 9 + 4, none⟩ = some (.int .i64 i4) := hc 4 (by omega)
     have c5_ : wr.cell? ⟨b, ob + k * 9 + 5, none⟩ = some (.int .i64 i5) := hc 5 (by omega)
     have c6_ : wr.cell? ⟨b, ob + k * 9 + 6, none⟩ = some (.int .i64 i6) := hc 6 (by omega)
     have c7_ : wr.cell? ⟨b, ob + k * 9 + 7, none⟩ = some (.int .i64 i7) := hc 7 (by omega)
     have c8 : wr.cell? ⟨b, ob + k * 9 + 8, none⟩ = some (.slice a m d) := hc 8 (by omega)
     have HLV2 := Lib.hid hlv
     have HST := Lib.hid hst
     have hkz : (k : Int) < (n : Int) := by omega
     subst hA
     clear hc hz hst hlv HV hoe hoe2
     by_cases h0 : id < 0
     ·have hft : vt = false := by rw [HST.out, show inB id 0 63 = false by simp [inB]; omega]; simp
      subst hft
      clear HST
      go_wp2_with fail
      go_ret
      exact ⟨rfl, hx⟩
     have h0b : decide (id < 0) = false := decide_eq_false h0
     by_cases h63 : 64 ≤ id
     ·have hft : vt = false := by rw [HST.out, show inB id 0 63 = false by simp [inB]; omega]; simp
      have h63b : decide (64 ≤ id) = true := decide_eq_true h63
      subst hft
      clear HST
      go_wp2_with fail
      go_ret
      exact ⟨rfl, hx⟩
     have h63b : decide (64 ≤ id) = false := decide_eq_false h63
     have hst := HST.out
     rw [show inB id 0 63 = true by rw [inB_iff]; omega, Bool.true_and] at hst
     have HST := Lib.hid hst
     have HC := Lib.hid (HLV2.out wr hx)
     clear hst HLV2
     go_wp2_with fail
     refine HC.out.mono ?_
     rintro e W4 ⟨rfl, hy⟩
     have hx4 := Ext.trans hx hy
     have c0 := ext_cell hy c0
     clear hx hy HC c1_ c2_ c3_ c4_ c5_ c6_ c7_ c8
     cases q3
     ·have hft : vt = false := by rw [HST.out, Bool.and_false]; rfl
      subst hft
      clear HST
      go_wp2_with fail
      go_ret
      exact ⟨rfl, hx4⟩
     have hst := HST.out
     rw [Bool.and_true] at hst
     have HST := Lib.hid hst
     have HS0 : Hid (sb = ((os.take 0).any (fun o => decide (o.id = id)) || ((os.take k).drop 0).any (fun o => decide (o.id = id)))) := Lib.hid (by rw [HSEE.out]; rfl)
     clear hst HSEE
     go_wp2_with fail
     go_loopw [11] (fun z wr => ∃ j : Nat, j ≤ k ∧ z = .int .i64 j ∧ Hid (sb = ((os.take k).drop j).any (fun o => decide (o.id = id))) ∧ Ext W4 wr) (fun z _ => k - (intOf z).toNat)
     case atStart => exact ⟨0, Nat.zero_le _, rfl, Lib.hid (by have h := HS0.out; simpa using h), Ext.refl _⟩
     case round =>
      clear HS0
      obtain ⟨j, hj, rfl, HJ, hxi⟩ := hrel
      by_cases hjk : j < k
      ·have hjn : j < n := by omega
       obtain ⟨b2, ob2, hz2, hA2, _, hc2⟩ := (HO.out.out.below (Ext.trans hx4 hxi)).at_ opt_len hjn
       injection hA2 with hA2
       injection hA2 with hb1 hb2 _
       subst hb1 hb2
       have hst := HJ.out
       rw [List.drop_eq_getElem_cons (by rw [List.length_take]; omega), List.any_cons, List.getElem_take] at hst
       have f0 : wr.cell? ⟨b, ob + j * 9, none⟩ = some (.int .i64 os[j].id) := hc2 0 (by omega)
       generalize os[j].id = y at hst f0
       have c0 := ext_cell hxi c0
       have HJT := Lib.hid hst
       have hjz : (j : Int) < (k : Int) := by omega
       have hjz2 : (j : Int) < (n : Int) := by omega
       clear hst hc2 hz2 HJ
       go_upto_region 18 with (fail)
       by_cases hyi : y = id
       ·have hft : vt = false := by rw [HST.out, HJT.out, decide_eq_true hyi]; rfl
        subst hft hyi
        have hyb : (y == y) = true := by simp
        clear HST HJT
        go_quiet (fail)
        have HX : Hid (Ext w (wr.drewN nq)) := Lib.hid (Ext.trans hx4 (Ext.trans hxi (by repeat (first | exact Below.refl _ _ | assumption | refine Below.drew ?_ | refine below_drewN ?_ _ | refine bl_alloc ?_ _ | refine Below.setCell ?_ (by first | (simp; done) | omega | (simp; omega)) _ | refine bl_then ?_ (by assumption)))))
        clear hxi hx4
        go_wp2
        go_ret
        exact ⟨rfl, HX.out⟩
       ·have hyb : (y == id) = false := by simpa using hyi
        have HN2 : Hid (sb = ((os.take k).drop (j + 1)).any (fun o => decide (o.id = id))) := Lib.hid (by rw [HJT.out, decide_eq_false hyi, Bool.false_or])
        clear HJT
        go_quiet (fail)
        have HY : Hid (Ext W4 (wr.drewN nq)) := Lib.hid (Ext.trans hxi (by repeat (first | exact Below.refl _ _ | assumption | refine Below.drew ?_ | refine below_drewN ?_ _ | refine bl_alloc ?_ _ | refine Below.setCell ?_ (by first | (simp; done) | omega | (simp; omega)) _ | refine bl_then ?_ (by assumption))))
        clear hxi c0 f0
        go_wp2
        go_roundw
        case rel => exact ⟨j + 1, by omega, by go_num, HN2, HY.out⟩
        case measure => simp [intOf]; omega
      ·have hsb : sb = false := by rw [HJ.out, List.drop_of_length_le (by rw [List.length_take]; omega)]; rfl
       have HN2 : Hid (vt = optsR ps (seenB os (k + 1)) (os.drop (k + 1))) := Lib.hid (by have h := HST.out; rw [hsb] at h; exact h)
       have HXF := Lib.hid (Ext.trans hx4 hxi)
       clear hsb HST HJ hxi
       go_wp2_with fail
       go_roundw
       case rel => exact ⟨k + 1, by omega, by go_num, HN2, HXF.out⟩
       case measure => simp [intOf]; omega
    ·have hst := HV.out
     rw [List.drop_of_length_le (by rw [HO.out.out.len]; omega), optsR] at hst
     subst hst
     clear HV
     go_wp2_with fail
     go_ret
     exact ⟨rfl, hx⟩
end Go.Proofs.Ytmlabgmigakcbaa
namespace Go.Proofs.Ytmlabgmigakcbaa
open Go.RowKit
def I64ok (n : Int) : Prop := -9223372036854775808 ≤ n ∧ n ≤ 9223372036854775807
theorem tdiv_ok {x n : Int} (h : I64ok x) (hn : 1 < n) : I64ok (x.tdiv n) ∧ IntKind.i64.wrap (x.tdiv n) = x.tdiv n := by
 have h1 : I64ok (x.tdiv n) := by
  obtain ⟨h1, h2⟩ := h
  have := Int.natAbs_tdiv_le_natAbs x n
  have : (x.tdiv n).natAbs ≤ x.natAbs := this
  by_cases hx : x.natAbs = 9223372036854775808
  ·have e : (x.tdiv n).natAbs = x.natAbs / n.natAbs := Int.natAbs_tdiv x n
   have : x.natAbs / n.natAbs ≤ x.natAbs / 2 := Nat.div_le_div_left (by omega) (by omega)
   unfold I64ok
   omega
  ·unfold I64ok
   omega
 exact ⟨h1, IntWalk.i64_in _ (by obtain ⟨h2, h3⟩ := h1; omega)⟩
structure Tri where
 a : Int
 b : Int
 c : Int
def triCells (t : Tri) : List Value := [.int .i64 t.a, .int .i64 t.b, .int .i64 t.c]
theorem tri_len (t : Tri) : (triCells t).length = 3 := rfl
def Tri.ok (t : Tri) : Prop := I64ok t.a ∧ I64ok t.b ∧ I64ok t.c
def passOf (a : Int) (t : Tri) : Pas := ⟨pickI t.b 3, pickI (t.b.tdiv 3) 3, ⟨a + 2, a + 8 + pickI t.c 20 - 2⟩, ⟨a, a + 8 + pickI t.c 20⟩⟩
def passL : Int → List Tri → List Pas
 | _, [] => []
 | a, t :: r => passOf (a + 1 + pickI t.a 700) t :: passL (a + 1 + pickI t.a 700) r
theorem passL_cons (a : Int) (t : Tri) (r : List Tri) : passL a (t :: r) = passOf (a + 1 + pickI t.a 700) t :: passL (a + 1 + pickI t.a 700) r := by rw [passL]
def passP (x : List Tri) : List Pas := passL 5 (x.take 12)
def OwnP (W : World) (b : Nat) (v : Value) (l : List Pas) : Prop := W.ownsRow b 98 6 v l.length (l.flatMap pasCells)
theorem OwnP.ext {W W' : World} {b : Nat} {v : Value} {l : List Pas} (h : OwnP W b v l) (hx : Ext W W') : OwnP W' b v l := own_ext h hx
theorem info_pas : (Try.prog.info? 98).map (fun i => (i.zero, i.size, i.bytes)) = some (some (.agg #[.int .i64 0, .int .i64 0, .int .i64 0, .int .i64 0, .int .i64 0, .int .i64 0]), 6, 48) := by kernel_rfl
theorem pass_size : (Try.prog.info? 98).map (·.size) = some 6 := by kernel_rfl
theorem pas_snoc {w : World} (ty : TypeId) (xs : List Pas) (v : Value) (x : Pas) (base gx : Nat) (jx : Blk w gx 98 (pasCells x).toArray) (hx : OwnP w base v xs) (hn : xs.length ≤ 900) (hb : base ≤ w.heap.size) :
  ∃ v' w', (Builtin.append_ #[37, 37] ty #[v, .slice (some ⟨gx, 0, none⟩) 1 1]).run Try.prog w = .ok v' w' ∧ w.grownBy w' v.ownBlock ∧ OwnP w' base v' (xs ++ [x]) := by
 obtain ⟨i0, hi0, hz0, hz1, hz2⟩ := info_parts info_pas
 obtain ⟨v2, W7, hr, hrow2, hg2, -⟩ := run_append_own (P := Try.prog) w base 37 ty 98 i0 _ 6 48 Try.underlying37 hi0 hz0 hz1 hz2 rfl (by omega) _ _ _ hx ⟨gx, 0, none⟩ 1 1 (pasCells x) rfl (by intro i u hu; rw [Addr.add_lit, Nat.zero_add, jx.cell]; simpa using hu) (by simp [pasCells, Value.oneCell']) (by unfold maxLen; omega) (by omega) hb
 refine ⟨v2, W7, hr, hg2, ?_⟩
 unfold OwnP
 rw [List.length_append, List.flatMap_append]
 simpa using hrow2
set_option maxRecDepth 100000 in
set_option maxHeartbeats 4000000 in
theorem passes_any (xs : List Tri) (XA : Option Addr) (n c : Nat) (w : World) (hr : RA triCells 3 w w.heap.size XA n c xs) (hok : ∀ t ∈ xs, t.ok) :
  Calls Try.prog 36 #[.slice XA n c] w fun e w' => ∃ v, e = .returned v ∧ OwnP w' w.heap.size v (passP xs) ∧ Ext w w' := by
 have hle := hr.le
 have HR := Lib.hid hr
 have HOK := Lib.hid hok
 obtain ⟨fin, hfin⟩ : ∃ x, x = passP xs := ⟨_, rfl⟩
 rw [← hfin]
 have HF0 : Hid (fin = [] ++ passL 5 ((xs.take 12).drop 0)) := Lib.hid hfin
 clear hfin hr hok
 go_enter Try.func36, Try.ntmps36
 go_wp2
 go_loopw [3, 4, 5] (fun x y z wr => ∃ (k : Nat) (pl : List Pas) (a : Int), k ≤ n ∧ k ≤ 12 ∧ z = .int .i64 k ∧ y = .int .i64 a ∧ 0 ≤ a ∧ a ≤ 5 + 701 * k ∧ Hid (fin = pl ++ passL a ((xs.take 12).drop k)) ∧ Hid (OwnP wr w.heap.size x pl) ∧ pl.length ≤ k ∧ Ext w wr) (fun _ _ z _ => n - (intOf z).toNat)
 case atStart => exact ⟨0, [], 5, Nat.zero_le _, Nat.zero_le _, rfl, rfl, by omega, by omega, HF0, Lib.hid (World.ownsRow_nil _ _ _ _), Nat.zero_le _, Ext.refl _⟩
 case round =>
  clear HF0
  obtain ⟨k, pl, a, hk, hk12, rfl, rfl, ha0, ha1, HF, HO, hpl, hx⟩ := hrel
  obtain ⟨A3, c3, hv3, _, _⟩ := own_slice HO.out
  subst hv3
  by_cases hkn : k < n
  ·by_cases hk2 : k < 12
   ·obtain ⟨b, ob, hz, hA, _, hc⟩ := (HR.out.below hx).at_ tri_len hkn
    have hz12 : k < (xs.take 12).length := by rw [List.length_take]; omega
    have hst := HF.out
    rw [List.drop_eq_getElem_cons hz12, passL_cons, List.getElem_take] at hst
    have hok := HOK.out xs[k] (List.getElem_mem hz)
    generalize xs[k] = t at hst hc hok
    obtain ⟨x0, x1, x2⟩ := t
    unfold passOf at hst
    dsimp only at hst
    obtain ⟨b0, b1, b2⟩ := hok
    dsimp only at b0 b1 b2
    obtain ⟨bd, hwd⟩ := tdiv_ok b1 (n := 3) (by omega)
    have P0 := fun W => pickr_any x0 700 W b0.1 b0.2 (by omega) (by omega)
    have P1 := fun W => pickr_any x1 3 W b1.1 b1.2 (by omega) (by omega)
    have P2 := fun W => pickr_any (x1.tdiv 3) 3 W bd.1 bd.2 (by omega) (by omega)
    have P3 := fun W => pickr_any x2 20 W b2.1 b2.2 (by omega) (by omega)
    have q0 := pickI_bd x0 700 (by omega)
    have q3 := pickI_bd x2 20 (by omega)
    generalize pickI x0 700 = p0 at P0 q0 hst
    generalize pickI x1 3 = p1 at P1 hst
    generalize pickI (x1.tdiv 3) 3 = p2 at P2 hst
    generalize pickI x2 20 = p3 at P3 q3 hst
    have c0 : wr.cell? ⟨b, ob + k * 3, none⟩ = some (.int .i64 x0) := hc 0 (by omega)
    have c1 : wr.cell? ⟨b, ob + k * 3 + 1, none⟩ = some (.int .i64 x1) := hc 1 (by omega)
    have c2 : wr.cell? ⟨b, ob + k * 3 + 2, none⟩ = some (.int .i64 x2) := hc 2 (by omega)
    have HP0 := Lib.hid P0
    have HP1 := Lib.hid P1
    have HP2 := Lib.hid P2
    have HP3 := Lib.hid P3
    have HST := Lib.hid hst
    subst hA
    clear hc hz hz12 hst HF P0 P1 P2 P3 b0 b1 b2 bd
    have hw1 : IntKind.i64.wrap (a + 1 + p0) = a + 1 + p0 := IntWalk.i64_in _ (by omega)
    go_upto_region 7 with (go_at_call 68; refine (HP0.out _).mono ?_; rintro e w2 ⟨rfl, rfl⟩)
    obtain ⟨a1, ha1e⟩ : ∃ y, y = a + 1 + p0 := ⟨_, rfl⟩
    rw [← ha1e] at HST ⊢
    have hb1 : 0 ≤ a1 ∧ a1 ≤ 5 + 701 * (k + 1 : Nat) := by omega
    clear HP0 hw1 ha1e q0
    have hw2 : IntKind.i64.wrap (a1 + 8 + p3) = a1 + 8 + p3 := IntWalk.i64_in _ (by omega)
    refine wp_region_obl 26 (fun ix vals v w1 => match ix with | 0 => v = .slice (some ⟨b, ob, none⟩) n c | 1 => v = .int .i64 (k : Int) | 2 => v = .pointer (some ⟨b, ob + k * 3, none⟩) | 3 => v = .pointer (some ⟨b, ob + k * 3 + 1, none⟩) | 4 => v = .int .i64 x1 | 5 => v = .int .i64 p1 | 6 => v = .slice (some ⟨b, ob, none⟩) n c | 7 => v = .int .i64 (k : Int) | 8 => v = .pointer (some ⟨b, ob + k * 3, none⟩) | 9 => v = .pointer (some ⟨b, ob + k * 3 + 1, none⟩) | 10 => v = .int .i64 x1 | 11 => v = .int .i64 (x1.tdiv 3) | 12 => v = .int .i64 p2 | 13 => v = .int .i64 a1 | 14 => v = .int .i64 a1 | 15 => v = .int .i64 (a1 + 8) | 16 => v = .slice (some ⟨b, ob, none⟩) n c | 17 => v = .int .i64 (k : Int) | 18 => v = .pointer (some ⟨b, ob + k * 3, none⟩) | 19 => v = .pointer (some ⟨b, ob + k * 3 + 2, none⟩) | 20 => v = .int .i64 x2 | 21 => v = .int .i64 p3 | 22 => v = .int .i64 (a1 + 8 + p3) | 23 => v = .agg #[.int .i64 a1, .int .i64 (a1 + 8 + p3)] | 24 => v = .agg #[.int .i64 p1, .int .i64 p2, .int .i64 0, .int .i64 0, .int .i64 a1, .int .i64 (a1 + 8 + p3)] | _ => ∃ g, v = .pointer (some ⟨g, 0, none⟩) ∧ Blk w1 g 98 #[.int .i64 0, .int .i64 0, .int .i64 0, .int .i64 0, .int .i64 0, .int .i64 0] ∧ wr.heap.size ≤ g) (by kernel_rfl) (by kernel_rfl) ?_ ?_ ?_ ?_
    ·intro ix vals v w1 w2 hi hr hx
     match ix, hr with
     | 0, hr => exact hr
     | 1, hr => exact hr
     | 2, hr => exact hr
     | 3, hr => exact hr
     | 4, hr => exact hr
     | 5, hr => exact hr
     | 6, hr => exact hr
     | 7, hr => exact hr
     | 8, hr => exact hr
     | 9, hr => exact hr
     | 10, hr => exact hr
     | 11, hr => exact hr
     | 12, hr => exact hr
     | 13, hr => exact hr
     | 14, hr => exact hr
     | 15, hr => exact hr
     | 16, hr => exact hr
     | 17, hr => exact hr
     | 18, hr => exact hr
     | 19, hr => exact hr
     | 20, hr => exact hr
     | 21, hr => exact hr
     | 22, hr => exact hr
     | 23, hr => exact hr
     | 24, hr => exact hr
     | (kx + 25), hr => obtain ⟨g, h1, h2, h3⟩ := hr; exact ⟨g, h1, h2.ext hx, h3⟩
    ·intro ix vals vals_ v w1 hi hv hr
     exact hr
    ·refine obls_ofT [some 26, some 27, some 28, some 29, some 30, some 31, some 32, some 33, some 34, some 35, some 36, some 37, some 38, some 39, some 40, some 41, some 42, some 43, some 44, some 45, some 46, some 47, some 48, some 49, some 50, some 6, none] [(0, .slice (some ⟨b, ob, none⟩) n c), (5, .int .i64 (k : Int)), (4, .int .i64 a1)] 66 (by kernel_rfl) (by kernel_rfl) ⟨by kernel_rfl, by kernel_rfl, by kernel_rfl, trivial⟩ ?_
     refine ⟨?_, ?_, ?_, ?_, ?_, ?_, ?_, ?_, ?_, ?_, ?_, ?_, ?_, ?_, ?_, ?_, ?_, ?_, ?_, ?_, ?_, ?_, ?_, ?_, ?_, ?_, trivial⟩
     ·intro vals w1 hx hd
      refine .r [(0, .slice (some ⟨b, ob, none⟩) n c)] (Op.move (Operand.const (.slice (some ⟨b, ob, none⟩) n c))) 22 26 ⟨.out (by kernel_rfl) (by kernel_rfl), trivial⟩ ?_
      clear hd
      go_wp2
      exact ⟨rfl, Ext.refl _, rfl⟩
     ·intro vals w1 hx hd
      refine .r [(5, .int .i64 (k : Int))] (Op.move (Operand.const (.int .i64 (k : Int)))) 3 27 ⟨.out (by kernel_rfl) (by kernel_rfl), trivial⟩ ?_
      clear hd
      go_wp2
      exact ⟨rfl, Ext.refl _, rfl⟩
     ·intro vals w1 hx hd
      refine .r [(26, .slice (some ⟨b, ob, none⟩) n c), (27, .int .i64 (k : Int))] (Op.indexAddr 22 (Operand.const (.slice (some ⟨b, ob, none⟩) n c)) (Operand.const (.int .i64 (k : Int)))) 0 28 ⟨.inn 0 (by kernel_rfl) (hd 0 (by decide)), .inn 1 (by kernel_rfl) (hd 1 (by decide)), trivial⟩ ?_
      clear hd
      go_wp2
      exact ⟨rfl, Ext.refl _, rfl⟩
     ·intro vals w1 hx hd
      refine .r [(28, .pointer (some ⟨b, ob + k * 3, none⟩))] (Op.indexAddr 24 (Operand.const (.pointer (some ⟨b, ob + k * 3, none⟩))) (Operand.const (Value.int IntKind.i64 1))) 0 29 ⟨.inn 2 (by kernel_rfl) (hd 2 (by decide)), trivial⟩ ?_
      clear hd
      go_wp2
      exact ⟨rfl, Ext.refl _, rfl⟩
     ·intro vals w1 hx hd
      refine .r [(29, .pointer (some ⟨b, ob + k * 3 + 1, none⟩))] (Op.load 3 (Operand.const (.pointer (some ⟨b, ob + k * 3 + 1, none⟩)))) 3 30 ⟨.inn 3 (by kernel_rfl) (hd 3 (by decide)), trivial⟩ ?_
      clear hd
      have c1 := ext_cell hx c1
      go_wp2
      exact ⟨rfl, Ext.refl _, rfl⟩
     ·intro vals w1 hx hd
      refine .r [(30, .int .i64 x1)] (Op.call { callee := Callee.value (Operand.func 68), args := #[(Operand.const (.int .i64 x1)), Operand.const (Value.int IntKind.i64 3)], argTypes := #[3, 3] }) 3 31 ⟨.inn 4 (by kernel_rfl) (hd 4 (by decide)), trivial⟩ ?_
      clear hd
      go_wp2_with fail
      refine (HP1.out _).mono ?_
      rintro e w2 ⟨rfl, rfl⟩
      go_wp2
      exact ⟨rfl, Ext.refl _, rfl⟩
     ·intro vals w1 hx hd
      refine .r [(0, .slice (some ⟨b, ob, none⟩) n c)] (Op.move (Operand.const (.slice (some ⟨b, ob, none⟩) n c))) 22 32 ⟨.out (by kernel_rfl) (by kernel_rfl), trivial⟩ ?_
      clear hd
      go_wp2
      exact ⟨rfl, Ext.refl _, rfl⟩
     ·intro vals w1 hx hd
      refine .r [(5, .int .i64 (k : Int))] (Op.move (Operand.const (.int .i64 (k : Int)))) 3 33 ⟨.out (by kernel_rfl) (by kernel_rfl), trivial⟩ ?_
      clear hd
      go_wp2
      exact ⟨rfl, Ext.refl _, rfl⟩
     ·intro vals w1 hx hd
      refine .r [(32, .slice (some ⟨b, ob, none⟩) n c), (33, .int .i64 (k : Int))] (Op.indexAddr 22 (Operand.const (.slice (some ⟨b, ob, none⟩) n c)) (Operand.const (.int .i64 (k : Int)))) 0 34 ⟨.inn 6 (by kernel_rfl) (hd 6 (by decide)), .inn 7 (by kernel_rfl) (hd 7 (by decide)), trivial⟩ ?_
      clear hd
      go_wp2
      exact ⟨rfl, Ext.refl _, rfl⟩
     ·intro vals w1 hx hd
      refine .r [(34, .pointer (some ⟨b, ob + k * 3, none⟩))] (Op.indexAddr 24 (Operand.const (.pointer (some ⟨b, ob + k * 3, none⟩))) (Operand.const (Value.int IntKind.i64 1))) 0 35 ⟨.inn 8 (by kernel_rfl) (hd 8 (by decide)), trivial⟩ ?_
      clear hd
      go_wp2
      exact ⟨rfl, Ext.refl _, rfl⟩
     ·intro vals w1 hx hd
      refine .r [(35, .pointer (some ⟨b, ob + k * 3 + 1, none⟩))] (Op.load 3 (Operand.const (.pointer (some ⟨b, ob + k * 3 + 1, none⟩)))) 3 36 ⟨.inn 9 (by kernel_rfl) (hd 9 (by decide)), trivial⟩ ?_
      clear hd
      have c1 := ext_cell hx c1
      go_wp2
      exact ⟨rfl, Ext.refl _, rfl⟩
     ·intro vals w1 hx hd
      refine .r [(36, .int .i64 x1)] (Op.binOp BinOp.quo 3 (Operand.const (.int .i64 x1)) (Operand.const (Value.int IntKind.i64 3)) 3) 3 37 ⟨.inn 10 (by kernel_rfl) (hd 10 (by decide)), trivial⟩ ?_
      clear hd
      go_wp2
      exact ⟨rfl, Ext.refl _, rfl⟩
     ·intro vals w1 hx hd
      refine .r [(37, .int .i64 (x1.tdiv 3))] (Op.call { callee := Callee.value (Operand.func 68), args := #[(Operand.const (.int .i64 (x1.tdiv 3))), Operand.const (Value.int IntKind.i64 3)], argTypes := #[3, 3] }) 3 38 ⟨.inn 11 (by kernel_rfl) (hd 11 (by decide)), trivial⟩ ?_
      clear hd
      go_wp2_with fail
      refine (HP2.out _).mono ?_
      rintro e w2 ⟨rfl, rfl⟩
      go_wp2
      exact ⟨rfl, Ext.refl _, rfl⟩
     ·intro vals w1 hx hd
      refine .r [(4, .int .i64 a1)] (Op.move (Operand.const (.int .i64 a1))) 3 39 ⟨.out (by kernel_rfl) (by kernel_rfl), trivial⟩ ?_
      clear hd
      go_wp2
      exact ⟨rfl, Ext.refl _, rfl⟩
     ·intro vals w1 hx hd
      refine .r [(4, .int .i64 a1)] (Op.move (Operand.const (.int .i64 a1))) 3 40 ⟨.out (by kernel_rfl) (by kernel_rfl), trivial⟩ ?_
      clear hd
      go_wp2
      exact ⟨rfl, Ext.refl _, rfl⟩
     ·intro vals w1 hx hd
      refine .r [(40, .int .i64 a1)] (Op.binOp BinOp.add 3 (Operand.const (.int .i64 a1)) (Operand.const (Value.int IntKind.i64 8)) 3) 3 41 ⟨.inn 14 (by kernel_rfl) (hd 14 (by decide)), trivial⟩ ?_
      clear hd
      go_wp2
      exact ⟨rfl, Ext.refl _, rfl⟩
     ·intro vals w1 hx hd
      refine .r [(0, .slice (some ⟨b, ob, none⟩) n c)] (Op.move (Operand.const (.slice (some ⟨b, ob, none⟩) n c))) 22 42 ⟨.out (by kernel_rfl) (by kernel_rfl), trivial⟩ ?_
      clear hd
      go_wp2
      exact ⟨rfl, Ext.refl _, rfl⟩
     ·intro vals w1 hx hd
      refine .r [(5, .int .i64 (k : Int))] (Op.move (Operand.const (.int .i64 (k : Int)))) 3 43 ⟨.out (by kernel_rfl) (by kernel_rfl), trivial⟩ ?_
      clear hd
      go_wp2
      exact ⟨rfl, Ext.refl _, rfl⟩
     ·intro vals w1 hx hd
      refine .r [(42, .slice (some ⟨b, ob, none⟩) n c), (43, .int .i64 (k : Int))] (Op.indexAddr 22 (Operand.const (.slice (some ⟨b, ob, none⟩) n c)) (Operand.const (.int .i64 (k : Int)))) 0 44 ⟨.inn 16 (by kernel_rfl) (hd 16 (by decide)), .inn 17 (by kernel_rfl) (hd 17 (by decide)), trivial⟩ ?_
      clear hd
      go_wp2
      exact ⟨rfl, Ext.refl _, rfl⟩
     ·intro vals w1 hx hd
      refine .r [(44, .pointer (some ⟨b, ob + k * 3, none⟩))] (Op.indexAddr 24 (Operand.const (.pointer (some ⟨b, ob + k * 3, none⟩))) (Operand.const (Value.int IntKind.i64 2))) 0 45 ⟨.inn 18 (by kernel_rfl) (hd 18 (by decide)), trivial⟩ ?_
      clear hd
      go_wp2
      exact ⟨rfl, Ext.refl _, rfl⟩
     ·intro vals w1 hx hd
      refine .r [(45, .pointer (some ⟨b, ob + k * 3 + 2, none⟩))] (Op.load 3 (Operand.const (.pointer (some ⟨b, ob + k * 3 + 2, none⟩)))) 3 46 ⟨.inn 19 (by kernel_rfl) (hd 19 (by decide)), trivial⟩ ?_
      clear hd
      have c2 := ext_cell hx c2
      go_wp2
      exact ⟨rfl, Ext.refl _, rfl⟩
     ·intro vals w1 hx hd
      refine .r [(46, .int .i64 x2)] (Op.call { callee := Callee.value (Operand.func 68), args := #[(Operand.const (.int .i64 x2)), Operand.const (Value.int IntKind.i64 20)], argTypes := #[3, 3] }) 3 47 ⟨.inn 20 (by kernel_rfl) (hd 20 (by decide)), trivial⟩ ?_
      clear hd
      go_wp2_with fail
      refine (HP3.out _).mono ?_
      rintro e w2 ⟨rfl, rfl⟩
      go_wp2
      exact ⟨rfl, Ext.refl _, rfl⟩
     ·intro vals w1 hx hd
      refine .r [(41, .int .i64 (a1 + 8)), (47, .int .i64 p3)] (Op.binOp BinOp.add 3 (Operand.const (.int .i64 (a1 + 8))) (Operand.const (.int .i64 p3)) 3) 3 48 ⟨.inn 15 (by kernel_rfl) (hd 15 (by decide)), .inn 21 (by kernel_rfl) (hd 21 (by decide)), trivial⟩ ?_
      clear hd
      go_wp2
      exact ⟨rfl, Ext.refl _, rfl⟩
     ·intro vals w1 hx hd
      refine .r [(39, .int .i64 a1), (48, .int .i64 (a1 + 8 + p3))] (Op.build 29 #[(0, (Operand.const (.int .i64 a1))), (1, (Operand.const (.int .i64 (a1 + 8 + p3))))]) 29 49 ⟨.inn 13 (by kernel_rfl) (hd 13 (by decide)), .inn 22 (by kernel_rfl) (hd 22 (by decide)), trivial⟩ ?_
      clear hd
      go_wp2
      exact ⟨rfl, Ext.refl _, rfl⟩
     ·intro vals w1 hx hd
      refine .r [(31, .int .i64 p1), (38, .int .i64 p2), (49, .agg #[.int .i64 a1, .int .i64 (a1 + 8 + p3)])] (Op.build 98 #[(0, (Operand.const (.int .i64 p1))), (1, (Operand.const (.int .i64 p2))), (3, (Operand.const (.agg #[.int .i64 a1, .int .i64 (a1 + 8 + p3)])))]) 98 50 ⟨.inn 5 (by kernel_rfl) (hd 5 (by decide)), .inn 12 (by kernel_rfl) (hd 12 (by decide)), .inn 23 (by kernel_rfl) (hd 23 (by decide)), trivial⟩ ?_
      clear hd
      go_wp2
      exact ⟨rfl, Ext.refl _, rfl⟩
     ·intro vals w1 hx hd
      refine .r [] (Op.alloc 98) 0 6 trivial ?_
      clear hd
      have hz9 := Below.size hx.undrew
      go_wp2
      exact ⟨rfl, (by repeat (first | exact Below.refl _ _ | assumption | refine Below.drew ?_ | refine below_drewN ?_ _ | refine bl_alloc ?_ _ | refine Below.setCell ?_ (by first | (simp; done) | omega | (simp; omega)) _ | refine bl_then ?_ (by assumption))), _, rfl, Blk.new _ _ _, hz9⟩
    intro vals W5 hy hf
    have v24 : vals 24 = .agg #[.int .i64 p1, .int .i64 p2, .int .i64 0, .int .i64 0, .int .i64 a1, .int .i64 (a1 + 8 + p3)] := hf 24 (by omega)
    obtain ⟨g6, v25, jf, hg6⟩ : ∃ g, vals 25 = .pointer (some ⟨g, 0, none⟩) ∧ Blk W5 g 98 #[.int .i64 0, .int .i64 0, .int .i64 0, .int .i64 0, .int .i64 0, .int .i64 0] ∧ wr.heap.size ≤ g := hf 25 (by omega)
    have hy := hy.undrew
    obtain ⟨pe, hpe⟩ : ∃ y, y = a1 + 8 + p3 := ⟨_, rfl⟩
    rw [← hpe] at HST v24
    have jb := jf.row #[.int .i64 p1, .int .i64 p2, .int .i64 0, .int .i64 0, .int .i64 a1, .int .i64 pe]
    have hone := (One.refl g6 W5).row #[.int .i64 p1, .int .i64 p2, .int .i64 0, .int .i64 0, .int .i64 a1, .int .i64 pe]
    have hxr := hone.ext hy hg6
    have HJF := Lib.hid jf
    clear hf hone hy jf hw2 HP1 HP2 HP3 hwd
    have hpeb : 0 ≤ pe ∧ pe ≤ 100000 := by omega
    clear hpe
    refine tail1 26 _ (by kernel_rfl) (by kernel_rfl) rfl ?_
    simp only [Lf, dstAt, Act.put, List.getElem?_toArray, List.getElem?_cons_zero, List.getElem?_cons_succ, Option.bind_some, List.setIfInBounds_toArray, List.set_cons_zero, List.set_cons_succ]
    rw [v24, v25]
    clear v24 v25
    go_upto_region 8 with (refine wpList_store_row rfl _ _ _ rfl g6 #[.int .i64 p1, .int .i64 p2, .int .i64 0, .int .i64 0, .int .i64 a1, .int .i64 pe] rfl rfl 98 _ HJF.out pass_size rfl (by simp [Value.oneCell']) ?_)
    generalize W5.setRow g6 #[.int .i64 p1, .int .i64 p2, .int .i64 0, .int .i64 0, .int .i64 a1, .int .i64 pe] = W6 at jb hxr ⊢
    have e2 : W6.cell? ⟨g6, 2, none⟩ = some (.int .i64 0) := jb.cell 2
    have e3 : W6.cell? ⟨g6, 3, none⟩ = some (.int .i64 0) := jb.cell 3
    have e4 : W6.cell? ⟨g6, 4, none⟩ = some (.int .i64 a1) := jb.cell 4
    have e5 : W6.cell? ⟨g6, 5, none⟩ = some (.int .i64 pe) := jb.cell 5
    have f2 : W6.frozen? ⟨g6, 2, none⟩ = false := jb.frozen 2
    have f3 : W6.frozen? ⟨g6, 3, none⟩ = false := jb.frozen 3
    have HJB := Lib.hid jb
    clear jb HJF c0 c1 c2
    go_upto_region 9 with (fail)
    have jb : Blk ((W6.setCell ⟨g6, 2, none⟩ (.int .i64 (a1 + 2))).setCell ⟨g6, 3, none⟩ (.int .i64 (pe - 2))) g6 98 #[.int .i64 p1, .int .i64 p2, .int .i64 (a1 + 2), .int .i64 (pe - 2), .int .i64 a1, .int .i64 pe] := ((HJB.out.set_ 2 (.int .i64 (a1 + 2))).set_ 3 (.int .i64 (pe - 2)))
    have hx7 : Ext w ((W6.setCell ⟨g6, 2, none⟩ (.int .i64 (a1 + 2))).setCell ⟨g6, 3, none⟩ (.int .i64 (pe - 2))) := by
     have h1 := Below.size hx
     exact ((Ext.trans hx hxr).setCell (p := ⟨g6, 2, none⟩) (by show w.heap.size ≤ g6; omega) _).setCell (p := ⟨g6, 3, none⟩) (by show w.heap.size ≤ g6; omega) _
    have hxk : Ext wr ((W6.setCell ⟨g6, 2, none⟩ (.int .i64 (a1 + 2))).setCell ⟨g6, 3, none⟩ (.int .i64 (pe - 2))) := (hxr.setCell (p := ⟨g6, 2, none⟩) hg6 _).setCell (p := ⟨g6, 3, none⟩) hg6 _
    generalize (W6.setCell ⟨g6, 2, none⟩ (.int .i64 (a1 + 2))).setCell ⟨g6, 3, none⟩ (.int .i64 (pe - 2)) = W7 at jb hx7 hxk ⊢
    clear e2 e3 e4 e5 f2 f3 HJB hxr
    have e0 : W7.cell? ⟨g6, 0, none⟩ = some (.int .i64 p1) := jb.cell 0
    have e1 : W7.cell? ⟨g6, 1, none⟩ = some (.int .i64 p2) := jb.cell 1
    have e2 : W7.cell? ⟨g6, 2, none⟩ = some (.int .i64 (a1 + 2)) := jb.cell 2
    have e3 : W7.cell? ⟨g6, 3, none⟩ = some (.int .i64 (pe - 2)) := jb.cell 3
    have e4 : W7.cell? ⟨g6, 4, none⟩ = some (.int .i64 a1) := jb.cell 4
    have e5 : W7.cell? ⟨g6, 5, none⟩ = some (.int .i64 pe) := jb.cell 5
    have hxa : Ext W7 (W7.alloc (.cells #[.int .i64 p1, .int .i64 p2, .int .i64 (a1 + 2), .int .i64 (pe - 2), .int .i64 a1, .int .i64 pe] 98)) := bl_alloc (Below.refl _ _) _
    have hxw := Ext.trans hx7 hxa
    obtain ⟨v8, W8, hrun, hg8, ho8⟩ := pas_snoc 37 pl (.slice A3 pl.length c3) ⟨p1, p2, ⟨a1 + 2, pe - 2⟩, ⟨a1, pe⟩⟩ w.heap.size W7.heap.size (Blk.new _ _ _) ((HO.out.ext hxk).ext hxa) (by omega) (Below.size hxw)
    have hx8 : Ext w W8 := hxw.grown hg8 (Below.size hxw) (fun q e => (World.ownsRow.lt HO.out q e).1)
    have HO8 := Lib.hid ho8
    have HRUN := Lib.hid hrun
    have HST8 : Hid (fin = (pl ++ [(⟨p1, p2, ⟨a1 + 2, pe - 2⟩, ⟨a1, pe⟩⟩ : Pas)]) ++ passL a1 ((xs.take 12).drop (k + 1))) := Lib.hid (by rw [HST.out]; simp)
    clear hrun hg8 ho8 hxw hxa hxk hx7 jb HST HO
    go_wp2_with (refine wpList_append_run_ rfl _ _ _ rfl rfl rfl HRUN.out ?_)
    go_roundw
    case rel => exact ⟨k + 1, _, a1, by omega, by omega, by go_num, rfl, hb1.1, hb1.2, HST8, HO8, by simp; omega, hx8⟩
    case measure => simp [intOf]; omega
   ·obtain rfl : k = 12 := by omega
    have h12 : (12 : Int) < (n : Int) := by omega
    have hff : fin = pl := by rw [HF.out, List.drop_of_length_le (by rw [List.length_take]; omega), passL, List.append_nil]
    have HFF := Lib.hid hff
    clear hff HF
    go_wp2
    go_ret
    exact ⟨_, rfl, by rw [HFF.out]; exact HO.out, hx⟩
  ·have hff : fin = pl := by rw [HF.out, List.drop_of_length_le (by rw [List.length_take, HR.out.len]; omega), passL, List.append_nil]
   have HFF := Lib.hid hff
   clear hff HF
   go_wp2
   go_ret
   exact ⟨_, rfl, by rw [HFF.out]; exact HO.out, hx⟩
end Go.Proofs.Ytmlabgmigakcbaa
namespace Go.Proofs.Ytmlabgmigakcbaa
open Go.RowKit
def TG (g : Nat) (o : Obj) (w w' : World) : Prop := One g w w' ∧ (w'.heap[g]? = w.heap[g]? ∨ w'.heap[g]? = some o)
theorem tg_tr (g : Nat) (o : Obj) : RB.Tr (TG g o) :=
 ⟨fun w => ⟨One.refl g w, .inl rfl⟩, fun {a b c} h k => ⟨h.1.trans k.1, by
  rcases k.2 with e | e
  ·rcases h.2 with e2 | e2
   ·exact .inl (e.trans e2)
   ·exact .inr (e.trans e2)
  ·exact .inr e⟩⟩
theorem TG.undrew {g : Nat} {o : Obj} {w w' : World} (h : TG g o w.drew w') : TG g o w w' := ⟨⟨h.1.os, h.1.tape, h.1.output, h.1.size, h.1.block⟩, h.2⟩
def OwnT (W : World) (b : Nat) (v : Value) (l : List Stn) : Prop := W.ownsRow b 122 6 v l.length (l.flatMap stnCells)
theorem OwnT.ext {W W' : World} {b : Nat} {v : Value} {l : List Stn} (h : OwnT W b v l) (hx : Ext W W') : OwnT W' b v l := own_ext h hx
theorem info_stn : (Try.prog.info? 122).map (fun i => (i.zero, i.size, i.bytes)) = some (some (.agg #[.int .i64 0, .int .i64 0, .int .i64 0, .int .i64 0, .int .i64 0, .int .i64 0]), 6, 48) := by kernel_rfl
theorem stn_snoc {w : World} (ty : TypeId) (xs : List Stn) (v : Value) (x : Stn) (base gx : Nat) (jx : Blk w gx 122 (stnCells x).toArray) (hx : OwnT w base v xs) (hn : xs.length ≤ 900) (hb : base ≤ w.heap.size) :
  ∃ v' w', (Builtin.append_ #[38, 38] ty #[v, .slice (some ⟨gx, 0, none⟩) 1 1]).run Try.prog w = .ok v' w' ∧ w.grownBy w' v.ownBlock ∧ OwnT w' base v' (xs ++ [x]) := by
 obtain ⟨i0, hi0, hz0, hz1, hz2⟩ := info_parts info_stn
 obtain ⟨v2, W7, hr, hrow2, hg2, -⟩ := run_append_own (P := Try.prog) w base 38 ty 122 i0 _ 6 48 Try.underlying38 hi0 hz0 hz1 hz2 rfl (by omega) _ _ _ hx ⟨gx, 0, none⟩ 1 1 (stnCells x) rfl (by intro i u hu; rw [Addr.add_lit, Nat.zero_add, jx.cell]; simpa using hu) (by simp [stnCells, Value.oneCell']) (by unfold maxLen; omega) (by omega) hb
 refine ⟨v2, W7, hr, hg2, ?_⟩
 unfold OwnT
 rw [List.length_append, List.flatMap_append]
 simpa using hrow2
def stnOf (i x : Int) : Stn := ⟨i, ⟨0, 0⟩, 0, 1, pickI x 8⟩
def triAt (t : Tri) (k : Nat) : Int := [t.a, t.b, t.c].getD k 0
theorem triAt_ok {t : Tri} (h : t.ok) {k : Nat} (hk : k < 3) : I64ok (triAt t k) := by
 match k, hk with
 | 0, _ => exact h.1
 | 1, _ => exact h.2.1
 | 2, _ => exact h.2.2
theorem triAt_cell {w : World} {g : Nat} {t : Tri} (h : Blk w g 24 (triCells t).toArray) {k : Nat} (hk : k < 3) : w.cell? ⟨g, k, none⟩ = some (.int .i64 (triAt t k)) := by
 rw [h.cell]
 match k, hk with
 | 0, _ => rfl
 | 1, _ => rfl
 | 2, _ => rfl
def stnK (t : Tri) (k : Nat) : List Stn := (List.range k).map (fun (i : Nat) => stnOf i (triAt t i))
theorem stnK_succ (t : Tri) (k : Nat) : stnK t (k + 1) = stnK t k ++ [stnOf k (triAt t k)] := by unfold stnK; rw [List.range_succ, List.map_append]; rfl
theorem stnK_len (t : Tri) (k : Nat) : (stnK t k).length = k := by simp [stnK]
set_option maxRecDepth 100000 in
set_option maxHeartbeats 4000000 in
theorem stations_any (t : Tri) (w : World) (ht : t.ok) :
  Calls Try.prog 38 #[.agg (triCells t).toArray] w fun e w' => ∃ v, e = .returned v ∧ OwnT w' w.heap.size v (stnK t 3) ∧ Ext w w' := by
 have HT : Hid (∀ k, k < 3 → I64ok (triAt t k)) := Lib.hid (fun k hk => triAt_ok ht hk)
 have HC : Hid (∀ (W : World) (g : Nat), Blk W g 24 (triCells t).toArray → ∀ k, k < 3 → W.cell? ⟨g, k, none⟩ = some (.int .i64 (triAt t k))) := Lib.hid (fun W g h k hk => triAt_cell h hk)
 obtain ⟨T, hT⟩ : ∃ y, y = (triCells t).toArray := ⟨_, rfl⟩
 rw [← hT] at HC ⊢
 have HTE := Lib.hid hT
 obtain ⟨x, y, z⟩ := t
 have hT2 : T = #[.int .i64 x, .int .i64 y, .int .i64 z] := hT
 clear hT ht
 subst hT2
 go_enter Try.func38, Try.ntmps38
 go_upto_region 1 with (fail)
 have hxb : Ext w (w.alloc (.cells #[.int .i64 x, .int .i64 y, .int .i64 z] 24)) := bl_alloc (Below.refl _ _) _
 have J := Blk.new w 24 #[.int .i64 x, .int .i64 y, .int .i64 z]
 obtain ⟨g1, hg1⟩ : ∃ g, g = w.heap.size := ⟨_, rfl⟩
 rw [← hg1] at J ⊢
 clear hg1
 generalize w.alloc (.cells #[.int .i64 x, .int .i64 y, .int .i64 z] 24) = W1 at hxb J ⊢
 have HJ := Lib.hid J
 have hsz := Below.size hxb
 clear J
 go_wp2
 go_loopw [3, 4] (fun u i wr => ∃ k : Nat, k ≤ 3 ∧ i = .int .i64 k ∧ Hid (OwnT wr W1.heap.size u (stnK ⟨x, y, z⟩ k)) ∧ Ext W1 wr) (fun _ i _ => 3 - (intOf i).toNat)
 case atStart => exact ⟨0, by omega, rfl, Lib.hid (World.ownsRow_nil _ _ _ _), Ext.refl _⟩
 case round =>
  obtain ⟨k, hk, rfl, HO, hx⟩ := hrel
  have HST := Lib.hid (stnK_succ ⟨x, y, z⟩ k)
  have HL := Lib.hid (stnK_len ⟨x, y, z⟩ k)
  by_cases hk3 : k < 3
  ·have hok := HT.out k hk3
   have e0 := HC.out wr g1 (HJ.out.ext hx) k hk3
   generalize triAt ⟨x, y, z⟩ k = xk at hok e0 HST
   generalize stnK ⟨x, y, z⟩ k = L at HO HST HL
   have PK := fun W => picks_any xk 8 W hok.1 hok.2 (by omega) (by omega)
   have HST2 : Hid (stnK ⟨x, y, z⟩ (k + 1) = L ++ [⟨k, ⟨0, 0⟩, 0, 1, pickI xk 8⟩]) := HST
   generalize pickI xk 8 = px at PK HST2
   have HPK := Lib.hid PK
   obtain ⟨A3, c3, hv3, _, _⟩ := own_slice HO.out
   subst hv3
   have hxa : Ext wr (wr.alloc (.cells #[.int .i64 (k : Int), .int .i64 0, .int .i64 0, .int .i64 0, .int .i64 1, .int .i64 px] 122)) := bl_alloc (Below.refl _ _) _
   have hxw := Ext.trans hx hxa
   obtain ⟨v8, W8, hrun, hg8, ho8⟩ := stn_snoc 38 L (.slice A3 L.length c3) ⟨k, ⟨0, 0⟩, 0, 1, px⟩ W1.heap.size wr.heap.size (Blk.new _ _ _) (HO.out.ext hxa) (by have := HL.out; omega) (Below.size hxw)
   have hx8 : Ext W1 W8 := hxw.grown hg8 (Below.size hxw) (fun q e => (World.ownsRow.lt HO.out q e).1)
   have HRUN := Lib.hid hrun
   have HX8 := Lib.hid hx8
   have HO8 : Hid (OwnT W8 W1.heap.size v8 (stnK ⟨x, y, z⟩ (k + 1))) := Lib.hid (by rw [HST2.out]; exact ho8)
   clear hrun hg8 ho8 hxw hxa hx8 HO PK HST hok
   go_wp2_with fail
   refine (HPK.out _).mono ?_
   rintro e w2 ⟨rfl, rfl⟩
   go_wp2_with (refine wpList_append_run_ rfl _ _ _ rfl rfl rfl HRUN.out ?_)
   go_roundw
   case rel => exact ⟨k + 1, by omega, by go_num, HO8, HX8.out⟩
   case measure => simp [intOf]; omega
  ·obtain rfl : k = 3 := by omega
   have HX9 := Lib.hid (Ext.trans hxb hx)
   have HO9 := Lib.hid (own_base HO.out hsz)
   clear HO HST HC HT
   go_wp2
   go_ret
   exact ⟨_, rfl, by have h := HO9.out; rw [HL.out] at h; unfold OwnT; rw [HL.out]; exact h, HX9.out⟩
def lostK (v : Int) (k : Nat) : List Nat := (List.range k).filter (fun i => decide ((v / 2 ^ i) % 2 = 1))
theorem lostK_succ (v : Int) (k : Nat) : lostK v (k + 1) = lostK v k ++ if (v / 2 ^ k) % 2 = 1 then [k] else [] := by
 unfold lostK
 rw [List.range_succ, List.filter_append]
 congr 1
 by_cases h : (v / 2 ^ k) % 2 = 1 <;> simp [h]
theorem lostK_len (v : Int) (k : Nat) : (lostK v k).length ≤ k := Nat.le_trans (List.length_filter_le _ _) (by simp)
def lostP (n : Nat) (x : Int) : List Nat := lostK (pickI x 1048576) (min n 20)
set_option maxRecDepth 100000 in
set_option maxHeartbeats 4000000 in
theorem lost_any (ps : List Pas) (PA : Option Addr) (n c : Nat) (x : Int) (w : World) (hp : RA pasCells 6 w w.heap.size PA n c ps) (hx : I64ok x) :
  Calls Try.prog 25 #[.slice PA n c, .int .i64 x] w fun e w' => ∃ v, e = .returned v ∧ OwnN w' w.heap.size v (lostP n x) ∧ Ext w w' := by
 have hle := hp.le
 have PK := fun W => picks_any x 1048576 W hx.1 hx.2 (by omega) (by omega)
 have hpb := pickI_bd x 1048576 (by omega)
 obtain ⟨fin, hfin⟩ : ∃ y, y = lostP n x := ⟨_, rfl⟩
 rw [← hfin]
 unfold lostP at hfin
 generalize pickI x 1048576 = v at PK hpb hfin
 have HPK := Lib.hid PK
 have HF := Lib.hid hfin
 clear hp hx PK hfin
 go_enter Try.func25, Try.ntmps25
 go_wp2
 go_loopw [5, 6] (fun u i wr => ∃ k : Nat, k ≤ n ∧ k ≤ 20 ∧ i = .int .i64 k ∧ Hid (OwnN wr w.heap.size u (lostK v k)) ∧ Ext w wr) (fun _ i _ => n - (intOf i).toNat)
 case atStart => exact ⟨0, by omega, by omega, rfl, Lib.hid (World.ownsRow_nil _ _ _ _), Ext.refl _⟩
 case round =>
  obtain ⟨k, hk, hk20, rfl, HO, hx⟩ := hrel
  have HST := Lib.hid (lostK_succ v k)
  have HL := Lib.hid (lostK_len v k)
  by_cases hkn : k < n
  ·by_cases hk2 : k < 20
   ·generalize hLL : lostK v k = L at HO HST HL
    obtain ⟨A3, c3, hv3, _, _⟩ := own_slice HO.out
    subst hv3
    clear hLL
    have hq : 0 ≤ v / 2 ^ k := Int.ediv_nonneg hpb.1 (Int.pow_nonneg (by omega))
    have hq2 : v / 2 ^ k ≤ v := Int.ediv_le_self _ hpb.1
    have hqm : (v / 2 ^ k).tmod 2 = (v / 2 ^ k) % 2 := Int.tmod_eq_emod_of_nonneg hq
    by_cases hb : (v / 2 ^ k) % 2 = 1
    ·rw [hb] at hqm
     have HN2 : Hid (lostK v (k + 1) = L ++ [k]) := Lib.hid (by rw [HST.out, if_pos hb])
     have hxa : Ext wr (wr.alloc (.cells #[.int .i64 (k : Int)] 3)) := bl_alloc (Below.refl _ _) _
     have hxw := Ext.trans hx hxa
     obtain ⟨v8, W8, hrun, hg8, ho8⟩ := snoc_nat 25 L (.slice A3 L.length c3) k w.heap.size wr.heap.size (Blk.new _ _ _) (HO.out.ext hxa) (by have := HL.out; omega) (Below.size hxw)
     have hx8 : Ext w W8 := hxw.grown hg8 (Below.size hxw) (fun q e => (World.ownsRow.lt HO.out q e).1)
     have HRUN := Lib.hid hrun
     have HX8 := Lib.hid hx8
     have HO8 : Hid (OwnN W8 w.heap.size v8 (lostK v (k + 1))) := Lib.hid (by rw [HN2.out]; exact ho8)
     clear hrun hg8 ho8 hxw hxa hx8 HO HST HN2
     go_wp2_with fail
     refine (HPK.out _).mono ?_
     rintro e w2 ⟨rfl, rfl⟩
     go_upto_region 6 with (fail)
     go_wp2_with (refine wpList_append_run_ rfl _ _ _ rfl rfl rfl HRUN.out ?_)
     go_roundw
     case rel => exact ⟨k + 1, by omega, by omega, by go_num, HO8, HX8.out⟩
     case measure => simp [intOf]; omega
    ·have hqm2 : (v / 2 ^ k).tmod 2 = 0 := by rw [hqm]; omega
     have HO8 : Hid (OwnN wr w.heap.size (.slice A3 L.length c3) (lostK v (k + 1))) := Lib.hid (by rw [HST.out, if_neg hb, List.append_nil]; exact HO.out)
     clear HO HST hqm hb
     go_wp2_with fail
     refine (HPK.out _).mono ?_
     rintro e w2 ⟨rfl, rfl⟩
     go_wp2
     go_roundw
     case rel => exact ⟨k + 1, by omega, by omega, by go_num, HO8, hx⟩
     case measure => simp [intOf]; omega
   ·obtain rfl : k = 20 := by omega
    have h12 : (20 : Int) < (n : Int) := by omega
    have hff : fin = lostK v 20 := by rw [HF.out, show min n 20 = 20 by omega]
    have HFF := Lib.hid hff
    obtain ⟨A3, c3, hv3, _, _⟩ := own_slice HO.out
    subst hv3
    clear hff HF
    go_wp2
    go_ret
    exact ⟨_, rfl, by rw [HFF.out]; exact HO.out, hx⟩
  ·have hff : fin = lostK v k := by rw [HF.out, show min n 20 = k by omega]
   have HFF := Lib.hid hff
   obtain ⟨A3, c3, hv3, _, _⟩ := own_slice HO.out
   subst hv3
   clear hff HF
   go_wp2
   go_ret
   exact ⟨_, rfl, by rw [HFF.out]; exact HO.out, hx⟩
end Go.Proofs.Ytmlabgmigakcbaa
