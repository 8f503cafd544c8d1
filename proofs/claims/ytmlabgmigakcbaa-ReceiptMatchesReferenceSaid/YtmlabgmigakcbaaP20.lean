/- Write: the walk. -/
import Derived.Test.YtmlabgmigakcbaaP10
namespace Go.Proofs.Ytmlabgmigakcbaa
open Go.RowKit
theorem ntsTo_succ (id z : Int) (k : Nat) : ntsTo id z (k + 1) = ntsTo id z k ++ [⟨id, k, decide ((k : Int) = z)⟩] := by unfold ntsTo; rw [List.range_succ, List.map_append]; rfl
theorem ntsTo_len (id z : Int) (k : Nat) : (ntsTo id z k).length = k := by simp [ntsTo]
def WrtRet (X : (List Rcp × List Nte) × Int) (w : World) (e : Ending) (w' : World) : Prop := ∃ v vn, e = .returned (.tuple #[v, vn, .int .i64 X.2]) ∧ OwnRc w' w.heap.size v X.1.1 ∧ OwnNt w' w.heap.size vn X.1.2 ∧ Ext w w'
theorem OwnRc.ext {W W' : World} {b : Nat} {v : Value} {l : List Rcp} (h : OwnRc W b v l) (hx : Ext W W') : OwnRc W' b v l := own_ext h hx
theorem OwnNt.ext {W W' : World} {b : Nat} {v : Value} {l : List Nte} (h : OwnNt W b v l) (hx : Ext W W') : OwnNt W' b v l := own_ext h hx
set_option maxRecDepth 100000 in
set_option maxHeartbeats 8000000 in
theorem write_any (os : List Opt) (ps : List Pas) (sts : List Stn) (lost wrong : List Int) (OA PA SA LA GA : Option Addr) (n c pn pc sn sc ln lc gn gc : Nat) (w : World) (ho : Ops w w.heap.size OA n c os) (hp : RA pasCells 6 w w.heap.size PA pn pc ps) (hs : RA stnCells 6 w w.heap.size SA sn sc sts) (hl : RA intCells 1 w w.heap.size LA ln lc lost) (hg : RA intCells 1 w w.heap.size GA gn gc wrong) :
  Calls Try.prog 26 #[.slice OA n c, .slice PA pn pc, .slice SA sn sc, .slice LA ln lc, .slice GA gn gc] w (WrtRet (wrtV os ps sts lost wrong) w) := by
 have hle := ho.out.le
 have hgle := hg.le
 have hsle := hs.le
 have HVAL := Lib.hid (fun (W : World) (hW : Ext w W) => valid_any os ps sts OA PA SA n c pn pc sn sc W (ho.ext hW) (ra_ext hp hW) (ra_ext hs hW))
 obtain ⟨X, hX⟩ : ∃ x, x = wrtV os ps sts lost wrong := ⟨_, rfl⟩
 rw [← hX]
 have HX := Lib.hid hX
 have HO := Lib.hid ho
 have HP := Lib.hid hp
 have HS := Lib.hid hs
 have HL := Lib.hid hl
 have HG := Lib.hid hg
 clear hX ho hp hs hl hg
 go_enter Try.func26, Try.ntmps26
 go_upto_region 1 with (fail)
 have hx1 : Ext w (w.alloc (.cells #[.slice PA pn pc] 37)) := bl_alloc (Below.refl _ _) _
 have J := Blk.new w 37 #[.slice PA pn pc]
 generalize w.heap.size = g6 at J ⊢
 generalize w.alloc (.cells #[.slice PA pn pc] 37) = W0 at hx1 J ⊢
 have t6 : W0.cell? ⟨g6, 0, none⟩ = some (.slice PA pn pc) := J.cell 0
 have HJ6 := Lib.hid J
 clear J
 go_wp2_with fail
 refine (HVAL.out _ hx1).mono ?_
 rintro e W1 ⟨rfl, hy⟩
 have hx := Ext.trans hx1 hy
 have HJ6 := Lib.hid (HJ6.out.ext hy)
 clear t6 hy hx1 HVAL
 by_cases hV : validP os ps sts = true
 ·rw [hV]
  have hvok := valid_vok hV
  have HVK := Lib.hid hvok
  have HXV : Hid (X = (match wrtL ps sts lost wrong [] [] (os.drop 0) with | some x => (x, 0) | none => (([], []), 300))) := Lib.hid (by rw [HX.out]; unfold wrtV; rw [hV]; rfl)
  have hn24 : n ≤ 24 := by rw [← HO.out.out.len]; exact hvok.len
  have HPN : Hid (pn = ps.length) := Lib.hid HP.out.len.symm
  have HO1 := Lib.hid (HO.out.ext hx)
  have HP1 := Lib.hid (ra_ext HP.out hx)
  have HS1 := Lib.hid (ra_ext HS.out hx)
  have HL1 := Lib.hid (ra_ext HL.out hx)
  have HG1 := Lib.hid (ra_ext HG.out hx)
  have HW : Hid (Ext w W1) := Lib.hid hx
  have HR0 : Hid (OwnRc W1 W1.heap.size (.slice none 0 0) []) := Lib.hid (World.ownsRow_nil _ _ _ _)
  have HN0 : Hid (OwnNt W1 W1.heap.size (.slice none 0 0) []) := Lib.hid (World.ownsRow_nil _ _ _ _)
  clear hV hvok HX HO HP HS HL HG hx
  go_wp2_with fail
  go_loopw [10, 11, 28] (fun x y i wr => ∃ (k : Nat) (rs : List Rcp) (ns : List Nte), k ≤ n ∧ i = .int .i64 k ∧ Hid (X = (match wrtL ps sts lost wrong rs ns (os.drop k) with | some x => (x, 0) | none => (([], []), 300))) ∧ Hid (OwnRc wr W1.heap.size x rs) ∧ Hid (OwnNt wr W1.heap.size y ns) ∧ rs.length ≤ k ∧ ns.length ≤ 6 * k ∧ Ext W1 wr) (fun _ _ i _ => n - (intOf i).toNat)
  case atStart => exact ⟨0, [], [], Nat.zero_le _, rfl, HXV, HR0, HN0, Nat.zero_le _, Nat.zero_le _, Ext.refl _⟩
  case round =>
   clear HXV HR0 HN0
   obtain ⟨k, rs, ns, hk, rfl, HXV, HR, HNt, hrl, hnl, hx⟩ := hrel
   obtain ⟨A1, c1, hv1, _, _⟩ := own_slice HR.out
   subst hv1
   obtain ⟨A2, c2, hv2, _, _⟩ := own_slice HNt.out
   subst hv2
   by_cases hkn : k < n
   ·obtain ⟨b, ob, hz, hA, _, hc⟩ := (HO1.out.out.below hx).at_ opt_len hkn
    have hst := HXV.out
    rw [List.drop_eq_getElem_cons hz, wrtL_cons] at hst
    have hmem := List.getElem_mem hz
    have hSEN := fun (W : World) (hW : Ext W1 W) => sent_any os[k] ps lost PA LA pn pc ln lc W (ra_ext (HO1.out.each _ hmem) hW) (ra_ext HP1.out hW) (ra_ext HL1.out hW)
    have hslk := HVK.out.sl hmem
    have hsr := HO1.out.each _ hmem
    have hcas := sentV_cases os[k] ps lost
    generalize os[k] = o at hst hc hSEN hslk hsr hcas
    obtain ⟨id, i1, i2, i3, i4, i5, i6, i7, a, m, d, l⟩ := o
    dsimp only at hst hslk hsr
    have hml := hsr.len
    have hm6 : m ≤ 6 := by rw [← hml]; exact hslk.len
    have c0 : wr.cell? ⟨b, ob + k * 9, none⟩ = some (.int .i64 id) := hc 0 (by omega)
    have c1_ : wr.cell? ⟨b, ob + k * 9 + 1, none⟩ = some (.int .i64 i1) := hc 1 (by omega)
    have c2_ : wr.cell? ⟨b, ob + k * 9 + 2, none⟩ = some (.int .i64 i2) := hc 2 (by omega)
    have c3 : wr.cell? ⟨b, ob + k * 9 + 3, none⟩ = some (.int .i64 i3) := hc 3 (by omega)
    have c4 : wr.cell? ⟨b, ob + k * 9 + 4, none⟩ = some (.int .i64 i4) := hc 4 (by omega)
    have c5 : wr.cell? ⟨b, ob + k * 9 + 5, none⟩ = some (.int .i64 i5) := hc 5 (by omega)
    have c6 : wr.cell? ⟨b, ob + k * 9 + 6, none⟩ = some (.int .i64 i6) := hc 6 (by omega)
    have c7 : wr.cell? ⟨b, ob + k * 9 + 7, none⟩ = some (.int .i64 i7) := hc 7 (by omega)
    have c8 : wr.cell? ⟨b, ob + k * 9 + 8, none⟩ = some (.slice a m d) := hc 8 (by omega)
    have HST := Lib.hid hst
    have HSEN := Lib.hid hSEN
    have HSLK := Lib.hid hslk
    have HSR := Lib.hid hsr
    have HCAS := Lib.hid hcas
    have HML := Lib.hid hml
    subst hA
    clear hc hz hst hmem hSEN hslk hsr hcas hml HXV
    go_upto_region 6 with (fail)
    have hya : Ext wr (wr.alloc (.cells #[.int .i64 id, .int .i64 i1, .int .i64 i2, .int .i64 i3, .int .i64 i4, .int .i64 i5, .int .i64 i6, .int .i64 i7, .slice a m d] 32)) := bl_alloc (Below.refl _ _) _
    have J := Blk.new wr 32 #[.int .i64 id, .int .i64 i1, .int .i64 i2, .int .i64 i3, .int .i64 i4, .int .i64 i5, .int .i64 i6, .int .i64 i7, .slice a m d]
    generalize wr.heap.size = g14 at J ⊢
    clear c0 c1_ c2_ c3 c4 c5 c6 c7 c8
    generalize wr.alloc (.cells #[.int .i64 id, .int .i64 i1, .int .i64 i2, .int .i64 i3, .int .i64 i4, .int .i64 i5, .int .i64 i6, .int .i64 i7, .slice a m d] 32) = W2 at hya J ⊢
    have hx2 := Ext.trans hx hya
    have HR2 := Lib.hid (HR.out.ext hya)
    have HN2 := Lib.hid (HNt.out.ext hya)
    have t6 : W2.cell? ⟨g6, 0, none⟩ = some (.slice PA pn pc) := (HJ6.out.ext hx2).cell 0
    have d0 : W2.cell? ⟨g14, 0, none⟩ = some (.int .i64 id) := J.cell 0
    have d1 : W2.cell? ⟨g14, 1, none⟩ = some (.int .i64 i1) := J.cell 1
    have d2 : W2.cell? ⟨g14, 2, none⟩ = some (.int .i64 i2) := J.cell 2
    have d3 : W2.cell? ⟨g14, 3, none⟩ = some (.int .i64 i3) := J.cell 3
    have d4 : W2.cell? ⟨g14, 4, none⟩ = some (.int .i64 i4) := J.cell 4
    have d5 : W2.cell? ⟨g14, 5, none⟩ = some (.int .i64 i5) := J.cell 5
    have d6 : W2.cell? ⟨g14, 6, none⟩ = some (.int .i64 i6) := J.cell 6
    have d7 : W2.cell? ⟨g14, 7, none⟩ = some (.int .i64 i7) := J.cell 7
    have d8 : W2.cell? ⟨g14, 8, none⟩ = some (.slice a m d) := J.cell 8
    have HJ14 := Lib.hid J
    have HK := Lib.hid (HSEN.out W2 hx2)
    clear J hya HR HNt hx HSEN
    go_wp2_with fail
    refine HK.out.mono ?_
    rintro e W3 ⟨rfl, hy⟩
    have hx3 := Ext.trans hx2 hy
    have HJ14 := Lib.hid (HJ14.out.ext hy)
    have HR3 := Lib.hid (HR2.out.ext hy)
    have HN3 := Lib.hid (HN2.out.ext hy)
    clear t6 d0 d1 d2 d3 d4 d5 d6 d7 d8 HK hy hx2 HR2 HN2
    rcases HCAS.out with hv | ⟨z, hv, hzb⟩
    ·rw [hv]
     have hXe : X = (([], []), 300) := by have h := HST.out; rw [hv, if_neg (by decide)] at h; exact h
     have hxf := Ext.trans HW.out hx3
     clear HST HCAS hv HR3 HN3
     have HXE := Lib.hid hXe
     clear hXe
     go_wp2
     exact bodyPost_ret (v := .tuple #[.slice none 0 0, .slice none 0 0, .int .i64 300]) (by simp [results, Try.results26, go_sem]) rfl ⟨_, _, by rw [HXE.out], by rw [HXE.out]; exact World.ownsRow_nil _ _ _ _, by rw [HXE.out]; exact World.ownsRow_nil _ _ _ _, hxf⟩
    ·rw [hv]
     have hst := HST.out
     rw [hv] at hst
     dsimp only at hst
     rw [if_pos rfl] at hst
     clear HST HCAS hv
     by_cases hz0 : 0 ≤ z
     ·have hzm : z < m := by have := HML.out; omega
      rw [if_pos hz0] at hst
      have hnt : ntsOf id z l.length = ntsTo id z (z.toNat + 1) := by unfold ntsOf; rw [if_pos hz0]
      rw [hnt] at hst
      obtain ⟨zn, rfl⟩ : ∃ q : Nat, z = q := ⟨z.toNat, by omega⟩
      have hznm : zn < m := by omega
      rw [show ((zn : Int)).toNat = zn by omega] at hst
      have HST := Lib.hid hst
      clear hst hnt hzb hz0 hzm
      have d8 : W3.cell? ⟨g14, 7 + 1, none⟩ = some (.slice a m d) := HJ14.out.cell 8
      go_wp2_with fail
      go_loopw [11, 44] (fun y i_ wi => ∃ j : Nat, j ≤ zn ∧ i_ = .int .i64 j ∧ Hid (OwnNt wi W1.heap.size y (ns ++ ntsTo id (zn : Int) j)) ∧ Hid (OwnRc wi W1.heap.size (.slice A1 rs.length c1) rs) ∧ Hid (Blk wi g14 32 #[.int .i64 id, .int .i64 i1, .int .i64 i2, .int .i64 i3, .int .i64 i4, .int .i64 i5, .int .i64 i6, .int .i64 i7, .slice a m d]) ∧ Ext W1 wi) (fun _ i_ _ => m - (intOf i_).toNat)
      case atStart => exact ⟨0, Nat.zero_le _, rfl, Lib.hid (by have h := HN3.out; rw [← List.append_nil ns] at h; simpa [ntsTo] using h), HR3, HJ14, hx3⟩
      case round =>
       clear d8 HN3 HR3 HJ14 hx3
       obtain ⟨j, hj, rfl, HNj, HRj, HJj, hxj⟩ := hrel
       obtain ⟨wi, hwi⟩ : ∃ wi : World, wi = wr := ⟨_, rfl⟩
       rw [← hwi] at HNj HRj HJj hxj ⊢
       clear hwi
       obtain ⟨NL, hNL⟩ : ∃ NL, NL = ns ++ ntsTo id (zn : Int) j := ⟨_, rfl⟩
       rw [← hNL] at HNj
       have HNL := Lib.hid hNL
       obtain ⟨A2, c2, hv2, _, _⟩ := own_slice HNj.out
       subst hv2
       clear hNL
       have hjm : j < m := by omega
       by_cases hjz : j < zn
       ·have hq1 : ((j : Int) == (zn : Int)) = false := by simpa using (by omega : ¬ (j : Int) = (zn : Int))
        have hq2 : ¬ (j : Int) = (zn : Int) := by omega
        have HQ : Hid ((⟨id, j, decide ((j : Int) = (zn : Int))⟩ : Nte) = ⟨id, j, false⟩) := Lib.hid (by rw [decide_eq_false hq2])
        have hxa : Ext wi (wi.alloc (.cells #[.int .i64 id, .int .i64 (j : Int), .bool false] 89)) := bl_alloc (Below.refl _ _) _
        have hxw := Ext.trans hxj hxa
        obtain ⟨v7, W7, hrun, hg7, hn7⟩ := nte_snoc 34 NL (.slice A2 NL.length c2) ⟨id, j, false⟩ W1.heap.size wi.heap.size (Blk.new _ _ _) (HNj.out.ext hxa) (by rw [HNL.out, List.length_append, ntsTo_len]; omega) (Below.size hxw)
        have hx7 : Ext W1 W7 := hxw.grown hg7 (Below.size hxw) (fun q e => (World.ownsRow.lt HNj.out q e).1)
        have HR7 := Lib.hid (show OwnRc W7 W1.heap.size (.slice A1 rs.length c1) rs from own_other (HRj.out.ext hxa) (HNj.out.ext hxa) (by decide) hg7)
        have HRUN := Lib.hid hrun
        have HN7 : Hid (OwnNt W7 W1.heap.size v7 (ns ++ ntsTo id (zn : Int) (j + 1))) := Lib.hid (by rw [ntsTo_succ, ← List.append_assoc, HQ.out, ← HNL.out]; exact hn7)
        have hj14 := HJj.out.ext hxa
        have HJ7 := Lib.hid (hj14.grown hg7 (fun e => own_blk_ne (HNj.out.ext hxa) hj14 (by decide) e.symm))
        have d0 : wi.cell? ⟨g14, 0, none⟩ = some (.int .i64 id) := HJj.out.cell 0
        clear hrun hg7 hn7 hxw hxa hj14
        go_upto_region 12 with (fail)
        go_wp2_with (refine wpList_append_run_ rfl _ _ _ rfl rfl rfl HRUN.out ?_)
        go_roundw
        case rel => exact ⟨j + 1, by omega, by go_num, HN7, HR7, HJ7, hx7⟩
        case measure => simp [intOf]; omega
       ·obtain rfl : j = zn := by omega
        have hq1 : ((j : Int) == (j : Int)) = true := by simp
        have HQ : Hid ((⟨id, j, decide ((j : Int) = (j : Int))⟩ : Nte) = ⟨id, j, true⟩) := Lib.hid (by simp)
        have hxa : Ext wi (wi.alloc (.cells #[.int .i64 id, .int .i64 (j : Int), .bool true] 89)) := bl_alloc (Below.refl _ _) _
        have hxw := Ext.trans hxj hxa
        obtain ⟨v7, W7, hrun, hg7, hn7⟩ := nte_snoc 34 NL (.slice A2 NL.length c2) ⟨id, j, true⟩ W1.heap.size wi.heap.size (Blk.new _ _ _) (HNj.out.ext hxa) (by rw [HNL.out, List.length_append, ntsTo_len]; omega) (Below.size hxw)
        have hx7 : Ext W1 W7 := hxw.grown hg7 (Below.size hxw) (fun q e => (World.ownsRow.lt HNj.out q e).1)
        have HR7 := Lib.hid (show OwnRc W7 W1.heap.size (.slice A1 rs.length c1) rs from own_other (HRj.out.ext hxa) (HNj.out.ext hxa) (by decide) hg7)
        have HRUN := Lib.hid hrun
        have HN7 : Hid (OwnNt W7 W1.heap.size v7 (ns ++ ntsTo id (j : Int) (j + 1))) := Lib.hid (by rw [ntsTo_succ, ← List.append_assoc, HQ.out, ← HNL.out]; exact hn7)
        have hj14 := HJj.out.ext hxa
        have HJ7 := Lib.hid (hj14.grown hg7 (fun e => own_blk_ne (HNj.out.ext hxa) hj14 (by decide) e.symm))
        have d0 : wi.cell? ⟨g14, 0, none⟩ = some (.int .i64 id) := HJj.out.cell 0
        clear hrun hg7 hn7 hxw hxa hj14
        clear HNj HRj HJj hxj
        go_upto_region 12 with (fail)
        go_upto_region 16 with (refine wpList_append_run_ rfl _ _ _ rfl rfl rfl HRUN.out ?_)
        clear d0 HRUN HQ HNL
        obtain ⟨bq, oq, hzq, hAq, _, hcq⟩ := (HSR.out.below hx7).at_ slt_len hjm
        have hslk := HSLK.out
        have hbp := hslk.pass l[j] (List.getElem_mem hzq)
        have hbt := hslk.bd l[j] (List.getElem_mem hzq)
        have hsl : sltAt l (j : Int) = l[j] := by unfold sltAt; rw [show ((j : Int)).toNat = j by omega, List.getD_eq_getElem?_getD, List.getElem?_eq_getElem hzq]; rfl
        have hst := HST.out
        rw [hsl] at hst
        have hsta := HVK.out.sta (List.getElem_mem (show l[j].p.toNat < ps.length by omega))
        have hsta2 : staOf ps l[j].p = (ps[l[j].p.toNat]'(by omega)).station := by unfold staOf; rw [List.getElem?_eq_getElem (by omega)]
        rw [← hsta2] at hsta
        have HIX := Lib.hid (fun (g18 : Nat) (sf : Int) (W : World) (hW : Ext W1 W) (h18 : Blk W g18 78 #[.int .i64 l[j].p, .int .i64 sf, .int .i64 l[j].tt]) => indexSt_any sts l[j].p sf l[j].tt ps PA SA pn pc sn sc g6 g18 W (ra_ext HS1.out hW) (ra_ext HP1.out hW) (HJ6.out.ext hW) h18 hbp)
        generalize l[j] = sl at hcq hbt hst hsta HIX
        obtain ⟨sp, sf, stt⟩ := sl
        dsimp only at hbt hst hsta HIX
        obtain ⟨ki, hki, hkv, hkid⟩ := stI_bd (staOf ps sp) sts 0 hsta
        rw [Nat.zero_add] at hkv
        have hsn : sts.length = sn := HS1.out.len
        have hkin : ki < sn := by omega
        obtain ⟨bs, os_, hzs, hAs, _, hcs⟩ := HS1.out.at_ stn_len hkin
        have hskb := stn_skew HVK.out.stns sts[ki] (List.getElem_mem hki)
        have hrc : rcpOf ps sts wrong id ⟨sp, sf, stt⟩ = ⟨sts[ki].id, id, max 0 (stt + byOf wrong ki sts[ki].skew)⟩ := by
         unfold rcpOf
         dsimp only
         rw [hkv, show ((ki : Int)).toNat = ki by omega, List.getElem?_eq_getElem hki]
        rw [hkv] at HIX
        have e0 : W1.cell? ⟨bs, os_ + ki * 6, none⟩ = some (.int .i64 sts[ki].id) := hcs 0 (by omega)
        have e5 : W1.cell? ⟨bs, os_ + ki * 6 + 5, none⟩ = some (.int .i64 sts[ki].skew) := hcs 5 (by omega)
        generalize sts[ki].skew = sk at hskb hrc e5
        generalize sts[ki].id = sid at hrc e0
        have HRC := Lib.hid hrc
        have HST := Lib.hid hst
        have q0 : W7.cell? ⟨bq, oq + j * 3, none⟩ = some (.int .i64 sp) := hcq 0 (by omega)
        have q1 : W7.cell? ⟨bq, oq + j * 3 + 1, none⟩ = some (.int .i64 sf) := hcq 1 (by omega)
        have q2 : W7.cell? ⟨bq, oq + j * 3 + 2, none⟩ = some (.int .i64 stt) := hcq 2 (by omega)
        have d8 : W7.cell? ⟨g14, 7 + 1, none⟩ = some (.slice a m d) := HJ7.out.cell 8
        subst hAq
        have HAS := Lib.hid hAs
        clear hcs hcq hst hrc hsta2 hkv hkid hAs hsl hsn
        go_upto_region 17 with (fail)
        have hya : Ext W7 (W7.alloc (.cells #[.int .i64 sp, .int .i64 sf, .int .i64 stt] 78)) := bl_alloc (Below.refl _ _) _
        have J18 := Blk.new W7 78 #[.int .i64 sp, .int .i64 sf, .int .i64 stt]
        generalize W7.heap.size = g18 at J18 ⊢
        generalize W7.alloc (.cells #[.int .i64 sp, .int .i64 sf, .int .i64 stt] 78) = W8 at hya J18 ⊢
        have hx8 := Ext.trans hx7 hya
        have HJ14 := Lib.hid (HJ7.out.ext hya)
        have HR8 := Lib.hid (HR7.out.ext hya)
        have HN8 := Lib.hid (HN7.out.ext hya)
        have HJ18 := Lib.hid J18
        have HK := Lib.hid (HIX.out g18 sf W8 hx8 J18)
        have hSA := HAS.out
        subst hSA
        clear q0 q1 q2 d8 hya J18 HJ7 HR7 HN7 hx7 HIX
        go_wp2_with fail
        refine HK.out.mono ?_
        rintro e Wb ⟨rfl, hyb⟩
        have hx1b := Ext.trans hx8 hyb
        have e0 := ext_cell hx1b e0
        have e5 := ext_cell hx1b e5
        clear HK
        go_upto_region 19 with (fail)
        by_cases hkg : ki < gn
        ·obtain ⟨bg, og, hzg, hAg, _, hcg⟩ := (HG1.out.below hx1b).at_ int_len hkg
         have hby : min (max wrong[ki] (-sk)) sk = byOf wrong ki sk := by
          unfold byOf
          rw [if_pos hzg, List.getD_eq_getElem?_getD, List.getElem?_eq_getElem hzg]
          rfl
         have w0 : Wb.cell? ⟨bg, og + ki, none⟩ = some (.int .i64 wrong[ki]) := by have h := hcg 0 (by omega); rw [Nat.mul_one] at h; exact h
         generalize wrong[ki] = wv at hby w0
         have HBY0 := Lib.hid hby
         have hAG := hAg
         subst hAG
         clear hcg hzg hby
         have hkg2 : (ki : Int) < (gn : Int) := by omega
         have hkn2 : (ki : Int) < (sn : Int) := by omega
         have hng : IntKind.i64.wrap (-sk) = -sk := IntWalk.i64_in _ (by omega)
         go_upto_region 20 with (fail)
         refine wp_region_obl 17 (fun ix vals v w1 => match ix with | 0 => v = .slice (some ⟨bg, og, none⟩) gn gc | 1 => v = .int .i64 (ki : Int) | 2 => v = .pointer (some ⟨bg, og + ki, none⟩) | 3 => v = .int .i64 wv | 4 => v = .slice (some ⟨bs, os_, none⟩) sn sc | 5 => v = .int .i64 (ki : Int) | 6 => v = .pointer (some ⟨bs, os_ + ki * 6, none⟩) | 7 => v = .pointer (some ⟨bs, os_ + ki * 6 + 5, none⟩) | 8 => v = .int .i64 sk | 9 => v = .int .i64 (-sk) | 10 => v = .slice (some ⟨bs, os_, none⟩) sn sc | 11 => v = .int .i64 (ki : Int) | 12 => v = .pointer (some ⟨bs, os_ + ki * 6, none⟩) | 13 => v = .pointer (some ⟨bs, os_ + ki * 6 + 5, none⟩) | 14 => v = .int .i64 sk | 15 => ∃ g, v = .slice (some ⟨g, 0, none⟩) 2 2 ∧ Blk w1 g 3 #[.int .i64 (-sk), .int .i64 sk] | _ => v = .int .i64 (min (max wv (-sk)) sk)) (by kernel_rfl) (by kernel_rfl) ?_ ?_ ?_ ?_
         ·intro ix vals v w1 w2 hi hr hx
          match ix, hr with
          | 0, hr => exact hr
          | 1, hr => exact hr
          | 2, hr => exact hr
          | 3, hr => exact hr
          | 4, hr => exact hr
          | 5, hr => exact hr
          | 6, hr => exact hr
          | 7, hr => exact hr
          | 8, hr => exact hr
          | 9, hr => exact hr
          | 10, hr => exact hr
          | 11, hr => exact hr
          | 12, hr => exact hr
          | 13, hr => exact hr
          | 14, hr => exact hr
          | 15, hr => obtain ⟨g, h1, h2⟩ := hr; exact ⟨g, h1, h2.ext hx⟩
          | (kx + 16), hr => exact hr
         ·intro ix vals vals_ v w1 hi hv hr
          exact hr
         ·refine ⟨?_, ?_, ?_, ?_, ?_, ?_, ?_, ?_, ?_, ?_, ?_, ?_, ?_, ?_, ?_, ?_, ?_, trivial⟩
          ·intro vals w1 hx hd ha
           clear hd ha
           simp only [Lf]
           go_wp2
           exact ⟨rfl, Ext.refl _, rfl⟩
          ·intro vals w1 hx hd ha
           clear hd ha
           simp only [Lf, dstAt, Act.put, List.getElem?_toArray, List.getElem?_cons_zero, Option.bind_some, List.setIfInBounds_toArray, List.set_cons_zero, List.set_cons_succ]
           go_wp2
           exact ⟨rfl, Ext.refl _, rfl⟩
          ·intro vals w1 hx hd ha
           have e0 : vals 0 = .slice (some ⟨bg, og, none⟩) gn gc := hd 0 (by decide)
           have e1 : vals 1 = .int .i64 (ki : Int) := hd 1 (by decide)
           clear hd ha
           simp only [Lf, dstAt, Act.put, List.getElem?_toArray, List.getElem?_cons_zero, List.getElem?_cons_succ, Option.bind_some, List.setIfInBounds_toArray, List.set_cons_zero, List.set_cons_succ]
           simp only [e0, e1]
           clear e0 e1
           go_wp2
           exact ⟨rfl, Ext.refl _, rfl⟩
          ·intro vals w1 hx hd ha
           have e2 : vals 2 = .pointer (some ⟨bg, og + ki, none⟩) := hd 2 (by decide)
           clear hd ha
           simp only [Lf, dstAt, Act.put, List.getElem?_toArray, List.getElem?_cons_zero, List.getElem?_cons_succ, Option.bind_some, List.setIfInBounds_toArray, List.set_cons_zero, List.set_cons_succ]
           simp only [e2]
           clear e2
           have w0 := ext_cell hx w0
           go_wp2
           exact ⟨rfl, Ext.refl _, rfl⟩
          ·intro vals w1 hx hd ha
           clear hd ha
           simp only [Lf, dstAt, Act.put, List.getElem?_toArray, List.getElem?_cons_zero, List.getElem?_cons_succ, Option.bind_some, List.setIfInBounds_toArray, List.set_cons_zero, List.set_cons_succ]
           go_wp2
           exact ⟨rfl, Ext.refl _, rfl⟩
          ·intro vals w1 hx hd ha
           clear hd ha
           simp only [Lf, dstAt, Act.put, List.getElem?_toArray, List.getElem?_cons_zero, List.getElem?_cons_succ, Option.bind_some, List.setIfInBounds_toArray, List.set_cons_zero, List.set_cons_succ]
           go_wp2
           exact ⟨rfl, Ext.refl _, rfl⟩
          ·intro vals w1 hx hd ha
           have e4 : vals 4 = .slice (some ⟨bs, os_, none⟩) sn sc := hd 4 (by decide)
           have e5 : vals 5 = .int .i64 (ki : Int) := hd 5 (by decide)
           clear hd ha
           simp only [Lf, dstAt, Act.put, List.getElem?_toArray, List.getElem?_cons_zero, List.getElem?_cons_succ, Option.bind_some, List.setIfInBounds_toArray, List.set_cons_zero, List.set_cons_succ]
           simp only [e4, e5]
           clear e4 e5
           go_wp2
           exact ⟨rfl, Ext.refl _, rfl⟩
          ·intro vals w1 hx hd ha
           have e6 : vals 6 = .pointer (some ⟨bs, os_ + ki * 6, none⟩) := hd 6 (by decide)
           clear hd ha
           simp only [Lf, dstAt, Act.put, List.getElem?_toArray, List.getElem?_cons_zero, List.getElem?_cons_succ, Option.bind_some, List.setIfInBounds_toArray, List.set_cons_zero, List.set_cons_succ]
           simp only [e6]
           clear e6
           go_wp2
           exact ⟨rfl, Ext.refl _, rfl⟩
          ·intro vals w1 hx hd ha
           have e7 : vals 7 = .pointer (some ⟨bs, os_ + ki * 6 + 5, none⟩) := hd 7 (by decide)
           clear hd ha
           simp only [Lf, dstAt, Act.put, List.getElem?_toArray, List.getElem?_cons_zero, List.getElem?_cons_succ, Option.bind_some, List.setIfInBounds_toArray, List.set_cons_zero, List.set_cons_succ]
           simp only [e7]
           clear e7
           have e5 := ext_cell hx e5
           go_wp2
           exact ⟨rfl, Ext.refl _, rfl⟩
          ·intro vals w1 hx hd ha
           have e8 : vals 8 = .int .i64 sk := hd 8 (by decide)
           clear hd ha
           simp only [Lf, dstAt, Act.put, List.getElem?_toArray, List.getElem?_cons_zero, List.getElem?_cons_succ, Option.bind_some, List.setIfInBounds_toArray, List.set_cons_zero, List.set_cons_succ]
           simp only [e8]
           clear e8
           go_wp2
           exact ⟨rfl, Ext.refl _, rfl⟩
          ·intro vals w1 hx hd ha
           clear hd ha
           simp only [Lf, dstAt, Act.put, List.getElem?_toArray, List.getElem?_cons_zero, List.getElem?_cons_succ, Option.bind_some, List.setIfInBounds_toArray, List.set_cons_zero, List.set_cons_succ]
           go_wp2
           exact ⟨rfl, Ext.refl _, rfl⟩
          ·intro vals w1 hx hd ha
           clear hd ha
           simp only [Lf, dstAt, Act.put, List.getElem?_toArray, List.getElem?_cons_zero, List.getElem?_cons_succ, Option.bind_some, List.setIfInBounds_toArray, List.set_cons_zero, List.set_cons_succ]
           go_wp2
           exact ⟨rfl, Ext.refl _, rfl⟩
          ·intro vals w1 hx hd ha
           have e10 : vals 10 = .slice (some ⟨bs, os_, none⟩) sn sc := hd 10 (by decide)
           have e11 : vals 11 = .int .i64 (ki : Int) := hd 11 (by decide)
           clear hd ha
           simp only [Lf, dstAt, Act.put, List.getElem?_toArray, List.getElem?_cons_zero, List.getElem?_cons_succ, Option.bind_some, List.setIfInBounds_toArray, List.set_cons_zero, List.set_cons_succ]
           simp only [e10, e11]
           clear e10 e11
           go_wp2
           exact ⟨rfl, Ext.refl _, rfl⟩
          ·intro vals w1 hx hd ha
           have e12 : vals 12 = .pointer (some ⟨bs, os_ + ki * 6, none⟩) := hd 12 (by decide)
           clear hd ha
           simp only [Lf, dstAt, Act.put, List.getElem?_toArray, List.getElem?_cons_zero, List.getElem?_cons_succ, Option.bind_some, List.setIfInBounds_toArray, List.set_cons_zero, List.set_cons_succ]
           simp only [e12]
           clear e12
           go_wp2
           exact ⟨rfl, Ext.refl _, rfl⟩
          ·intro vals w1 hx hd ha
           have e13 : vals 13 = .pointer (some ⟨bs, os_ + ki * 6 + 5, none⟩) := hd 13 (by decide)
           clear hd ha
           simp only [Lf, dstAt, Act.put, List.getElem?_toArray, List.getElem?_cons_zero, List.getElem?_cons_succ, Option.bind_some, List.setIfInBounds_toArray, List.set_cons_zero, List.set_cons_succ]
           simp only [e13]
           clear e13
           have e5 := ext_cell hx e5
           go_wp2
           exact ⟨rfl, Ext.refl _, rfl⟩
          ·intro vals w1 hx hd ha
           have e9 : vals 9 = .int .i64 (-sk) := hd 9 (by decide)
           have e14 : vals 14 = .int .i64 sk := hd 14 (by decide)
           clear hd ha
           simp only [Lf, dstAt, Act.put, List.getElem?_toArray, List.getElem?_cons_zero, List.getElem?_cons_succ, Option.bind_some, List.setIfInBounds_toArray, List.set_cons_zero, List.set_cons_succ]
           simp only [e9]
           simp only [e14]
           clear e9 e14
           go_wp2
           exact ⟨rfl, (by repeat (first | exact Below.refl _ _ | assumption | refine Below.drew ?_ | refine below_drewN ?_ _ | refine bl_alloc ?_ _ | refine Below.setCell ?_ (by first | (simp; done) | omega | (simp; omega)) _ | refine bl_then ?_ (by assumption))), _, rfl, Blk.new _ _ _⟩
          ·intro vals w1 hx hd ha
           have e3 : vals 3 = .int .i64 wv := hd 3 (by decide)
           have r15 : (fun v w1 => ∃ g, v = .slice (some ⟨g, 0, none⟩) 2 2 ∧ Blk w1 g 3 #[.int .i64 (-sk), .int .i64 sk]) (vals 15) w1 := hd 15 (by decide)
           dsimp only at r15
           clear hd ha
           simp only [Lf, dstAt, Act.put, List.getElem?_toArray, List.getElem?_cons_zero, List.getElem?_cons_succ, Option.bind_some, List.setIfInBounds_toArray, List.set_cons_zero, List.set_cons_succ]
           obtain ⟨g, h1, h2⟩ := r15
           simp only [e3]
           clear e3
           simp only [h1]
           have HWI := Lib.hid (within_any wv (-sk) sk g 2 2 w1 (by omega) (h2.cell 0) (h2.cell 1))
           go_wp2_with fail
           refine HWI.out.mono ?_
           rintro e w2 ⟨rfl, hb2⟩
           go_wp2
           exact ⟨rfl, hb2, rfl⟩
         intro vals Wc hyc hf
         have v16 : vals 16 = .int .i64 (min (max wv (-sk)) sk) := hf 16 (by omega)
         have hyc := hyc.undrew
         have hxc := Ext.trans hyb hyc
         have hbyb : -30 ≤ min (max wv (-sk)) sk ∧ min (max wv (-sk)) sk ≤ 30 := by omega
         generalize min (max wv (-sk)) sk = byv at v16 HBY0 hbyb
         have e0 := ext_cell hyc e0
         clear hf w0 e5 hng
         refine tail1 17 _ (by kernel_rfl) (by kernel_rfl) rfl ?_
         simp only [Lf, dstAt, Act.put, List.getElem?_toArray, List.getElem?_cons_zero, List.getElem?_cons_succ, Option.bind_some, List.setIfInBounds_toArray, List.set_cons_zero, List.set_cons_succ]
         rw [v16]
         clear v16
         go_upto_region 21 with (fail)
         have h0 : Wc.cell? ⟨g14, 0, none⟩ = some (.int .i64 id) := (HJ14.out.ext hxc).cell 0
         have s2 : Wc.cell? ⟨g18, 2, none⟩ = some (.int .i64 stt) := (HJ18.out.ext hxc).cell 2
         have hwr : IntKind.i64.wrap (stt + byv) = stt + byv := IntWalk.i64_in _ (by omega)
         refine wp_region_obl 16 (fun ix vals v w1 => match ix with | 0 => v = .slice A1 rs.length c1 | 1 => v = .slice (some ⟨bs, os_, none⟩) sn sc | 2 => v = .int .i64 (ki : Int) | 3 => v = .pointer (some ⟨bs, os_ + ki * 6, none⟩) | 4 => v = .pointer (some ⟨bs, os_ + ki * 6, none⟩) | 5 => v = .int .i64 sid | 6 => v = .pointer (some ⟨g14, 0, none⟩) | 7 => v = .int .i64 id | 8 => v = .pointer (some ⟨g18, 1, none⟩) | 9 => v = .pointer (some ⟨g18, 2, none⟩) | 10 => v = .int .i64 stt | 11 => v = .int .i64 byv | 12 => v = .int .i64 (stt + byv) | 13 => v = .int .i64 (max 0 (stt + byv)) | 14 => v = .agg #[.int .i64 sid, .int .i64 id, .int .i64 (max 0 (stt + byv))] | _ => ∃ gx, v = .slice (some ⟨gx, 0, none⟩) 1 1 ∧ Blk w1 gx 63 #[.int .i64 sid, .int .i64 id, .int .i64 (max 0 (stt + byv))]) (by kernel_rfl) (by kernel_rfl) ?_ ?_ ?_ ?_
         ·intro ix vals v w1 w2 hi hr hx
          match ix, hr with
          | 0, hr => exact hr
          | 1, hr => exact hr
          | 2, hr => exact hr
          | 3, hr => exact hr
          | 4, hr => exact hr
          | 5, hr => exact hr
          | 6, hr => exact hr
          | 7, hr => exact hr
          | 8, hr => exact hr
          | 9, hr => exact hr
          | 10, hr => exact hr
          | 11, hr => exact hr
          | 12, hr => exact hr
          | 13, hr => exact hr
          | 14, hr => exact hr
          | (kx + 15), hr => obtain ⟨gx, h1, h2⟩ := hr; exact ⟨gx, h1, h2.ext hx⟩
         ·intro ix vals vals_ v w1 hi hv hr
          exact hr
         ·refine ⟨?_, ?_, ?_, ?_, ?_, ?_, ?_, ?_, ?_, ?_, ?_, ?_, ?_, ?_, ?_, ?_, trivial⟩
          ·intro vals w1 hx hd ha
           clear hd ha
           simp only [Lf]
           go_wp2
           exact ⟨rfl, Ext.refl _, rfl⟩
          ·intro vals w1 hx hd ha
           clear hd ha
           simp only [Lf, dstAt, Act.put, List.getElem?_toArray, List.getElem?_cons_zero, Option.bind_some, List.setIfInBounds_toArray, List.set_cons_zero, List.set_cons_succ]
           go_wp2
           exact ⟨rfl, Ext.refl _, rfl⟩
          ·intro vals w1 hx hd ha
           clear hd ha
           simp only [Lf, dstAt, Act.put, List.getElem?_toArray, List.getElem?_cons_zero, List.getElem?_cons_succ, Option.bind_some, List.setIfInBounds_toArray, List.set_cons_zero, List.set_cons_succ]
           go_wp2
           exact ⟨rfl, Ext.refl _, rfl⟩
          ·intro vals w1 hx hd ha
           have e1 : vals 1 = .slice (some ⟨bs, os_, none⟩) sn sc := hd 1 (by decide)
           have e2 : vals 2 = .int .i64 (ki : Int) := hd 2 (by decide)
           clear hd ha
           simp only [Lf, dstAt, Act.put, List.getElem?_toArray, List.getElem?_cons_zero, List.getElem?_cons_succ, Option.bind_some, List.setIfInBounds_toArray, List.set_cons_zero, List.set_cons_succ]
           simp only [e1, e2]
           clear e1 e2
           go_wp2
           exact ⟨rfl, Ext.refl _, rfl⟩
          ·intro vals w1 hx hd ha
           have e3 : vals 3 = .pointer (some ⟨bs, os_ + ki * 6, none⟩) := hd 3 (by decide)
           clear hd ha
           simp only [Lf, dstAt, Act.put, List.getElem?_toArray, List.getElem?_cons_zero, List.getElem?_cons_succ, Option.bind_some, List.setIfInBounds_toArray, List.set_cons_zero, List.set_cons_succ]
           simp only [e3]
           clear e3
           go_wp2
           exact ⟨rfl, Ext.refl _, rfl⟩
          ·intro vals w1 hx hd ha
           have e4 : vals 4 = .pointer (some ⟨bs, os_ + ki * 6, none⟩) := hd 4 (by decide)
           clear hd ha
           simp only [Lf, dstAt, Act.put, List.getElem?_toArray, List.getElem?_cons_zero, List.getElem?_cons_succ, Option.bind_some, List.setIfInBounds_toArray, List.set_cons_zero, List.set_cons_succ]
           simp only [e4]
           clear e4
           have e0 := ext_cell hx e0
           go_wp2
           exact ⟨rfl, Ext.refl _, rfl⟩
          ·intro vals w1 hx hd ha
           clear hd ha
           simp only [Lf, dstAt, Act.put, List.getElem?_toArray, List.getElem?_cons_zero, List.getElem?_cons_succ, Option.bind_some, List.setIfInBounds_toArray, List.set_cons_zero, List.set_cons_succ]
           go_wp2
           exact ⟨rfl, Ext.refl _, rfl⟩
          ·intro vals w1 hx hd ha
           have e6 : vals 6 = .pointer (some ⟨g14, 0, none⟩) := hd 6 (by decide)
           clear hd ha
           simp only [Lf, dstAt, Act.put, List.getElem?_toArray, List.getElem?_cons_zero, List.getElem?_cons_succ, Option.bind_some, List.setIfInBounds_toArray, List.set_cons_zero, List.set_cons_succ]
           simp only [e6]
           clear e6
           have h0 := ext_cell hx h0
           go_wp2
           exact ⟨rfl, Ext.refl _, rfl⟩
          ·intro vals w1 hx hd ha
           clear hd ha
           simp only [Lf, dstAt, Act.put, List.getElem?_toArray, List.getElem?_cons_zero, List.getElem?_cons_succ, Option.bind_some, List.setIfInBounds_toArray, List.set_cons_zero, List.set_cons_succ]
           go_wp2
           exact ⟨rfl, Ext.refl _, rfl⟩
          ·intro vals w1 hx hd ha
           have e8 : vals 8 = .pointer (some ⟨g18, 1, none⟩) := hd 8 (by decide)
           clear hd ha
           simp only [Lf, dstAt, Act.put, List.getElem?_toArray, List.getElem?_cons_zero, List.getElem?_cons_succ, Option.bind_some, List.setIfInBounds_toArray, List.set_cons_zero, List.set_cons_succ]
           simp only [e8]
           clear e8
           go_wp2
           exact ⟨rfl, Ext.refl _, rfl⟩
          ·intro vals w1 hx hd ha
           have e9 : vals 9 = .pointer (some ⟨g18, 2, none⟩) := hd 9 (by decide)
           clear hd ha
           simp only [Lf, dstAt, Act.put, List.getElem?_toArray, List.getElem?_cons_zero, List.getElem?_cons_succ, Option.bind_some, List.setIfInBounds_toArray, List.set_cons_zero, List.set_cons_succ]
           simp only [e9]
           clear e9
           have s2 := ext_cell hx s2
           go_wp2
           exact ⟨rfl, Ext.refl _, rfl⟩
          ·intro vals w1 hx hd ha
           clear hd ha
           simp only [Lf, dstAt, Act.put, List.getElem?_toArray, List.getElem?_cons_zero, List.getElem?_cons_succ, Option.bind_some, List.setIfInBounds_toArray, List.set_cons_zero, List.set_cons_succ]
           go_wp2
           exact ⟨rfl, Ext.refl _, rfl⟩
          ·intro vals w1 hx hd ha
           have e10 : vals 10 = .int .i64 stt := hd 10 (by decide)
           have e11 : vals 11 = .int .i64 byv := hd 11 (by decide)
           clear hd ha
           simp only [Lf, dstAt, Act.put, List.getElem?_toArray, List.getElem?_cons_zero, List.getElem?_cons_succ, Option.bind_some, List.setIfInBounds_toArray, List.set_cons_zero, List.set_cons_succ]
           simp only [e10, e11]
           clear e10 e11
           go_wp2
           exact ⟨rfl, Ext.refl _, rfl⟩
          ·intro vals w1 hx hd ha
           have e12 : vals 12 = .int .i64 (stt + byv) := hd 12 (by decide)
           clear hd ha
           simp only [Lf, dstAt, Act.put, List.getElem?_toArray, List.getElem?_cons_zero, List.getElem?_cons_succ, Option.bind_some, List.setIfInBounds_toArray, List.set_cons_zero, List.set_cons_succ]
           simp only [e12]
           clear e12
           go_wp2
           all_goals exact ⟨rfl, Ext.refl _, by show Value.int _ _ = Value.int _ _; congr 1; omega⟩
          ·intro vals w1 hx hd ha
           have e5 : vals 5 = .int .i64 sid := hd 5 (by decide)
           have e7 : vals 7 = .int .i64 id := hd 7 (by decide)
           have e13 : vals 13 = .int .i64 (max 0 (stt + byv)) := hd 13 (by decide)
           clear hd ha
           simp only [Lf, dstAt, Act.put, List.getElem?_toArray, List.getElem?_cons_zero, List.getElem?_cons_succ, Option.bind_some, List.setIfInBounds_toArray, List.set_cons_zero, List.set_cons_succ]
           simp only [e5, e7, e13]
           clear e5 e7 e13
           go_wp2
           exact ⟨rfl, Ext.refl _, rfl⟩
          ·intro vals w1 hx hd ha
           have e14 : vals 14 = .agg #[.int .i64 sid, .int .i64 id, .int .i64 (max 0 (stt + byv))] := hd 14 (by decide)
           clear hd ha
           simp only [Lf, dstAt, Act.put, List.getElem?_toArray, List.getElem?_cons_zero, List.getElem?_cons_succ, Option.bind_some, List.setIfInBounds_toArray, List.set_cons_zero, List.set_cons_succ]
           simp only [e14]
           clear e14
           go_wp2
           exact ⟨rfl, (by repeat (first | exact Below.refl _ _ | assumption | refine Below.drew ?_ | refine below_drewN ?_ _ | refine bl_alloc ?_ _ | refine Below.setCell ?_ (by first | (simp; done) | omega | (simp; omega)) _ | refine bl_then ?_ (by assumption))), _, rfl, Blk.new _ _ _⟩
         intro vals W9 hy9 hf9
         have v0 : vals 0 = .slice A1 rs.length c1 := hf9 0 (by omega)
         obtain ⟨gx, v15, jx⟩ : ∃ gx, vals 15 = .slice (some ⟨gx, 0, none⟩) 1 1 ∧ Blk W9 gx 63 #[.int .i64 sid, .int .i64 id, .int .i64 (max 0 (stt + byv))] := hf9 15 (by omega)
         have hy9 := hy9.undrew
         have hxA := Ext.trans hxc hy9
         have hxB := Ext.trans hx8 hxA
         obtain ⟨v10, WA, hrun, hgA, hrA⟩ := rcp_snoc 33 rs (.slice A1 rs.length c1) ⟨sid, id, max 0 (stt + byv)⟩ W1.heap.size gx jx (HR8.out.ext hxA) (by omega) (Below.size hxB)
         have hxF : Ext W1 WA := hxB.grown hgA (Below.size hxB) (fun q e => (World.ownsRow.lt HR8.out q e).1)
         have HNA := Lib.hid (show OwnNt WA W1.heap.size v7 (ns ++ ntsTo id (j : Int) (j + 1)) from own_other (HN8.out.ext hxA) (HR8.out.ext hxA) (by decide) hgA)
         have HRA := Lib.hid hrA
         have HRUN := Lib.hid hrun
         have HBY : Hid (byv = byOf wrong ki sk) := Lib.hid HBY0.out
         have HST2 : Hid (X = (match wrtL ps sts lost wrong (rs ++ [⟨sid, id, max 0 (stt + byv)⟩]) (ns ++ ntsTo id (j : Int) (j + 1)) (os.drop (k + 1)) with | some x => (x, 0) | none => (([], []), 300))) := Lib.hid (by have h := HST.out; rw [HRC.out, ← HBY.out] at h; exact h)
         have HXF := Lib.hid hxF
         have hnl9 : (ns ++ ntsTo id (j : Int) (j + 1)).length ≤ 6 * (k + 1) := by rw [List.length_append, ntsTo_len]; omega
         have HNL9 := Lib.hid hnl9
         clear hf9 hy9 hxA hxB jx hrun hgA hrA hxF hwr h0 s2 e0 hnl9 HR8 HN8
         refine tailF 16 _ _ 1 (by kernel_rfl) rfl ?_ (fun a w q => tail1 17 _ (by kernel_rfl) (by kernel_rfl) rfl q)
         simp only [Lf, dstAt, Act.put, List.getElem?_toArray, List.getElem?_cons_zero, List.getElem?_cons_succ, Option.bind_some, List.setIfInBounds_toArray, List.set_cons_zero, List.set_cons_succ]
         rw [v0, v15]
         clear v0 v15
         refine wpList_append_run_ rfl _ _ _ rfl rfl rfl HRUN.out ?_
         go_wp2_with fail
         go_roundw
         case rel => exact ⟨k + 1, rs ++ [_], _, by omega, by go_num, HST2, HRA, HNA, by simp; omega, HNL9.out, HXF.out⟩
         case measure => simp [intOf]; omega
        ·have HBY0 : Hid ((0 : Int) = byOf wrong ki sk) := Lib.hid (by unfold byOf; rw [if_neg (by rw [HG1.out.len]; exact hkg)])
         have hkg2 : ¬ (ki : Int) < (gn : Int) := by omega
         have hkn2 : (ki : Int) < (sn : Int) := by omega
         clear e5
         go_upto_region 21 with (fail)
         have h0 : Wb.cell? ⟨g14, 0, none⟩ = some (.int .i64 id) := (HJ14.out.ext hyb).cell 0
         have s2 : Wb.cell? ⟨g18, 2, none⟩ = some (.int .i64 stt) := (HJ18.out.ext hyb).cell 2
         have hwr : IntKind.i64.wrap (stt + (0 : Int)) = stt + (0 : Int) := IntWalk.i64_in _ (by omega)
         refine wp_region_obl 16 (fun ix vals v w1 => match ix with | 0 => v = .slice A1 rs.length c1 | 1 => v = .slice (some ⟨bs, os_, none⟩) sn sc | 2 => v = .int .i64 (ki : Int) | 3 => v = .pointer (some ⟨bs, os_ + ki * 6, none⟩) | 4 => v = .pointer (some ⟨bs, os_ + ki * 6, none⟩) | 5 => v = .int .i64 sid | 6 => v = .pointer (some ⟨g14, 0, none⟩) | 7 => v = .int .i64 id | 8 => v = .pointer (some ⟨g18, 1, none⟩) | 9 => v = .pointer (some ⟨g18, 2, none⟩) | 10 => v = .int .i64 stt | 11 => v = .int .i64 (0 : Int) | 12 => v = .int .i64 (stt + (0 : Int)) | 13 => v = .int .i64 (max 0 (stt + (0 : Int))) | 14 => v = .agg #[.int .i64 sid, .int .i64 id, .int .i64 (max 0 (stt + (0 : Int)))] | _ => ∃ gx, v = .slice (some ⟨gx, 0, none⟩) 1 1 ∧ Blk w1 gx 63 #[.int .i64 sid, .int .i64 id, .int .i64 (max 0 (stt + (0 : Int)))]) (by kernel_rfl) (by kernel_rfl) ?_ ?_ ?_ ?_
         ·intro ix vals v w1 w2 hi hr hx
          match ix, hr with
          | 0, hr => exact hr
          | 1, hr => exact hr
          | 2, hr => exact hr
          | 3, hr => exact hr
          | 4, hr => exact hr
          | 5, hr => exact hr
          | 6, hr => exact hr
          | 7, hr => exact hr
          | 8, hr => exact hr
          | 9, hr => exact hr
          | 10, hr => exact hr
          | 11, hr => exact hr
          | 12, hr => exact hr
          | 13, hr => exact hr
          | 14, hr => exact hr
          | (kx + 15), hr => obtain ⟨gx, h1, h2⟩ := hr; exact ⟨gx, h1, h2.ext hx⟩
         ·intro ix vals vals_ v w1 hi hv hr
          exact hr
         ·refine ⟨?_, ?_, ?_, ?_, ?_, ?_, ?_, ?_, ?_, ?_, ?_, ?_, ?_, ?_, ?_, ?_, trivial⟩
          ·intro vals w1 hx hd ha
           clear hd ha
           simp only [Lf]
           go_wp2
           exact ⟨rfl, Ext.refl _, rfl⟩
          ·intro vals w1 hx hd ha
           clear hd ha
           simp only [Lf, dstAt, Act.put, List.getElem?_toArray, List.getElem?_cons_zero, Option.bind_some, List.setIfInBounds_toArray, List.set_cons_zero, List.set_cons_succ]
           go_wp2
           exact ⟨rfl, Ext.refl _, rfl⟩
          ·intro vals w1 hx hd ha
           clear hd ha
           simp only [Lf, dstAt, Act.put, List.getElem?_toArray, List.getElem?_cons_zero, List.getElem?_cons_succ, Option.bind_some, List.setIfInBounds_toArray, List.set_cons_zero, List.set_cons_succ]
           go_wp2
           exact ⟨rfl, Ext.refl _, rfl⟩
          ·intro vals w1 hx hd ha
           have e1 : vals 1 = .slice (some ⟨bs, os_, none⟩) sn sc := hd 1 (by decide)
           have e2 : vals 2 = .int .i64 (ki : Int) := hd 2 (by decide)
           clear hd ha
           simp only [Lf, dstAt, Act.put, List.getElem?_toArray, List.getElem?_cons_zero, List.getElem?_cons_succ, Option.bind_some, List.setIfInBounds_toArray, List.set_cons_zero, List.set_cons_succ]
           simp only [e1, e2]
           clear e1 e2
           go_wp2
           exact ⟨rfl, Ext.refl _, rfl⟩
          ·intro vals w1 hx hd ha
           have e3 : vals 3 = .pointer (some ⟨bs, os_ + ki * 6, none⟩) := hd 3 (by decide)
           clear hd ha
           simp only [Lf, dstAt, Act.put, List.getElem?_toArray, List.getElem?_cons_zero, List.getElem?_cons_succ, Option.bind_some, List.setIfInBounds_toArray, List.set_cons_zero, List.set_cons_succ]
           simp only [e3]
           clear e3
           go_wp2
           exact ⟨rfl, Ext.refl _, rfl⟩
          ·intro vals w1 hx hd ha
           have e4 : vals 4 = .pointer (some ⟨bs, os_ + ki * 6, none⟩) := hd 4 (by decide)
           clear hd ha
           simp only [Lf, dstAt, Act.put, List.getElem?_toArray, List.getElem?_cons_zero, List.getElem?_cons_succ, Option.bind_some, List.setIfInBounds_toArray, List.set_cons_zero, List.set_cons_succ]
           simp only [e4]
           clear e4
           have e0 := ext_cell hx e0
           go_wp2
           exact ⟨rfl, Ext.refl _, rfl⟩
          ·intro vals w1 hx hd ha
           clear hd ha
           simp only [Lf, dstAt, Act.put, List.getElem?_toArray, List.getElem?_cons_zero, List.getElem?_cons_succ, Option.bind_some, List.setIfInBounds_toArray, List.set_cons_zero, List.set_cons_succ]
           go_wp2
           exact ⟨rfl, Ext.refl _, rfl⟩
          ·intro vals w1 hx hd ha
           have e6 : vals 6 = .pointer (some ⟨g14, 0, none⟩) := hd 6 (by decide)
           clear hd ha
           simp only [Lf, dstAt, Act.put, List.getElem?_toArray, List.getElem?_cons_zero, List.getElem?_cons_succ, Option.bind_some, List.setIfInBounds_toArray, List.set_cons_zero, List.set_cons_succ]
           simp only [e6]
           clear e6
           have h0 := ext_cell hx h0
           go_wp2
           exact ⟨rfl, Ext.refl _, rfl⟩
          ·intro vals w1 hx hd ha
           clear hd ha
           simp only [Lf, dstAt, Act.put, List.getElem?_toArray, List.getElem?_cons_zero, List.getElem?_cons_succ, Option.bind_some, List.setIfInBounds_toArray, List.set_cons_zero, List.set_cons_succ]
           go_wp2
           exact ⟨rfl, Ext.refl _, rfl⟩
          ·intro vals w1 hx hd ha
           have e8 : vals 8 = .pointer (some ⟨g18, 1, none⟩) := hd 8 (by decide)
           clear hd ha
           simp only [Lf, dstAt, Act.put, List.getElem?_toArray, List.getElem?_cons_zero, List.getElem?_cons_succ, Option.bind_some, List.setIfInBounds_toArray, List.set_cons_zero, List.set_cons_succ]
           simp only [e8]
           clear e8
           go_wp2
           exact ⟨rfl, Ext.refl _, rfl⟩
          ·intro vals w1 hx hd ha
           have e9 : vals 9 = .pointer (some ⟨g18, 2, none⟩) := hd 9 (by decide)
           clear hd ha
           simp only [Lf, dstAt, Act.put, List.getElem?_toArray, List.getElem?_cons_zero, List.getElem?_cons_succ, Option.bind_some, List.setIfInBounds_toArray, List.set_cons_zero, List.set_cons_succ]
           simp only [e9]
           clear e9
           have s2 := ext_cell hx s2
           go_wp2
           exact ⟨rfl, Ext.refl _, rfl⟩
          ·intro vals w1 hx hd ha
           clear hd ha
           simp only [Lf, dstAt, Act.put, List.getElem?_toArray, List.getElem?_cons_zero, List.getElem?_cons_succ, Option.bind_some, List.setIfInBounds_toArray, List.set_cons_zero, List.set_cons_succ]
           go_wp2
           exact ⟨rfl, Ext.refl _, rfl⟩
          ·intro vals w1 hx hd ha
           have e10 : vals 10 = .int .i64 stt := hd 10 (by decide)
           have e11 : vals 11 = .int .i64 (0 : Int) := hd 11 (by decide)
           clear hd ha
           simp only [Lf, dstAt, Act.put, List.getElem?_toArray, List.getElem?_cons_zero, List.getElem?_cons_succ, Option.bind_some, List.setIfInBounds_toArray, List.set_cons_zero, List.set_cons_succ]
           simp only [e10, e11]
           clear e10 e11
           go_wp2
           exact ⟨rfl, Ext.refl _, rfl⟩
          ·intro vals w1 hx hd ha
           have e12 : vals 12 = .int .i64 (stt + (0 : Int)) := hd 12 (by decide)
           clear hd ha
           simp only [Lf, dstAt, Act.put, List.getElem?_toArray, List.getElem?_cons_zero, List.getElem?_cons_succ, Option.bind_some, List.setIfInBounds_toArray, List.set_cons_zero, List.set_cons_succ]
           simp only [e12]
           clear e12
           go_wp2
           all_goals exact ⟨rfl, Ext.refl _, by show Value.int _ _ = Value.int _ _; congr 1; omega⟩
          ·intro vals w1 hx hd ha
           have e5 : vals 5 = .int .i64 sid := hd 5 (by decide)
           have e7 : vals 7 = .int .i64 id := hd 7 (by decide)
           have e13 : vals 13 = .int .i64 (max 0 (stt + (0 : Int))) := hd 13 (by decide)
           clear hd ha
           simp only [Lf, dstAt, Act.put, List.getElem?_toArray, List.getElem?_cons_zero, List.getElem?_cons_succ, Option.bind_some, List.setIfInBounds_toArray, List.set_cons_zero, List.set_cons_succ]
           simp only [e5, e7, e13]
           clear e5 e7 e13
           go_wp2
           exact ⟨rfl, Ext.refl _, rfl⟩
          ·intro vals w1 hx hd ha
           have e14 : vals 14 = .agg #[.int .i64 sid, .int .i64 id, .int .i64 (max 0 (stt + (0 : Int)))] := hd 14 (by decide)
           clear hd ha
           simp only [Lf, dstAt, Act.put, List.getElem?_toArray, List.getElem?_cons_zero, List.getElem?_cons_succ, Option.bind_some, List.setIfInBounds_toArray, List.set_cons_zero, List.set_cons_succ]
           simp only [e14]
           clear e14
           go_wp2
           exact ⟨rfl, (by repeat (first | exact Below.refl _ _ | assumption | refine Below.drew ?_ | refine below_drewN ?_ _ | refine bl_alloc ?_ _ | refine Below.setCell ?_ (by first | (simp; done) | omega | (simp; omega)) _ | refine bl_then ?_ (by assumption))), _, rfl, Blk.new _ _ _⟩
         intro vals W9 hy9 hf9
         have v0 : vals 0 = .slice A1 rs.length c1 := hf9 0 (by omega)
         obtain ⟨gx, v15, jx⟩ : ∃ gx, vals 15 = .slice (some ⟨gx, 0, none⟩) 1 1 ∧ Blk W9 gx 63 #[.int .i64 sid, .int .i64 id, .int .i64 (max 0 (stt + (0 : Int)))] := hf9 15 (by omega)
         have hy9 := hy9.undrew
         have hxA := Ext.trans hyb hy9
         have hxB := Ext.trans hx8 hxA
         obtain ⟨v10, WA, hrun, hgA, hrA⟩ := rcp_snoc 33 rs (.slice A1 rs.length c1) ⟨sid, id, max 0 (stt + (0 : Int))⟩ W1.heap.size gx jx (HR8.out.ext hxA) (by omega) (Below.size hxB)
         have hxF : Ext W1 WA := hxB.grown hgA (Below.size hxB) (fun q e => (World.ownsRow.lt HR8.out q e).1)
         have HNA := Lib.hid (show OwnNt WA W1.heap.size v7 (ns ++ ntsTo id (j : Int) (j + 1)) from own_other (HN8.out.ext hxA) (HR8.out.ext hxA) (by decide) hgA)
         have HRA := Lib.hid hrA
         have HRUN := Lib.hid hrun
         have HBY : Hid ((0 : Int) = byOf wrong ki sk) := Lib.hid HBY0.out
         have HST2 : Hid (X = (match wrtL ps sts lost wrong (rs ++ [⟨sid, id, max 0 (stt + (0 : Int))⟩]) (ns ++ ntsTo id (j : Int) (j + 1)) (os.drop (k + 1)) with | some x => (x, 0) | none => (([], []), 300))) := Lib.hid (by have h := HST.out; rw [HRC.out, ← HBY.out] at h; exact h)
         have HXF := Lib.hid hxF
         have hnl9 : (ns ++ ntsTo id (j : Int) (j + 1)).length ≤ 6 * (k + 1) := by rw [List.length_append, ntsTo_len]; omega
         have HNL9 := Lib.hid hnl9
         clear hf9 hy9 hxA hxB jx hrun hgA hrA hxF hwr h0 s2 e0 hnl9 HR8 HN8
         refine tailF 16 _ _ 1 (by kernel_rfl) rfl ?_ (fun a w q => tail1 17 _ (by kernel_rfl) (by kernel_rfl) rfl q)
         simp only [Lf, dstAt, Act.put, List.getElem?_toArray, List.getElem?_cons_zero, List.getElem?_cons_succ, Option.bind_some, List.setIfInBounds_toArray, List.set_cons_zero, List.set_cons_succ]
         rw [v0, v15]
         clear v0 v15
         refine wpList_append_run_ rfl _ _ _ rfl rfl rfl HRUN.out ?_
         go_wp2_with fail
         go_roundw
         case rel => exact ⟨k + 1, rs ++ [_], _, by omega, by go_num, HST2, HRA, HNA, by simp; omega, HNL9.out, HXF.out⟩
         case measure => simp [intOf]; omega
     ·have hzz : z = -1 := by omega
      subst hzz
      rw [if_neg (by omega)] at hst
      have hnt : ntsOf id (-1) l.length = ntsTo id (-1) l.length := rfl
      rw [hnt] at hst
      have HST := Lib.hid hst
      clear hst hnt hzb hz0
      have d8 : W3.cell? ⟨g14, 7 + 1, none⟩ = some (.slice a m d) := HJ14.out.cell 8
      go_wp2_with fail
      go_loopw [11, 44] (fun y i_ wi => ∃ j : Nat, j ≤ m ∧ i_ = .int .i64 j ∧ Hid (OwnNt wi W1.heap.size y (ns ++ ntsTo id (-1) j)) ∧ Hid (OwnRc wi W1.heap.size (.slice A1 rs.length c1) rs) ∧ Hid (Blk wi g14 32 #[.int .i64 id, .int .i64 i1, .int .i64 i2, .int .i64 i3, .int .i64 i4, .int .i64 i5, .int .i64 i6, .int .i64 i7, .slice a m d]) ∧ Ext W1 wi) (fun _ i_ _ => m - (intOf i_).toNat)
      case atStart => exact ⟨0, Nat.zero_le _, rfl, Lib.hid (by have h := HN3.out; rw [← List.append_nil ns] at h; simpa [ntsTo] using h), HR3, HJ14, hx3⟩
      case round =>
       clear d8 HN3 HR3 HJ14 hx3
       obtain ⟨j, hj, rfl, HNj, HRj, HJj, hxj⟩ := hrel
       obtain ⟨wi, hwi⟩ : ∃ wi : World, wi = wr := ⟨_, rfl⟩
       rw [← hwi] at HNj HRj HJj hxj ⊢
       clear hwi
       obtain ⟨NL, hNL⟩ : ∃ NL, NL = ns ++ ntsTo id (-1) j := ⟨_, rfl⟩
       rw [← hNL] at HNj
       have HNL := Lib.hid hNL
       obtain ⟨A2, c2, hv2, _, _⟩ := own_slice HNj.out
       subst hv2
       clear hNL
       by_cases hjm : j < m
       ·have hq1 : ((j : Int) == -1) = false := by simp
        have hq2 : ¬ (j : Int) = -1 := by omega
        have HQ : Hid ((⟨id, j, decide ((j : Int) = -1)⟩ : Nte) = ⟨id, j, false⟩) := Lib.hid (by rw [decide_eq_false hq2])
        have hxa : Ext wi (wi.alloc (.cells #[.int .i64 id, .int .i64 (j : Int), .bool false] 89)) := bl_alloc (Below.refl _ _) _
        have hxw := Ext.trans hxj hxa
        obtain ⟨v7, W7, hrun, hg7, hn7⟩ := nte_snoc 34 NL (.slice A2 NL.length c2) ⟨id, j, false⟩ W1.heap.size wi.heap.size (Blk.new _ _ _) (HNj.out.ext hxa) (by rw [HNL.out, List.length_append, ntsTo_len]; omega) (Below.size hxw)
        have hx7 : Ext W1 W7 := hxw.grown hg7 (Below.size hxw) (fun q e => (World.ownsRow.lt HNj.out q e).1)
        have HR7 := Lib.hid (show OwnRc W7 W1.heap.size (.slice A1 rs.length c1) rs from own_other (HRj.out.ext hxa) (HNj.out.ext hxa) (by decide) hg7)
        have HRUN := Lib.hid hrun
        have HN7 : Hid (OwnNt W7 W1.heap.size v7 (ns ++ ntsTo id (-1) (j + 1))) := Lib.hid (by rw [ntsTo_succ, ← List.append_assoc, HQ.out, ← HNL.out]; exact hn7)
        have hj14 := HJj.out.ext hxa
        have HJ7 := Lib.hid (hj14.grown hg7 (fun e => own_blk_ne (HNj.out.ext hxa) hj14 (by decide) e.symm))
        have d0 : wi.cell? ⟨g14, 0, none⟩ = some (.int .i64 id) := HJj.out.cell 0
        clear hrun hg7 hn7 hxw hxa hj14
        go_upto_region 12 with (fail)
        go_wp2_with (refine wpList_append_run_ rfl _ _ _ rfl rfl rfl HRUN.out ?_)
        go_roundw
        case rel => exact ⟨j + 1, by omega, by go_num, HN7, HR7, HJ7, hx7⟩
        case measure => simp [intOf]; omega
       ·obtain rfl : j = m := by omega
        have HNF : Hid (OwnNt wi W1.heap.size (.slice A2 NL.length c2) (ns ++ ntsTo id (-1) l.length)) := Lib.hid (by rw [HML.out, ← HNL.out]; exact HNj.out)
        clear HNj
        go_wp2_with fail
        go_roundw
        case rel => exact ⟨k + 1, rs, _, by omega, by go_num, HST, HRj, HNF, by omega, by rw [List.length_append, ntsTo_len, HML.out]; omega, hxj⟩
        case measure => simp [intOf]; omega
   ·have hst := HXV.out
    rw [List.drop_of_length_le (by rw [HO1.out.out.len]; omega), wrtL] at hst
    dsimp only at hst
    have HST := Lib.hid hst
    have HB := Lib.hid (Below.size HW.out)
    have HXF := Lib.hid (Ext.trans HW.out hx)
    clear hst HXV hx
    go_upto_region 23 with (fail)
    go_wp2_with fail
    exact bodyPost_ret (v := .tuple #[.slice A1 rs.length c1, .slice A2 ns.length c2, .int .i64 0]) (by simp [results, Try.results26, go_sem]) rfl ⟨_, _, by rw [HST.out], by rw [HST.out]; exact own_base HR.out HB.out, by rw [HST.out]; exact own_base HNt.out HB.out, HXF.out⟩
 ·have hVf : validP os ps sts = false := by simpa using hV
  rw [hVf]
  have hXe : X = (([], []), 300) := by rw [HX.out]; unfold wrtV; rw [hVf]; rfl
  clear hV hVf HX
  have HXE := Lib.hid hXe
  clear hXe
  go_wp2
  exact bodyPost_ret (v := .tuple #[.slice none 0 0, .slice none 0 0, .int .i64 300]) (by simp [results, Try.results26, go_sem]) rfl ⟨_, _, by rw [HXE.out], by rw [HXE.out]; exact World.ownsRow_nil _ _ _ _, by rw [HXE.out]; exact World.ownsRow_nil _ _ _ _, hx⟩
end Go.Proofs.Ytmlabgmigakcbaa
