/- truth: what is written in a case. -/
import Derived.Test.YtmlabgmigakcbaaP19
import Derived.Test.YtmlabgmigakcbaaP21
import Derived.BigQuiet
import Derived.Deep.CutRange
namespace Go.Proofs.Ytmlabgmigakcbaa
open Go.RowKit
theorem flat_take {α : Type} {cells : α → List Value} {s : Nat} (hs : ∀ x, (cells x).length = s) (l : List α) (k : Nat) : (l.take k).flatMap cells = (l.flatMap cells).take (k * s) := by
 induction l generalizing k with
 | nil => simp
 | cons x r ih =>
  cases k with
  | zero => simp
  | succ k =>
   rw [List.take_succ_cons, List.flatMap_cons, List.flatMap_cons, ih, List.take_append, hs, Nat.succ_mul, List.take_of_length_le (l := cells x) (i := k * s + s) (by rw [hs]; omega), Nat.add_sub_cancel]
theorem RA.cut {α : Type} {cells : α → List Value} {s : Nat} (hs : ∀ x, (cells x).length = s) {w : World} {B n c : Nat} {A : Option Addr} {l : List α} (h : RA cells s w B A n c l) (k : Nat) (hk : k ≤ n) : RA cells s w B A k c (l.take k) := by
 have hl := h.len
 refine ⟨⟨?_, fun h0 => ?_⟩, by rw [List.length_take]; omega, Nat.le_trans hk h.cap, h.capM, Nat.le_trans hk h.le⟩
 ·rw [flat_len hs, List.length_take]
  congr 1
  omega
 ·obtain ⟨b, o, h1, h2, h3⟩ := h.rd.2 (by omega)
  refine ⟨b, o, h1, h2, fun j u hu => h3 j u ?_⟩
  rw [flat_take hs] at hu
  have hj : j < k * s := by
   rcases Nat.lt_or_ge j (k * s) with e | e
   ·exact e
   ·rw [List.getElem?_eq_none (by rw [List.length_take]; omega)] at hu; cases hu
  rw [List.getElem?_take_of_lt hj] at hu
  exact hu
structure MadeR (w : World) (c : Cas) (OA PA SA : Option Addr) (oc pc sc : Nat) (os : List Opt) : Prop where
 ho : Ops w w.heap.size OA (casO c).length oc os
 op : os.map Opt.p = casO c
 ps : RA pasCells 6 w w.heap.size PA (casP c).length pc (casP c)
 st : RA stnCells 6 w w.heap.size SA 3 sc (casS c)
theorem MadeR.ext {w w' : World} {c : Cas} {OA PA SA : Option Addr} {oc pc sc : Nat} {os : List Opt} (h : MadeR w c OA PA SA oc pc sc os) (hx : Ext w w') : MadeR w' c OA PA SA oc pc sc os := ⟨h.ho.ext hx, h.op, ra_ext h.ps hx, ra_ext h.st hx⟩
theorem casO_len (c : Cas) : (casO c).length ≤ 8 := by
 unfold casO
 split
 ·simp
 ·unfold optsP; simp; omega
theorem MadeRet.out {c : Cas} {w w' : World} {e : Ending} (h : MadeRet c w e w') : ∃ OA PA SA oc pc sc os, e = .returned (.tuple #[.slice OA (casO c).length oc, .slice PA (casP c).length pc, .slice SA 3 sc]) ∧ MadeR w' c OA PA SA oc pc sc os ∧ Ext w w' := by
 obtain ⟨v, vp, vs, os, he, h1, h2, h3, h4, hx⟩ := h
 obtain ⟨OA, oc, hv, _, _⟩ := own_slice h1.1
 obtain ⟨PA, pc, hvp, _, _⟩ := own_slice h3
 obtain ⟨SA, sc, hvs, _, _⟩ := own_slice h4
 have hl : os.length = (casO c).length := by rw [← h2, List.length_map]
 have h8 := casO_len c
 subst hv hvp hvs
 have h1a := h1.1
 rw [hl] at he h1a
 refine ⟨OA, PA, SA, oc, pc, sc, os, he, ⟨⟨RA.of_own h1a hl (by omega), fun o ho => ?_⟩, h2, RA.of_own h3 rfl (by have := passP_len c.ps; show (passP c.ps).length ≤ _; omega), RA.of_own h4 rfl (by omega)⟩, hx⟩
 obtain ⟨h5, h6⟩ := h1.2 o ho
 have hin : o.p ∈ casO c := by rw [← h2]; exact List.mem_map_of_mem ho
 have hb := (cas_slots c o.p hin).2.1
 rw [h5] at h6 ⊢
 exact RA.of_own h6 rfl (by show o.l.length ≤ _; have e : o.p.l = o.l := rfl; rw [e] at hb; omega)
theorem rec_none (c : Cas) (ns : List Nte) (now : Int) (OA PA SA NA : Option Addr) (oc pc sc nn nc : Nat) (os : List Opt) (w : World) (h : MadeR w c OA PA SA oc pc sc os) (hn : RA nteCells 3 w w.heap.size NA nn nc ns) (hnn : nn ≤ 60) (h0 : 0 ≤ now ∧ now ≤ 1000000) :
  Calls Try.prog 16 #[.slice OA (casO c).length oc, .slice PA (casP c).length pc, .slice SA 3 sc, .slice none 0 0, .slice NA nn nc, .int .i64 now] w fun e w' =>
   ∃ FA fc DA dn dc fs ds, e = .returned (.tuple #[.slice FA (casO c).length fc, .slice DA dn dc, .int .i64 0]) ∧ Fts w' w'.heap.size FA (casO c).length fc fs ∧ fs.map (·.p) = (casO c).map (noneE now) ∧ RA dscCells 3 w' w'.heap.size DA dn dc ds ∧ (∀ d ∈ ds, DsOK nn d) ∧ Ext w w' := by
 have h1 := rec_any os (casP c) (casS c) [] ns now OA PA SA none NA _ oc _ pc 3 sc 0 0 nn nc w h.ho h.ps h.st RA.nil_ hn
 have hnl := hn.len
 obtain ⟨r1, r2, r3⟩ := recV_none c ns now (by omega) h0
 rw [recV_map os, h.op] at h1
 refine h1.mono fun e w' ⟨FA, fc, DA, dc, he, ho, hx⟩ => ?_
 obtain ⟨⟨fs, h2, h3⟩, h4⟩ := ho
 rw [r2] at h2 h3
 rw [r1, r2] at he
 rw [List.length_map] at h2 he
 exact ⟨FA, fc, DA, _, dc, fs, _, he, h2, h3, h4, fun d hd => by rw [← hnl]; exact r3 d hd, hx⟩
set_option maxRecDepth 100000 in
set_option maxHeartbeats 16000000 in
theorem nothing_walk (c : Cas) (ns : List Nte) (NA : Option Addr) (nn nc : Nat) (now : Int) (w : World) (hc : CasR w w.heap.size c) (hn : RA nteCells 3 w w.heap.size NA nn nc ns) (hnone : NA = none → nc = 0) (hnow : I64ok now) :
  Calls Try.prog 9 #[casV c, .slice NA nn nc, .int .i64 now] w fun e w' => e = .returned (.bool true) ∧ Below w.heap.size w w' := by
 have hncap := hn.cap
 have hncm := hn.capM
 have hnle := hn.le
 have hnn0 : NA = none → nn = 0 := by
  intro e
  rcases Nat.eq_zero_or_pos nn with h0 | h0
  ·exact h0
  ·obtain ⟨b, o, h1, _⟩ := hn.rd.2 h0
   rw [e] at h1; cases h1
 have HSANE := Lib.hid (fun W : World => sane_any W)
 have HMADE := Lib.hid (fun (W : World) (hW : Ext w W) => (made_any c W (hc.ext hW)).mono fun _ _ h => h.out)
 obtain ⟨m6, hm6⟩ : ∃ m, m = min nn 6 := ⟨_, rfl⟩
 have HM6 := Lib.hid hm6
 have HN := Lib.hid (hn.cut nte_len m6 (by omega))
 have hm6a : m6 ≤ nn := by omega
 have hm6b : m6 ≤ 6 := by omega
 have PK := fun W => pickl_any now 9000 W hnow.1 hnow.2 (by omega) (by omega)
 have hpb := pickI_bd now 9000 (by omega)
 generalize pickI now 9000 = t at PK hpb
 have HPK := Lib.hid PK
 have HREC : Hid (∀ (u : Int), (0 ≤ u ∧ u ≤ 1000000) → ∀ (OA PA SA : Option Addr) (oc pc sc : Nat) (os : List Opt) (W : World), Ext w W → MadeR W c OA PA SA oc pc sc os → Calls Try.prog 16 #[.slice OA (casO c).length oc, .slice PA (casP c).length pc, .slice SA 3 sc, .slice none 0 0, .slice NA m6 nc, .int .i64 u] W fun e w' =>
   ∃ FA fc DA dn dc fs ds, e = .returned (.tuple #[.slice FA (casO c).length fc, .slice DA dn dc, .int .i64 0]) ∧ Fts w' w'.heap.size FA (casO c).length fc fs ∧ fs.map (·.p) = (casO c).map (noneE u) ∧ RA dscCells 3 w' w'.heap.size DA dn dc ds ∧ (∀ d ∈ ds, DsOK m6 d) ∧ Ext W w') := Lib.hid (fun u hu OA PA SA oc pc sc os W hW h => rec_none c (ns.take m6) u OA PA SA NA oc pc sc m6 nc os W h (ra_ext HN.out hW) (by omega) hu)
 have hL8 := casO_len c
 have HEV : Hid (∀ fs : List Fte, fs.map (·.p) = (casO c).map (noneE t) → delP (fs.map (·.p)) = []) := Lib.hid (fun fs h => by rw [h]; exact evt_none c t)
 have HST : Hid (∀ (u : Int) (fs : List Fte) (os : List Opt) (k : Nat) (h1 : k < fs.length) (h2 : k < os.length), fs.map (·.p) = (casO c).map (noneE u) → os.map Opt.p = casO c → fs[k].p = noneE u os[k].p ∧ os[k].p ∈ casO c) := Lib.hid (fun u fs os k h1 h2 e1 e2 => by
  have h3 : (fs.map (·.p))[k]? = some fs[k].p := by rw [List.getElem?_map, List.getElem?_eq_getElem h1]; rfl
  have h4 : (casO c)[k]? = some os[k].p := by rw [← e2, List.getElem?_map, List.getElem?_eq_getElem h2]; rfl
  rw [e1, List.getElem?_map, h4] at h3
  exact ⟨by injection h3 with h3; exact h3.symm, List.mem_of_getElem? h4⟩)
 obtain ⟨L, hL⟩ : ∃ L, L = (casO c).length := ⟨_, rfl⟩
 rw [← hL] at HREC hL8
 have HMADE2 : Hid (∀ (W : World), Ext w W → Calls Try.prog 11 #[casV c] W fun e w' => ∃ OA PA SA oc pc sc os, e = .returned (.tuple #[.slice OA L oc, .slice PA (casP c).length pc, .slice SA 3 sc]) ∧ MadeR w' c OA PA SA oc pc sc os ∧ Ext W w') := Lib.hid (by rw [hL]; exact HMADE.out)
 have HLL := Lib.hid hL
 generalize (casP c).length = pn at HREC HMADE2
 clear hL HMADE hc hn PK hm6
 have hcv : casV c = .agg #[.slice c.pa c.pn c.pc, .slice c.oa c.on c.oc, .int .i64 c.sk.a, .int .i64 c.sk.b, .int .i64 c.sk.c, .int .i64 c.lost, .slice c.wa c.wn c.wc] := rfl
 rw [hcv] at HMADE2 ⊢
 clear hcv
 generalize c.pa = pa at HMADE2 ⊢
 generalize c.pn = pcn at HMADE2 ⊢
 generalize c.pc = pcc at HMADE2 ⊢
 generalize c.oa = oa at HMADE2 ⊢
 generalize c.on = ocn at HMADE2 ⊢
 generalize c.oc = occ at HMADE2 ⊢
 generalize c.sk.a = sa at HMADE2 ⊢
 generalize c.sk.b = sb at HMADE2 ⊢
 generalize c.sk.c = sc at HMADE2 ⊢
 generalize c.lost = lo at HMADE2 ⊢
 generalize c.wa = wa at HMADE2 ⊢
 generalize c.wn = wn at HMADE2 ⊢
 generalize c.wc = wc at HMADE2 ⊢
 go_enter Try.func9, Try.ntmps9
 go_upto_region 1 with (fail)
 have hx1 : Ext w (w.alloc (.cells #[.slice pa pcn pcc, .slice oa ocn occ, .int .i64 sa, .int .i64 sb, .int .i64 sc, .int .i64 lo, .slice wa wn wc] 27)) := bl_alloc (Below.refl _ _) _
 have J := Blk.new w 27 #[.slice pa pcn pcc, .slice oa ocn occ, .int .i64 sa, .int .i64 sb, .int .i64 sc, .int .i64 lo, .slice wa wn wc]
 obtain ⟨g3, hg3⟩ : ∃ g, g = w.heap.size := ⟨_, rfl⟩
 rw [← hg3] at J ⊢
 clear hg3
 generalize w.alloc (.cells #[.slice pa pcn pcc, .slice oa ocn occ, .int .i64 sa, .int .i64 sb, .int .i64 sc, .int .i64 lo, .slice wa wn wc] 27) = W1 at hx1 J ⊢
 have HJ := Lib.hid J
 clear J
 go_wp2_with fail
 refine (HSANE.out _).mono ?_
 rintro e W2 ⟨rfl, hy⟩
 have hx2 := Ext.trans hx1 hy
 have hj := HJ.out.ext hy
 have d0 : W2.cell? ⟨g3, 0, none⟩ = some (.slice pa pcn pcc) := hj.cell 0
 have d1 : W2.cell? ⟨g3, 1, none⟩ = some (.slice oa ocn occ) := hj.cell 1
 have d2 : W2.cell? ⟨g3, 2, none⟩ = some (.int .i64 sa) := hj.cell 2
 have d3 : W2.cell? ⟨g3, 3, none⟩ = some (.int .i64 sb) := hj.cell 3
 have d4 : W2.cell? ⟨g3, 4, none⟩ = some (.int .i64 sc) := hj.cell 4
 have d5 : W2.cell? ⟨g3, 5, none⟩ = some (.int .i64 lo) := hj.cell 5
 have d6 : W2.cell? ⟨g3, 6, none⟩ = some (.slice wa wn wc) := hj.cell 6
 have HC := Lib.hid (HMADE2.out W2 hx2)
 clear hj hy hx1 HSANE HMADE2
 go_wp2_with fail
 refine HC.out.mono ?_
 rintro e W3 ⟨OA, PA, SA, oc, pc, sc_, os, rfl, hmr, hy⟩
 have hx3 := Ext.trans hx2 hy
 have HMR := Lib.hid hmr
 clear hmr hy hx2 HC d0 d1 d2 d3 d4 d5 d6 HJ
 go_upto_region 4 with (fail)
 go_cut [10] from 30 to 34 (fun v wc => v = .slice NA m6 nc ∧ wc = W3)
 case first =>
  rcases NA with _ | ⟨bN, oN, spN⟩
  ·have h0 := hnn0 rfl
   have h1 := hnone rfl
   have h2 : m6 = 0 := by omega
   subst h0 h1 h2
   go_wp2
   go_meet
   exact ⟨rfl, rfl⟩
  ·have hif : (if (6 : Int) < (nn : Int) then 6 else (nn : Int)).toNat = m6 := by have := HM6.out; split <;> omega
   go_wp2
   all_goals (go_meet; exact ⟨rfl, rfl⟩)
 case rest =>
 obtain ⟨rfl, rfl⟩ := hcut
 clear hnone hnn0 hncap hncm hnle hm6a
 go_wp2_with fail
 refine (HPK.out _).mono ?_
 rintro e w2 ⟨rfl, rfl⟩
 have HC := Lib.hid (HREC.out t (by omega) OA PA SA oc pc sc_ os wc hx3 HMR.out)
 clear HPK
 go_wp2_with fail
 refine HC.out.mono ?_
 rintro e W4 ⟨FA, fc, DA, dn, dc, fs, ds, rfl, hfs, hfp, hds, hdk, hy⟩
 have hx4 := Ext.trans hx3 hy
 have HMR := Lib.hid (HMR.out.ext hy)
 have HFS := Lib.hid hfs
 have HFP := Lib.hid hfp
 have HDS := Lib.hid hds
 have HDK := Lib.hid hdk
 clear hfs hfp hds hdk hy hx3 HC
 have HC := Lib.hid (HREC.out 30000 (by omega) OA PA SA oc pc sc_ os W4 hx4 HMR.out)
 clear HREC
 go_wp2_with fail
 refine HC.out.mono ?_
 rintro e W5 ⟨GA, gc_, EA, en, ec, gs, es, rfl, hgs, hgp, _, _, hy⟩
 have hx5 := Ext.trans hx4 hy
 have HMR := Lib.hid (HMR.out.ext hy)
 have HFS := Lib.hid (HFS.out.ext hy)
 have HDS := Lib.hid (ra_ext HDS.out hy)
 have HGS := Lib.hid hgs
 have HGP := Lib.hid hgp
 clear hgs hgp hy hx4 HC
 have hLL : ((L : Int) == (L : Int)) = true := by simp
 have hLN : ((L : Int) != (L : Int)) = false := by simp
 go_wp2_with fail
 go_loopw [18] (fun i wr => ∃ k : Nat, k ≤ L ∧ i = .int .i64 k ∧ Ext W5 wr) (fun i _ => L - (intOf i).toNat)
 case atStart => exact ⟨0, Nat.zero_le _, rfl, Ext.refl _⟩
 case round =>
  obtain ⟨k, hk, rfl, hx⟩ := hrel
  have HMR := Lib.hid (HMR.out.ext hx)
  have HFS := Lib.hid (HFS.out.ext hx)
  have HGS := Lib.hid (HGS.out.ext hx)
  by_cases hkL : k < L
  ·obtain ⟨b, ob, hz, hA, _, hc⟩ := HMR.out.ho.out.at_ opt_len (by rw [← HLL.out]; exact hkL)
   obtain ⟨bf, of_, hzf, hFA, _, hcf⟩ := HFS.out.out.at_ fte_len hkL
   obtain ⟨bg, og, hzg, hGA, _, hcg⟩ := HGS.out.out.at_ fte_len hkL
   obtain ⟨e1, hin⟩ := HST.out t fs os k hzf hz HFP.out HMR.out.op
   obtain ⟨e2, _⟩ := HST.out 30000 gs os k hzg hz HGP.out HMR.out.op
   have hs1 := noneE_st hin t
   have hs2 := noneE_st hin 30000
   rw [← e1] at hs1
   rw [← e2] at hs2
   have hlb := lastT_bd hin
   have hsl := (cas_slots c os[k].p hin).1
   have hsl6 := (cas_slots c os[k].p hin).2.1
   have hea := HMR.out.ho.each os[k] (List.getElem_mem hz)
   have hlt : lastT os[k].p = (os[k].l.getD (os[k].l.length - 1) ⟨0, 0, 0⟩).tt := rfl
   have hpl : os[k].p.l = os[k].l := rfl
   rw [hpl] at hsl hsl6
   rw [hlt] at hs1 hs2 hlb
   clear e1 e2 hin hlt hpl
   generalize os[k] = o at hc hea hs1 hs2 hlb hsl hsl6
   generalize fs[k] = x at hcf hs1
   generalize gs[k] = y at hcg hs2
   obtain ⟨id, i1, i2, i3, i4, i5, i6, i7, a, m, d, l⟩ := o
   dsimp only at hea hs1 hs2 hlb hsl hsl6
   have hml := hea.len
   obtain ⟨m1, hm1⟩ : ∃ q, m = q + 1 := ⟨m - 1, by omega⟩
   subst hm1
   obtain ⟨bs, os_, hzs, hAs, _, hcs⟩ := hea.at_ slt_len (show m1 < m1 + 1 by omega)
   have hla : l.getD (l.length - 1) ⟨0, 0, 0⟩ = l[m1] := by rw [List.getD_eq_getElem?_getD, show l.length - 1 = m1 by omega, List.getElem?_eq_getElem hzs]; rfl
   rw [hla] at hs1 hs2 hlb
   have u2 : wr.cell? ⟨bs, os_ + m1 * 3 + 2, none⟩ = some (.int .i64 l[m1].tt) := hcs 2 (by omega)
   generalize l[m1].tt = last at hs1 hs2 hlb u2
   have c8 : wr.cell? ⟨b, ob + k * 9 + 8, none⟩ = some (.slice a (m1 + 1) d) := hc 8 (by omega)
   have hdc := hea.cap
   have hdm := hea.capM
   obtain ⟨⟨im, st, fl, fr, tt⟩, xa, xc⟩ := x
   obtain ⟨⟨im2, st2, fl2, fr2, tt2⟩, ya, yc⟩ := y
   dsimp only at hs1 hs2
   have f1 : wr.cell? ⟨bf, of_ + k * 5 + 1, none⟩ = some (.int .i64 st) := hcf 1 (by omega)
   have f2 : wr.cell? ⟨bf, of_ + k * 5 + 2, none⟩ = some (.slice xa fl.length xc) := hcf 2 (by omega)
   have q1 : wr.cell? ⟨bg, og + k * 5 + 1, none⟩ = some (.int .i64 st2) := hcg 1 (by omega)
   have q2 : wr.cell? ⟨bg, og + k * 5 + 2, none⟩ = some (.slice ya fl2.length yc) := hcg 2 (by omega)
   rw [hs2.2.1 (by omega)] at q2
   have hst2 := hs2.1
   rw [if_pos (by omega)] at hst2
   subst hst2
   rw [List.length_nil] at q2
   have hm1b : (m1 : Int) + 1 - 1 = (m1 : Int) := by omega
   have hm1c : (m1 : Int) < (m1 : Int) + 1 := by omega
   have hm1d : m1 ≤ 5 := by omega
   have hkLz : (k : Int) < (L : Int) := by omega
   have HKL := Lib.hid hkL
   rw [hA, hFA, hGA]
   subst hAs
   clear hc hcf hcg hcs hea hla hml hs2
   go_upto_region 13 with (fail)
   refine wp_region_obl 16 (fun ix vals v w1 => match ix with | 0 => v = .slice (some ⟨b, ob, none⟩) L oc | 1 => v = .int .i64 (k : Int) | 2 => v = .pointer (some ⟨b, ob + k * 9, none⟩) | 3 => v = .pointer (some ⟨b, ob + k * 9 + 8, none⟩) | 4 => v = .slice (some ⟨bs, os_, none⟩) (m1 + 1) d | 5 => v = .slice (some ⟨b, ob, none⟩) L oc | 6 => v = .int .i64 (k : Int) | 7 => v = .pointer (some ⟨b, ob + k * 9, none⟩) | 8 => v = .pointer (some ⟨b, ob + k * 9 + 8, none⟩) | 9 => v = .slice (some ⟨bs, os_, none⟩) (m1 + 1) d | 10 => v = .int .i64 ((m1 + 1 : Nat) : Int) | 11 => v = .int .i64 (m1 : Int) | 12 => v = .pointer (some ⟨bs, os_ + m1 * 3, none⟩) | 13 => v = .pointer (some ⟨bs, os_ + m1 * 3 + 1, none⟩) | 14 => v = .pointer (some ⟨bs, os_ + m1 * 3 + 2, none⟩) | _ => v = .int .i64 last) (by kernel_rfl) (by kernel_rfl) ?_ ?_ ?_ ?_
   ·intro ix vals v w1 w2 hi hr hx
    match ix, hr with
    | 0, hr => exact hr
    | 1, hr => exact hr
    | 2, hr => exact hr
    | 3, hr => exact hr
    | 4, hr => exact hr
    | 5, hr => exact hr
    | 6, hr => exact hr
    | 7, hr => exact hr
    | 8, hr => exact hr
    | 9, hr => exact hr
    | 10, hr => exact hr
    | 11, hr => exact hr
    | 12, hr => exact hr
    | 13, hr => exact hr
    | 14, hr => exact hr
    | (kx + 15), hr => exact hr
   ·intro ix vals vals_ v w1 hi hv hr
    exact hr
   ·refine obls_ofT [some 82, some 83, some 84, some 85, some 86, some 87, some 88, some 89, some 90, some 91, some 92, some 93, some 94, some 95, some 96, some 97, some 19] [(7, .slice (some ⟨b, ob, none⟩) L oc), (18, .int .i64 (k : Int))] 179 (by kernel_rfl) (by kernel_rfl) ⟨by kernel_rfl, by kernel_rfl, trivial⟩ ?_
    refine ⟨?_, ?_, ?_, ?_, ?_, ?_, ?_, ?_, ?_, ?_, ?_, ?_, ?_, ?_, ?_, ?_, trivial⟩
    ·intro vals w1 hx hd
     refine .r [(7, .slice (some ⟨b, ob, none⟩) L oc)] (Op.move (Operand.const (.slice (some ⟨b, ob, none⟩) L oc))) 36 82 ⟨.out (by kernel_rfl) (by kernel_rfl), trivial⟩ ?_
     clear hd
     go_wp2
     exact ⟨rfl, Ext.refl _, rfl⟩
    ·intro vals w1 hx hd
     refine .r [(18, .int .i64 (k : Int))] (Op.move (Operand.const (.int .i64 (k : Int)))) 3 83 ⟨.out (by kernel_rfl) (by kernel_rfl), trivial⟩ ?_
     clear hd
     go_wp2
     exact ⟨rfl, Ext.refl _, rfl⟩
    ·intro vals w1 hx hd
     refine .r [(82, .slice (some ⟨b, ob, none⟩) L oc), (83, .int .i64 (k : Int))] (Op.indexAddr 36 (Operand.const (.slice (some ⟨b, ob, none⟩) L oc)) (Operand.const (.int .i64 (k : Int)))) 0 84 ⟨.inn 0 (by kernel_rfl) (hd 0 (by decide)), .inn 1 (by kernel_rfl) (hd 1 (by decide)), trivial⟩ ?_
     clear hd
     go_wp2
     exact ⟨rfl, Ext.refl _, rfl⟩
    ·intro vals w1 hx hd
     refine .r [(84, .pointer (some ⟨b, ob + k * 9, none⟩))] (Op.fieldAddr 32 (Operand.const (.pointer (some ⟨b, ob + k * 9, none⟩))) 7) 0 85 ⟨.inn 2 (by kernel_rfl) (hd 2 (by decide)), trivial⟩ ?_
     clear hd
     go_wp2
     exact ⟨rfl, Ext.refl _, rfl⟩
    ·intro vals w1 hx hd
     refine .r [(85, .pointer (some ⟨b, ob + k * 9 + 8, none⟩))] (Op.load 30 (Operand.const (.pointer (some ⟨b, ob + k * 9 + 8, none⟩)))) 30 86 ⟨.inn 3 (by kernel_rfl) (hd 3 (by decide)), trivial⟩ ?_
     clear hd
     have c8 := ext_cell hx c8
     go_wp2
     exact ⟨rfl, Ext.refl _, rfl⟩
    ·intro vals w1 hx hd
     refine .r [(7, .slice (some ⟨b, ob, none⟩) L oc)] (Op.move (Operand.const (.slice (some ⟨b, ob, none⟩) L oc))) 36 87 ⟨.out (by kernel_rfl) (by kernel_rfl), trivial⟩ ?_
     clear hd
     go_wp2
     exact ⟨rfl, Ext.refl _, rfl⟩
    ·intro vals w1 hx hd
     refine .r [(18, .int .i64 (k : Int))] (Op.move (Operand.const (.int .i64 (k : Int)))) 3 88 ⟨.out (by kernel_rfl) (by kernel_rfl), trivial⟩ ?_
     clear hd
     go_wp2
     exact ⟨rfl, Ext.refl _, rfl⟩
    ·intro vals w1 hx hd
     refine .r [(87, .slice (some ⟨b, ob, none⟩) L oc), (88, .int .i64 (k : Int))] (Op.indexAddr 36 (Operand.const (.slice (some ⟨b, ob, none⟩) L oc)) (Operand.const (.int .i64 (k : Int)))) 0 89 ⟨.inn 5 (by kernel_rfl) (hd 5 (by decide)), .inn 6 (by kernel_rfl) (hd 6 (by decide)), trivial⟩ ?_
     clear hd
     go_wp2
     exact ⟨rfl, Ext.refl _, rfl⟩
    ·intro vals w1 hx hd
     refine .r [(89, .pointer (some ⟨b, ob + k * 9, none⟩))] (Op.fieldAddr 32 (Operand.const (.pointer (some ⟨b, ob + k * 9, none⟩))) 7) 0 90 ⟨.inn 7 (by kernel_rfl) (hd 7 (by decide)), trivial⟩ ?_
     clear hd
     go_wp2
     exact ⟨rfl, Ext.refl _, rfl⟩
    ·intro vals w1 hx hd
     refine .r [(90, .pointer (some ⟨b, ob + k * 9 + 8, none⟩))] (Op.load 30 (Operand.const (.pointer (some ⟨b, ob + k * 9 + 8, none⟩)))) 30 91 ⟨.inn 8 (by kernel_rfl) (hd 8 (by decide)), trivial⟩ ?_
     clear hd
     have c8 := ext_cell hx c8
     go_wp2
     exact ⟨rfl, Ext.refl _, rfl⟩
    ·intro vals w1 hx hd
     refine .r [(91, .slice (some ⟨bs, os_, none⟩) (m1 + 1) d)] (Op.call { callee := Callee.builtin Builtin.len, args := #[(Operand.const (.slice (some ⟨bs, os_, none⟩) (m1 + 1) d))], argTypes := #[30] }) 3 92 ⟨.inn 9 (by kernel_rfl) (hd 9 (by decide)), trivial⟩ ?_
     clear hd
     go_wp2
     exact ⟨rfl, Ext.refl _, rfl⟩
    ·intro vals w1 hx hd
     refine .r [(92, .int .i64 ((m1 + 1 : Nat) : Int))] (Op.binOp BinOp.sub 3 (Operand.const (.int .i64 ((m1 + 1 : Nat) : Int))) (Operand.const (Value.int IntKind.i64 1)) 3) 3 93 ⟨.inn 10 (by kernel_rfl) (hd 10 (by decide)), trivial⟩ ?_
     clear hd
     go_wp2
     exact ⟨rfl, Ext.refl _, by go_num⟩
    ·intro vals w1 hx hd
     refine .r [(86, .slice (some ⟨bs, os_, none⟩) (m1 + 1) d), (93, .int .i64 (m1 : Int))] (Op.indexAddr 30 (Operand.const (.slice (some ⟨bs, os_, none⟩) (m1 + 1) d)) (Operand.const (.int .i64 (m1 : Int)))) 0 94 ⟨.inn 4 (by kernel_rfl) (hd 4 (by decide)), .inn 11 (by kernel_rfl) (hd 11 (by decide)), trivial⟩ ?_
     clear hd
     go_wp2
     exact ⟨rfl, Ext.refl _, rfl⟩
    ·intro vals w1 hx hd
     refine .r [(94, .pointer (some ⟨bs, os_ + m1 * 3, none⟩))] (Op.fieldAddr 78 (Operand.const (.pointer (some ⟨bs, os_ + m1 * 3, none⟩))) 1) 0 95 ⟨.inn 12 (by kernel_rfl) (hd 12 (by decide)), trivial⟩ ?_
     clear hd
     go_wp2
     exact ⟨rfl, Ext.refl _, rfl⟩
    ·intro vals w1 hx hd
     refine .r [(95, .pointer (some ⟨bs, os_ + m1 * 3 + 1, none⟩))] (Op.fieldAddr 29 (Operand.const (.pointer (some ⟨bs, os_ + m1 * 3 + 1, none⟩))) 1) 0 96 ⟨.inn 13 (by kernel_rfl) (hd 13 (by decide)), trivial⟩ ?_
     clear hd
     go_wp2
     exact ⟨rfl, Ext.refl _, rfl⟩
    ·intro vals w1 hx hd
     refine .r [(96, .pointer (some ⟨bs, os_ + m1 * 3 + 2, none⟩))] (Op.load 3 (Operand.const (.pointer (some ⟨bs, os_ + m1 * 3 + 2, none⟩)))) 3 97 ⟨.inn 14 (by kernel_rfl) (hd 14 (by decide)), trivial⟩ ?_
     clear hd
     have u2 := ext_cell hx u2
     go_wp2
     exact ⟨rfl, Ext.refl _, rfl⟩
   intro vals W6 hy hf
   have v15 : vals 15 = .int .i64 last := hf 15 (by omega)
   have hy := hy.undrew
   have f1 := ext_cell hy f1
   have f2 := ext_cell hy f2
   have q1 := ext_cell hy q1
   have q2 := ext_cell hy q2
   have HX6 := Lib.hid (Ext.trans hx hy)
   clear hf c8 u2 hy hx
   refine tail1 16 _ (by kernel_rfl) (by kernel_rfl) rfl ?_
   simp only [Lf, dstAt, Act.put, List.getElem?_toArray, List.getElem?_cons_zero, List.getElem?_cons_succ, Option.bind_some, List.setIfInBounds_toArray, List.set_cons_zero, List.set_cons_succ]
   rw [v15]
   clear v15
   by_cases hlast : last ≤ t
   ·rw [hs1.2.1 hlast, List.length_nil] at f2
    have hst1 := hs1.1
    rw [if_pos hlast] at hst1
    subst hst1
    clear hs1
    go_wp2
    go_roundw
    case rel => exact ⟨k + 1, HKL.out, by go_num, HX6.out⟩
    case measure => have := HKL.out; simp [intOf]; omega
   ·have hfl := hs1.2.2.1 hlast
    have hst1 := hs1.1
    rw [if_neg hlast] at hst1
    subst hst1
    have hfl1 : (0 : Int) < (fl.length : Int) := by omega
    have hfl2 : decide (0 < fl.length) = true := by simpa using hfl
    clear hs1
    go_wp2
    go_roundw
    case rel => exact ⟨k + 1, HKL.out, by go_num, HX6.out⟩
    case measure => have := HKL.out; simp [intOf]; omega
  ·have HDS := Lib.hid (ra_ext HDS.out hx)
   have hdle := HDS.out.le
   clear HMR HGS HGP
   go_wp2_with fail
   go_loopw [21] (fun i wi => ∃ j : Nat, j ≤ dn ∧ i = .int .i64 j ∧ wi = wr) (fun i _ => dn - (intOf i).toNat)
   case atStart => exact ⟨0, Nat.zero_le _, rfl, rfl⟩
   case round =>
    obtain ⟨j, hj, rfl, hwi⟩ := hrel
    subst hwi
    by_cases hjd : j < dn
    ·obtain ⟨bd, od, hzd, hDA, _, hcd⟩ := HDS.out.at_ dsc_len hjd
     obtain ⟨hk1, hk2, hk3⟩ := HDK.out ds[j] (List.getElem_mem hzd)
     generalize ds[j] = dd at hcd hk1 hk2 hk3
     obtain ⟨dk, di, dx⟩ := dd
     dsimp only at hk1 hk2 hk3
     have c0 : wr.cell? ⟨bd, od + j * 3, none⟩ = some (.int .i64 dk) := hcd 0 (by omega)
     have c2 : wr.cell? ⟨bd, od + j * 3 + 2, none⟩ = some (.int .i64 dx) := hcd 2 (by omega)
     have hk4 : ¬ dx < 0 := by omega
     have hk5 : ¬ (m6 : Int) ≤ dx := by omega
     have HJD := Lib.hid hjd
     have hjz : (j : Int) < (dn : Int) := by omega
     rw [hDA]
     clear hcd
     rcases hk1 with rfl | rfl
     ·go_wp2
      go_roundw
      case rel => exact ⟨j + 1, HJD.out, by go_num, (by first | rfl | trivial)⟩
      case measure => have := HJD.out; simp [intOf]; omega
     ·go_wp2
      go_roundw
      case rel => exact ⟨j + 1, HJD.out, by go_num, (by first | rfl | trivial)⟩
      case measure => have := HJD.out; simp [intOf]; omega
    ·have HC := Lib.hid (Delivered_any fs FA L fc wr HFS.out.out (by omega))
     rw [HEV.out fs HFP.out] at HC
     have HX5 := Lib.hid (Ext.trans hx5 hx)
     clear HEV HST HFP HDS HDK
     go_wp2_with fail
     refine HC.out.mono ?_
     rintro e W9 ⟨v9, rfl, ho9, hy9⟩
     obtain ⟨A9, c9, hv9, _, _⟩ := own_slice ho9
     rw [List.length_nil] at hv9
     subst hv9
     have HXF := Lib.hid (Ext.trans HX5.out hy9)
     clear ho9 hy9 HC
     go_wp2
     go_ret
     exact ⟨rfl, HXF.out⟩
end Go.Proofs.Ytmlabgmigakcbaa
namespace Go.Proofs.Ytmlabgmigakcbaa
open Go.RowKit
def lostI (c : Cas) : List Int := (lostP (casP c).length c.lost).map (fun k : Nat => (k : Int))
def casW (c : Cas) : (List Rcp × List Nte) × Int := wrtV ((casO c).map toOpt) (casP c) (casS c) (lostI c) c.wr
theorem lostP_len (n : Nat) (x : Int) : (lostP n x).length ≤ 20 := by unfold lostP; exact Nat.le_trans (lostK_len _ _) (Nat.min_le_right _ _)
theorem lost_ra (c : Cas) (PA : Option Addr) (pc : Nat) (w : World) (hp : RA pasCells 6 w w.heap.size PA (casP c).length pc (casP c)) (hl : I64ok c.lost) :
  Calls Try.prog 25 #[.slice PA (casP c).length pc, .int .i64 c.lost] w fun e w' => ∃ A n k, e = .returned (.slice A n k) ∧ RA intCells 1 w' w'.heap.size A n k (lostI c) ∧ Ext w w' := by
 refine (lost_any (casP c) PA _ pc c.lost w hp hl).mono fun e w' ⟨v, h1, h2, h3⟩ => ?_
 obtain ⟨A, k, hv, _, _⟩ := own_slice h2
 subst hv
 exact ⟨A, _, k, h1, (RA.of_own h2 rfl (by have := lostP_len (casP c).length c.lost; omega)).nat, h3⟩
theorem wrtL_len (ps : List Pas) (sts : List Stn) (lost wrong : List Int) : ∀ (os : List Opt) (rs : List Rcp) (ns : List Nte) (X : List Rcp × List Nte), (∀ o ∈ os, o.l.length ≤ 6) → wrtL ps sts lost wrong rs ns os = some X → X.1.length ≤ rs.length + os.length ∧ X.2.length ≤ ns.length + 7 * os.length
 | [], rs, ns, X, _, h => by
  rw [wrtL] at h
  injection h with h
  subst h
  simp
 | o :: r, rs, ns, X, h6, h => by
  rw [wrtL_cons] at h
  split at h
  ·obtain ⟨h1, h2⟩ := wrtL_len ps sts lost wrong r _ _ X (fun x hx => h6 x (List.mem_cons_of_mem _ hx)) h
   have hnt : (ntsOf o.id (sentV o ps lost).1 o.l.length).length ≤ 7 := by
    have h7 := h6 o List.mem_cons_self
    unfold ntsOf
    rw [ntsTo_len]
    split
    ·rename_i hz
     rcases sentV_cases o ps lost with e | ⟨z, e, hb⟩
     ·rw [e]; simp
     ·rw [e] at hz ⊢; dsimp only at hz ⊢; omega
    ·omega
   rw [List.length_append] at h2
   refine ⟨?_, by simp only [List.length_cons]; omega⟩
   simp only [List.length_cons]
   split at h1
   ·simp at h1; omega
   ·omega
  ·cases h
theorem casW_len (c : Cas) : (casW c).1.1.length ≤ 8 ∧ (casW c).1.2.length ≤ 56 := by
 have h8 := casO_len c
 unfold casW wrtV
 rw [if_pos (cas_valid c)]
 cases hw : wrtL (casP c) (casS c) (lostI c) c.wr [] [] ((casO c).map toOpt) with
 | none => simp
 | some X =>
  have := wrtL_len _ _ _ _ _ _ _ X (fun o ho => by
   obtain ⟨p, hp, rfl⟩ := List.mem_map.1 ho
   exact (cas_slots c p hp).2.1) hw
  simp at this
  dsimp only
  omega
set_option maxRecDepth 100000 in
set_option maxHeartbeats 8000000 in
theorem truth_any (c : Cas) (OA PA SA : Option Addr) (oc pc sc : Nat) (os : List Opt) (w : World) (hc : CasR w w.heap.size c) (hm : MadeR w c OA PA SA oc pc sc os) :
  Calls Try.prog 12 #[casV c, .slice PA (casP c).length pc, .slice OA (casO c).length oc, .slice SA 3 sc] w fun e w' =>
   ∃ RA_ rc NA nc, e = .returned (.tuple #[.slice RA_ (casW c).1.1.length rc, .slice NA (casW c).1.2.length nc, .bool (decide ((casW c).2 = 0))]) ∧ RA rcpCells 3 w' w'.heap.size RA_ (casW c).1.1.length rc (casW c).1.1 ∧ RA nteCells 3 w' w'.heap.size NA (casW c).1.2.length nc (casW c).1.2 ∧ Ext w w' := by
 have HLO := Lib.hid (fun (W : World) (hW : Ext w W) => lost_ra c PA pc W (ra_ext hm.ps hW) hc.lost)
 have HWR : Hid (∀ (W : World) (A : Option Addr) (n k : Nat), Ext w W → RA intCells 1 W W.heap.size A n k (lostI c) → Calls Try.prog 26 #[.slice OA (casO c).length oc, .slice PA (casP c).length pc, .slice SA 3 sc, .slice A n k, .slice c.wa c.wn c.wc] W (WrtRet (casW c) W)) := Lib.hid (fun W A n k hW hA => by
  have h := write_any os (casP c) (casS c) (lostI c) c.wr OA PA SA A c.wa _ oc _ pc 3 sc n k c.wn c.wc W (hm.ext hW).ho (ra_ext hm.ps hW) (ra_ext hm.st hW) hA (ra_ext hc.wr hW)
  rw [wrtV_map os, hm.op] at h
  exact h)
 have hlen := casW_len c
 have hcv : casV c = .agg #[.slice c.pa c.pn c.pc, .slice c.oa c.on c.oc, .int .i64 c.sk.a, .int .i64 c.sk.b, .int .i64 c.sk.c, .int .i64 c.lost, .slice c.wa c.wn c.wc] := rfl
 rw [hcv]
 clear hcv hc hm
 generalize lostI c = LI at HLO HWR
 generalize casW c = X at HWR hlen ⊢
 obtain ⟨⟨XR, XN⟩, XE⟩ := X
 dsimp only at hlen ⊢
 obtain ⟨hlen1, hlen2⟩ := hlen
 generalize (casO c).length = on at HWR ⊢
 generalize (casP c).length = pn at HLO HWR ⊢
 generalize c.pa = pa
 generalize c.pn = pcn
 generalize c.pc = pcc
 generalize c.oa = oa
 generalize c.on = ocn
 generalize c.oc = occ
 generalize c.sk.a = sa
 generalize c.sk.b = sb
 generalize c.sk.c = sc2
 generalize c.lost = lo at HLO ⊢
 generalize c.wa = wa at HWR ⊢
 generalize c.wn = wn at HWR ⊢
 generalize c.wc = wc at HWR ⊢
 obtain ⟨fin, hfin⟩ : ∃ y, y = decide (XE = 0) := ⟨_, rfl⟩
 rw [← hfin]
 have HFIN := Lib.hid hfin
 clear hfin
 go_enter Try.func12, Try.ntmps12
 go_upto_region 1 with (fail)
 have hx1 : Ext w (w.alloc (.cells #[.slice pa pcn pcc, .slice oa ocn occ, .int .i64 sa, .int .i64 sb, .int .i64 sc2, .int .i64 lo, .slice wa wn wc] 27)) := bl_alloc (Below.refl _ _) _
 have J := Blk.new w 27 #[.slice pa pcn pcc, .slice oa ocn occ, .int .i64 sa, .int .i64 sb, .int .i64 sc2, .int .i64 lo, .slice wa wn wc]
 obtain ⟨g4, hg4⟩ : ∃ g, g = w.heap.size := ⟨_, rfl⟩
 rw [← hg4] at J ⊢
 clear hg4
 generalize w.alloc (.cells #[.slice pa pcn pcc, .slice oa ocn occ, .int .i64 sa, .int .i64 sb, .int .i64 sc2, .int .i64 lo, .slice wa wn wc] 27) = W1 at hx1 J ⊢
 have d5 : W1.cell? ⟨g4, 5, none⟩ = some (.int .i64 lo) := J.cell 5
 have d6 : W1.cell? ⟨g4, 6, none⟩ = some (.slice wa wn wc) := J.cell 6
 clear J
 refine wp_region_obl 17 (fun ix vals v w1 => match ix with | 0 => v = .slice OA on oc | 1 => v = .slice PA pn pc | 2 => v = .slice SA 3 sc | 3 => v = .slice PA pn pc | 4 => v = .pointer (some ⟨g4, 5, none⟩) | 5 => v = .int .i64 lo | 6 => ∃ A n k, v = .slice A n k ∧ RA intCells 1 w1 w1.heap.size A n k LI | 7 => v = .pointer (some ⟨g4, 6, none⟩) | 8 => v = .slice wa wn wc | 9 => ∃ v1 vn, v = .tuple #[v1, vn, .int .i64 XE] ∧ OwnRc w1 W1.heap.size v1 XR ∧ OwnNt w1 W1.heap.size vn XN | 10 => ∃ v1 vn, v = .tuple #[v1, vn, .int .i64 XE] ∧ OwnRc w1 W1.heap.size v1 XR ∧ OwnNt w1 W1.heap.size vn XN | 11 => OwnRc w1 W1.heap.size v XR | 12 => OwnNt w1 W1.heap.size v XN | 13 => v = .int .i64 XE | 14 => OwnRc w1 W1.heap.size v XR | 15 => OwnNt w1 W1.heap.size v XN | _ => v = .int .i64 XE) (by kernel_rfl) (by kernel_rfl) ?_ ?_ ?_ ?_
 ·intro ix vals v w1 w2 hi hr hx
  match ix, hr with
  | 0, hr => exact hr
  | 1, hr => exact hr
  | 2, hr => exact hr
  | 3, hr => exact hr
  | 4, hr => exact hr
  | 5, hr => exact hr
  | 6, hr => obtain ⟨A, n, k, h1, h2⟩ := hr; exact ⟨A, n, k, h1, ra_ext h2 hx⟩
  | 7, hr => exact hr
  | 8, hr => exact hr
  | 9, hr => obtain ⟨v1, vn, h1, h2, h3⟩ := hr; exact ⟨v1, vn, h1, h2.ext hx, h3.ext hx⟩
  | 10, hr => obtain ⟨v1, vn, h1, h2, h3⟩ := hr; exact ⟨v1, vn, h1, h2.ext hx, h3.ext hx⟩
  | 11, hr => exact OwnRc.ext hr hx
  | 12, hr => exact OwnNt.ext hr hx
  | 13, hr => exact hr
  | 14, hr => exact OwnRc.ext hr hx
  | 15, hr => exact OwnNt.ext hr hx
  | (kx + 16), hr => exact hr
 ·intro ix vals vals_ v w1 hi hv hr
  exact hr
 ·refine ⟨?_, ?_, ?_, ?_, ?_, ?_, ?_, ?_, ?_, ?_, ?_, ?_, ?_, ?_, ?_, ?_, ?_, trivial⟩
  ·intro vals w1 hx hd ha
   clear hd ha
   simp only [Lf]
   go_wp2
   exact ⟨rfl, Ext.refl _, rfl⟩
  ·intro vals w1 hx hd ha
   clear hd ha
   simp only [Lf, dstAt, Act.put, List.getElem?_toArray, List.getElem?_cons_zero, Option.bind_some, List.setIfInBounds_toArray, List.set_cons_zero, List.set_cons_succ]
   go_wp2
   exact ⟨rfl, Ext.refl _, rfl⟩
  ·intro vals w1 hx hd ha
   clear hd ha
   simp only [Lf, dstAt, Act.put, List.getElem?_toArray, List.getElem?_cons_zero, List.getElem?_cons_succ, Option.bind_some, List.setIfInBounds_toArray, List.set_cons_zero, List.set_cons_succ]
   go_wp2
   exact ⟨rfl, Ext.refl _, rfl⟩
  ·intro vals w1 hx hd ha
   clear hd ha
   simp only [Lf, dstAt, Act.put, List.getElem?_toArray, List.getElem?_cons_zero, List.getElem?_cons_succ, Option.bind_some, List.setIfInBounds_toArray, List.set_cons_zero, List.set_cons_succ]
   go_wp2
   exact ⟨rfl, Ext.refl _, rfl⟩
  ·intro vals w1 hx hd ha
   clear hd ha
   simp only [Lf, dstAt, Act.put, List.getElem?_toArray, List.getElem?_cons_zero, List.getElem?_cons_succ, Option.bind_some, List.setIfInBounds_toArray, List.set_cons_zero, List.set_cons_succ]
   go_wp2
   exact ⟨rfl, Ext.refl _, rfl⟩
  ·intro vals w1 hx hd ha
   have e4 : vals 4 = .pointer (some ⟨g4, 5, none⟩) := hd 4 (by decide)
   clear hd ha
   simp only [Lf, dstAt, Act.put, List.getElem?_toArray, List.getElem?_cons_zero, List.getElem?_cons_succ, Option.bind_some, List.setIfInBounds_toArray, List.set_cons_zero, List.set_cons_succ]
   simp only [e4]
   clear e4
   have d5 := ext_cell hx d5
   go_wp2
   exact ⟨rfl, Ext.refl _, rfl⟩
  ·intro vals w1 hx hd ha
   have e3 : vals 3 = .slice PA pn pc := hd 3 (by decide)
   have e5 : vals 5 = .int .i64 lo := hd 5 (by decide)
   clear hd ha
   simp only [Lf, dstAt, Act.put, List.getElem?_toArray, List.getElem?_cons_zero, List.getElem?_cons_succ, Option.bind_some, List.setIfInBounds_toArray, List.set_cons_zero, List.set_cons_succ]
   simp only [e3]
   simp only [e5]
   clear e3 e5
   go_wp2_with fail
   refine (HLO.out w1 (Ext.trans hx1 hx.undrew)).mono ?_
   rintro e w2 ⟨A, n, k, rfl, h1, hb2⟩
   have h1 := Lib.hid h1
   go_wp2
   exact ⟨rfl, hb2, A, n, k, rfl, h1.out⟩
  ·intro vals w1 hx hd ha
   clear hd ha
   simp only [Lf, dstAt, Act.put, List.getElem?_toArray, List.getElem?_cons_zero, List.getElem?_cons_succ, Option.bind_some, List.setIfInBounds_toArray, List.set_cons_zero, List.set_cons_succ]
   go_wp2
   exact ⟨rfl, Ext.refl _, rfl⟩
  ·intro vals w1 hx hd ha
   have e7 : vals 7 = .pointer (some ⟨g4, 6, none⟩) := hd 7 (by decide)
   clear hd ha
   simp only [Lf, dstAt, Act.put, List.getElem?_toArray, List.getElem?_cons_zero, List.getElem?_cons_succ, Option.bind_some, List.setIfInBounds_toArray, List.set_cons_zero, List.set_cons_succ]
   simp only [e7]
   clear e7
   have d6 := ext_cell hx d6
   go_wp2
   exact ⟨rfl, Ext.refl _, rfl⟩
  ·intro vals w1 hx hd ha
   have e0 : vals 0 = .slice OA on oc := hd 0 (by decide)
   have e1 : vals 1 = .slice PA pn pc := hd 1 (by decide)
   have e2 : vals 2 = .slice SA 3 sc := hd 2 (by decide)
   have r6 : (fun v w1 => ∃ A n k, v = .slice A n k ∧ RA intCells 1 w1 w1.heap.size A n k LI) (vals 6) w1 := hd 6 (by decide)
   dsimp only at r6
   have e8 : vals 8 = .slice wa wn wc := hd 8 (by decide)
   clear hd ha
   simp only [Lf, dstAt, Act.put, List.getElem?_toArray, List.getElem?_cons_zero, List.getElem?_cons_succ, Option.bind_some, List.setIfInBounds_toArray, List.set_cons_zero, List.set_cons_succ]
   simp only [e0]
   simp only [e1]
   simp only [e2]
   simp only [e8]
   clear e0 e1 e2 e8
   obtain ⟨A, n, k, e_6, h6⟩ := r6
   rw [e_6]
   have hz := Below.size hx.undrew
   have HW6 := Lib.hid (HWR.out w1 A n k (Ext.trans hx1 hx.undrew) h6)
   clear h6
   go_wp2_with fail
   refine HW6.out.mono ?_
   rintro e w2 ⟨v1, vn, rfl, h1, h2, hb2⟩
   have h1 := Lib.hid (own_base h1 hz)
   have h2 := Lib.hid (own_base h2 hz)
   go_wp2
   exact ⟨rfl, hb2, v1, vn, rfl, h1.out, h2.out⟩
  ·intro vals w1 hx hd ha
   have r9 : (fun v w1 => ∃ v1 vn, v = .tuple #[v1, vn, .int .i64 XE] ∧ OwnRc w1 W1.heap.size v1 XR ∧ OwnNt w1 W1.heap.size vn XN) (vals 9) w1 := hd 9 (by decide)
   dsimp only at r9
   clear hd ha
   simp only [Lf, dstAt, Act.put, List.getElem?_toArray, List.getElem?_cons_zero, List.getElem?_cons_succ, Option.bind_some, List.setIfInBounds_toArray, List.set_cons_zero, List.set_cons_succ]
   obtain ⟨v1, vn, e_9, h1, h2⟩ := r9
   rw [e_9]
   have h1 := Lib.hid h1
   have h2 := Lib.hid h2
   go_wp2
   exact ⟨rfl, Ext.refl _, v1, vn, rfl, h1.out, h2.out⟩
  ·intro vals w1 hx hd ha
   have r10 : (fun v w1 => ∃ v1 vn, v = .tuple #[v1, vn, .int .i64 XE] ∧ OwnRc w1 W1.heap.size v1 XR ∧ OwnNt w1 W1.heap.size vn XN) (vals 10) w1 := hd 10 (by decide)
   dsimp only at r10
   clear hd ha
   simp only [Lf, dstAt, Act.put, List.getElem?_toArray, List.getElem?_cons_zero, List.getElem?_cons_succ, Option.bind_some, List.setIfInBounds_toArray, List.set_cons_zero, List.set_cons_succ]
   obtain ⟨v1, vn, e_9, h1, h2⟩ := r10
   rw [e_9]
   have h1 := Lib.hid h1
   clear h2
   go_wp2
   exact ⟨rfl, Ext.refl _, h1.out⟩
  ·intro vals w1 hx hd ha
   have r10 : (fun v w1 => ∃ v1 vn, v = .tuple #[v1, vn, .int .i64 XE] ∧ OwnRc w1 W1.heap.size v1 XR ∧ OwnNt w1 W1.heap.size vn XN) (vals 10) w1 := hd 10 (by decide)
   dsimp only at r10
   clear hd ha
   simp only [Lf, dstAt, Act.put, List.getElem?_toArray, List.getElem?_cons_zero, List.getElem?_cons_succ, Option.bind_some, List.setIfInBounds_toArray, List.set_cons_zero, List.set_cons_succ]
   obtain ⟨v1, vn, e_9, h1, h2⟩ := r10
   rw [e_9]
   have h2 := Lib.hid h2
   clear h1
   go_wp2
   exact ⟨rfl, Ext.refl _, h2.out⟩
  ·intro vals w1 hx hd ha
   have r10 : (fun v w1 => ∃ v1 vn, v = .tuple #[v1, vn, .int .i64 XE] ∧ OwnRc w1 W1.heap.size v1 XR ∧ OwnNt w1 W1.heap.size vn XN) (vals 10) w1 := hd 10 (by decide)
   dsimp only at r10
   clear hd ha
   simp only [Lf, dstAt, Act.put, List.getElem?_toArray, List.getElem?_cons_zero, List.getElem?_cons_succ, Option.bind_some, List.setIfInBounds_toArray, List.set_cons_zero, List.set_cons_succ]
   obtain ⟨v1, vn, e_9, h1, h2⟩ := r10
   rw [e_9]
   clear h1 h2
   go_wp2
   exact ⟨rfl, Ext.refl _, rfl⟩
  ·intro vals w1 hx hd ha
   have e0 : vals 0 = .slice OA on oc := hd 0 (by decide)
   have e1 : vals 1 = .slice PA pn pc := hd 1 (by decide)
   have e2 : vals 2 = .slice SA 3 sc := hd 2 (by decide)
   have e3 : vals 3 = .slice PA pn pc := hd 3 (by decide)
   have e4 : vals 4 = .pointer (some ⟨g4, 5, none⟩) := hd 4 (by decide)
   have e5 : vals 5 = .int .i64 lo := hd 5 (by decide)
   have r6 : (fun v w1 => ∃ A n k, v = .slice A n k ∧ RA intCells 1 w1 w1.heap.size A n k LI) (vals 6) w1 := hd 6 (by decide)
   dsimp only at r6
   have e7 : vals 7 = .pointer (some ⟨g4, 6, none⟩) := hd 7 (by decide)
   have e8 : vals 8 = .slice wa wn wc := hd 8 (by decide)
   have r9 : (fun v w1 => ∃ v1 vn, v = .tuple #[v1, vn, .int .i64 XE] ∧ OwnRc w1 W1.heap.size v1 XR ∧ OwnNt w1 W1.heap.size vn XN) (vals 9) w1 := hd 9 (by decide)
   dsimp only at r9
   have r10 : (fun v w1 => ∃ v1 vn, v = .tuple #[v1, vn, .int .i64 XE] ∧ OwnRc w1 W1.heap.size v1 XR ∧ OwnNt w1 W1.heap.size vn XN) (vals 10) w1 := hd 10 (by decide)
   dsimp only at r10
   have r11 : (fun v w1 => OwnRc w1 W1.heap.size v XR) (vals 11) w1 := hd 11 (by decide)
   dsimp only at r11
   clear hd ha
   simp only [Lf, dstAt, Act.put, List.getElem?_toArray, List.getElem?_cons_zero, List.getElem?_cons_succ, Option.bind_some, List.setIfInBounds_toArray, List.set_cons_zero, List.set_cons_succ]
   simp only [e0]
   simp only [e1]
   simp only [e2]
   simp only [e3]
   simp only [e4]
   simp only [e5]
   simp only [e7]
   simp only [e8]
   clear e0 e1 e2 e3 e4 e5 e7 e8
   have r11 := Lib.hid r11
   go_wp2
   exact ⟨rfl, Ext.refl _, r11.out⟩
  ·intro vals w1 hx hd ha
   have e0 : vals 0 = .slice OA on oc := hd 0 (by decide)
   have e1 : vals 1 = .slice PA pn pc := hd 1 (by decide)
   have e2 : vals 2 = .slice SA 3 sc := hd 2 (by decide)
   have e3 : vals 3 = .slice PA pn pc := hd 3 (by decide)
   have e4 : vals 4 = .pointer (some ⟨g4, 5, none⟩) := hd 4 (by decide)
   have e5 : vals 5 = .int .i64 lo := hd 5 (by decide)
   have r6 : (fun v w1 => ∃ A n k, v = .slice A n k ∧ RA intCells 1 w1 w1.heap.size A n k LI) (vals 6) w1 := hd 6 (by decide)
   dsimp only at r6
   have e7 : vals 7 = .pointer (some ⟨g4, 6, none⟩) := hd 7 (by decide)
   have e8 : vals 8 = .slice wa wn wc := hd 8 (by decide)
   have r9 : (fun v w1 => ∃ v1 vn, v = .tuple #[v1, vn, .int .i64 XE] ∧ OwnRc w1 W1.heap.size v1 XR ∧ OwnNt w1 W1.heap.size vn XN) (vals 9) w1 := hd 9 (by decide)
   dsimp only at r9
   have r10 : (fun v w1 => ∃ v1 vn, v = .tuple #[v1, vn, .int .i64 XE] ∧ OwnRc w1 W1.heap.size v1 XR ∧ OwnNt w1 W1.heap.size vn XN) (vals 10) w1 := hd 10 (by decide)
   dsimp only at r10
   have r11 : (fun v w1 => OwnRc w1 W1.heap.size v XR) (vals 11) w1 := hd 11 (by decide)
   dsimp only at r11
   have r12 : (fun v w1 => OwnNt w1 W1.heap.size v XN) (vals 12) w1 := hd 12 (by decide)
   dsimp only at r12
   have r14 : (fun v w1 => OwnRc w1 W1.heap.size v XR) (vals 14) w1 := hd 14 (by decide)
   dsimp only at r14
   clear hd ha
   simp only [Lf, dstAt, Act.put, List.getElem?_toArray, List.getElem?_cons_zero, List.getElem?_cons_succ, Option.bind_some, List.setIfInBounds_toArray, List.set_cons_zero, List.set_cons_succ]
   simp only [e0]
   simp only [e1]
   simp only [e2]
   simp only [e3]
   simp only [e4]
   simp only [e5]
   simp only [e7]
   simp only [e8]
   clear e0 e1 e2 e3 e4 e5 e7 e8
   have r12 := Lib.hid r12
   go_wp2
   exact ⟨rfl, Ext.refl _, r12.out⟩
  ·intro vals w1 hx hd ha
   have e0 : vals 0 = .slice OA on oc := hd 0 (by decide)
   have e1 : vals 1 = .slice PA pn pc := hd 1 (by decide)
   have e2 : vals 2 = .slice SA 3 sc := hd 2 (by decide)
   have e3 : vals 3 = .slice PA pn pc := hd 3 (by decide)
   have e4 : vals 4 = .pointer (some ⟨g4, 5, none⟩) := hd 4 (by decide)
   have e5 : vals 5 = .int .i64 lo := hd 5 (by decide)
   have r6 : (fun v w1 => ∃ A n k, v = .slice A n k ∧ RA intCells 1 w1 w1.heap.size A n k LI) (vals 6) w1 := hd 6 (by decide)
   dsimp only at r6
   have e7 : vals 7 = .pointer (some ⟨g4, 6, none⟩) := hd 7 (by decide)
   have e8 : vals 8 = .slice wa wn wc := hd 8 (by decide)
   have r9 : (fun v w1 => ∃ v1 vn, v = .tuple #[v1, vn, .int .i64 XE] ∧ OwnRc w1 W1.heap.size v1 XR ∧ OwnNt w1 W1.heap.size vn XN) (vals 9) w1 := hd 9 (by decide)
   dsimp only at r9
   have r10 : (fun v w1 => ∃ v1 vn, v = .tuple #[v1, vn, .int .i64 XE] ∧ OwnRc w1 W1.heap.size v1 XR ∧ OwnNt w1 W1.heap.size vn XN) (vals 10) w1 := hd 10 (by decide)
   dsimp only at r10
   have r11 : (fun v w1 => OwnRc w1 W1.heap.size v XR) (vals 11) w1 := hd 11 (by decide)
   dsimp only at r11
   have r12 : (fun v w1 => OwnNt w1 W1.heap.size v XN) (vals 12) w1 := hd 12 (by decide)
   dsimp only at r12
   have e13 : vals 13 = .int .i64 XE := hd 13 (by decide)
   have r14 : (fun v w1 => OwnRc w1 W1.heap.size v XR) (vals 14) w1 := hd 14 (by decide)
   dsimp only at r14
   have r15 : (fun v w1 => OwnNt w1 W1.heap.size v XN) (vals 15) w1 := hd 15 (by decide)
   dsimp only at r15
   clear hd ha
   simp only [Lf, dstAt, Act.put, List.getElem?_toArray, List.getElem?_cons_zero, List.getElem?_cons_succ, Option.bind_some, List.setIfInBounds_toArray, List.set_cons_zero, List.set_cons_succ]
   simp only [e0, e1, e2, e3, e4, e5, e7, e8, e13]
   clear e0 e1 e2 e3 e4 e5 e7 e8 e13
   go_wp2
   exact ⟨rfl, Ext.refl _, rfl⟩
 intro vals W5 hy hf
 have h14 : OwnRc W5 W1.heap.size (vals 14) XR := hf 14 (by omega)
 have h15 : OwnNt W5 W1.heap.size (vals 15) XN := hf 15 (by omega)
 have h16 : vals 16 = .int .i64 XE := hf 16 (by omega)
 have hy := hy.undrew
 obtain ⟨RA_, rc, hv1, _, _⟩ := own_slice h14
 obtain ⟨NA, nc, hv2, _, _⟩ := own_slice h15
 rw [hv1] at h14
 rw [hv2] at h15
 have HX := Lib.hid (Ext.trans hx1 hy)
 have H14 : Hid (RA rcpCells 3 W5 W5.heap.size RA_ XR.length rc XR) := Lib.hid (RA.of_own h14 rfl (by omega))
 have H15 : Hid (RA nteCells 3 W5 W5.heap.size NA XN.length nc XN) := Lib.hid (RA.of_own h15 rfl (by omega))
 clear hf h14 h15 hy hx1 d5 d6 HLO HWR
 refine tail0 (by kernel_rfl) ?_
 simp only [Lf, dstAt, Act.put, List.getElem?_toArray, List.getElem?_cons_zero, List.getElem?_cons_succ, Option.bind_some, List.setIfInBounds_toArray, List.set_cons_zero, List.set_cons_succ]
 rw [hv1, hv2, h16]
 clear hv1 hv2 h16
 by_cases he : XE = 0
 ·subst he
  go_wp2
  exact bodyPost_ret (v := .tuple #[.slice RA_ XR.length rc, .slice NA XN.length nc, .bool true]) (by simp [results, Try.results12, go_sem]) rfl ⟨_, _, _, _, by rw [HFIN.out]; rfl, H14.out, H15.out, HX.out⟩
 ·have he1 : (XE == 0) = false := by simpa using he
  go_wp2
  exact bodyPost_ret (v := .tuple #[.slice RA_ XR.length rc, .slice NA XN.length nc, .bool false]) (by simp [results, Try.results12, go_sem]) rfl ⟨_, _, _, _, by rw [HFIN.out, decide_eq_false he], H14.out, H15.out, HX.out⟩
end Go.Proofs.Ytmlabgmigakcbaa
