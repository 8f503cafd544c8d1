/- The walk of ReceiptMore (printed by receipt_walks.py). -/
import Derived.Test.YtmlabgmigakcbaaT0
namespace Go.Proofs.Ytmlabgmigakcbaa
open Go.RowKit

/-- Has in a world that drew. -/
theorem has_q (l : List Nat) (x : Int) (b : Bool) (LA : Option Addr) (n c : Nat) (w : World) (hl : RA natCells 1 w w.heap.size LA n c l) (hb : hasI (l.map (fun k : Nat => (k : Int))) x = b) (q : Nat) :
    Calls Try.prog 33 #[.slice LA n c, .int .i64 x] (w.drewN q) fun e w' => e = .returned (.bool b) ∧ w' = w.drewN q := by
  have h := has_any (l.map (fun k : Nat => (k : Int))) x LA n c (w.drewN q) ((ra_ext hl (by repeat (first | exact Below.refl _ _ | assumption | refine Below.drew ?_ | refine below_drewN ?_ _ | refine bl_alloc ?_ _ | refine Below.setCell ?_ (by first | (simp; done) | omega | (simp; omega)) _ | refine bl_then ?_ (by assumption)))).nat)
  rw [hb] at h
  exact h.mono fun _ _ ⟨h1, h2⟩ => ⟨h1, h2.symm⟩

set_option maxRecDepth 100000 in
set_option maxHeartbeats 16000000 in
theorem more_walk (c : Cas) (how : List Int) (HA : Option Addr) (hn hcap : Nat) (now later : Int) (w : World) (hc : CasR w w.heap.size c) (hh : RA intCells 1 w w.heap.size HA hn hcap how) (_ : HA = none → hcap = 0) (hhok : ∀ x ∈ how, I64ok x) (hnow : I64ok now) (hlater : I64ok later) :
    Calls Try.prog 7 #[casV c, .slice HA hn hcap, .int .i64 now, .int .i64 later] w fun e w' => e = .returned (.bool true) ∧ Below w.heap.size w w' := by
  have HSANE := Lib.hid (fun W : World => sane_any W)
  have HMADE := Lib.hid (fun (W : World) (hW : Ext w W) => (made_any c W (hc.ext hW)).mono fun _ _ h => h.out)
  have HTRU := Lib.hid (fun (W : World) (hW : Ext w W) (OA PA SA : Option Addr) (oc pc sc : Nat) (os : List Opt) (h : MadeR W c OA PA SA oc pc sc os) => truth_cas c OA PA SA oc pc sc os W (hc.ext hW) h)
  have HLOST := Lib.hid (fun (W : World) (OA PA SA : Option Addr) (oc pc sc : Nat) (os : List Opt) (h : MadeR W c OA PA SA oc pc sc os) => lost_ra c PA pc W h.ps hc.lost)
  have PK := fun W => pickl_any now 9000 W hnow.1 hnow.2 (by omega) (by omega)
  have hpb := pickI_bd now 9000 (by omega)
  generalize pickI now 9000 = t at PK hpb
  have HPK := Lib.hid PK
  have PK2 := fun W => pickl_any later 3000 W hlater.1 hlater.2 (by omega) (by omega)
  have hpb2 := pickI_bd later 3000 (by omega)
  generalize pickI later 3000 = dt at PK2 hpb2
  have HPK2 := Lib.hid PK2
  obtain ⟨u, hu⟩ : ∃ u, u = t + dt := ⟨_, rfl⟩
  have hub : 0 ≤ u ∧ u ≤ 1000000 := by omega
  have htu : t ≤ u := by omega
  have HTUR := Lib.hid (fun (W : World) (OA PA SA LA RA_ : Option Addr) (oc pc sc ln lc rn rc : Nat) (os : List Opt) (h : MadeR W c OA PA SA oc pc sc os) hl hr hrn => turned_cas c t 0 OA PA SA LA RA_ oc pc sc ln lc rn rc os W h hl hr hrn ⟨by omega, by omega⟩)
  have HTUR2 := Lib.hid (fun (W : World) (OA PA SA LA RA_ : Option Addr) (oc pc sc ln lc rn rc : Nat) (os : List Opt) (h : MadeR W c OA PA SA oc pc sc os) hl hr hrn => turned_cas c u 0 OA PA SA LA RA_ oc pc sc ln lc rn rc os W h hl hr hrn ⟨by omega, by omega⟩)
  have HHEA := Lib.hid (fun (W : World) (hW : Ext w W) (OA PA SA NA : Option Addr) (oc pc sc nn nc : Nat) (os : List Opt) (h : MadeR W c OA PA SA oc pc sc os) h2 h3 => heard_cas c t how OA PA SA NA HA oc pc sc nn nc hn hcap os W h h2 (ra_ext hh hW) hhok h3)
  have HHEN := Lib.hid (fun (W : World) (OA PA SA NA : Option Addr) (oc pc sc nn nc : Nat) (os : List Opt) (h : MadeR W c OA PA SA oc pc sc os) h2 h3 => heard_cas c t [] OA PA SA NA none oc pc sc nn nc 0 0 os W h h2 RA.nil_ (fun x hx => by cases hx) h3)
  have HHEU := Lib.hid (fun (W : World) (OA PA SA NA : Option Addr) (oc pc sc nn nc : Nat) (os : List Opt) (h : MadeR W c OA PA SA oc pc sc os) h2 h3 => heard_cas c u [] OA PA SA NA none oc pc sc nn nc 0 0 os W h h2 RA.nil_ (fun x hx => by cases hx) h3)
  have HREC := Lib.hid (fun (W : World) (OA PA SA QA NA : Option Addr) (oc pc sc qn qc nn nc : Nat) (os : List Opt) (h : MadeR W c OA PA SA oc pc sc os) h2 h3 => rec_own_cas c t 0 how OA PA SA QA NA oc pc sc qn qc nn nc os W h h2 h3 (by omega))
  have HREN := Lib.hid (fun (W : World) (OA PA SA QA NA : Option Addr) (oc pc sc qn qc nn nc : Nat) (os : List Opt) (h : MadeR W c OA PA SA oc pc sc os) h2 h3 => rec_own_cas c t 0 [] OA PA SA QA NA oc pc sc qn qc nn nc os W h h2 h3 (by omega))
  have HREU := Lib.hid (fun (W : World) (OA PA SA QA NA : Option Addr) (oc pc sc qn qc nn nc : Nat) (os : List Opt) (h : MadeR W c OA PA SA oc pc sc os) h2 h3 => rec_own_cas c u 0 [] OA PA SA QA NA oc pc sc qn qc nn nc os W h h2 h3 (by omega))
  have HFACT : Hid (∀ (fs gs zs : List Fte) (os : List Opt) (k : Nat) (h1 : k < fs.length) (h2 : k < gs.length) (h3 : k < zs.length) (h4 : k < os.length), fs.map (·.p) = (casO c).map (trueF c t (toldL c t how)) → gs.map (·.p) = (casO c).map (trueF c t (toldL c t [])) → zs.map (·.p) = (casO c).map (trueF c u (toldL c u [])) → os.map Opt.p = casO c → fs[k].p.st = gs[k].p.st ∧ (fs[k].p.st = 3 → zs[k].p.st = 3) ∧ (fs[k].p.st = 1 → zs[k].p.st = 1) ∧ ∀ (j : Nat) (h : j < gs[k].p.l.length), hasI (fs[k].p.l.map (fun k : Nat => (k : Int))) ((gs[k].p.l[j] : Nat) : Int) = true) := Lib.hid (fun fs gs zs os k h1 h2 h3 h4 e1 e2 e3 e4 => by
    obtain ⟨a, b⟩ := at_fate h1 h4 e1 e4
    obtain ⟨a2, _⟩ := at_fate h2 h4 e2 e4
    obtain ⟨a3, _⟩ := at_fate h3 h4 e3 e4
    have hf := more_fact c t u how os[k].p b htu
    rw [← a, ← a2, ← a3] at hf
    exact ⟨hf.1, hf.2.1, hf.2.2.1, fun j h => hf.2.2.2 _ (List.getElem_mem h)⟩)
  have HU := Lib.hid hu
  clear hu hh hhok
  have hL8 := casO_len c
  obtain ⟨L, hL⟩ : ∃ L, L = (casO c).length := ⟨_, rfl⟩
  rw [← hL] at hL8
  have HMADE2 : Hid (∀ (W : World), Ext w W → Calls Try.prog 11 #[casV c] W fun e w' => ∃ OA PA SA oc pc sc os, e = .returned (.tuple #[.slice OA L oc, .slice PA (casP c).length pc, .slice SA 3 sc]) ∧ MadeR w' c OA PA SA oc pc sc os ∧ Ext W w') := Lib.hid (by rw [hL]; exact HMADE.out)
  have HLL := Lib.hid hL
  rw [← hL] at HTRU HTUR HTUR2 HHEA HHEN HHEU HREC HREN HREU
  clear hL HMADE hc PK
  generalize (casP c).length = pn at HMADE2 HTRU HLOST HTUR HTUR2 HREC HREN HREU
  have hcv : casV c = .agg #[.slice c.pa c.pn c.pc, .slice c.oa c.on c.oc, .int .i64 c.sk.a, .int .i64 c.sk.b, .int .i64 c.sk.c, .int .i64 c.lost, .slice c.wa c.wn c.wc] := rfl
  rw [hcv] at HMADE2 HTRU ⊢
  clear hcv
  generalize c.pa = pa at HMADE2 HTRU ⊢
  generalize c.pn = pcn at HMADE2 HTRU ⊢
  generalize c.pc = pcc at HMADE2 HTRU ⊢
  generalize c.oa = oa at HMADE2 HTRU ⊢
  generalize c.on = ocn at HMADE2 HTRU ⊢
  generalize c.oc = occ at HMADE2 HTRU ⊢
  generalize c.sk.a = sa at HMADE2 HTRU ⊢
  generalize c.sk.b = sb at HMADE2 HTRU ⊢
  generalize c.sk.c = sc at HMADE2 HTRU ⊢
  generalize c.lost = lo at HMADE2 HTRU HLOST ⊢
  generalize c.wa = wa at HMADE2 HTRU ⊢
  generalize c.wn = wn at HMADE2 HTRU ⊢
  generalize c.wc = wc at HMADE2 HTRU ⊢
  go_enter Try.func7, Try.ntmps7
  go_upto_region 1 with (fail)
  have hx1 : Ext w (w.alloc (.cells #[.slice pa pcn pcc, .slice oa ocn occ, .int .i64 sa, .int .i64 sb, .int .i64 sc, .int .i64 lo, .slice wa wn wc] 27)) := bl_alloc (Below.refl _ _) _
  have J := Blk.new w 27 #[.slice pa pcn pcc, .slice oa ocn occ, .int .i64 sa, .int .i64 sb, .int .i64 sc, .int .i64 lo, .slice wa wn wc]
  obtain ⟨g3, hg3⟩ : ∃ g, g = w.heap.size := ⟨_, rfl⟩
  rw [← hg3] at J ⊢
  clear hg3
  generalize w.alloc (.cells #[.slice pa pcn pcc, .slice oa ocn occ, .int .i64 sa, .int .i64 sb, .int .i64 sc, .int .i64 lo, .slice wa wn wc] 27) = W1 at hx1 J ⊢
  have HJ := Lib.hid J
  clear J
  go_wp2_with fail
  refine (HSANE.out _).mono ?_
  rintro e W2 ⟨rfl, hy⟩
  have hx2 := Ext.trans hx1 hy
  have hj := HJ.out.ext hy
  have d0 : W2.cell? ⟨g3, 0, none⟩ = some (.slice pa pcn pcc) := hj.cell 0
  have d1 : W2.cell? ⟨g3, 1, none⟩ = some (.slice oa ocn occ) := hj.cell 1
  have d2 : W2.cell? ⟨g3, 2, none⟩ = some (.int .i64 sa) := hj.cell 2
  have d3 : W2.cell? ⟨g3, 3, none⟩ = some (.int .i64 sb) := hj.cell 3
  have d4 : W2.cell? ⟨g3, 4, none⟩ = some (.int .i64 sc) := hj.cell 4
  have d5 : W2.cell? ⟨g3, 5, none⟩ = some (.int .i64 lo) := hj.cell 5
  have d6 : W2.cell? ⟨g3, 6, none⟩ = some (.slice wa wn wc) := hj.cell 6
  have HC := Lib.hid (HMADE2.out W2 hx2)
  clear hj hx1 HSANE HMADE2
  have HJ := Lib.hid (HJ.out.ext hy)
  clear hy
  go_wp2_with fail
  refine HC.out.mono ?_
  rintro e W3 ⟨OA, PA, SA, oc, pc, sc_, os, rfl, hmr, hy⟩
  have hx3 := Ext.trans hx2 hy
  have hj := HJ.out.ext hy
  clear d0 d1 d2 d3 d4 d5 d6 HC hx2
  have d5 : W3.cell? ⟨g3, 5, none⟩ = some (.int .i64 lo) := hj.cell 5
  have HC := Lib.hid (HLOST.out W3 OA PA SA oc pc sc_ os hmr)
  have HMR := Lib.hid hmr
  have HJ := Lib.hid hj
  clear hmr hj HLOST hy
  go_wp2_with fail
  refine HC.out.mono ?_
  rintro e W4 ⟨LA, ln, lc, rfl, hl, hy⟩
  have hx4 := Ext.trans hx3 hy
  have hj := HJ.out.ext hy
  have hmr := HMR.out.ext hy
  clear d5 HC HJ HMR hx3 hy
  have d0 : W4.cell? ⟨g3, 0, none⟩ = some (.slice pa pcn pcc) := hj.cell 0
  have d1 : W4.cell? ⟨g3, 1, none⟩ = some (.slice oa ocn occ) := hj.cell 1
  have d2 : W4.cell? ⟨g3, 2, none⟩ = some (.int .i64 sa) := hj.cell 2
  have d3 : W4.cell? ⟨g3, 3, none⟩ = some (.int .i64 sb) := hj.cell 3
  have d4 : W4.cell? ⟨g3, 4, none⟩ = some (.int .i64 sc) := hj.cell 4
  have d5 : W4.cell? ⟨g3, 5, none⟩ = some (.int .i64 lo) := hj.cell 5
  have d6 : W4.cell? ⟨g3, 6, none⟩ = some (.slice wa wn wc) := hj.cell 6
  have HC := Lib.hid (HTRU.out W4 hx4 OA PA SA oc pc sc_ os hmr)
  have HL := Lib.hid hl
  have HMR := Lib.hid hmr
  clear hj hl hmr HTRU
  go_wp2_with fail
  refine HC.out.mono ?_
  rintro e W5 ⟨RA_, rn, rc, NA, nn, nc, rfl, hr, hnt, hrn, hnn, hy⟩
  have hx5 := Ext.trans hx4 hy
  have HL := Lib.hid (ra_ext HL.out hy)
  have HMR := Lib.hid (HMR.out.ext hy)
  have HNT := Lib.hid hnt
  have HR := Lib.hid hr
  have HRN := Lib.hid hrn
  have HNN := Lib.hid hnn
  clear d0 d1 d2 d3 d4 d5 d6 HC hx4 hy hnt hr hrn hnn
  go_wp2_with fail
  refine (HPK.out _).mono ?_
  rintro e w2 ⟨rfl, rfl⟩
  clear HPK
  go_wp2_with fail
  refine (HPK2.out _).mono ?_
  rintro e w2 ⟨rfl, rfl⟩
  clear HPK2
  have hwu : IntKind.i64.wrap (t + dt) = u := by rw [HU.out]; exact IntWalk.i64_in _ (by omega)
  have HC := Lib.hid (HTUR.out W5 OA PA SA LA RA_ oc pc sc_ ln lc rn rc os HMR.out HL.out HR.out HRN.out)
  go_wp2_with fail
  refine HC.out.mono ?_
  rintro e W6 ⟨QA, qn, qc, rfl, hq, hqn, _, hy⟩
  clear HC
  have hx6 := Ext.trans hx5 hy
  have HL := Lib.hid (ra_ext HL.out hy)
  have HMR := Lib.hid (HMR.out.ext hy)
  have HR := Lib.hid (ra_ext HR.out hy)
  have HNT := Lib.hid (ra_ext HNT.out hy)
  have HQ := Lib.hid hq
  clear hq hqn HTUR
  clear hx5 hy
  have HC := Lib.hid (HHEA.out W6 hx6 OA PA SA NA oc pc sc_ nn nc os HMR.out HNT.out HNN.out)
  go_wp2_with fail
  refine HC.out.mono ?_
  rintro e W7 ⟨TA, tn, tc, rfl, ht, _, hy⟩
  clear HC
  have hx7 := Ext.trans hx6 hy
  have HL := Lib.hid (ra_ext HL.out hy)
  have HMR := Lib.hid (HMR.out.ext hy)
  have HR := Lib.hid (ra_ext HR.out hy)
  have HNT := Lib.hid (ra_ext HNT.out hy)
  have HQ := Lib.hid (ra_ext HQ.out hy)
  have HT := Lib.hid ht
  clear ht HHEA
  clear hx6 hy
  have HC := Lib.hid (HREC.out W7 OA PA SA QA TA oc pc sc_ qn qc tn tc os HMR.out HQ.out HT.out)
  go_wp2_with fail
  refine HC.out.mono ?_
  rintro e W8 ⟨FA, fc, DA, dc, fs, rfl, hfs, hfp, hy⟩
  clear HC
  have hx8 := Ext.trans hx7 hy
  have HL := Lib.hid (ra_ext HL.out hy)
  have HMR := Lib.hid (HMR.out.ext hy)
  have HR := Lib.hid (ra_ext HR.out hy)
  have HNT := Lib.hid (ra_ext HNT.out hy)
  have HQ := Lib.hid (ra_ext HQ.out hy)
  have HFS := Lib.hid hfs
  have HFP := Lib.hid hfp
  clear hfs hfp HREC HT
  clear hx7 hy
  have HC := Lib.hid (HHEN.out W8 OA PA SA NA oc pc sc_ nn nc os HMR.out HNT.out HNN.out)
  go_wp2_with fail
  refine HC.out.mono ?_
  rintro e W9 ⟨TB, un, uc, rfl, ht, _, hy⟩
  clear HC
  have hx9 := Ext.trans hx8 hy
  have HL := Lib.hid (ra_ext HL.out hy)
  have HMR := Lib.hid (HMR.out.ext hy)
  have HR := Lib.hid (ra_ext HR.out hy)
  have HNT := Lib.hid (ra_ext HNT.out hy)
  have HQ := Lib.hid (ra_ext HQ.out hy)
  have HFS := Lib.hid (HFS.out.ext hy)
  have HT := Lib.hid ht
  clear ht HHEN
  clear hx8 hy
  have HC := Lib.hid (HREN.out W9 OA PA SA QA TB oc pc sc_ qn qc un uc os HMR.out HQ.out HT.out)
  go_wp2_with fail
  refine HC.out.mono ?_
  rintro e W10 ⟨GA, gc_, EA, ec, gs, rfl, hgs, hgp, hy⟩
  clear HC
  have hx10 := Ext.trans hx9 hy
  have HL := Lib.hid (ra_ext HL.out hy)
  have HMR := Lib.hid (HMR.out.ext hy)
  have HR := Lib.hid (ra_ext HR.out hy)
  have HNT := Lib.hid (ra_ext HNT.out hy)
  have HQ := Lib.hid (ra_ext HQ.out hy)
  have HFS := Lib.hid (HFS.out.ext hy)
  have HGS := Lib.hid hgs
  have HGP := Lib.hid hgp
  clear hgs hgp HREN HT HQ
  clear hx9 hy
  have HC := Lib.hid (HTUR2.out W10 OA PA SA LA RA_ oc pc sc_ ln lc rn rc os HMR.out HL.out HR.out HRN.out)
  go_wp2_with fail
  refine HC.out.mono ?_
  rintro e W11 ⟨QB, qm, qd, rfl, hq, hqn, _, hy⟩
  clear HC
  have hx11 := Ext.trans hx10 hy
  have HL := Lib.hid (ra_ext HL.out hy)
  have HMR := Lib.hid (HMR.out.ext hy)
  have HR := Lib.hid (ra_ext HR.out hy)
  have HNT := Lib.hid (ra_ext HNT.out hy)
  have HFS := Lib.hid (HFS.out.ext hy)
  have HGS := Lib.hid (HGS.out.ext hy)
  have HQ := Lib.hid hq
  clear hq hqn HTUR2
  clear hx10 hy
  have HC := Lib.hid (HHEU.out W11 OA PA SA NA oc pc sc_ nn nc os HMR.out HNT.out HNN.out)
  go_wp2_with fail
  refine HC.out.mono ?_
  rintro e W12 ⟨TC, vn, vc, rfl, ht, _, hy⟩
  clear HC
  have hx12 := Ext.trans hx11 hy
  have HL := Lib.hid (ra_ext HL.out hy)
  have HMR := Lib.hid (HMR.out.ext hy)
  have HR := Lib.hid (ra_ext HR.out hy)
  have HNT := Lib.hid (ra_ext HNT.out hy)
  have HFS := Lib.hid (HFS.out.ext hy)
  have HGS := Lib.hid (HGS.out.ext hy)
  have HQ := Lib.hid (ra_ext HQ.out hy)
  have HT := Lib.hid ht
  clear ht HHEU
  clear hx11 hy
  have HC := Lib.hid (HREU.out W12 OA PA SA QB TC oc pc sc_ qm qd vn vc os HMR.out HQ.out HT.out)
  go_wp2_with fail
  refine HC.out.mono ?_
  rintro e W13 ⟨ZA, zc, IA, ic, zs, rfl, hzs, hzp, hy⟩
  clear HC
  have hx13 := Ext.trans hx12 hy
  have HMR := Lib.hid (HMR.out.ext hy)
  have HFS := Lib.hid (HFS.out.ext hy)
  have HGS := Lib.hid (HGS.out.ext hy)
  have HZS := Lib.hid hzs
  have HZP := Lib.hid hzp
  clear hzs hzp HREU HT HQ HL HR HNT
  clear hx12 hy
  clear hwu hub htu
  have hLL : ((L : Int) == (L : Int)) = true := by simp
  have hLN : ((L : Int) != (L : Int)) = false := by simp
  go_wp2_with fail
  go_loopw [28] (fun i wr => ∃ k : Nat, k ≤ L ∧ i = .int .i64 k ∧ Ext W13 wr) (fun i _ => L - (intOf i).toNat)
  case atStart => exact ⟨0, Nat.zero_le _, rfl, Ext.refl _⟩
  case round =>
    clear hLL hLN
    obtain ⟨k, hk, rfl, hx⟩ := hrel
    by_cases hkL : k < L
    · have hz : k < os.length := by rw [HMR.out.ho.out.len, ← HLL.out]; exact hkL
      have hfs := HFS.out.ext hx
      have hgs := HGS.out.ext hx
      have hzs := HZS.out.ext hx
      obtain ⟨bf, of_, hzf, hFA, _, hcf⟩ := hfs.out.at_ fte_len hkL
      obtain ⟨bg, og, hzg, hGA, _, hcg⟩ := hgs.out.at_ fte_len hkL
      obtain ⟨bh, oh, hzh, hHA, _, hch⟩ := hzs.out.at_ fte_len hkL
      obtain ⟨hf1, hf2, hf3, hf4⟩ := HFACT.out fs gs zs os k hzf hzg hzh hz HFP.out HGP.out HZP.out HMR.out.op
      have hrf := hfs.each fs[k] (List.getElem_mem hzf)
      have hrg := hgs.each gs[k] (List.getElem_mem hzg)
      clear hfs hgs hzs hz
      generalize fs[k] = x at hcf hrf hf1 hf2 hf3 hf4
      generalize gs[k] = y at hcg hrg hf1 hf4
      generalize zs[k] = v at hch hf2 hf3
      obtain ⟨⟨im, st, fl, fr, tt⟩, xa, xc⟩ := x
      obtain ⟨⟨im2, st2, fl2, fr2, tt2⟩, ya, yc⟩ := y
      obtain ⟨⟨im3, st3, fl3, fr3, tt3⟩, za, zc2⟩ := v
      dsimp only at hrf hrg hf1 hf2 hf3 hf4
      subst hf1
      have f1 : wr.cell? ⟨bf, of_ + k * 5 + 1, none⟩ = some (.int .i64 st) := hcf 1 (by omega)
      have f2 : wr.cell? ⟨bf, of_ + k * 5 + 2, none⟩ = some (.slice xa fl.length xc) := hcf 2 (by omega)
      have q1 : wr.cell? ⟨bg, og + k * 5 + 1, none⟩ = some (.int .i64 st) := hcg 1 (by omega)
      have q2 : wr.cell? ⟨bg, og + k * 5 + 2, none⟩ = some (.slice ya fl2.length yc) := hcg 2 (by omega)
      have v1 : wr.cell? ⟨bh, oh + k * 5 + 1, none⟩ = some (.int .i64 st3) := hch 1 (by omega)
      have hkz : (k : Int) < (L : Int) := by omega
      have HKL := Lib.hid hkL
      have HF4 := Lib.hid hf4
      have HRF := Lib.hid hrf
      have HRG := Lib.hid hrg
      have hgle := hrg.le
      subst hFA hGA hHA
      clear hcf hcg hch hrf hrg hf4
      have hss1 : (st == st) = true := by simp
      have hss2 : (st != st) = false := by simp
      go_upto_region 19 with (fail)
      by_cases hs3 : st = 3
      · obtain rfl := hf2 hs3
        subst hs3
        clear hf2 hf3 hss1 hss2
        go_quiet (fail)
        have hy : Ext wr (wr.drewN nq) := (by repeat (first | exact Below.refl _ _ | assumption | refine Below.drew ?_ | refine below_drewN ?_ _ | refine bl_alloc ?_ _ | refine Below.setCell ?_ (by first | (simp; done) | omega | (simp; omega)) _ | refine bl_then ?_ (by assumption)))
        have f2 := ext_cell hy f2
        have q2 := ext_cell hy q2
        have HRF := Lib.hid (ra_ext HRF.out hy)
        have HRG := Lib.hid (ra_ext HRG.out hy)
        have hx := Ext.trans hx hy
        generalize wr.drewN nq = W15 at hy f2 q2 HRF HRG hx ⊢
        clear hy f1 q1 v1
        go_wp2_with fail
        go_loopw [29] (fun i wi => ∃ j : Nat, j ≤ fl2.length ∧ i = .int .i64 j ∧ Ext W15 wi) (fun i _ => fl2.length - (intOf i).toNat)
        case atStart => exact ⟨0, Nat.zero_le _, rfl, Ext.refl _⟩
        case round =>
          obtain ⟨j, hj, rfl, hxi⟩ := hrel
          have f2 := ext_cell hxi f2
          have q2 := ext_cell hxi q2
          have HX := Lib.hid (Ext.trans hx hxi)
          by_cases hjn : j < fl2.length
          · obtain ⟨bs, os_, hzs, hAs, _, hcs⟩ := (ra_ext HRG.out hxi).at_ nat_len hjn
            have u0 : wr.cell? ⟨bs, os_ + j, none⟩ = some (.int .i64 ((fl2[j] : Nat) : Int)) := by have h := hcs 0 (by omega); rw [Nat.mul_one] at h; exact h
            have hhas := HF4.out j hjn
            generalize fl2[j] = sj at u0 hhas
            have hhq := fun q => has_q fl (sj : Int) true xa fl.length xc wr (ra_ext HRF.out hxi) hhas q
            have HH := Lib.hid hhq
            have HXI := Lib.hid hxi
            have HJN := Lib.hid hjn
            have hjz : (j : Int) < (fl2.length : Int) := by omega
            rw [hAs] at q2
            clear hcs hhas hhq hxi hx
            go_upto_region 24 with (fail)
            go_quiet (exact Calls.quiet_of_same (HH.out _))
            have HY : Hid (Ext wr (wr.drewN nq)) := Lib.hid (by repeat (first | exact Below.refl _ _ | assumption | refine Below.drew ?_ | refine below_drewN ?_ _ | refine bl_alloc ?_ _ | refine Below.setCell ?_ (by first | (simp; done) | omega | (simp; omega)) _ | refine bl_then ?_ (by assumption)))
            clear f2 q2 u0 HH
            go_wp2
            go_roundw
            case rel => exact ⟨j + 1, HJN.out, by go_num, Ext.trans HXI.out HY.out⟩
            case measure => have := HJN.out; simp [intOf]; omega
          · clear hxi hx
            go_wp2
            go_roundw
            case rel => exact ⟨k + 1, HKL.out, by go_num, HX.out⟩
            case measure => have := HKL.out; simp [intOf]; omega
      · by_cases hs1 : st = 1
        · obtain rfl := hf3 hs1
          subst hs1
          clear hf2 hf3 hss1 hss2
          go_quiet (fail)
          have hy : Ext wr (wr.drewN nq) := (by repeat (first | exact Below.refl _ _ | assumption | refine Below.drew ?_ | refine below_drewN ?_ _ | refine bl_alloc ?_ _ | refine Below.setCell ?_ (by first | (simp; done) | omega | (simp; omega)) _ | refine bl_then ?_ (by assumption)))
          have f2 := ext_cell hy f2
          have q2 := ext_cell hy q2
          have HRF := Lib.hid (ra_ext HRF.out hy)
          have HRG := Lib.hid (ra_ext HRG.out hy)
          have hx := Ext.trans hx hy
          generalize wr.drewN nq = W15 at hy f2 q2 HRF HRG hx ⊢
          clear hy f1 q1 v1
          go_wp2_with fail
          go_loopw [29] (fun i wi => ∃ j : Nat, j ≤ fl2.length ∧ i = .int .i64 j ∧ Ext W15 wi) (fun i _ => fl2.length - (intOf i).toNat)
          case atStart => exact ⟨0, Nat.zero_le _, rfl, Ext.refl _⟩
          case round =>
            obtain ⟨j, hj, rfl, hxi⟩ := hrel
            have f2 := ext_cell hxi f2
            have q2 := ext_cell hxi q2
            have HX := Lib.hid (Ext.trans hx hxi)
            by_cases hjn : j < fl2.length
            · obtain ⟨bs, os_, hzs, hAs, _, hcs⟩ := (ra_ext HRG.out hxi).at_ nat_len hjn
              have u0 : wr.cell? ⟨bs, os_ + j, none⟩ = some (.int .i64 ((fl2[j] : Nat) : Int)) := by have h := hcs 0 (by omega); rw [Nat.mul_one] at h; exact h
              have hhas := HF4.out j hjn
              generalize fl2[j] = sj at u0 hhas
              have hhq := fun q => has_q fl (sj : Int) true xa fl.length xc wr (ra_ext HRF.out hxi) hhas q
              have HH := Lib.hid hhq
              have HXI := Lib.hid hxi
              have HJN := Lib.hid hjn
              have hjz : (j : Int) < (fl2.length : Int) := by omega
              rw [hAs] at q2
              clear hcs hhas hhq hxi hx
              go_upto_region 24 with (fail)
              go_quiet (exact Calls.quiet_of_same (HH.out _))
              have HY : Hid (Ext wr (wr.drewN nq)) := Lib.hid (by repeat (first | exact Below.refl _ _ | assumption | refine Below.drew ?_ | refine below_drewN ?_ _ | refine bl_alloc ?_ _ | refine Below.setCell ?_ (by first | (simp; done) | omega | (simp; omega)) _ | refine bl_then ?_ (by assumption)))
              clear f2 q2 u0 HH
              go_wp2
              go_roundw
              case rel => exact ⟨j + 1, HJN.out, by go_num, Ext.trans HXI.out HY.out⟩
              case measure => have := HJN.out; simp [intOf]; omega
            · clear hxi hx
              go_wp2
              go_roundw
              case rel => exact ⟨k + 1, HKL.out, by go_num, HX.out⟩
              case measure => have := HKL.out; simp [intOf]; omega
        · have hs3b : (st == 3) = false := by simpa using hs3
          have hs1b : (st == 1) = false := by simpa using hs1
          clear hf2 hf3
          go_quiet (fail)
          have hy : Ext wr (wr.drewN nq) := (by repeat (first | exact Below.refl _ _ | assumption | refine Below.drew ?_ | refine below_drewN ?_ _ | refine bl_alloc ?_ _ | refine Below.setCell ?_ (by first | (simp; done) | omega | (simp; omega)) _ | refine bl_then ?_ (by assumption)))
          have f2 := ext_cell hy f2
          have q2 := ext_cell hy q2
          have HRF := Lib.hid (ra_ext HRF.out hy)
          have HRG := Lib.hid (ra_ext HRG.out hy)
          have hx := Ext.trans hx hy
          generalize wr.drewN nq = W15 at hy f2 q2 HRF HRG hx ⊢
          clear hy f1 q1 v1
          go_wp2_with fail
          go_loopw [29] (fun i wi => ∃ j : Nat, j ≤ fl2.length ∧ i = .int .i64 j ∧ Ext W15 wi) (fun i _ => fl2.length - (intOf i).toNat)
          case atStart => exact ⟨0, Nat.zero_le _, rfl, Ext.refl _⟩
          case round =>
            obtain ⟨j, hj, rfl, hxi⟩ := hrel
            have f2 := ext_cell hxi f2
            have q2 := ext_cell hxi q2
            have HX := Lib.hid (Ext.trans hx hxi)
            by_cases hjn : j < fl2.length
            · obtain ⟨bs, os_, hzs, hAs, _, hcs⟩ := (ra_ext HRG.out hxi).at_ nat_len hjn
              have u0 : wr.cell? ⟨bs, os_ + j, none⟩ = some (.int .i64 ((fl2[j] : Nat) : Int)) := by have h := hcs 0 (by omega); rw [Nat.mul_one] at h; exact h
              have hhas := HF4.out j hjn
              generalize fl2[j] = sj at u0 hhas
              have hhq := fun q => has_q fl (sj : Int) true xa fl.length xc wr (ra_ext HRF.out hxi) hhas q
              have HH := Lib.hid hhq
              have HXI := Lib.hid hxi
              have HJN := Lib.hid hjn
              have hjz : (j : Int) < (fl2.length : Int) := by omega
              rw [hAs] at q2
              clear hcs hhas hhq hxi hx
              go_upto_region 24 with (fail)
              go_quiet (exact Calls.quiet_of_same (HH.out _))
              have HY : Hid (Ext wr (wr.drewN nq)) := Lib.hid (by repeat (first | exact Below.refl _ _ | assumption | refine Below.drew ?_ | refine below_drewN ?_ _ | refine bl_alloc ?_ _ | refine Below.setCell ?_ (by first | (simp; done) | omega | (simp; omega)) _ | refine bl_then ?_ (by assumption)))
              clear f2 q2 u0 HH
              go_wp2
              go_roundw
              case rel => exact ⟨j + 1, HJN.out, by go_num, Ext.trans HXI.out HY.out⟩
              case measure => have := HJN.out; simp [intOf]; omega
            · clear hxi hx
              go_wp2
              go_roundw
              case rel => exact ⟨k + 1, HKL.out, by go_num, HX.out⟩
              case measure => have := HKL.out; simp [intOf]; omega
    · have HX := Lib.hid (Ext.trans hx13 hx)
      go_wp2
      go_ret
      exact ⟨rfl, HX.out⟩
end Go.Proofs.Ytmlabgmigakcbaa
