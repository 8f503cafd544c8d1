/- The walk of ReceiptTruth. -/
import Derived.Test.YtmlabgmigakcbaaT0
namespace Go.Proofs.Ytmlabgmigakcbaa
open Go.RowKit

theorem drewN_ext (w : World) (n : Nat) : Ext w (w.drewN n) := (by repeat (first | exact Below.refl _ _ | assumption | refine Below.drew ?_ | refine below_drewN ?_ _ | refine bl_alloc ?_ _ | refine Below.setCell ?_ (by first | (simp; done) | omega | (simp; omega)) _ | refine bl_then ?_ (by assumption)))

set_option maxRecDepth 100000 in
set_option maxHeartbeats 16000000 in
theorem truth_walk (c : Cas) (how : List Int) (HA : Option Addr) (hn hcap : Nat) (turn now : Int) (w : World) (hc : CasR w w.heap.size c) (hh : RA intCells 1 w w.heap.size HA hn hcap how) (_ : HA = none → hcap = 0) (hhok : ∀ x ∈ how, I64ok x) (hturn : I64ok turn) (hnow : I64ok now) :
    Calls Try.prog 5 #[casV c, .slice HA hn hcap, .int .i64 turn, .int .i64 now] w fun e w' => e = .returned (.bool true) ∧ Below w.heap.size w w' := by
  have HSANE := Lib.hid (fun W : World => sane_any W)
  have HMADE := Lib.hid (fun (W : World) (hW : Ext w W) => (made_any c W (hc.ext hW)).mono fun _ _ h => h.out)
  have HTRU := Lib.hid (fun (W : World) (hW : Ext w W) (OA PA SA : Option Addr) (oc pc sc : Nat) (os : List Opt) (h : MadeR W c OA PA SA oc pc sc os) => truth_cas c OA PA SA oc pc sc os W (hc.ext hW) h)
  have HLOST := Lib.hid (fun (W : World) (OA PA SA : Option Addr) (oc pc sc : Nat) (os : List Opt) (h : MadeR W c OA PA SA oc pc sc os) => lost_ra c PA pc W h.ps hc.lost)
  have PK := fun W => pickl_any now 9000 W hnow.1 hnow.2 (by omega) (by omega)
  have hpb := pickI_bd now 9000 (by omega)
  generalize pickI now 9000 = t at PK hpb
  have HPK := Lib.hid PK
  have HTUR := Lib.hid (fun (W : World) (OA PA SA LA RA_ : Option Addr) (oc pc sc ln lc rn rc : Nat) (os : List Opt) (h : MadeR W c OA PA SA oc pc sc os) hl hr hrn => turned_cas c t turn OA PA SA LA RA_ oc pc sc ln lc rn rc os W h hl hr hrn hturn)
  have HHEA := Lib.hid (fun (W : World) (hW : Ext w W) (OA PA SA NA : Option Addr) (oc pc sc nn nc : Nat) (os : List Opt) (h : MadeR W c OA PA SA oc pc sc os) h2 h3 => heard_cas c t how OA PA SA NA HA oc pc sc nn nc hn hcap os W h h2 (ra_ext hh hW) hhok h3)
  have HREC := Lib.hid (fun (W : World) (OA PA SA QA NA : Option Addr) (oc pc sc qn qc nn nc : Nat) (os : List Opt) (h : MadeR W c OA PA SA oc pc sc os) h2 h3 => rec_own_cas c t turn how OA PA SA QA NA oc pc sc qn qc nn nc os W h h2 h3 (by omega))
  have HSEN := Lib.hid (fun (W : World) (OA PA SA LA : Option Addr) (oc pc sc ln lc : Nat) (os : List Opt) (h : MadeR W c OA PA SA oc pc sc os) h2 (k : Nat) (hk : k < os.length) => sent_cas c os[k] OA PA SA LA oc pc sc ln lc os W h h2 (List.getElem_mem hk))
  have HFACT : Hid (∀ (fs : List Fte) (os : List Opt) (k : Nat) (h1 : k < fs.length) (h2 : k < os.length), fs.map (·.p) = (casO c).map (trueF c t (toldL c t how)) → os.map Opt.p = casO c → ∃ z : Int, zO c os[k].p = z ∧ (z = -1 ∨ 0 ≤ z ∧ z < os[k].l.length) ∧ fs[k].p.im = os[k].id ∧ (0 ≤ z ∧ ttAt os[k].l z.toNat ≤ t → fs[k].p.st = 1 ∧ hasI (fs[k].p.l.map (fun k : Nat => (k : Int))) z = true) ∧ (¬ (0 ≤ z ∧ ttAt os[k].l z.toNat ≤ t) → fs[k].p.st ≠ 1)) := Lib.hid (fun fs os k h1 h2 e1 e2 => by
    obtain ⟨a, b⟩ := at_fate h1 h2 e1 e2
    have hf := truth_fact c t how os[k].p b
    rw [← a] at hf
    exact ⟨_, rfl, zO_bd c os[k].p, hf.1, hf.2.1, hf.2.2⟩)
  have hL8 := casO_len c
  obtain ⟨L, hL⟩ : ∃ L, L = (casO c).length := ⟨_, rfl⟩
  rw [← hL] at hL8
  have HMADE2 : Hid (∀ (W : World), Ext w W → Calls Try.prog 11 #[casV c] W fun e w' => ∃ OA PA SA oc pc sc os, e = .returned (.tuple #[.slice OA L oc, .slice PA (casP c).length pc, .slice SA 3 sc]) ∧ MadeR w' c OA PA SA oc pc sc os ∧ Ext W w') := Lib.hid (by rw [hL]; exact HMADE.out)
  have HLL := Lib.hid hL
  rw [← hL] at HTRU HTUR HHEA HREC
  clear hL HMADE hc hh PK hhok
  generalize (casP c).length = pn at HMADE2 HTRU HLOST HTUR HREC HSEN
  have hcv : casV c = .agg #[.slice c.pa c.pn c.pc, .slice c.oa c.on c.oc, .int .i64 c.sk.a, .int .i64 c.sk.b, .int .i64 c.sk.c, .int .i64 c.lost, .slice c.wa c.wn c.wc] := rfl
  rw [hcv] at HMADE2 HTRU ⊢
  clear hcv
  generalize c.pa = pa at HMADE2 HTRU ⊢
  generalize c.pn = pcn at HMADE2 HTRU ⊢
  generalize c.pc = pcc at HMADE2 HTRU ⊢
  generalize c.oa = oa at HMADE2 HTRU ⊢
  generalize c.on = ocn at HMADE2 HTRU ⊢
  generalize c.oc = occ at HMADE2 HTRU ⊢
  generalize c.sk.a = sa at HMADE2 HTRU ⊢
  generalize c.sk.b = sb at HMADE2 HTRU ⊢
  generalize c.sk.c = sc at HMADE2 HTRU ⊢
  generalize c.lost = lo at HMADE2 HTRU HLOST ⊢
  generalize c.wa = wa at HMADE2 HTRU ⊢
  generalize c.wn = wn at HMADE2 HTRU ⊢
  generalize c.wc = wc at HMADE2 HTRU ⊢
  go_enter Try.func5, Try.ntmps5
  go_upto_region 1 with (fail)
  have hx1 : Ext w (w.alloc (.cells #[.slice pa pcn pcc, .slice oa ocn occ, .int .i64 sa, .int .i64 sb, .int .i64 sc, .int .i64 lo, .slice wa wn wc] 27)) := bl_alloc (Below.refl _ _) _
  have J := Blk.new w 27 #[.slice pa pcn pcc, .slice oa ocn occ, .int .i64 sa, .int .i64 sb, .int .i64 sc, .int .i64 lo, .slice wa wn wc]
  obtain ⟨g3, hg3⟩ : ∃ g, g = w.heap.size := ⟨_, rfl⟩
  rw [← hg3] at J ⊢
  clear hg3
  generalize w.alloc (.cells #[.slice pa pcn pcc, .slice oa ocn occ, .int .i64 sa, .int .i64 sb, .int .i64 sc, .int .i64 lo, .slice wa wn wc] 27) = W1 at hx1 J ⊢
  have HJ := Lib.hid J
  clear J
  go_wp2_with fail
  refine (HSANE.out _).mono ?_
  rintro e W2 ⟨rfl, hy⟩
  have hx2 := Ext.trans hx1 hy
  have hj := HJ.out.ext hy
  have d0 : W2.cell? ⟨g3, 0, none⟩ = some (.slice pa pcn pcc) := hj.cell 0
  have d1 : W2.cell? ⟨g3, 1, none⟩ = some (.slice oa ocn occ) := hj.cell 1
  have d2 : W2.cell? ⟨g3, 2, none⟩ = some (.int .i64 sa) := hj.cell 2
  have d3 : W2.cell? ⟨g3, 3, none⟩ = some (.int .i64 sb) := hj.cell 3
  have d4 : W2.cell? ⟨g3, 4, none⟩ = some (.int .i64 sc) := hj.cell 4
  have d5 : W2.cell? ⟨g3, 5, none⟩ = some (.int .i64 lo) := hj.cell 5
  have d6 : W2.cell? ⟨g3, 6, none⟩ = some (.slice wa wn wc) := hj.cell 6
  have HC := Lib.hid (HMADE2.out W2 hx2)
  clear hj hx1 HSANE HMADE2
  have HJ := Lib.hid (HJ.out.ext hy)
  clear hy
  go_wp2_with fail
  refine HC.out.mono ?_
  rintro e W3 ⟨OA, PA, SA, oc, pc, sc_, os, rfl, hmr, hy⟩
  have hx3 := Ext.trans hx2 hy
  have hj := HJ.out.ext hy
  clear d0 d1 d2 d3 d4 d5 d6 HC hx2
  have d5 : W3.cell? ⟨g3, 5, none⟩ = some (.int .i64 lo) := hj.cell 5
  have HC := Lib.hid (HLOST.out W3 OA PA SA oc pc sc_ os hmr)
  have HMR := Lib.hid hmr
  have HJ := Lib.hid hj
  clear hmr hj HLOST hy
  go_wp2_with fail
  refine HC.out.mono ?_
  rintro e W4 ⟨LA, ln, lc, rfl, hl, hy⟩
  have hx4 := Ext.trans hx3 hy
  have hj := HJ.out.ext hy
  have hmr := HMR.out.ext hy
  clear d5 HC HJ HMR hx3 hy
  have d0 : W4.cell? ⟨g3, 0, none⟩ = some (.slice pa pcn pcc) := hj.cell 0
  have d1 : W4.cell? ⟨g3, 1, none⟩ = some (.slice oa ocn occ) := hj.cell 1
  have d2 : W4.cell? ⟨g3, 2, none⟩ = some (.int .i64 sa) := hj.cell 2
  have d3 : W4.cell? ⟨g3, 3, none⟩ = some (.int .i64 sb) := hj.cell 3
  have d4 : W4.cell? ⟨g3, 4, none⟩ = some (.int .i64 sc) := hj.cell 4
  have d5 : W4.cell? ⟨g3, 5, none⟩ = some (.int .i64 lo) := hj.cell 5
  have d6 : W4.cell? ⟨g3, 6, none⟩ = some (.slice wa wn wc) := hj.cell 6
  have HC := Lib.hid (HTRU.out W4 hx4 OA PA SA oc pc sc_ os hmr)
  have HL := Lib.hid hl
  have HMR := Lib.hid hmr
  clear hj hl hmr HTRU
  go_wp2_with fail
  refine HC.out.mono ?_
  rintro e W5 ⟨RA_, rn, rc, NA, nn, nc, rfl, hr, hnt, hrn, hnn, hy⟩
  have hx5 := Ext.trans hx4 hy
  have HL := Lib.hid (ra_ext HL.out hy)
  have HMR := Lib.hid (HMR.out.ext hy)
  have HNT := Lib.hid hnt
  clear d0 d1 d2 d3 d4 d5 d6 HC hx4 hy hnt
  have HC := Lib.hid (HTUR.out W5 OA PA SA LA RA_ oc pc sc_ ln lc rn rc os HMR.out HL.out hr hrn)
  clear HTUR hr hrn
  go_wp2_with fail
  refine (HPK.out _).mono ?_
  rintro e w2 ⟨rfl, rfl⟩
  clear HPK
  go_wp2_with fail
  refine HC.out.mono ?_
  rintro e W6 ⟨QA, qn, qc, rfl, hq, hqn, _, hy⟩
  have hx6 := Ext.trans hx5 hy
  have HL := Lib.hid (ra_ext HL.out hy)
  have HMR := Lib.hid (HMR.out.ext hy)
  have HQ := Lib.hid hq
  have HC := Lib.hid (HHEA.out W6 hx6 OA PA SA NA oc pc sc_ nn nc os HMR.out (ra_ext HNT.out hy) hnn)
  clear HHEA HNT hq hqn hx5 hy hnn
  go_wp2_with fail
  refine HC.out.mono ?_
  rintro e W7 ⟨TA, tn, tc, rfl, ht, _, hy⟩
  have hx7 := Ext.trans hx6 hy
  have HL := Lib.hid (ra_ext HL.out hy)
  have HMR := Lib.hid (HMR.out.ext hy)
  have HC := Lib.hid (HREC.out W7 OA PA SA QA TA oc pc sc_ qn qc tn tc os HMR.out (ra_ext HQ.out hy) ht)
  clear HREC HQ ht hx6 hy
  go_wp2_with fail
  refine HC.out.mono ?_
  rintro e W8 ⟨FA, fc, DA, dc, fs, rfl, hfs, hfp, hy⟩
  have hx8 := Ext.trans hx7 hy
  have HL := Lib.hid (ra_ext HL.out hy)
  have HMR := Lib.hid (HMR.out.ext hy)
  have HFS := Lib.hid hfs
  have HFP := Lib.hid hfp
  clear HC hfs hfp hx7 hy
  have hLL : ((L : Int) == (L : Int)) = true := by simp
  have hLN : ((L : Int) != (L : Int)) = false := by simp
  go_wp2_with fail
  go_loopw [20] (fun i wr => ∃ k : Nat, k ≤ L ∧ i = .int .i64 k ∧ Ext W8 wr) (fun i _ => L - (intOf i).toNat)
  case atStart => exact ⟨0, Nat.zero_le _, rfl, Ext.refl _⟩
  case round =>
    clear hLL hLN
    obtain ⟨k, hk, rfl, hx⟩ := hrel
    by_cases hkL : k < L
    · have hmr := HMR.out.ext hx
      have hfs := HFS.out.ext hx
      have hlen : os.length = L := by rw [HLL.out]; exact hmr.ho.out.len
      obtain ⟨b, ob, hz, hA, _, hc⟩ := hmr.ho.out.at_ opt_len (by rw [← HLL.out]; exact hkL)
      obtain ⟨bf, of_, hzf, hFA, _, hcf⟩ := hfs.out.at_ fte_len hkL
      have hse := HSEN.out wr OA PA SA LA oc pc sc_ ln lc os hmr (ra_ext HL.out hx) k hz
      obtain ⟨z, hzO, hzb, hf1, hf2, hf3⟩ := HFACT.out fs os k hzf hz HFP.out HMR.out.op
      have hea := hmr.ho.each os[k] (List.getElem_mem hz)
      have hra := hfs.each fs[k] (List.getElem_mem hzf)
      rw [hzO] at hse
      clear hzO hfs hmr hlen
      generalize os[k] = o at hc hea hse hzb hf1 hf2 hf3
      generalize fs[k] = x at hcf hra hf1 hf2 hf3
      obtain ⟨id, i1, i2, i3, i4, i5, i6, i7, a, m, d, l⟩ := o
      obtain ⟨⟨im, st, fl, fr, tt⟩, xa, xc⟩ := x
      dsimp only at hea hse hzb hf1 hf2 hf3 hra
      subst hf1
      have hml := hea.len
      have c0 : wr.cell? ⟨b, ob + k * 9, none⟩ = some (.int .i64 im) := hc 0 (by omega)
      have c1_ : wr.cell? ⟨b, ob + k * 9 + 1, none⟩ = some (.int .i64 i1) := hc 1 (by omega)
      have c2_ : wr.cell? ⟨b, ob + k * 9 + 2, none⟩ = some (.int .i64 i2) := hc 2 (by omega)
      have c3_ : wr.cell? ⟨b, ob + k * 9 + 3, none⟩ = some (.int .i64 i3) := hc 3 (by omega)
      have c4 : wr.cell? ⟨b, ob + k * 9 + 4, none⟩ = some (.int .i64 i4) := hc 4 (by omega)
      have c5 : wr.cell? ⟨b, ob + k * 9 + 5, none⟩ = some (.int .i64 i5) := hc 5 (by omega)
      have c6 : wr.cell? ⟨b, ob + k * 9 + 6, none⟩ = some (.int .i64 i6) := hc 6 (by omega)
      have c7 : wr.cell? ⟨b, ob + k * 9 + 7, none⟩ = some (.int .i64 i7) := hc 7 (by omega)
      have c8 : wr.cell? ⟨b, ob + k * 9 + 8, none⟩ = some (.slice a m d) := hc 8 (by omega)
      have c8' : wr.cell? ⟨b, ob + k * 9 + (7 + 1), none⟩ = some (.slice a m d) := c8
      have f0 : wr.cell? ⟨bf, of_ + k * 5, none⟩ = some (.int .i64 im) := hcf 0 (by omega)
      have f1 : wr.cell? ⟨bf, of_ + k * 5 + 1, none⟩ = some (.int .i64 st) := hcf 1 (by omega)
      have f2 : wr.cell? ⟨bf, of_ + k * 5 + 2, none⟩ = some (.slice xa fl.length xc) := hcf 2 (by omega)
      have hkz : (k : Int) < (L : Int) := by omega
      have HSQ := Lib.hid hse
      have HEA := Lib.hid hea
      have HRA := Lib.hid hra
      have HKL := Lib.hid hkL
      subst hA hFA
      clear hc hcf hse hea hra
      go_wp2_with fail
      refine HSQ.out.mono ?_
      rintro e W9 ⟨rfl, hy⟩
      have hx9 := Ext.trans hx hy
      have c0 := ext_cell hy c0
      have c8 := ext_cell hy c8
      have c8' := ext_cell hy c8'
      have f0 := ext_cell hy f0
      have f1 := ext_cell hy f1
      have f2 := ext_cell hy f2
      have hea := HEA.out.below hy
      have HRA := Lib.hid (ra_ext HRA.out hy)
      clear c1_ c2_ c3_ c4 c5 c6 c7 HSQ hx HEA hy
      have him1 : (im == im) = true := by simp
      have him2 : (im != im) = false := by simp
      go_upto_region 16 with (fail)
      rcases hzb with rfl | hzb
      · have hst := hf3 (fun h => absurd h.1 (by omega))
        have hst2 : (st == 1) = false := by simpa using hst
        have hm1 : ¬ (m : Int) ≤ -1 := by omega
        have hm2 : decide ((m : Int) ≤ -1) = false := decide_eq_false hm1
        clear hf2 hf3 hea
        go_quiet (fail)
        have hy : Ext W9 (W9.drewN nq) := drewN_ext _ _
        have f1 := ext_cell hy f1
        have hx9 := Ext.trans hx9 hy
        generalize W9.drewN nq = W10 at hy f1 hx9 ⊢
        clear hy c0 c8 c8' f0 f2
        have HX := Lib.hid hx9
        clear hx9
        go_wp2
        go_roundw
        case rel => exact ⟨k + 1, HKL.out, by go_num, HX.out⟩
        case measure => have := HKL.out; simp [intOf]; omega
      · obtain ⟨zn, rfl⟩ : ∃ q : Nat, z = q := ⟨z.toNat, by omega⟩
        rw [show ((zn : Int)).toNat = zn by omega] at hf2 hf3
        have hzm : zn < m := by omega
        have hm0 : (0 : Int) ≤ (zn : Int) := by omega
        have hm1 : ¬ (m : Int) ≤ (zn : Int) := by omega
        have hm2 : decide ((m : Int) ≤ (zn : Int)) = false := decide_eq_false hm1
        have hm3 : (zn : Int) < (m : Int) := by omega
        obtain ⟨bs, os_, hzs, hAs, _, hcs⟩ := hea.at_ slt_len hzm
        have s2 : W9.cell? ⟨bs, os_ + zn * 3 + 2, none⟩ = some (.int .i64 (ttAt l zn)) := by rw [ttAt_eq hzs]; exact hcs 2 (by omega)
        generalize ttAt l zn = ta at hf2 hf3 s2
        rw [hAs] at c8 c8'
        clear hcs hzb hea
        go_quiet (fail)
        have hy : Ext W9 (W9.drewN nq) := drewN_ext _ _
        have c8 := ext_cell hy c8
        have c8' := ext_cell hy c8'
        have s2 := ext_cell hy s2
        have f1 := ext_cell hy f1
        have f2 := ext_cell hy f2
        have HRA := Lib.hid (ra_ext HRA.out hy)
        have hx9 := Ext.trans hx9 hy
        generalize W9.drewN nq = W10 at hy c8 c8' s2 f1 f2 HRA hx9 ⊢
        clear hy c0 f0
        by_cases hov : ta ≤ t
        · obtain ⟨rfl, hhas⟩ := hf2 ⟨hm0, hov⟩
          have hhq := has_any (fl.map (fun k : Nat => (k : Int))) (zn : Int) xa fl.length xc W10 HRA.out.nat
          rw [hhas] at hhq
          have HH := Lib.hid hhq
          have HX := Lib.hid hx9
          clear hf2 hf3 hhas hhq hx9
          go_wp2_with fail
          refine HH.out.mono ?_
          rintro e w2 ⟨rfl, rfl⟩
          clear f1 f2 c8 c8' s2 HH
          go_wp2
          go_roundw
          case rel => exact ⟨k + 1, HKL.out, by go_num, HX.out⟩
          case measure => have := HKL.out; simp [intOf]; omega
        · have hst := hf3 (fun h => hov h.2)
          have hst2 : (st == 1) = false := by simpa using hst
          have HX := Lib.hid hx9
          clear hf2 hf3 hx9
          go_wp2
          go_roundw
          case rel => exact ⟨k + 1, HKL.out, by go_num, HX.out⟩
          case measure => have := HKL.out; simp [intOf]; omega
    · have HX := Lib.hid (Ext.trans hx8 hx)
      go_wp2
      go_ret
      exact ⟨rfl, HX.out⟩
end Go.Proofs.Ytmlabgmigakcbaa
