/- The walk of ReceiptLog (printed by receipt_walks.py). -/
import Derived.Test.YtmlabgmigakcbaaX8
namespace Go.Proofs.Ytmlabgmigakcbaa
open Go.RowKit

set_option maxRecDepth 100000 in
set_option maxHeartbeats 16000000 in
theorem log_walk (c : Cas) (now : Int) (w : World) (hc : CasR w w.heap.size c) (hnow : I64ok now) :
    Calls Try.prog 6 #[casV c, .int .i64 now] w fun e w' => e = .returned (.bool true) ∧ Below w.heap.size w w' := by
  have HSANE := Lib.hid (fun W : World => sane_any W)
  have HMADE := Lib.hid (fun (W : World) (hW : Ext w W) => (made_any c W (hc.ext hW)).mono fun _ _ h => h.out)
  have HTRU := Lib.hid (fun (W : World) (hW : Ext w W) (OA PA SA : Option Addr) (oc pc sc : Nat) (os : List Opt) (h : MadeR W c OA PA SA oc pc sc os) => truth_cas c OA PA SA oc pc sc os W (hc.ext hW) h)
  have HLOST := Lib.hid (fun (W : World) (OA PA SA : Option Addr) (oc pc sc : Nat) (os : List Opt) (h : MadeR W c OA PA SA oc pc sc os) => lost_ra c PA pc W h.ps hc.lost)
  have PK := fun W => pickl_any now 9000 W hnow.1 hnow.2 (by omega) (by omega)
  have hpb := pickI_bd now 9000 (by omega)
  generalize pickI now 9000 = t at PK hpb
  have HPK := Lib.hid PK
  have HTUR := Lib.hid (fun (W : World) (OA PA SA LA RA_ : Option Addr) (oc pc sc ln lc rn rc : Nat) (os : List Opt) (h : MadeR W c OA PA SA oc pc sc os) hl hr hrn => turned_cas c t 0 OA PA SA LA RA_ oc pc sc ln lc rn rc os W h hl hr hrn ⟨by omega, by omega⟩)
  have HHEN := Lib.hid (fun (W : World) (OA PA SA NA : Option Addr) (oc pc sc nn nc : Nat) (os : List Opt) (h : MadeR W c OA PA SA oc pc sc os) h2 h3 => heard_cas c t [] OA PA SA NA none oc pc sc nn nc 0 0 os W h h2 RA.nil_ (fun x hx => by cases hx) h3)
  have HREC := Lib.hid (fun (W : World) (OA PA SA QA NA : Option Addr) (oc pc sc qn qc nn nc : Nat) (os : List Opt) (h : MadeR W c OA PA SA oc pc sc os) h2 h3 => rec_own_cas c t 0 [] OA PA SA QA NA oc pc sc qn qc nn nc os W h h2 h3 (by omega))
  have HSEN := Lib.hid (fun (W : World) (OA PA SA LA : Option Addr) (oc pc sc ln lc : Nat) (os : List Opt) (h : MadeR W c OA PA SA oc pc sc os) h2 (k : Nat) (hk : k < os.length) => sent_cas c os[k] OA PA SA LA oc pc sc ln lc os W h h2 (List.getElem_mem hk))
  obtain ⟨cK, hc0, hcS, hcL, hc8⟩ := log_count c t
  have HLA := Lib.hid (fun (fs : List Fte) (os : List Opt) (k : Nat) h1 h2 e1 e2 => (log_at c t fs os k h1 h2 e1 e2).imp fun z h => (⟨h.1, h.2.1, h.2.2.1, h.2.2.2.1, h.2.2.2.2 cK hcS⟩ : _ ∧ _ ∧ _ ∧ _ ∧ _))
  have HDEL : Hid (∀ (W : World) (FA : Option Addr) (n fc : Nat) (fs : List Fte), n < 20 → RA fteCells 5 W W.heap.size FA n fc fs → fs.map (·.p) = (casO c).map (trueF c t (toldL c t [])) → Calls Try.prog 20 #[.slice FA n fc] W fun e w' => ∃ v, e = .returned v ∧ OwnE w' W.heap.size v (logE c t) ∧ Ext W w') := Lib.hid (fun W FA n fc fs hn h e1 => by
    have h2 := Delivered_any fs FA n fc W h hn
    rw [e1] at h2
    exact h2)
  have hE8 := logE_len8 c t
  obtain ⟨E, hE⟩ : ∃ E, E = logE c t := ⟨_, rfl⟩
  rw [← hE] at HLA HDEL hE8 hcL
  have hnx : ∀ (j : Nat) (h : j + 1 < E.length), (E[j]'(by omega)).at_ ≤ E[j + 1].at_ := by rw [hE]; exact logE_next c t
  clear hE
  have HNX := Lib.hid hnx
  have HC0 := Lib.hid hc0
  have HC8 := Lib.hid hc8
  clear hcS hnx hc0 hc8
  have hL8 := casO_len c
  obtain ⟨L, hL⟩ : ∃ L, L = (casO c).length := ⟨_, rfl⟩
  rw [← hL] at hL8
  have HMADE2 : Hid (∀ (W : World), Ext w W → Calls Try.prog 11 #[casV c] W fun e w' => ∃ OA PA SA oc pc sc os, e = .returned (.tuple #[.slice OA L oc, .slice PA (casP c).length pc, .slice SA 3 sc]) ∧ MadeR w' c OA PA SA oc pc sc os ∧ Ext W w') := Lib.hid (by rw [hL]; exact HMADE.out)
  have HLL := Lib.hid hL
  rw [← hL] at HTRU HTUR HHEN HREC hcL
  clear hL HMADE hc PK
  have HCL := Lib.hid hcL
  clear hcL
  generalize (casP c).length = pn at HMADE2 HTRU HLOST HTUR HREC HSEN
  have hcv : casV c = .agg #[.slice c.pa c.pn c.pc, .slice c.oa c.on c.oc, .int .i64 c.sk.a, .int .i64 c.sk.b, .int .i64 c.sk.c, .int .i64 c.lost, .slice c.wa c.wn c.wc] := rfl
  rw [hcv] at HMADE2 HTRU ⊢
  clear hcv
  generalize c.pa = pa at HMADE2 HTRU ⊢
  generalize c.pn = pcn at HMADE2 HTRU ⊢
  generalize c.pc = pcc at HMADE2 HTRU ⊢
  generalize c.oa = oa at HMADE2 HTRU ⊢
  generalize c.on = ocn at HMADE2 HTRU ⊢
  generalize c.oc = occ at HMADE2 HTRU ⊢
  generalize c.sk.a = sa at HMADE2 HTRU ⊢
  generalize c.sk.b = sb at HMADE2 HTRU ⊢
  generalize c.sk.c = sc at HMADE2 HTRU ⊢
  generalize c.lost = lo at HMADE2 HTRU HLOST ⊢
  generalize c.wa = wa at HMADE2 HTRU ⊢
  generalize c.wn = wn at HMADE2 HTRU ⊢
  generalize c.wc = wc at HMADE2 HTRU ⊢
  go_enter Try.func6, Try.ntmps6
  go_upto_region 1 with (fail)
  have hx1 : Ext w (w.alloc (.cells #[.slice pa pcn pcc, .slice oa ocn occ, .int .i64 sa, .int .i64 sb, .int .i64 sc, .int .i64 lo, .slice wa wn wc] 27)) := bl_alloc (Below.refl _ _) _
  have J := Blk.new w 27 #[.slice pa pcn pcc, .slice oa ocn occ, .int .i64 sa, .int .i64 sb, .int .i64 sc, .int .i64 lo, .slice wa wn wc]
  obtain ⟨g3, hg3⟩ : ∃ g, g = w.heap.size := ⟨_, rfl⟩
  rw [← hg3] at J ⊢
  clear hg3
  generalize w.alloc (.cells #[.slice pa pcn pcc, .slice oa ocn occ, .int .i64 sa, .int .i64 sb, .int .i64 sc, .int .i64 lo, .slice wa wn wc] 27) = W1 at hx1 J ⊢
  have HJ := Lib.hid J
  clear J
  go_wp2_with fail
  refine (HSANE.out _).mono ?_
  rintro e W2 ⟨rfl, hy⟩
  have hx2 := Ext.trans hx1 hy
  have hj := HJ.out.ext hy
  have d0 : W2.cell? ⟨g3, 0, none⟩ = some (.slice pa pcn pcc) := hj.cell 0
  have d1 : W2.cell? ⟨g3, 1, none⟩ = some (.slice oa ocn occ) := hj.cell 1
  have d2 : W2.cell? ⟨g3, 2, none⟩ = some (.int .i64 sa) := hj.cell 2
  have d3 : W2.cell? ⟨g3, 3, none⟩ = some (.int .i64 sb) := hj.cell 3
  have d4 : W2.cell? ⟨g3, 4, none⟩ = some (.int .i64 sc) := hj.cell 4
  have d5 : W2.cell? ⟨g3, 5, none⟩ = some (.int .i64 lo) := hj.cell 5
  have d6 : W2.cell? ⟨g3, 6, none⟩ = some (.slice wa wn wc) := hj.cell 6
  have HC := Lib.hid (HMADE2.out W2 hx2)
  clear hj hx1 HSANE HMADE2
  have HJ := Lib.hid (HJ.out.ext hy)
  clear hy
  go_wp2_with fail
  refine HC.out.mono ?_
  rintro e W3 ⟨OA, PA, SA, oc, pc, sc_, os, rfl, hmr, hy⟩
  have hx3 := Ext.trans hx2 hy
  have hj := HJ.out.ext hy
  clear d0 d1 d2 d3 d4 d5 d6 HC hx2
  have d5 : W3.cell? ⟨g3, 5, none⟩ = some (.int .i64 lo) := hj.cell 5
  have HC := Lib.hid (HLOST.out W3 OA PA SA oc pc sc_ os hmr)
  have HMR := Lib.hid hmr
  have HJ := Lib.hid hj
  clear hmr hj HLOST hy
  go_wp2_with fail
  refine HC.out.mono ?_
  rintro e W4 ⟨LA, ln, lc, rfl, hl, hy⟩
  have hx4 := Ext.trans hx3 hy
  have hj := HJ.out.ext hy
  have hmr := HMR.out.ext hy
  clear d5 HC HJ HMR hx3 hy
  have d0 : W4.cell? ⟨g3, 0, none⟩ = some (.slice pa pcn pcc) := hj.cell 0
  have d1 : W4.cell? ⟨g3, 1, none⟩ = some (.slice oa ocn occ) := hj.cell 1
  have d2 : W4.cell? ⟨g3, 2, none⟩ = some (.int .i64 sa) := hj.cell 2
  have d3 : W4.cell? ⟨g3, 3, none⟩ = some (.int .i64 sb) := hj.cell 3
  have d4 : W4.cell? ⟨g3, 4, none⟩ = some (.int .i64 sc) := hj.cell 4
  have d5 : W4.cell? ⟨g3, 5, none⟩ = some (.int .i64 lo) := hj.cell 5
  have d6 : W4.cell? ⟨g3, 6, none⟩ = some (.slice wa wn wc) := hj.cell 6
  have HC := Lib.hid (HTRU.out W4 hx4 OA PA SA oc pc sc_ os hmr)
  have HL := Lib.hid hl
  have HMR := Lib.hid hmr
  clear hj hl hmr HTRU
  go_wp2_with fail
  refine HC.out.mono ?_
  rintro e W5 ⟨RA_, rn, rc, NA, nn, nc, rfl, hr, hnt, hrn, hnn, hy⟩
  have hx5 := Ext.trans hx4 hy
  have HL := Lib.hid (ra_ext HL.out hy)
  have HMR := Lib.hid (HMR.out.ext hy)
  have HNT := Lib.hid hnt
  have HR := Lib.hid hr
  have HRN := Lib.hid hrn
  have HNN := Lib.hid hnn
  clear d0 d1 d2 d3 d4 d5 d6 HC hx4 hy hnt hr hrn hnn
  go_wp2_with fail
  refine (HPK.out _).mono ?_
  rintro e w2 ⟨rfl, rfl⟩
  clear HPK
  have HC := Lib.hid (HTUR.out W5 OA PA SA LA RA_ oc pc sc_ ln lc rn rc os HMR.out HL.out HR.out HRN.out)
  go_wp2_with fail
  refine HC.out.mono ?_
  rintro e W6 ⟨QA, qn, qc, rfl, hq, hqn, _, hy⟩
  clear HC
  have hx6 := Ext.trans hx5 hy
  have HL := Lib.hid (ra_ext HL.out hy)
  have HMR := Lib.hid (HMR.out.ext hy)
  have HNT := Lib.hid (ra_ext HNT.out hy)
  have HQ := Lib.hid hq
  clear hq hqn HTUR HR
  clear hx5 hy
  have HC := Lib.hid (HHEN.out W6 OA PA SA NA oc pc sc_ nn nc os HMR.out HNT.out HNN.out)
  go_wp2_with fail
  refine HC.out.mono ?_
  rintro e W7 ⟨TA, tn, tc, rfl, ht, _, hy⟩
  clear HC
  have hx7 := Ext.trans hx6 hy
  have HL := Lib.hid (ra_ext HL.out hy)
  have HMR := Lib.hid (HMR.out.ext hy)
  have HNT := Lib.hid (ra_ext HNT.out hy)
  have HQ := Lib.hid (ra_ext HQ.out hy)
  have HT := Lib.hid ht
  clear ht HHEN
  clear hx6 hy
  have HC := Lib.hid (HREC.out W7 OA PA SA QA TA oc pc sc_ qn qc tn tc os HMR.out HQ.out HT.out)
  go_wp2_with fail
  refine HC.out.mono ?_
  rintro e W8 ⟨FA, fc, DA, dc, fs, rfl, hfs, hfp, hy⟩
  clear HC
  have hx8 := Ext.trans hx7 hy
  have HL := Lib.hid (ra_ext HL.out hy)
  have HMR := Lib.hid (HMR.out.ext hy)
  have HFS := Lib.hid hfs
  have HFP := Lib.hid hfp
  clear hfs hfp HREC HT HQ HNT
  clear hx7 hy
  have hLL : ((L : Int) == (L : Int)) = true := by simp
  have hLN : ((L : Int) != (L : Int)) = false := by simp
  have HC := Lib.hid (HDEL.out W8 FA L fc fs (by omega) HFS.out.out HFP.out)
  clear HDEL
  go_wp2_with fail
  refine HC.out.mono ?_
  rintro e W9 ⟨v9, rfl, ho9, hy⟩
  obtain ⟨EA, ec, rfl, _, _⟩ := own_slice ho9
  have hx9 := Ext.trans hx8 hy
  have HL := Lib.hid (ra_ext HL.out hy)
  have HMR := Lib.hid (HMR.out.ext hy)
  have HFS := Lib.hid (HFS.out.ext hy)
  have hea := RA.of_own (cells := evtCells) ho9 rfl (by omega)
  have HE := Lib.hid hea
  have hen := hea.len
  clear HC hx8 hy ho9 hLL hLN hea
  obtain ⟨en, hen⟩ : ∃ q, q = E.length := ⟨_, rfl⟩
  rw [← hen] at HE HCL hE8 ⊢
  have HEN := Lib.hid hen
  clear hen
  go_wp2_with fail
  go_loopw [17, 18] (fun m i wr => ∃ k : Nat, k ≤ L ∧ i = .int .i64 k ∧ m = .int .i64 (cK k : Nat) ∧ Ext W9 wr) (fun _ i _ => L - (intOf i).toNat)
  case atStart => exact ⟨0, Nat.zero_le _, rfl, by rw [HC0.out]; rfl, Ext.refl _⟩
  case round =>
    obtain ⟨k, hk, rfl, rfl, hx⟩ := hrel
    by_cases hkL : k < L
    · have hmr := HMR.out.ext hx
      have hfs := HFS.out.ext hx
      obtain ⟨b, ob, hz, hA, _, hc⟩ := hmr.ho.out.at_ opt_len (by rw [← HLL.out]; exact hkL)
      obtain ⟨bf, of_, hzf, hFA, _, hcf⟩ := hfs.out.at_ fte_len (by first | exact hkL | (rw [← HLL.out]; exact hkL))
      have hse := HSEN.out wr OA PA SA LA oc pc sc_ ln lc os hmr (ra_ext HL.out hx) k hz
      obtain ⟨z, hzO, hzb, hf1, hf2, hck⟩ := HLA.out fs os k hzf hz HFP.out HMR.out.op
      have hea := hmr.ho.each os[k] (List.getElem_mem hz)
      have hra := hfs.each fs[k] (List.getElem_mem hzf)
      have hk8 := HC8.out k
      rw [hzO] at hse
      clear hzO hfs hmr
      generalize os[k] = o at hc hea hse hzb hf1 hf2 hck
      generalize fs[k] = x at hcf hra hf1 hf2
      obtain ⟨id, i1, i2, i3, i4, i5, i6, i7, a, m, d, l⟩ := o
      obtain ⟨⟨im, st, fl, fr, tt⟩, xa, xc⟩ := x
      dsimp only at hea hse hzb hf1 hf2 hra hck
      have hml := hea.len
      have c0 : wr.cell? ⟨b, ob + k * 9, none⟩ = some (.int .i64 id) := hc 0 (by omega)
      have c1_ : wr.cell? ⟨b, ob + k * 9 + 1, none⟩ = some (.int .i64 i1) := hc 1 (by omega)
      have c2_ : wr.cell? ⟨b, ob + k * 9 + 2, none⟩ = some (.int .i64 i2) := hc 2 (by omega)
      have c3_ : wr.cell? ⟨b, ob + k * 9 + 3, none⟩ = some (.int .i64 i3) := hc 3 (by omega)
      have c4 : wr.cell? ⟨b, ob + k * 9 + 4, none⟩ = some (.int .i64 i4) := hc 4 (by omega)
      have c5 : wr.cell? ⟨b, ob + k * 9 + 5, none⟩ = some (.int .i64 i5) := hc 5 (by omega)
      have c6 : wr.cell? ⟨b, ob + k * 9 + 6, none⟩ = some (.int .i64 i6) := hc 6 (by omega)
      have c7 : wr.cell? ⟨b, ob + k * 9 + 7, none⟩ = some (.int .i64 i7) := hc 7 (by omega)
      have c8 : wr.cell? ⟨b, ob + k * 9 + 8, none⟩ = some (.slice a m d) := hc 8 (by omega)
      have c8' : wr.cell? ⟨b, ob + k * 9 + (7 + 1), none⟩ = some (.slice a m d) := c8
      have f1 : wr.cell? ⟨bf, of_ + k * 5 + 1, none⟩ = some (.int .i64 st) := hcf 1 (by omega)
      have f2 : wr.cell? ⟨bf, of_ + k * 5 + 2, none⟩ = some (.slice xa fl.length xc) := hcf 2 (by omega)
      have f3 : wr.cell? ⟨bf, of_ + k * 5 + 3, none⟩ = some (.int .i64 fr) := hcf 3 (by omega)
      have f4 : wr.cell? ⟨bf, of_ + k * 5 + 4, none⟩ = some (.int .i64 tt) := hcf 4 (by omega)
      have hkz : (k : Int) < (L : Int) := by omega
      have HSQ := Lib.hid hse
      have HEA := Lib.hid hea
      have HRA := Lib.hid hra
      have HKL := Lib.hid hkL
      subst hA hFA
      clear hc hcf hse hea hra
      go_wp2_with fail
      refine HSQ.out.mono ?_
      rintro e W10 ⟨rfl, hy⟩
      have hx10 := Ext.trans hx hy
      have c0 := ext_cell hy c0
      have c8 := ext_cell hy c8
      have c8' := ext_cell hy c8'
      have f1 := ext_cell hy f1
      have f2 := ext_cell hy f2
      have f3 := ext_cell hy f3
      have f4 := ext_cell hy f4
      have hea := HEA.out.below hy
      have HRA := Lib.hid (ra_ext HRA.out hy)
      clear c1_ c2_ c3_ c4 c5 c6 c7 HSQ hx HEA hy
      rcases hzb with rfl | hzb
      · have hm1 : ¬ (m : Int) ≤ -1 := by omega
        have hm2 : decide ((m : Int) ≤ -1) = false := decide_eq_false hm1
        rw [if_neg (by omega), Nat.add_zero] at hck
        have HCK := Lib.hid hck
        have HX := Lib.hid hx10
        clear hf1 hf2 hea hck hx10 f2 f3 f4
        go_wp2
        go_roundw
        case rel => exact ⟨k + 1, HKL.out, by go_num, by rw [HCK.out]; rfl, HX.out⟩
        case measure => have := HKL.out; simp [intOf]; omega
      · obtain ⟨zn, rfl⟩ : ∃ q : Nat, z = q := ⟨z.toNat, by omega⟩
        rw [show ((zn : Int)).toNat = zn by omega] at hf1 hf2 hck
        have hzm : zn < m := by omega
        have hm0 : ¬ (zn : Int) < 0 := by omega
        have hm1 : ¬ (m : Int) ≤ (zn : Int) := by omega
        have hm2 : decide ((m : Int) ≤ (zn : Int)) = false := decide_eq_false hm1
        have hm3 : (zn : Int) < (m : Int) := by omega
        obtain ⟨bs, os_, hzs, hAs, _, hcs⟩ := hea.at_ slt_len hzm
        have s2 : W10.cell? ⟨bs, os_ + zn * 3 + 2, none⟩ = some (.int .i64 (ttAt l zn)) := by rw [ttAt_eq hzs]; exact hcs 2 (by omega)
        generalize ttAt l zn = ta at hf1 hf2 hck s2
        rw [hAs] at c8 c8'
        clear hcs hzb hea
        by_cases hov : ta ≤ t
        · obtain ⟨hp, hany⟩ := hf1 ⟨by omega, hov⟩
          injection hp with h1 h2 h3 h4 h5
          subst h1 h2 h3 h4 h5
          rw [if_pos ⟨by omega, hov⟩] at hck
          have HCK := Lib.hid hck
          have HANY := Lib.hid hany
          have HB0 : Hid (anyE im tt E = (false || anyE im tt (E.drop 0))) := Lib.hid (by simp)
          have hwk : IntKind.i64.wrap ((cK k : Nat) + 1 : Int) = (cK k : Nat) + 1 := IntWalk.i64_in _ (by omega)
          clear hf1 hf2 hck hany
          go_wp2_with fail
          go_loopw [22, 23] (fun b j wi => ∃ (q : Nat) (bb : Bool), q ≤ en ∧ j = .int .i64 q ∧ b = .bool bb ∧ Hid (anyE im tt E = (bb || anyE im tt (E.drop q))) ∧ Ext W10 wi) (fun _ j _ => en - (intOf j).toNat)
          case atStart => exact ⟨0, false, Nat.zero_le _, rfl, rfl, HB0, Ext.refl _⟩
          case round =>
            clear HB0
            obtain ⟨q, bb, hq, rfl, rfl, HB, hxi⟩ := hrel
            have c0 := ext_cell hxi c0
            by_cases hqn : q < en
            · obtain ⟨be, oe, hze, hEA, _, hce⟩ := (ra_ext HE.out (Ext.trans hx10 hxi)).at_ evt_len hqn
              have hst := HB.out
              rw [List.drop_eq_getElem_cons hze, anyE_cons] at hst
              generalize E[q] = ev at hce hst
              obtain ⟨eat, eim⟩ := ev
              dsimp only at hst
              have e0 : wr.cell? ⟨be, oe + q * 7, none⟩ = some (.int .i64 2) := hce 0 (by omega)
              have e1 : wr.cell? ⟨be, oe + q * 7 + 1, none⟩ = some (.int .i64 eat) := hce 1 (by omega)
              have e2 : wr.cell? ⟨be, oe + q * 7 + 2, none⟩ = some (.int .i64 eim) := hce 2 (by omega)
              have HST := Lib.hid hst
              have HQN := Lib.hid hqn
              have hqz : (q : Int) < (en : Int) := by omega
              subst hEA
              clear hce hst HB
              go_upto_region 27 with (fail)
              cases bb
              · by_cases he1 : eim = im
                · subst he1
                  have him1 : (eim == eim) = true := by simp
                  by_cases he2 : eat = tt
                  · subst he2
                    have hat1 : (eat == eat) = true := by simp
                    have HN2 : Hid (anyE eim eat E = (true || anyE eim eat (E.drop (q + 1)))) := Lib.hid (by rw [HST.out, decide_eq_true ⟨rfl, rfl⟩]; rfl)
                    clear HST
                    go_quiet (fail)
                    have HY : Hid (Ext W10 (wr.drewN nq)) := Lib.hid (Ext.trans hxi (by repeat (first | exact Below.refl _ _ | assumption | refine Below.drew ?_ | refine below_drewN ?_ _ | refine bl_alloc ?_ _ | refine Below.setCell ?_ (by first | (simp; done) | omega | (simp; omega)) _ | refine bl_then ?_ (by assumption))))
                    clear e0 e1 e2 c0 hxi
                    go_wp2
                    go_roundw
                    case rel => exact ⟨q + 1, true, HQN.out, by go_num, rfl, HN2, HY.out⟩
                    case measure => have := HQN.out; simp [intOf]; omega
                  · have hat1 : (eat == tt) = false := by simpa using he2
                    have HN2 : Hid (anyE eim tt E = (false || anyE eim tt (E.drop (q + 1)))) := Lib.hid (by rw [HST.out, decide_eq_false (fun h => he2 h.2)]; rfl)
                    clear HST
                    go_quiet (fail)
                    have HY : Hid (Ext W10 (wr.drewN nq)) := Lib.hid (Ext.trans hxi (by repeat (first | exact Below.refl _ _ | assumption | refine Below.drew ?_ | refine below_drewN ?_ _ | refine bl_alloc ?_ _ | refine Below.setCell ?_ (by first | (simp; done) | omega | (simp; omega)) _ | refine bl_then ?_ (by assumption))))
                    clear e0 e1 e2 c0 hxi
                    go_wp2
                    go_roundw
                    case rel => exact ⟨q + 1, false, HQN.out, by go_num, rfl, HN2, HY.out⟩
                    case measure => have := HQN.out; simp [intOf]; omega
                · have him1 : (eim == im) = false := by simpa using he1
                  have HN2 : Hid (anyE im tt E = (false || anyE im tt (E.drop (q + 1)))) := Lib.hid (by rw [HST.out, decide_eq_false (fun h => he1 h.1)]; rfl)
                  clear HST
                  go_quiet (fail)
                  have HY : Hid (Ext W10 (wr.drewN nq)) := Lib.hid (Ext.trans hxi (by repeat (first | exact Below.refl _ _ | assumption | refine Below.drew ?_ | refine below_drewN ?_ _ | refine bl_alloc ?_ _ | refine Below.setCell ?_ (by first | (simp; done) | omega | (simp; omega)) _ | refine bl_then ?_ (by assumption))))
                  clear e0 e1 e2 c0 hxi
                  go_wp2
                  go_roundw
                  case rel => exact ⟨q + 1, false, HQN.out, by go_num, rfl, HN2, HY.out⟩
                  case measure => have := HQN.out; simp [intOf]; omega
              · have HN2 : Hid (anyE im tt E = (true || anyE im tt (E.drop (q + 1)))) := Lib.hid (by rw [HST.out]; rfl)
                clear HST
                go_quiet (fail)
                have HY : Hid (Ext W10 (wr.drewN nq)) := Lib.hid (Ext.trans hxi (by repeat (first | exact Below.refl _ _ | assumption | refine Below.drew ?_ | refine below_drewN ?_ _ | refine bl_alloc ?_ _ | refine Below.setCell ?_ (by first | (simp; done) | omega | (simp; omega)) _ | refine bl_then ?_ (by assumption))))
                clear e0 e1 e2 c0 hxi
                go_wp2
                go_roundw
                case rel => exact ⟨q + 1, true, HQN.out, by go_num, rfl, HN2, HY.out⟩
                case measure => have := HQN.out; simp [intOf]; omega
            · have hbb : bb = true := by
                have h := HB.out
                rw [HANY.out, List.drop_of_length_le (by rw [← HEN.out]; omega)] at h
                cases bb
                · cases h
                · rfl
              subst hbb
              have hxa : Ext wr (wr.alloc (.cells #[.int .i64 (zn : Int)] 3)) := bl_alloc (Below.refl _ _) _
              have h1 := ra_ext (ra_ext HRA.out hxi) hxa
              have hI := ints_any xa (some ⟨wr.heap.size, 0, none⟩) 1 1 xc 1 [(zn : Int)] [(zn : Int)] _ h1.nat (RA.of_blk (Blk.new wr 3 #[.int .i64 (zn : Int)]) rfl rfl rfl (by omega))
              rw [decide_eq_true rfl] at hI
              have HI := Lib.hid hI
              have HXA := Lib.hid hxa
              have HX := Lib.hid (Ext.trans hx10 (Ext.trans hxi hxa))
              have f2 : wr.cell? ⟨bf, of_ + k * 5 + 2, none⟩ = some (.slice xa 1 xc) := ext_cell hxi f2
              have f3 := ext_cell hxi f3
              have f4 := ext_cell hxi f4
              have htt1 : (tt == tt) = true := by simp
              have htt2 : (tt != tt) = false := by simp
              clear HB hI h1 hxa hxi hx10 s2 f1 c8 c8' c0
              go_wp2_with fail
              refine HI.out.mono ?_
              rintro e W11 ⟨rfl, hy⟩
              have hy2 : Ext wr W11 := Ext.trans HXA.out hy
              have f3 := ext_cell hy2 f3
              have f4 := ext_cell hy2 f4
              have HX2 := Lib.hid (Ext.trans HX.out hy)
              clear hy hy2 HI f2 HX HXA
              go_wp2
              go_roundw
              case rel => exact ⟨k + 1, HKL.out, by go_num, by rw [HCK.out]; go_num, HX2.out⟩
              case measure => have := HKL.out; simp [intOf]; omega
        · have hst := hf2 (fun h => hov h.2)
          have hst2 : (st == 1) = false := by simpa using hst
          have hst3 : (st != 1) = true := by simpa using hst
          rw [if_neg (fun h => hov h.2), Nat.add_zero] at hck
          have HCK := Lib.hid hck
          have HX := Lib.hid hx10
          clear hf1 hf2 hck hx10 f2 f3 f4 s2
          go_wp2
          go_roundw
          case rel => exact ⟨k + 1, HKL.out, by go_num, by rw [HCK.out]; rfl, HX.out⟩
          case measure => have := HKL.out; simp [intOf]; omega
    · obtain rfl : k = L := by omega
      rw [HCL.out]
      have hx9w := Ext.trans hx9 hx
      have HE := Lib.hid (ra_ext HE.out hx)
      clear HMR HFS HL HSEN HLA HFP
      go_wp2_with fail
      go_loopw [24] (fun j wi => ∃ p : Nat, p ≤ en ∧ j = .int .i64 ((p + 1 : Nat) : Int) ∧ Ext wr wi) (fun j _ => en - (intOf j).toNat)
      case atStart => exact ⟨0, Nat.zero_le _, rfl, Ext.refl _⟩
      case round =>
        obtain ⟨p, hp, rfl, hxi⟩ := hrel
        by_cases hpn : p + 1 < en
        · have hre := ra_ext HE.out hxi
          obtain ⟨be, oe, hze, hEA, _, hce⟩ := hre.at_ evt_len hpn
          obtain ⟨be2, oe2, hze2, hEA2, _, hce2⟩ := hre.at_ evt_len (show p < en by omega)
          have hle := HNX.out p hze
          rw [hEA] at hEA2
          injection hEA2 with hEA2
          injection hEA2 with hb1 hb2 _
          subst hb1 hb2
          generalize E[p + 1] = ev at hce hle
          generalize E[p] = ev2 at hce2 hle
          obtain ⟨eat, eim⟩ := ev
          obtain ⟨eat2, eim2⟩ := ev2
          dsimp only at hle
          have e1 : wr.cell? ⟨be, oe + (p + 1) * 7 + 1, none⟩ = some (.int .i64 eat) := hce 1 (by omega)
          have e2 : wr.cell? ⟨be, oe + p * 7 + 1, none⟩ = some (.int .i64 eat2) := hce2 1 (by omega)
          have hpz : ((p + 1 : Nat) : Int) < (en : Int) := by omega
          have hpz2 : (p : Int) < (en : Int) := by omega
          have hlt : ¬ eat < eat2 := by omega
          have HPN := Lib.hid hpn
          have HXI := Lib.hid hxi
          subst hEA
          clear hce hce2 hre hxi
          go_upto_region 33 with (fail)
          refine wp_region_obl 11 (fun ix vals v w1 => match ix with | 0 => v = .slice (some ⟨be, oe, none⟩) en ec | 1 => v = .int .i64 ((p + 1 : Nat) : Int) | 2 => v = .pointer (some ⟨be, oe + (p + 1) * 7, none⟩) | 3 => v = .pointer (some ⟨be, oe + (p + 1) * 7 + 1, none⟩) | 4 => v = .int .i64 eat | 5 => v = .slice (some ⟨be, oe, none⟩) en ec | 6 => v = .int .i64 ((p + 1 : Nat) : Int) | 7 => v = .int .i64 (p : Int) | 8 => v = .pointer (some ⟨be, oe + p * 7, none⟩) | 9 => v = .pointer (some ⟨be, oe + p * 7 + 1, none⟩) | _ => v = .int .i64 eat2) (by kernel_rfl) (by kernel_rfl) ?_ ?_ ?_ ?_
          · intro ix vals v w1 w2 hi hr hx
            match ix, hr with
            | 0, hr => exact hr
            | 1, hr => exact hr
            | 2, hr => exact hr
            | 3, hr => exact hr
            | 4, hr => exact hr
            | 5, hr => exact hr
            | 6, hr => exact hr
            | 7, hr => exact hr
            | 8, hr => exact hr
            | 9, hr => exact hr
            | (kx + 10), hr => exact hr
          · intro ix vals vals_ v w1 hi hv hr
            exact hr
          · refine ⟨?_, ?_, ?_, ?_, ?_, ?_, ?_, ?_, ?_, ?_, ?_, trivial⟩
            · intro vals w1 hx hd ha
              clear hd ha
              simp only [Lf]
              go_wp2
              exact ⟨rfl, Ext.refl _, rfl⟩
            · intro vals w1 hx hd ha
              clear hd ha
              simp only [Lf, dstAt, Act.put, List.getElem?_toArray, List.getElem?_cons_zero, Option.bind_some, List.setIfInBounds_toArray, List.set_cons_zero, List.set_cons_succ]
              go_wp2
              exact ⟨rfl, Ext.refl _, rfl⟩
            · intro vals w1 hx hd ha
              have e0 : vals 0 = .slice (some ⟨be, oe, none⟩) en ec := hd 0 (by decide)
              have e1 : vals 1 = .int .i64 ((p + 1 : Nat) : Int) := hd 1 (by decide)
              clear hd ha
              simp only [Lf, dstAt, Act.put, List.getElem?_toArray, List.getElem?_cons_zero, List.getElem?_cons_succ, Option.bind_some, List.setIfInBounds_toArray, List.set_cons_zero, List.set_cons_succ]
              simp only [e0, e1]
              clear e0 e1
              go_wp2
              exact ⟨rfl, Ext.refl _, rfl⟩
            · intro vals w1 hx hd ha
              have e2 : vals 2 = .pointer (some ⟨be, oe + (p + 1) * 7, none⟩) := hd 2 (by decide)
              clear hd ha
              simp only [Lf, dstAt, Act.put, List.getElem?_toArray, List.getElem?_cons_zero, List.getElem?_cons_succ, Option.bind_some, List.setIfInBounds_toArray, List.set_cons_zero, List.set_cons_succ]
              simp only [e2]
              clear e2
              go_wp2
              exact ⟨rfl, Ext.refl _, rfl⟩
            · intro vals w1 hx hd ha
              have e3 : vals 3 = .pointer (some ⟨be, oe + (p + 1) * 7 + 1, none⟩) := hd 3 (by decide)
              clear hd ha
              simp only [Lf, dstAt, Act.put, List.getElem?_toArray, List.getElem?_cons_zero, List.getElem?_cons_succ, Option.bind_some, List.setIfInBounds_toArray, List.set_cons_zero, List.set_cons_succ]
              simp only [e3]
              clear e3
              have e1 := ext_cell hx e1
              go_wp2
              exact ⟨rfl, Ext.refl _, rfl⟩
            · intro vals w1 hx hd ha
              clear hd ha
              simp only [Lf, dstAt, Act.put, List.getElem?_toArray, List.getElem?_cons_zero, List.getElem?_cons_succ, Option.bind_some, List.setIfInBounds_toArray, List.set_cons_zero, List.set_cons_succ]
              go_wp2
              exact ⟨rfl, Ext.refl _, rfl⟩
            · intro vals w1 hx hd ha
              clear hd ha
              simp only [Lf, dstAt, Act.put, List.getElem?_toArray, List.getElem?_cons_zero, List.getElem?_cons_succ, Option.bind_some, List.setIfInBounds_toArray, List.set_cons_zero, List.set_cons_succ]
              go_wp2
              exact ⟨rfl, Ext.refl _, rfl⟩
            · intro vals w1 hx hd ha
              have e6 : vals 6 = .int .i64 ((p + 1 : Nat) : Int) := hd 6 (by decide)
              clear hd ha
              simp only [Lf, dstAt, Act.put, List.getElem?_toArray, List.getElem?_cons_zero, List.getElem?_cons_succ, Option.bind_some, List.setIfInBounds_toArray, List.set_cons_zero, List.set_cons_succ]
              simp only [e6]
              clear e6
              go_wp2
              exact ⟨rfl, Ext.refl _, by go_num⟩
            · intro vals w1 hx hd ha
              have e5 : vals 5 = .slice (some ⟨be, oe, none⟩) en ec := hd 5 (by decide)
              have e7 : vals 7 = .int .i64 (p : Int) := hd 7 (by decide)
              clear hd ha
              simp only [Lf, dstAt, Act.put, List.getElem?_toArray, List.getElem?_cons_zero, List.getElem?_cons_succ, Option.bind_some, List.setIfInBounds_toArray, List.set_cons_zero, List.set_cons_succ]
              simp only [e5, e7]
              clear e5 e7
              go_wp2
              exact ⟨rfl, Ext.refl _, rfl⟩
            · intro vals w1 hx hd ha
              have e8 : vals 8 = .pointer (some ⟨be, oe + p * 7, none⟩) := hd 8 (by decide)
              clear hd ha
              simp only [Lf, dstAt, Act.put, List.getElem?_toArray, List.getElem?_cons_zero, List.getElem?_cons_succ, Option.bind_some, List.setIfInBounds_toArray, List.set_cons_zero, List.set_cons_succ]
              simp only [e8]
              clear e8
              go_wp2
              exact ⟨rfl, Ext.refl _, rfl⟩
            · intro vals w1 hx hd ha
              have e9 : vals 9 = .pointer (some ⟨be, oe + p * 7 + 1, none⟩) := hd 9 (by decide)
              clear hd ha
              simp only [Lf, dstAt, Act.put, List.getElem?_toArray, List.getElem?_cons_zero, List.getElem?_cons_succ, Option.bind_some, List.setIfInBounds_toArray, List.set_cons_zero, List.set_cons_succ]
              simp only [e9]
              clear e9
              have e2 := ext_cell hx e2
              go_wp2
              exact ⟨rfl, Ext.refl _, rfl⟩
          intro vals W12 hz hf
          have v4 : vals 4 = .int .i64 eat := hf 4 (by omega)
          have v10 : vals 10 = .int .i64 eat2 := hf 10 (by omega)
          have HXZ := Lib.hid (Ext.trans HXI.out hz.undrew)
          clear hf hz e1 e2
          refine tail1 11 _ (by kernel_rfl) (by kernel_rfl) rfl ?_
          simp only [Lf, dstAt, Act.put, List.getElem?_toArray, List.getElem?_cons_zero, List.getElem?_cons_succ, Option.bind_some, List.setIfInBounds_toArray, List.set_cons_zero, List.set_cons_succ]
          rw [v4, v10]
          clear v4 v10
          go_wp2
          go_roundw
          case rel => exact ⟨p + 1, by have := HPN.out; omega, by go_num, HXZ.out⟩
          case measure => have := HPN.out; simp [intOf]; omega
        · have HX := Lib.hid (Ext.trans hx9w hxi)
          have hpz : ¬ ((p + 1 : Nat) : Int) < (en : Int) := by omega
          have hee : ((en : Int) == (en : Int)) = true := by simp
          go_wp2
          go_ret
          exact ⟨rfl, HX.out⟩
end Go.Proofs.Ytmlabgmigakcbaa
