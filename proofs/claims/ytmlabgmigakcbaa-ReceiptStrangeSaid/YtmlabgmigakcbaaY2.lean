/- The walk of ReceiptStrange (printed by receipt_walks.py). -/
import Derived.Test.YtmlabgmigakcbaaX7
namespace Go.Proofs.Ytmlabgmigakcbaa
open Go.RowKit

set_option maxRecDepth 100000 in
set_option maxHeartbeats 16000000 in
theorem strange_walk (c : Cas) (whr station image at_ now : Int) (w : World) (hc : CasR w w.heap.size c) (hwh : I64ok whr) (hst : I64ok station) (him : I64ok image) (hat : I64ok at_) (hnow : I64ok now) :
    Calls Try.prog 8 #[casV c, .int .i64 whr, .int .i64 station, .int .i64 image, .int .i64 at_, .int .i64 now] w fun e w' => e = .returned (.bool true) ∧ Below w.heap.size w w' := by
  have HSANE := Lib.hid (fun W : World => sane_any W)
  have HMADE := Lib.hid (fun (W : World) (hW : Ext w W) => (made_any c W (hc.ext hW)).mono fun _ _ h => h.out)
  have HTRU := Lib.hid (fun (W : World) (hW : Ext w W) (OA PA SA : Option Addr) (oc pc sc : Nat) (os : List Opt) (h : MadeR W c OA PA SA oc pc sc os) => truth_cas c OA PA SA oc pc sc os W (hc.ext hW) h)
  have HLOST := Lib.hid (fun (W : World) (OA PA SA : Option Addr) (oc pc sc : Nat) (os : List Opt) (h : MadeR W c OA PA SA oc pc sc os) => lost_ra c PA pc W h.ps hc.lost)
  have PK := fun W => pickl_any now 9000 W hnow.1 hnow.2 (by omega) (by omega)
  have hpb := pickI_bd now 9000 (by omega)
  generalize pickI now 9000 = t at PK hpb
  have HPK := Lib.hid PK
  have Psv := fun W => pickl_any station 3 W hst.1 hst.2 (by omega) (by omega)
  have hbsv := pickI_bd station 3 (by omega)
  generalize pickI station 3 = sv at Psv hbsv
  have HPsv := Lib.hid Psv
  clear Psv
  have Piv := fun W => pickl_any image 12 W him.1 him.2 (by omega) (by omega)
  have hbiv := pickI_bd image 12 (by omega)
  generalize pickI image 12 = iv at Piv hbiv
  have HPiv := Lib.hid Piv
  clear Piv
  have Pav := fun W => pickl_any at_ 1000 W hat.1 hat.2 (by omega) (by omega)
  have hbav := pickI_bd at_ 1000 (by omega)
  generalize pickI at_ 1000 = av at Pav hbav
  have HPav := Lib.hid Pav
  clear Pav
  have Pbv := fun W => pickl_any at_ 9000 W hat.1 hat.2 (by omega) (by omega)
  have hbbv := pickI_bd at_ 9000 (by omega)
  generalize pickI at_ 9000 = bv at Pbv hbbv
  have HPbv := Lib.hid Pbv
  clear Pbv
  have HTUR := Lib.hid (fun (W : World) (OA PA SA LA RA_ : Option Addr) (oc pc sc ln lc rn rc : Nat) (os : List Opt) (h : MadeR W c OA PA SA oc pc sc os) hl hr hrn => turned_cas2 c t 0 OA PA SA LA RA_ oc pc sc ln lc rn rc os W h hl hr hrn ⟨by omega, by omega⟩)
  have HHEN := Lib.hid (fun (W : World) (OA PA SA NA : Option Addr) (oc pc sc nn nc : Nat) (os : List Opt) (h : MadeR W c OA PA SA oc pc sc os) h2 h3 => heard_cas c t [] OA PA SA NA none oc pc sc nn nc 0 0 os W h h2 RA.nil_ (fun x hx => by cases hx) h3)
  have HREC := Lib.hid (fun (W : World) (OA PA SA QA NA : Option Addr) (oc pc sc qn qc nn nc : Nat) (os : List Opt) (h : MadeR W c OA PA SA oc pc sc os) h2 h3 => rec_own_cas c t 0 [] OA PA SA QA NA oc pc sc qn qc nn nc os W h h2 h3 (by omega))
  have HROD := Lib.hid (fun (r : Rcp) (k : Nat) (W : World) (OA PA SA QA NA : Option Addr) (oc pc sc qn qc nn nc : Nat) (os : List Opt) (h : MadeR W c OA PA SA oc pc sc os) h2 h3 h4 h5 => rec_odd_cas c t r k OA PA SA QA NA oc pc sc qn qc nn nc os W h h2 h3 (by omega) h4 h5)
  have HRTW := Lib.hid (fun (W : World) (OA PA SA QA NA : Option Addr) (oc pc sc qn qc nn nc : Nat) (os : List Opt) (h : MadeR W c OA PA SA oc pc sc os) h2 h3 => rec_twice_cas c t OA PA SA QA NA oc pc sc qn qc nn nc os W h h2 h3 (by omega))
  have hL8 := casO_len c
  obtain ⟨L, hL⟩ : ∃ L, L = (casO c).length := ⟨_, rfl⟩
  rw [← hL] at hL8
  have HMADE2 : Hid (∀ (W : World), Ext w W → Calls Try.prog 11 #[casV c] W fun e w' => ∃ OA PA SA oc pc sc os, e = .returned (.tuple #[.slice OA L oc, .slice PA (casP c).length pc, .slice SA 3 sc]) ∧ MadeR w' c OA PA SA oc pc sc os ∧ Ext W w') := Lib.hid (by rw [hL]; exact HMADE.out)
  have HLL := Lib.hid hL
  rw [← hL] at HTRU HTUR HHEN HREC HROD HRTW
  clear hL HMADE hc PK
  generalize (casP c).length = pn at HMADE2 HTRU HLOST HTUR HREC HROD HRTW
  have hcv : casV c = .agg #[.slice c.pa c.pn c.pc, .slice c.oa c.on c.oc, .int .i64 c.sk.a, .int .i64 c.sk.b, .int .i64 c.sk.c, .int .i64 c.lost, .slice c.wa c.wn c.wc] := rfl
  rw [hcv] at HMADE2 HTRU ⊢
  clear hcv
  generalize c.pa = pa at HMADE2 HTRU ⊢
  generalize c.pn = pcn at HMADE2 HTRU ⊢
  generalize c.pc = pcc at HMADE2 HTRU ⊢
  generalize c.oa = oa at HMADE2 HTRU ⊢
  generalize c.on = ocn at HMADE2 HTRU ⊢
  generalize c.oc = occ at HMADE2 HTRU ⊢
  generalize c.sk.a = sa at HMADE2 HTRU ⊢
  generalize c.sk.b = sb at HMADE2 HTRU ⊢
  generalize c.sk.c = sc at HMADE2 HTRU ⊢
  generalize c.lost = lo at HMADE2 HTRU HLOST ⊢
  generalize c.wa = wa at HMADE2 HTRU ⊢
  generalize c.wn = wn at HMADE2 HTRU ⊢
  generalize c.wc = wc at HMADE2 HTRU ⊢
  generalize ownL c t 0 = O at HTUR HREC HROD HRTW
  go_enter Try.func8, Try.ntmps8
  go_upto_region 1 with (fail)
  have hx1 : Ext w (w.alloc (.cells #[.slice pa pcn pcc, .slice oa ocn occ, .int .i64 sa, .int .i64 sb, .int .i64 sc, .int .i64 lo, .slice wa wn wc] 27)) := bl_alloc (Below.refl _ _) _
  have J := Blk.new w 27 #[.slice pa pcn pcc, .slice oa ocn occ, .int .i64 sa, .int .i64 sb, .int .i64 sc, .int .i64 lo, .slice wa wn wc]
  obtain ⟨g3, hg3⟩ : ∃ g, g = w.heap.size := ⟨_, rfl⟩
  rw [← hg3] at J ⊢
  clear hg3
  generalize w.alloc (.cells #[.slice pa pcn pcc, .slice oa ocn occ, .int .i64 sa, .int .i64 sb, .int .i64 sc, .int .i64 lo, .slice wa wn wc] 27) = W1 at hx1 J ⊢
  have HJ := Lib.hid J
  clear J
  go_wp2_with fail
  refine (HSANE.out _).mono ?_
  rintro e W2 ⟨rfl, hy⟩
  have hx2 := Ext.trans hx1 hy
  have hj := HJ.out.ext hy
  have d0 : W2.cell? ⟨g3, 0, none⟩ = some (.slice pa pcn pcc) := hj.cell 0
  have d1 : W2.cell? ⟨g3, 1, none⟩ = some (.slice oa ocn occ) := hj.cell 1
  have d2 : W2.cell? ⟨g3, 2, none⟩ = some (.int .i64 sa) := hj.cell 2
  have d3 : W2.cell? ⟨g3, 3, none⟩ = some (.int .i64 sb) := hj.cell 3
  have d4 : W2.cell? ⟨g3, 4, none⟩ = some (.int .i64 sc) := hj.cell 4
  have d5 : W2.cell? ⟨g3, 5, none⟩ = some (.int .i64 lo) := hj.cell 5
  have d6 : W2.cell? ⟨g3, 6, none⟩ = some (.slice wa wn wc) := hj.cell 6
  have HC := Lib.hid (HMADE2.out W2 hx2)
  clear hj hx1 HSANE HMADE2
  have HJ := Lib.hid (HJ.out.ext hy)
  clear hy
  go_wp2_with fail
  refine HC.out.mono ?_
  rintro e W3 ⟨OA, PA, SA, oc, pc, sc_, os, rfl, hmr, hy⟩
  have hx3 := Ext.trans hx2 hy
  have hj := HJ.out.ext hy
  clear d0 d1 d2 d3 d4 d5 d6 HC hx2
  have d0 : W3.cell? ⟨g3, 0, none⟩ = some (.slice pa pcn pcc) := hj.cell 0
  have d1 : W3.cell? ⟨g3, 1, none⟩ = some (.slice oa ocn occ) := hj.cell 1
  have d2 : W3.cell? ⟨g3, 2, none⟩ = some (.int .i64 sa) := hj.cell 2
  have d3 : W3.cell? ⟨g3, 3, none⟩ = some (.int .i64 sb) := hj.cell 3
  have d4 : W3.cell? ⟨g3, 4, none⟩ = some (.int .i64 sc) := hj.cell 4
  have d5 : W3.cell? ⟨g3, 5, none⟩ = some (.int .i64 lo) := hj.cell 5
  have d6 : W3.cell? ⟨g3, 6, none⟩ = some (.slice wa wn wc) := hj.cell 6
  have HC := Lib.hid (HTRU.out W3 hx3 OA PA SA oc pc sc_ os hmr)
  have HMR := Lib.hid hmr
  have HJ := Lib.hid hj
  clear hmr hj HTRU hy
  go_wp2_with fail
  refine HC.out.mono ?_
  rintro e W4 ⟨RA_, rn, rc, NA, nn, nc, rfl, hr, hnt, hrn, hnn, hy⟩
  have hx4 := Ext.trans hx3 hy
  have hj := HJ.out.ext hy
  have hmr := HMR.out.ext hy
  clear d0 d1 d2 d3 d4 d5 d6 HC HJ HMR hx3 hy
  have d5 : W4.cell? ⟨g3, 5, none⟩ = some (.int .i64 lo) := hj.cell 5
  have HR := Lib.hid hr
  have HNT := Lib.hid hnt
  have HRN := Lib.hid hrn
  have HNN := Lib.hid hnn
  have HC := Lib.hid (HLOST.out W4 OA PA SA oc pc sc_ os hmr)
  have HMR := Lib.hid hmr
  clear hr hnt hrn hnn hj hmr HLOST
  go_wp2_with fail
  refine (HPK.out _).mono ?_
  rintro e w2 ⟨rfl, rfl⟩
  clear HPK
  go_wp2_with fail
  refine HC.out.mono ?_
  rintro e W5 ⟨LA, ln, lc, rfl, hl, hy⟩
  have hx5 := Ext.trans hx4 hy
  have HL := Lib.hid hl
  have HMR := Lib.hid (HMR.out.ext hy)
  have HR := Lib.hid (ra_ext HR.out hy)
  have HNT := Lib.hid (ra_ext HNT.out hy)
  clear d5 HC hl hx4 hy
  have HC := Lib.hid (HTUR.out W5 OA PA SA LA RA_ oc pc sc_ ln lc rn rc os HMR.out HL.out HR.out HRN.out)
  go_wp2_with fail
  refine HC.out.mono ?_
  rintro e W6 ⟨QA, qn, qc, rfl, hq, hqn, hqf, hy⟩
  clear HC
  have hx6 := Ext.trans hx5 hy
  have HMR := Lib.hid (HMR.out.ext hy)
  have HNT := Lib.hid (ra_ext HNT.out hy)
  have HQ := Lib.hid hq
  clear hq HTUR HR HL HRN
  clear hx5 hy
  have HC := Lib.hid (HHEN.out W6 OA PA SA NA oc pc sc_ nn nc os HMR.out HNT.out HNN.out)
  go_wp2_with fail
  refine HC.out.mono ?_
  rintro e W7 ⟨TA, tn, tc, rfl, ht, _, hy⟩
  clear HC
  have hx7 := Ext.trans hx6 hy
  have HMR := Lib.hid (HMR.out.ext hy)
  have HQ := Lib.hid (ra_ext HQ.out hy)
  have HT := Lib.hid ht
  clear ht HHEN HNT HNN
  clear hx6 hy
  have hpw := pickI_bd whr ((qn : Int) + 1) (by omega)
  have PK := fun W => pickl_any whr ((qn : Int) + 1) W hwh.1 hwh.2 (by omega) (by omega)
  generalize pickI whr ((qn : Int) + 1) = kz at hpw PK
  obtain ⟨k, rfl⟩ : ∃ q : Nat, kz = q := ⟨kz.toNat, by omega⟩
  have hkq : k ≤ qn := by omega
  have HPW := Lib.hid PK
  clear hpw PK
  go_wp2_with fail
  refine (HPW.out _).mono ?_
  rintro e w2 ⟨rfl, rfl⟩
  clear HPW
  go_wp2_with fail
  refine (HPsv.out _).mono ?_
  rintro e w2 ⟨rfl, rfl⟩
  clear HPsv
  go_wp2_with fail
  refine (HPiv.out _).mono ?_
  rintro e w2 ⟨rfl, rfl⟩
  clear HPiv
  have hw20 : IntKind.i64.wrap (20000 + av) = 20000 + av := IntWalk.i64_in _ (by omega)
  go_wp2_with fail
  refine (HPav.out _).mono ?_
  rintro e w2 ⟨rfl, rfl⟩
  clear HPav
  go_upto_region 12 with (fail)
  have J := Blk.new W7 63 #[.int .i64 sv, .int .i64 iv, .int .i64 (20000 + av)]
  have hxa : Ext W7 (W7.alloc (.cells #[.int .i64 sv, .int .i64 iv, .int .i64 (20000 + av)] 63)) := bl_alloc (Below.refl _ _) _
  obtain ⟨g5, hg5⟩ : ∃ g, g = W7.heap.size := ⟨_, rfl⟩
  rw [← hg5] at J ⊢
  have hg5w : W7.heap.size ≤ g5 := by omega
  generalize W7.alloc (.cells #[.int .i64 sv, .int .i64 iv, .int .i64 (20000 + av)] 63) = W8 at J hxa ⊢
  clear hg5 hw20
  have t1 : W8.cell? ⟨g5, 1, none⟩ = some (.int .i64 iv) := J.cell 1
  go_upto_if 85 with (fail)
  go_cut [] from 85 to 89 (fun wc => ∃ z, Blk wc g5 63 #[.int .i64 sv, .int .i64 iv, .int .i64 z] ∧ ((L : Int) ≤ iv ∨ 20000 ≤ z) ∧ Ext W7 wc)
  case first =>
    have t2 : W8.frozen? ⟨g5, 2, none⟩ = false := J.frozen 2
    have t2c : W8.cell? ⟨g5, 2, none⟩ = some (.int .i64 (20000 + av)) := J.cell 2
    by_cases hLi : (L : Int) ≤ iv
    · go_wp2_with (refine (HPbv.out _).mono ?_; rintro e w2 ⟨rfl, rfl⟩)
      go_meet
      case rel => exact ⟨bv, J.set_ 2 _, .inl hLi, Below.setCell hxa hg5w _⟩
    · go_wp2_with fail
      go_meet
      case rel => exact ⟨20000 + av, J, .inr (by omega), hxa⟩
  clear t1
  clear J hxa hg5w HPbv hbsv hbiv hbav hbbv
  obtain ⟨z, J, hzodd, hx⟩ := hcut
  obtain ⟨W9, hW9⟩ : ∃ q, q = wc := ⟨_, rfl⟩
  rw [← hW9] at J hx ⊢
  clear hW9
  have hx9 := Ext.trans hx7 hx
  have HMR := Lib.hid (HMR.out.ext hx)
  have HQ := Lib.hid (ra_ext HQ.out hx)
  have HT := Lib.hid (ra_ext HT.out hx)
  have HJ5 := Lib.hid J
  clear hx hx7 J
  obtain ⟨F, hFE⟩ : ∃ F, F = (O.take k).flatMap rcpCells ++ rcpCells ⟨sv, iv, z⟩ := ⟨_, rfl⟩
  have HFX : Hid (F.take ((O.take k).flatMap rcpCells).length = (O.take k).flatMap rcpCells) := Lib.hid (by rw [hFE]; exact List.take_left)
  have HFY : Hid (F.take ((O.take k ++ [(⟨sv, iv, z⟩ : Rcp)]).flatMap rcpCells).length = (O.take k ++ [(⟨sv, iv, z⟩ : Rcp)]).flatMap rcpCells) := Lib.hid (by
    have e : (O.take k ++ [(⟨sv, iv, z⟩ : Rcp)]).flatMap rcpCells = F := by rw [hFE, List.flatMap_append]; simp
    rw [e, List.take_length])
  have HF3 : Hid (3 ≤ F.length) := Lib.hid (by rw [hFE, List.length_append]; show 3 ≤ _ + 3; omega)
  have HF0 : Hid (F.length ≠ 0) := Lib.hid (by have := HF3.out; omega)
  have HF1 : Hid (F.length = 3 → F = [.int .i64 sv, .int .i64 iv, .int .i64 z]) := Lib.hid (fun h => by
    rw [hFE, List.length_append] at h
    have h2 : ((O.take k).flatMap rcpCells).length + 3 = 3 := h
    rw [hFE, List.eq_nil_of_length_eq_zero (by omega : ((O.take k).flatMap rcpCells).length = 0)]
    rfl)
  have HFE := Lib.hid hFE
  clear hFE
  have hOl : O.length = qn := HQ.out.len
  have HOL := Lib.hid hOl
  have hqc := HQ.out.cap
  clear hOl
  have hkz : (k : Int) ≤ (qn : Int) := by omega
  have hqcz : (qn : Int) ≤ (qc : Int) := by omega
  go_upto_region 14 with (fail)
  rcases hqf with ⟨rfl, rfl, rfl⟩ | ⟨gq, rfl⟩
  · obtain rfl : k = 0 := by omega
    have hT := tx_tr 63 W9.heap.size F
    refine RB.wp_region_obl (T := _) hT 11 (fun ix vals v w1 => match ix with | 0 => ∃ g, v = .slice (some ⟨g, 0, none⟩) 0 0 ∧ W9.heap.size ≤ g ∧ Blk w1 g 63 #[] | 1 => v = .slice none 0 0 | 2 => v = .int .i64 ((0 : Nat) : Int) | 3 => v = .slice none 0 0 | 4 => OwnRc w1 W9.heap.size v (O.take 0) | 5 => v = .agg #[.int .i64 sv, .int .i64 iv, .int .i64 z] | 6 => ∃ g, v = .slice (some ⟨g, 0, none⟩) 1 1 ∧ Blk w1 g 63 #[.int .i64 sv, .int .i64 iv, .int .i64 z] | 7 => OwnRc w1 W9.heap.size v (O.take 0 ++ [⟨sv, iv, z⟩]) | 8 => v = .slice none 0 0 | 9 => v = .int .i64 ((0 : Nat) : Int) | _ => ∃ T, v = .slice T (0 - 0) (0 - 0) ∧ W9.heap.size ≤ w1.heap.size ∧ RA rcpCells 3 w1 W9.heap.size T (0 - 0) (0 - 0) (O.drop 0)) (by kernel_rfl) (by kernel_rfl) ?_ ?_ ?_ ?_
    · intro ix vals v w1 w2 hi hr hx
      match ix, hr with
      | 0, hr => obtain ⟨g, h1, h2, h3⟩ := hr; exact ⟨g, h1, h2, hx.blk0 h3 HF0.out⟩
      | 1, hr => exact hr
      | 2, hr => exact hr
      | 3, hr => exact hr
      | 4, hr => exact hx.own hr HFX.out
      | 5, hr => exact hr
      | 6, hr => obtain ⟨g, h1, h3⟩ := hr; exact ⟨g, h1, hx.blk h3 HF1.out HF3.out⟩
      | 7, hr => exact hx.own hr HFY.out
      | 8, hr => exact hr
      | 9, hr => exact hr
      | (kx + 10), hr => obtain ⟨T, h1, h2, h3⟩ := hr; exact ⟨T, h1, Nat.le_trans h2 hx.size, h3.below (hx.below h2)⟩
    · intro ix vals vals_ v w1 hi hv hr
      exact hr
    · refine ⟨?_, ?_, ?_, ?_, ?_, ?_, ?_, ?_, ?_, ?_, ?_, trivial⟩
      · intro vals w1 hx hd ha
        clear hd ha
        simp only [Lf]
        have hz9 := hx.undrew.size
        go_wp2
        exact ⟨rfl, TX.of_ext (by repeat (first | exact Below.refl _ _ | assumption | refine Below.drew ?_ | refine below_drewN ?_ _ | refine bl_alloc ?_ _ | refine Below.setCell ?_ (by first | (simp; done) | omega | (simp; omega)) _ | refine bl_then ?_ (by assumption))), _, rfl, hz9, Blk.new _ _ _⟩
      · intro vals w1 hx hd ha
        clear hd ha
        simp only [Lf, dstAt, Act.put, List.getElem?_toArray, List.getElem?_cons_zero, Option.bind_some, List.setIfInBounds_toArray, List.set_cons_zero, List.set_cons_succ]
        go_wp2
        exact ⟨rfl, hT.refl _, rfl⟩
      · intro vals w1 hx hd ha
        clear hd ha
        simp only [Lf, dstAt, Act.put, List.getElem?_toArray, List.getElem?_cons_zero, List.getElem?_cons_succ, Option.bind_some, List.setIfInBounds_toArray, List.set_cons_zero, List.set_cons_succ]
        go_wp2
        exact ⟨rfl, hT.refl _, rfl⟩
      · intro vals w1 hx hd ha
        have e1 : vals 1 = .slice none 0 0 := hd 1 (by decide)
        have e2 : vals 2 = .int .i64 ((0 : Nat) : Int) := hd 2 (by decide)
        clear hd ha
        simp only [Lf, dstAt, Act.put, List.getElem?_toArray, List.getElem?_cons_zero, List.getElem?_cons_succ, Option.bind_some, List.setIfInBounds_toArray, List.set_cons_zero, List.set_cons_succ]
        simp only [e1, e2]
        clear e1 e2
        go_wp2
        exact ⟨rfl, hT.refl _, rfl⟩
      · intro vals w1 hx hd ha
        have r0 : (fun v w1 => ∃ g, v = .slice (some ⟨g, 0, none⟩) 0 0 ∧ W9.heap.size ≤ g ∧ Blk w1 g 63 #[]) (vals 0) w1 := hd 0 (by decide)
        dsimp only at r0
        have e3 : vals 3 = .slice none 0 0 := hd 3 (by decide)
        clear hd ha
        simp only [Lf, dstAt, Act.put, List.getElem?_toArray, List.getElem?_cons_zero, List.getElem?_cons_succ, Option.bind_some, List.setIfInBounds_toArray, List.set_cons_zero, List.set_cons_succ]
        obtain ⟨g0, e_0, hg0, j0⟩ := r0
        have hq9 := (HQ.out.cut rcp_len 0 (Nat.le_refl _)).below (hx.undrew.below (Nat.le_refl _))
        obtain ⟨v9, w9, hrun, hx9, ho9⟩ := copy_rcp 33 (O.take 0) W9.heap.size g0 0 0 none W9.heap.size j0 hg0 (by omega) hq9
        simp only [e3]
        clear e3
        rw [e_0]
        refine wpList_append_run_ rfl _ _ _ rfl rfl rfl hrun ?_
        clear hrun
        go_wp2
        exact ⟨rfl, TX.of_ext hx9, ho9⟩
      · intro vals w1 hx hd ha
        clear hd ha
        simp only [Lf, dstAt, Act.put, List.getElem?_toArray, List.getElem?_cons_zero, List.getElem?_cons_succ, Option.bind_some, List.setIfInBounds_toArray, List.set_cons_zero, List.set_cons_succ]
        have j9 := HJ5.out.below (hx.undrew.below (Nat.le_refl _)) HJ5.out.lt
        have z0 : w1.cell? ⟨g5, 0, none⟩ = some (.int .i64 sv) := j9.cell 0
        have z1 : w1.cell? ⟨g5, 1, none⟩ = some (.int .i64 iv) := j9.cell 1
        have z2 : w1.cell? ⟨g5, 2, none⟩ = some (.int .i64 z) := j9.cell 2
        clear j9
        go_wp2
        exact ⟨rfl, hT.refl _, rfl⟩
      · intro vals w1 hx hd ha
        have e5 : vals 5 = .agg #[.int .i64 sv, .int .i64 iv, .int .i64 z] := hd 5 (by decide)
        clear hd ha
        simp only [Lf, dstAt, Act.put, List.getElem?_toArray, List.getElem?_cons_zero, List.getElem?_cons_succ, Option.bind_some, List.setIfInBounds_toArray, List.set_cons_zero, List.set_cons_succ]
        simp only [e5]
        clear e5
        go_wp2
        exact ⟨rfl, TX.of_ext (by repeat (first | exact Below.refl _ _ | assumption | refine Below.drew ?_ | refine below_drewN ?_ _ | refine bl_alloc ?_ _ | refine Below.setCell ?_ (by first | (simp; done) | omega | (simp; omega)) _ | refine bl_then ?_ (by assumption))), _, rfl, Blk.new _ _ _⟩
      · intro vals w1 hx hd ha
        have r4 : (fun v w1 => OwnRc w1 W9.heap.size v (O.take 0)) (vals 4) w1 := hd 4 (by decide)
        dsimp only at r4
        have r6 : (fun v w1 => ∃ g, v = .slice (some ⟨g, 0, none⟩) 1 1 ∧ Blk w1 g 63 #[.int .i64 sv, .int .i64 iv, .int .i64 z]) (vals 6) w1 := hd 6 (by decide)
        dsimp only at r6
        clear hd ha
        simp only [Lf, dstAt, Act.put, List.getElem?_toArray, List.getElem?_cons_zero, List.getElem?_cons_succ, Option.bind_some, List.setIfInBounds_toArray, List.set_cons_zero, List.set_cons_succ]
        obtain ⟨gx, e_6, jx⟩ := r6
        have r4' : OwnRc w1 W9.heap.size (vals 4) (O.take 0) := r4
        obtain ⟨v9, w9, hrun, ho9, hx9⟩ := odd_app 33 (O.take 0) ⟨sv, iv, z⟩ (vals 4) W9.heap.size gx r4' jx (by rw [List.length_take]; omega) hx.undrew.size
        have hx9 : TX 63 W9.heap.size ((O.take 0).flatMap rcpCells ++ rcpCells ⟨sv, iv, z⟩) w1 w9 := hx9
        rw [← HFE.out] at hx9
        rw [e_6]
        refine wpList_append_run_ rfl _ _ _ rfl rfl rfl hrun ?_
        clear hrun
        go_wp2
        exact ⟨rfl, hx9, ho9⟩
      · intro vals w1 hx hd ha
        clear hd ha
        simp only [Lf, dstAt, Act.put, List.getElem?_toArray, List.getElem?_cons_zero, List.getElem?_cons_succ, Option.bind_some, List.setIfInBounds_toArray, List.set_cons_zero, List.set_cons_succ]
        go_wp2
        exact ⟨rfl, hT.refl _, rfl⟩
      · intro vals w1 hx hd ha
        clear hd ha
        simp only [Lf, dstAt, Act.put, List.getElem?_toArray, List.getElem?_cons_zero, List.getElem?_cons_succ, Option.bind_some, List.setIfInBounds_toArray, List.set_cons_zero, List.set_cons_succ]
        go_wp2
        exact ⟨rfl, hT.refl _, rfl⟩
      · intro vals w1 hx hd ha
        have e8 : vals 8 = .slice none 0 0 := hd 8 (by decide)
        have e9 : vals 9 = .int .i64 ((0 : Nat) : Int) := hd 9 (by decide)
        clear hd ha
        simp only [Lf, dstAt, Act.put, List.getElem?_toArray, List.getElem?_cons_zero, List.getElem?_cons_succ, Option.bind_some, List.setIfInBounds_toArray, List.set_cons_zero, List.set_cons_succ]
        simp only [e8]
        simp only [e9]
        clear e8 e9
        have hz9 := hx.undrew.size
        have hta := (HQ.out.below (hx.undrew.below (Nat.le_refl _))).tail rcp_len 0 (Nat.le_refl _)
        rw [if_pos rfl] at hta
        go_wp2
        exact ⟨rfl, hT.refl _, _, rfl, hz9, hta⟩
    intro vals W10 hy hf
    have h7 : OwnRc W10 W9.heap.size (vals 7) (O.take 0 ++ [⟨sv, iv, z⟩]) := hf 7 (by omega)
    obtain ⟨T, e10, _, h10⟩ : ∃ T, vals 10 = .slice T (0 - 0) (0 - 0) ∧ W9.heap.size ≤ W10.heap.size ∧ RA rcpCells 3 W10 W9.heap.size T (0 - 0) (0 - 0) (O.drop 0) := hf 10 (by omega)
    have hy := hy.undrew
    have hz : Ext W9 W10 := hy.below (Nat.le_refl _)
    clear hf hT
    obtain ⟨v11, W11, hrun, hg11, h11⟩ := join_rcp 33 (O.take 0 ++ [⟨sv, iv, z⟩]) (O.drop 0) (vals 7) W9.heap.size W9.heap.size (0 - 0) (0 - 0) T h7 h10 (by simp only [List.length_append, List.length_take, List.length_cons, List.length_nil]; omega) (Below.size hz)
    have hx11 : Ext W9 W11 := hz.grown hg11 (Below.size hz) (fun q e => (World.ownsRow.lt h7 q e).1)
    rw [List.append_assoc, List.singleton_append] at h11
    obtain ⟨MA, mc, hv11, _, _⟩ := own_slice h11
    subst hv11
    have hmo := RA.of_own (cells := rcpCells) h11 rfl (by have := HOL.out; simp only [List.length_append, List.length_take, List.length_drop, List.length_cons]; omega)
    obtain ⟨mn, hmn⟩ : ∃ m, m = (O.take 0 ++ (⟨sv, iv, z⟩ : Rcp) :: O.drop 0).length := ⟨_, rfl⟩
    rw [← hmn] at hmo hrun
    have HMO := Lib.hid hmo
    have HX11 := Lib.hid hx11
    have HRUN := Lib.hid hrun
    clear hrun hg11 h11 h7 h10 hz hy hx11 hmo hmn
    refine tailF 11 _ _ 1 (by kernel_rfl) rfl ?_ (fun a w q => tail1 12 _ (by kernel_rfl) (by kernel_rfl) rfl q)
    simp only [Lf, dstAt, Act.put, List.getElem?_toArray, List.getElem?_cons_zero, List.getElem?_cons_succ, Option.bind_some, List.setIfInBounds_toArray, List.set_cons_zero, List.set_cons_succ]
    rw [e10]
    clear e10
    refine wpList_append_run_ rfl _ _ _ rfl rfl rfl HRUN.out ?_
    clear HRUN
    have hx11 := Ext.trans hx9 HX11.out
    have HMR := Lib.hid (HMR.out.ext HX11.out)
    have HQ := Lib.hid (ra_ext HQ.out HX11.out)
    have HT := Lib.hid (ra_ext HT.out HX11.out)
    have HJ5 := Lib.hid (HJ5.out.ext HX11.out)
    clear hx9 HX11
    have HC := Lib.hid (HREC.out W11 OA PA SA none TA oc pc sc_ 0 0 tn tc os HMR.out HQ.out HT.out)
    go_wp2_with fail
    refine HC.out.mono ?_
    rintro e W12 ⟨FA, fc, DA, dc, fs, rfl, hfs, hfp, hy⟩
    clear HC
    have hx12 := Ext.trans hx11 hy
    have HMR := Lib.hid (HMR.out.ext hy)
    have HQ := Lib.hid (ra_ext HQ.out hy)
    have HT := Lib.hid (ra_ext HT.out hy)
    have HMO := Lib.hid (ra_ext HMO.out hy)
    have HJ5 := Lib.hid (HJ5.out.ext hy)
    have HFS := Lib.hid hfs
    have HFP := Lib.hid hfp
    clear hx11 hy hfs hfp HREC
    have HC := Lib.hid (HROD.out ⟨sv, iv, z⟩ 0 W12 OA PA SA MA TA oc pc sc_ mn mc tn tc os HMR.out HMO.out HT.out (by rw [HOL.out]; omega) hzodd)
    go_wp2_with fail
    refine HC.out.mono ?_
    rintro e W13 ⟨GA, gc_, EA, ec, gs, rfl, hgs, hgp, hds, hy⟩
    clear HC HMO
    have hx13 := Ext.trans hx12 hy
    have HMR := Lib.hid (HMR.out.ext hy)
    have HQ := Lib.hid (ra_ext HQ.out hy)
    have HT := Lib.hid (ra_ext HT.out hy)
    have HFS := Lib.hid (HFS.out.ext hy)
    have HJ5 := Lib.hid (HJ5.out.ext hy)
    have HGS := Lib.hid hgs
    have HGP := Lib.hid hgp
    have HDS := Lib.hid hds
    clear hx12 hy hgs hgp hds HROD
    go_upto_region 17 with (fail)
    have hxa : Ext W13 (W13.alloc (.cells #[] 63)) := bl_alloc (Below.refl _ _) _
    obtain ⟨v14, W14, hrun, hx14, ho14⟩ := copy_rcp 33 O _ W13.heap.size 0 0 none W13.heap.size (Blk.new W13 63 #[]) (Nat.le_refl _) (by omega) (ra_ext HQ.out hxa)
    have hxb := Ext.trans hxa hx14
    obtain ⟨v15, W15, hrun2, hg15, ho15⟩ := join_rcp 33 O O v14 W13.heap.size W14.heap.size 0 0 none ho14 (ra_ext HQ.out hxb) (by have := HOL.out; omega) (Below.size hxb)
    have hy : Ext W13 W15 := hxb.grown hg15 (Below.size hxb) (fun q e => (World.ownsRow.lt ho14 q e).1)
    obtain ⟨VA, vc, hv15, _, _⟩ := own_slice ho15
    subst hv15
    have hvo := RA.of_own (cells := rcpCells) ho15 rfl (by have := HOL.out; simp only [List.length_append]; omega)
    obtain ⟨vn, hvn⟩ : ∃ m, m = (O ++ O).length := ⟨_, rfl⟩
    rw [← hvn] at hvo hrun2
    have HRUN1 := Lib.hid hrun
    have HRUN2 := Lib.hid hrun2
    have hx15 := Ext.trans hx13 hy
    have HMR := Lib.hid (HMR.out.ext hy)
    have HT := Lib.hid (ra_ext HT.out hy)
    have HFS := Lib.hid (HFS.out.ext hy)
    have HGS := Lib.hid (HGS.out.ext hy)
    have HDS := Lib.hid (ra_ext HDS.out hy)
    have HJ5 := Lib.hid (HJ5.out.ext hy)
    have HC := Lib.hid (HRTW.out W15 OA PA SA VA TA oc pc sc_ vn vc tn tc os HMR.out hvo HT.out)
    clear hrun hrun2 hxa hx14 ho14 hxb hg15 hy ho15 hvo hvn hx13 HRTW HQ HOL HT
    go_wp2_with (first | refine wpList_append_run_ rfl _ _ _ rfl rfl rfl HRUN1.out ?_ | refine wpList_append_run_ rfl _ _ _ rfl rfl rfl HRUN2.out ?_)
    refine HC.out.mono ?_
    rintro e W16 ⟨ZA, zc, IA, ic, zs, rfl, hzs, hzp, hy⟩
    clear HC HRUN1 HRUN2
    have hx16 := Ext.trans hx15 hy
    have hfs := HFS.out.ext hy
    have hgs := HGS.out.ext hy
    have hj5 := HJ5.out.ext hy
    have HSA := Lib.hid (sameF_true FA GA L L fc gc_ fs gs W16 · hfs hgs (HFP.out.trans HGP.out.symm))
    have HSB := Lib.hid (sameF_true FA ZA L L fc zc fs zs W16 · hfs hzs (HFP.out.trans hzp.symm))
    have HDS := Lib.hid (ra_ext HDS.out hy)
    have HJ5 := Lib.hid hj5
    clear hx15 hy hfs hgs hj5 hzs hzp HFS HGS HMR HFP HGP
    go_upto_region 20 with (fail)
    obtain ⟨be, oe, hze, hEA, _, hce⟩ := HDS.out.at_ dsc_len (show 0 < 1 by omega)
    subst hEA
    have q0 : W16.cell? ⟨be, oe, none⟩ = some (.int .i64 1) := hce 0 (by omega)
    have q1 : W16.cell? ⟨be, oe + 1, none⟩ = some (.int .i64 iv) := hce 1 (by omega)
    have q2 : W16.cell? ⟨be, oe + 2, none⟩ = some (.int .i64 (0 : Nat)) := hce 2 (by omega)
    have z1 : W16.cell? ⟨g5, 1, none⟩ = some (.int .i64 iv) := HJ5.out.cell 1
    have HXF := Lib.hid hx16
    clear hce hze HDS HJ5 hx16
    refine wp_region_obl 18 (fun ix vals v w1 => match ix with | 0 => v = .slice (some ⟨be, oe, none⟩) 1 ec | 1 => v = .pointer (some ⟨be, oe, none⟩) | 2 => v = .agg #[.int .i64 1, .int .i64 iv, .int .i64 (0 : Nat)] | 3 => v = .pointer (some ⟨g5, 1, none⟩) | 4 => v = .int .i64 iv | 5 => v = .int .i64 (0 : Nat) | 6 => v = .agg #[.int .i64 1, .int .i64 iv, .int .i64 (0 : Nat)] | 7 => v = .bool true | 8 => v = .bool true | 9 => v = .slice FA L fc | 10 => v = .slice GA L gc_ | 11 => v = .bool true | 12 => v = .bool true | 13 => v = .bool true | 14 => v = .slice FA L fc | 15 => v = .slice ZA L zc | 16 => v = .bool true | _ => v = .bool true) (by kernel_rfl) (by kernel_rfl) ?_ ?_ ?_ ?_
    · intro ix vals v w1 w2 hi hr hx
      match ix, hr with
      | 0, hr => exact hr
      | 1, hr => exact hr
      | 2, hr => exact hr
      | 3, hr => exact hr
      | 4, hr => exact hr
      | 5, hr => exact hr
      | 6, hr => exact hr
      | 7, hr => exact hr
      | 8, hr => exact hr
      | 9, hr => exact hr
      | 10, hr => exact hr
      | 11, hr => exact hr
      | 12, hr => exact hr
      | 13, hr => exact hr
      | 14, hr => exact hr
      | 15, hr => exact hr
      | 16, hr => exact hr
      | (kx + 17), hr => exact hr
    · intro ix vals vals_ v w1 hi hv hr
      exact hr
    · refine ⟨?_, ?_, ?_, ?_, ?_, ?_, ?_, ?_, ?_, ?_, ?_, ?_, ?_, ?_, ?_, ?_, ?_, ?_, trivial⟩
      · intro vals w1 hx hd ha
        clear hd ha
        simp only [Lf]
        go_wp2
        exact ⟨rfl, Ext.refl _, rfl⟩
      · intro vals w1 hx hd ha
        have e0 : vals 0 = .slice (some ⟨be, oe, none⟩) 1 ec := hd 0 (by decide)
        clear hd ha
        simp only [Lf, dstAt, Act.put, List.getElem?_toArray, List.getElem?_cons_zero, Option.bind_some, List.setIfInBounds_toArray, List.set_cons_zero, List.set_cons_succ]
        simp only [e0]
        clear e0
        go_wp2
        exact ⟨rfl, Ext.refl _, rfl⟩
      · intro vals w1 hx hd ha
        have e1 : vals 1 = .pointer (some ⟨be, oe, none⟩) := hd 1 (by decide)
        clear hd ha
        simp only [Lf, dstAt, Act.put, List.getElem?_toArray, List.getElem?_cons_zero, List.getElem?_cons_succ, Option.bind_some, List.setIfInBounds_toArray, List.set_cons_zero, List.set_cons_succ]
        simp only [e1]
        clear e1
        have q0 := ext_cell hx.undrew q0; have q1 := ext_cell hx.undrew q1; have q2 := ext_cell hx.undrew q2
        go_wp2
        exact ⟨rfl, Ext.refl _, rfl⟩
      · intro vals w1 hx hd ha
        clear hd ha
        simp only [Lf, dstAt, Act.put, List.getElem?_toArray, List.getElem?_cons_zero, List.getElem?_cons_succ, Option.bind_some, List.setIfInBounds_toArray, List.set_cons_zero, List.set_cons_succ]
        go_wp2
        exact ⟨rfl, Ext.refl _, rfl⟩
      · intro vals w1 hx hd ha
        have e3 : vals 3 = .pointer (some ⟨g5, 1, none⟩) := hd 3 (by decide)
        clear hd ha
        simp only [Lf, dstAt, Act.put, List.getElem?_toArray, List.getElem?_cons_zero, List.getElem?_cons_succ, Option.bind_some, List.setIfInBounds_toArray, List.set_cons_zero, List.set_cons_succ]
        simp only [e3]
        clear e3
        have z1 := ext_cell hx.undrew z1
        go_wp2
        exact ⟨rfl, Ext.refl _, rfl⟩
      · intro vals w1 hx hd ha
        clear hd ha
        simp only [Lf, dstAt, Act.put, List.getElem?_toArray, List.getElem?_cons_zero, List.getElem?_cons_succ, Option.bind_some, List.setIfInBounds_toArray, List.set_cons_zero, List.set_cons_succ]
        go_wp2
        exact ⟨rfl, Ext.refl _, rfl⟩
      · intro vals w1 hx hd ha
        have e4 : vals 4 = .int .i64 iv := hd 4 (by decide)
        have e5 : vals 5 = .int .i64 (0 : Nat) := hd 5 (by decide)
        clear hd ha
        simp only [Lf, dstAt, Act.put, List.getElem?_toArray, List.getElem?_cons_zero, List.getElem?_cons_succ, Option.bind_some, List.setIfInBounds_toArray, List.set_cons_zero, List.set_cons_succ]
        simp only [e4, e5]
        clear e4 e5
        go_wp2
        exact ⟨rfl, Ext.refl _, rfl⟩
      · intro vals w1 hx hd ha
        have e2 : vals 2 = .agg #[.int .i64 1, .int .i64 iv, .int .i64 (0 : Nat)] := hd 2 (by decide)
        have e6 : vals 6 = .agg #[.int .i64 1, .int .i64 iv, .int .i64 (0 : Nat)] := hd 6 (by decide)
        clear hd ha
        simp only [Lf, dstAt, Act.put, List.getElem?_toArray, List.getElem?_cons_zero, List.getElem?_cons_succ, Option.bind_some, List.setIfInBounds_toArray, List.set_cons_zero, List.set_cons_succ]
        simp only [e2, e6]
        clear e2 e6
        go_wp2
        exact ⟨rfl, Ext.refl _, rfl⟩
      · intro vals w1 hx hd ha
        have e7 : vals 7 = .bool true := hd 7 (by decide)
        clear hd ha
        simp only [Lf, dstAt, Act.put, List.getElem?_toArray, List.getElem?_cons_zero, List.getElem?_cons_succ, Option.bind_some, List.setIfInBounds_toArray, List.set_cons_zero, List.set_cons_succ]
        simp only [e7]
        clear e7
        go_wp2
        exact ⟨rfl, Ext.refl _, rfl⟩
      · intro vals w1 hx hd ha
        have e8 : vals 8 = .bool true := hd 8 (by decide)
        clear hd ha
        simp only [Lf, dstAt, Act.put, List.getElem?_toArray, List.getElem?_cons_zero, List.getElem?_cons_succ, Option.bind_some, List.setIfInBounds_toArray, List.set_cons_zero, List.set_cons_succ]
        simp only [e8]
        clear e8
        go_wp2
        exact ⟨rfl, Ext.refl _, rfl⟩
      · intro vals w1 hx hd ha
        have e8 : vals 8 = .bool true := hd 8 (by decide)
        clear hd ha
        simp only [Lf, dstAt, Act.put, List.getElem?_toArray, List.getElem?_cons_zero, List.getElem?_cons_succ, Option.bind_some, List.setIfInBounds_toArray, List.set_cons_zero, List.set_cons_succ]
        simp only [e8]
        clear e8
        go_wp2
        exact ⟨rfl, Ext.refl _, rfl⟩
      · intro vals w1 hx hd ha
        have e8 : vals 8 = .bool true := hd 8 (by decide)
        have e9 : vals 9 = .slice FA L fc := hd 9 (by decide)
        have e10 : vals 10 = .slice GA L gc_ := hd 10 (by decide)
        clear hd ha
        simp only [Lf, dstAt, Act.put, List.getElem?_toArray, List.getElem?_cons_zero, List.getElem?_cons_succ, Option.bind_some, List.setIfInBounds_toArray, List.set_cons_zero, List.set_cons_succ]
        simp only [e8]
        simp only [e9]
        simp only [e10]
        clear e8 e9 e10
        have HS := Lib.hid (HSA.out w1 hx.undrew)
        go_wp2_with (refine HS.out.mono ?_; rintro e w2 ⟨rfl, hy⟩)
        exact ⟨rfl, hy, rfl⟩
      · intro vals w1 hx hd ha
        have e8 : vals 8 = .bool true := hd 8 (by decide)
        have e11 : vals 11 = .bool true := hd 11 (by decide)
        clear hd ha
        simp only [Lf, dstAt, Act.put, List.getElem?_toArray, List.getElem?_cons_zero, List.getElem?_cons_succ, Option.bind_some, List.setIfInBounds_toArray, List.set_cons_zero, List.set_cons_succ]
        simp only [e8, e11]
        clear e8 e11
        go_wp2
        exact ⟨rfl, Ext.refl _, rfl⟩
      · intro vals w1 hx hd ha
        have e11 : vals 11 = .bool true := hd 11 (by decide)
        have e12 : vals 12 = .bool true := hd 12 (by decide)
        clear hd ha
        simp only [Lf, dstAt, Act.put, List.getElem?_toArray, List.getElem?_cons_zero, List.getElem?_cons_succ, Option.bind_some, List.setIfInBounds_toArray, List.set_cons_zero, List.set_cons_succ]
        simp only [e11, e12]
        clear e11 e12
        go_wp2
        exact ⟨rfl, Ext.refl _, rfl⟩
      · intro vals w1 hx hd ha
        have e13 : vals 13 = .bool true := hd 13 (by decide)
        clear hd ha
        simp only [Lf, dstAt, Act.put, List.getElem?_toArray, List.getElem?_cons_zero, List.getElem?_cons_succ, Option.bind_some, List.setIfInBounds_toArray, List.set_cons_zero, List.set_cons_succ]
        simp only [e13]
        clear e13
        go_wp2
        exact ⟨rfl, Ext.refl _, rfl⟩
      · intro vals w1 hx hd ha
        have e13 : vals 13 = .bool true := hd 13 (by decide)
        clear hd ha
        simp only [Lf, dstAt, Act.put, List.getElem?_toArray, List.getElem?_cons_zero, List.getElem?_cons_succ, Option.bind_some, List.setIfInBounds_toArray, List.set_cons_zero, List.set_cons_succ]
        simp only [e13]
        clear e13
        go_wp2
        exact ⟨rfl, Ext.refl _, rfl⟩
      · intro vals w1 hx hd ha
        have e13 : vals 13 = .bool true := hd 13 (by decide)
        have e14 : vals 14 = .slice FA L fc := hd 14 (by decide)
        have e15 : vals 15 = .slice ZA L zc := hd 15 (by decide)
        clear hd ha
        simp only [Lf, dstAt, Act.put, List.getElem?_toArray, List.getElem?_cons_zero, List.getElem?_cons_succ, Option.bind_some, List.setIfInBounds_toArray, List.set_cons_zero, List.set_cons_succ]
        simp only [e13]
        simp only [e14]
        simp only [e15]
        clear e13 e14 e15
        have HS := Lib.hid (HSB.out w1 hx.undrew)
        go_wp2_with (refine HS.out.mono ?_; rintro e w2 ⟨rfl, hy⟩)
        exact ⟨rfl, hy, rfl⟩
      · intro vals w1 hx hd ha
        have e13 : vals 13 = .bool true := hd 13 (by decide)
        have e16 : vals 16 = .bool true := hd 16 (by decide)
        clear hd ha
        simp only [Lf, dstAt, Act.put, List.getElem?_toArray, List.getElem?_cons_zero, List.getElem?_cons_succ, Option.bind_some, List.setIfInBounds_toArray, List.set_cons_zero, List.set_cons_succ]
        simp only [e13, e16]
        clear e13 e16
        go_wp2
        exact ⟨rfl, Ext.refl _, rfl⟩
    intro vals W17 hz hf
    have v17 : vals 17 = .bool true := hf 17 (by omega)
    have HX := Lib.hid (Ext.trans HXF.out hz.undrew)
    clear hf hz q0 q1 q2 z1 HSA HSB
    refine tail1 18 _ (by kernel_rfl) (by kernel_rfl) rfl ?_
    simp only [Lf, dstAt, Act.put, List.getElem?_toArray, List.getElem?_cons_zero, List.getElem?_cons_succ, Option.bind_some, List.setIfInBounds_toArray, List.set_cons_zero, List.set_cons_succ]
    rw [v17]
    clear v17
    go_wp2
    go_ret
    exact ⟨rfl, HX.out⟩
  · have hT := tx_tr 63 W9.heap.size F
    refine RB.wp_region_obl (T := _) hT 11 (fun ix vals v w1 => match ix with | 0 => ∃ g, v = .slice (some ⟨g, 0, none⟩) 0 0 ∧ W9.heap.size ≤ g ∧ Blk w1 g 63 #[] | 1 => v = .slice (some ⟨gq, 0, none⟩) qn qc | 2 => v = .int .i64 (k : Int) | 3 => v = .slice (some ⟨gq, 0, none⟩) k qc | 4 => OwnRc w1 W9.heap.size v (O.take k) | 5 => v = .agg #[.int .i64 sv, .int .i64 iv, .int .i64 z] | 6 => ∃ g, v = .slice (some ⟨g, 0, none⟩) 1 1 ∧ Blk w1 g 63 #[.int .i64 sv, .int .i64 iv, .int .i64 z] | 7 => OwnRc w1 W9.heap.size v (O.take k ++ [⟨sv, iv, z⟩]) | 8 => v = .slice (some ⟨gq, 0, none⟩) qn qc | 9 => v = .int .i64 (k : Int) | _ => ∃ T, v = .slice T (qn - k) (qc - k) ∧ W9.heap.size ≤ w1.heap.size ∧ RA rcpCells 3 w1 W9.heap.size T (qn - k) (qc - k) (O.drop k)) (by kernel_rfl) (by kernel_rfl) ?_ ?_ ?_ ?_
    · intro ix vals v w1 w2 hi hr hx
      match ix, hr with
      | 0, hr => obtain ⟨g, h1, h2, h3⟩ := hr; exact ⟨g, h1, h2, hx.blk0 h3 HF0.out⟩
      | 1, hr => exact hr
      | 2, hr => exact hr
      | 3, hr => exact hr
      | 4, hr => exact hx.own hr HFX.out
      | 5, hr => exact hr
      | 6, hr => obtain ⟨g, h1, h3⟩ := hr; exact ⟨g, h1, hx.blk h3 HF1.out HF3.out⟩
      | 7, hr => exact hx.own hr HFY.out
      | 8, hr => exact hr
      | 9, hr => exact hr
      | (kx + 10), hr => obtain ⟨T, h1, h2, h3⟩ := hr; exact ⟨T, h1, Nat.le_trans h2 hx.size, h3.below (hx.below h2)⟩
    · intro ix vals vals_ v w1 hi hv hr
      exact hr
    · refine ⟨?_, ?_, ?_, ?_, ?_, ?_, ?_, ?_, ?_, ?_, ?_, trivial⟩
      · intro vals w1 hx hd ha
        clear hd ha
        simp only [Lf]
        have hz9 := hx.undrew.size
        go_wp2
        exact ⟨rfl, TX.of_ext (by repeat (first | exact Below.refl _ _ | assumption | refine Below.drew ?_ | refine below_drewN ?_ _ | refine bl_alloc ?_ _ | refine Below.setCell ?_ (by first | (simp; done) | omega | (simp; omega)) _ | refine bl_then ?_ (by assumption))), _, rfl, hz9, Blk.new _ _ _⟩
      · intro vals w1 hx hd ha
        clear hd ha
        simp only [Lf, dstAt, Act.put, List.getElem?_toArray, List.getElem?_cons_zero, Option.bind_some, List.setIfInBounds_toArray, List.set_cons_zero, List.set_cons_succ]
        go_wp2
        exact ⟨rfl, hT.refl _, rfl⟩
      · intro vals w1 hx hd ha
        clear hd ha
        simp only [Lf, dstAt, Act.put, List.getElem?_toArray, List.getElem?_cons_zero, List.getElem?_cons_succ, Option.bind_some, List.setIfInBounds_toArray, List.set_cons_zero, List.set_cons_succ]
        go_wp2
        exact ⟨rfl, hT.refl _, rfl⟩
      · intro vals w1 hx hd ha
        have e1 : vals 1 = .slice (some ⟨gq, 0, none⟩) qn qc := hd 1 (by decide)
        have e2 : vals 2 = .int .i64 (k : Int) := hd 2 (by decide)
        clear hd ha
        simp only [Lf, dstAt, Act.put, List.getElem?_toArray, List.getElem?_cons_zero, List.getElem?_cons_succ, Option.bind_some, List.setIfInBounds_toArray, List.set_cons_zero, List.set_cons_succ]
        simp only [e1, e2]
        clear e1 e2
        go_wp2
        exact ⟨rfl, hT.refl _, rfl⟩
      · intro vals w1 hx hd ha
        have r0 : (fun v w1 => ∃ g, v = .slice (some ⟨g, 0, none⟩) 0 0 ∧ W9.heap.size ≤ g ∧ Blk w1 g 63 #[]) (vals 0) w1 := hd 0 (by decide)
        dsimp only at r0
        have e3 : vals 3 = .slice (some ⟨gq, 0, none⟩) k qc := hd 3 (by decide)
        clear hd ha
        simp only [Lf, dstAt, Act.put, List.getElem?_toArray, List.getElem?_cons_zero, List.getElem?_cons_succ, Option.bind_some, List.setIfInBounds_toArray, List.set_cons_zero, List.set_cons_succ]
        obtain ⟨g0, e_0, hg0, j0⟩ := r0
        have hq9 := (HQ.out.cut rcp_len k hkq).below (hx.undrew.below (Nat.le_refl _))
        obtain ⟨v9, w9, hrun, hx9, ho9⟩ := copy_rcp 33 (O.take k) W9.heap.size g0 k qc (some ⟨gq, 0, none⟩) W9.heap.size j0 hg0 (by omega) hq9
        simp only [e3]
        clear e3
        rw [e_0]
        refine wpList_append_run_ rfl _ _ _ rfl rfl rfl hrun ?_
        clear hrun
        go_wp2
        exact ⟨rfl, TX.of_ext hx9, ho9⟩
      · intro vals w1 hx hd ha
        clear hd ha
        simp only [Lf, dstAt, Act.put, List.getElem?_toArray, List.getElem?_cons_zero, List.getElem?_cons_succ, Option.bind_some, List.setIfInBounds_toArray, List.set_cons_zero, List.set_cons_succ]
        have j9 := HJ5.out.below (hx.undrew.below (Nat.le_refl _)) HJ5.out.lt
        have z0 : w1.cell? ⟨g5, 0, none⟩ = some (.int .i64 sv) := j9.cell 0
        have z1 : w1.cell? ⟨g5, 1, none⟩ = some (.int .i64 iv) := j9.cell 1
        have z2 : w1.cell? ⟨g5, 2, none⟩ = some (.int .i64 z) := j9.cell 2
        clear j9
        go_wp2
        exact ⟨rfl, hT.refl _, rfl⟩
      · intro vals w1 hx hd ha
        have e5 : vals 5 = .agg #[.int .i64 sv, .int .i64 iv, .int .i64 z] := hd 5 (by decide)
        clear hd ha
        simp only [Lf, dstAt, Act.put, List.getElem?_toArray, List.getElem?_cons_zero, List.getElem?_cons_succ, Option.bind_some, List.setIfInBounds_toArray, List.set_cons_zero, List.set_cons_succ]
        simp only [e5]
        clear e5
        go_wp2
        exact ⟨rfl, TX.of_ext (by repeat (first | exact Below.refl _ _ | assumption | refine Below.drew ?_ | refine below_drewN ?_ _ | refine bl_alloc ?_ _ | refine Below.setCell ?_ (by first | (simp; done) | omega | (simp; omega)) _ | refine bl_then ?_ (by assumption))), _, rfl, Blk.new _ _ _⟩
      · intro vals w1 hx hd ha
        have r4 : (fun v w1 => OwnRc w1 W9.heap.size v (O.take k)) (vals 4) w1 := hd 4 (by decide)
        dsimp only at r4
        have r6 : (fun v w1 => ∃ g, v = .slice (some ⟨g, 0, none⟩) 1 1 ∧ Blk w1 g 63 #[.int .i64 sv, .int .i64 iv, .int .i64 z]) (vals 6) w1 := hd 6 (by decide)
        dsimp only at r6
        clear hd ha
        simp only [Lf, dstAt, Act.put, List.getElem?_toArray, List.getElem?_cons_zero, List.getElem?_cons_succ, Option.bind_some, List.setIfInBounds_toArray, List.set_cons_zero, List.set_cons_succ]
        obtain ⟨gx, e_6, jx⟩ := r6
        have r4' : OwnRc w1 W9.heap.size (vals 4) (O.take k) := r4
        obtain ⟨v9, w9, hrun, ho9, hx9⟩ := odd_app 33 (O.take k) ⟨sv, iv, z⟩ (vals 4) W9.heap.size gx r4' jx (by rw [List.length_take]; omega) hx.undrew.size
        have hx9 : TX 63 W9.heap.size ((O.take k).flatMap rcpCells ++ rcpCells ⟨sv, iv, z⟩) w1 w9 := hx9
        rw [← HFE.out] at hx9
        rw [e_6]
        refine wpList_append_run_ rfl _ _ _ rfl rfl rfl hrun ?_
        clear hrun
        go_wp2
        exact ⟨rfl, hx9, ho9⟩
      · intro vals w1 hx hd ha
        clear hd ha
        simp only [Lf, dstAt, Act.put, List.getElem?_toArray, List.getElem?_cons_zero, List.getElem?_cons_succ, Option.bind_some, List.setIfInBounds_toArray, List.set_cons_zero, List.set_cons_succ]
        go_wp2
        exact ⟨rfl, hT.refl _, rfl⟩
      · intro vals w1 hx hd ha
        clear hd ha
        simp only [Lf, dstAt, Act.put, List.getElem?_toArray, List.getElem?_cons_zero, List.getElem?_cons_succ, Option.bind_some, List.setIfInBounds_toArray, List.set_cons_zero, List.set_cons_succ]
        go_wp2
        exact ⟨rfl, hT.refl _, rfl⟩
      · intro vals w1 hx hd ha
        have e8 : vals 8 = .slice (some ⟨gq, 0, none⟩) qn qc := hd 8 (by decide)
        have e9 : vals 9 = .int .i64 (k : Int) := hd 9 (by decide)
        clear hd ha
        simp only [Lf, dstAt, Act.put, List.getElem?_toArray, List.getElem?_cons_zero, List.getElem?_cons_succ, Option.bind_some, List.setIfInBounds_toArray, List.set_cons_zero, List.set_cons_succ]
        simp only [e8]
        simp only [e9]
        clear e8 e9
        have hz9 := hx.undrew.size
        have hta := (HQ.out.below (hx.undrew.below (Nat.le_refl _))).tail rcp_len k hkq
        by_cases hce : qc = k
        · have hce2 : qc - k = 0 := (by omega); rw [if_pos hce] at hta; go_wp2; exact ⟨rfl, hT.refl _, _, (by rw [hce2]; rfl), hz9, hta⟩
        · rw [if_neg hce, show (Option.map (·.add (k * 3)) (some (⟨gq, 0, none⟩ : Addr))) = some ⟨gq, k * 3, none⟩ from (by simp [Addr.add]; omega)] at hta; go_wp2; exact ⟨rfl, hT.refl _, _, rfl, hz9, hta⟩
    intro vals W10 hy hf
    have h7 : OwnRc W10 W9.heap.size (vals 7) (O.take k ++ [⟨sv, iv, z⟩]) := hf 7 (by omega)
    obtain ⟨T, e10, _, h10⟩ : ∃ T, vals 10 = .slice T (qn - k) (qc - k) ∧ W9.heap.size ≤ W10.heap.size ∧ RA rcpCells 3 W10 W9.heap.size T (qn - k) (qc - k) (O.drop k) := hf 10 (by omega)
    have hy := hy.undrew
    have hz : Ext W9 W10 := hy.below (Nat.le_refl _)
    clear hf hT
    obtain ⟨v11, W11, hrun, hg11, h11⟩ := join_rcp 33 (O.take k ++ [⟨sv, iv, z⟩]) (O.drop k) (vals 7) W9.heap.size W9.heap.size (qn - k) (qc - k) T h7 h10 (by simp only [List.length_append, List.length_take, List.length_cons, List.length_nil]; omega) (Below.size hz)
    have hx11 : Ext W9 W11 := hz.grown hg11 (Below.size hz) (fun q e => (World.ownsRow.lt h7 q e).1)
    rw [List.append_assoc, List.singleton_append] at h11
    obtain ⟨MA, mc, hv11, _, _⟩ := own_slice h11
    subst hv11
    have hmo := RA.of_own (cells := rcpCells) h11 rfl (by have := HOL.out; simp only [List.length_append, List.length_take, List.length_drop, List.length_cons]; omega)
    obtain ⟨mn, hmn⟩ : ∃ m, m = (O.take k ++ (⟨sv, iv, z⟩ : Rcp) :: O.drop k).length := ⟨_, rfl⟩
    rw [← hmn] at hmo hrun
    have HMO := Lib.hid hmo
    have HX11 := Lib.hid hx11
    have HRUN := Lib.hid hrun
    clear hrun hg11 h11 h7 h10 hz hy hx11 hmo hmn
    refine tailF 11 _ _ 1 (by kernel_rfl) rfl ?_ (fun a w q => tail1 12 _ (by kernel_rfl) (by kernel_rfl) rfl q)
    simp only [Lf, dstAt, Act.put, List.getElem?_toArray, List.getElem?_cons_zero, List.getElem?_cons_succ, Option.bind_some, List.setIfInBounds_toArray, List.set_cons_zero, List.set_cons_succ]
    rw [e10]
    clear e10
    refine wpList_append_run_ rfl _ _ _ rfl rfl rfl HRUN.out ?_
    clear HRUN
    have hx11 := Ext.trans hx9 HX11.out
    have HMR := Lib.hid (HMR.out.ext HX11.out)
    have HQ := Lib.hid (ra_ext HQ.out HX11.out)
    have HT := Lib.hid (ra_ext HT.out HX11.out)
    have HJ5 := Lib.hid (HJ5.out.ext HX11.out)
    clear hx9 HX11
    have HC := Lib.hid (HREC.out W11 OA PA SA (some ⟨gq, 0, none⟩) TA oc pc sc_ qn qc tn tc os HMR.out HQ.out HT.out)
    go_wp2_with fail
    refine HC.out.mono ?_
    rintro e W12 ⟨FA, fc, DA, dc, fs, rfl, hfs, hfp, hy⟩
    clear HC
    have hx12 := Ext.trans hx11 hy
    have HMR := Lib.hid (HMR.out.ext hy)
    have HQ := Lib.hid (ra_ext HQ.out hy)
    have HT := Lib.hid (ra_ext HT.out hy)
    have HMO := Lib.hid (ra_ext HMO.out hy)
    have HJ5 := Lib.hid (HJ5.out.ext hy)
    have HFS := Lib.hid hfs
    have HFP := Lib.hid hfp
    clear hx11 hy hfs hfp HREC
    have HC := Lib.hid (HROD.out ⟨sv, iv, z⟩ k W12 OA PA SA MA TA oc pc sc_ mn mc tn tc os HMR.out HMO.out HT.out (by rw [HOL.out]; omega) hzodd)
    go_wp2_with fail
    refine HC.out.mono ?_
    rintro e W13 ⟨GA, gc_, EA, ec, gs, rfl, hgs, hgp, hds, hy⟩
    clear HC HMO
    have hx13 := Ext.trans hx12 hy
    have HMR := Lib.hid (HMR.out.ext hy)
    have HQ := Lib.hid (ra_ext HQ.out hy)
    have HT := Lib.hid (ra_ext HT.out hy)
    have HFS := Lib.hid (HFS.out.ext hy)
    have HJ5 := Lib.hid (HJ5.out.ext hy)
    have HGS := Lib.hid hgs
    have HGP := Lib.hid hgp
    have HDS := Lib.hid hds
    clear hx12 hy hgs hgp hds HROD
    go_upto_region 17 with (fail)
    have hxa : Ext W13 (W13.alloc (.cells #[] 63)) := bl_alloc (Below.refl _ _) _
    obtain ⟨v14, W14, hrun, hx14, ho14⟩ := copy_rcp 33 O _ W13.heap.size qn qc (some ⟨gq, 0, none⟩) W13.heap.size (Blk.new W13 63 #[]) (Nat.le_refl _) (by omega) (ra_ext HQ.out hxa)
    have hxb := Ext.trans hxa hx14
    obtain ⟨v15, W15, hrun2, hg15, ho15⟩ := join_rcp 33 O O v14 W13.heap.size W14.heap.size qn qc (some ⟨gq, 0, none⟩) ho14 (ra_ext HQ.out hxb) (by have := HOL.out; omega) (Below.size hxb)
    have hy : Ext W13 W15 := hxb.grown hg15 (Below.size hxb) (fun q e => (World.ownsRow.lt ho14 q e).1)
    obtain ⟨VA, vc, hv15, _, _⟩ := own_slice ho15
    subst hv15
    have hvo := RA.of_own (cells := rcpCells) ho15 rfl (by have := HOL.out; simp only [List.length_append]; omega)
    obtain ⟨vn, hvn⟩ : ∃ m, m = (O ++ O).length := ⟨_, rfl⟩
    rw [← hvn] at hvo hrun2
    have HRUN1 := Lib.hid hrun
    have HRUN2 := Lib.hid hrun2
    have hx15 := Ext.trans hx13 hy
    have HMR := Lib.hid (HMR.out.ext hy)
    have HT := Lib.hid (ra_ext HT.out hy)
    have HFS := Lib.hid (HFS.out.ext hy)
    have HGS := Lib.hid (HGS.out.ext hy)
    have HDS := Lib.hid (ra_ext HDS.out hy)
    have HJ5 := Lib.hid (HJ5.out.ext hy)
    have HC := Lib.hid (HRTW.out W15 OA PA SA VA TA oc pc sc_ vn vc tn tc os HMR.out hvo HT.out)
    clear hrun hrun2 hxa hx14 ho14 hxb hg15 hy ho15 hvo hvn hx13 HRTW HQ HOL HT
    go_wp2_with (first | refine wpList_append_run_ rfl _ _ _ rfl rfl rfl HRUN1.out ?_ | refine wpList_append_run_ rfl _ _ _ rfl rfl rfl HRUN2.out ?_)
    refine HC.out.mono ?_
    rintro e W16 ⟨ZA, zc, IA, ic, zs, rfl, hzs, hzp, hy⟩
    clear HC HRUN1 HRUN2
    have hx16 := Ext.trans hx15 hy
    have hfs := HFS.out.ext hy
    have hgs := HGS.out.ext hy
    have hj5 := HJ5.out.ext hy
    have HSA := Lib.hid (sameF_true FA GA L L fc gc_ fs gs W16 · hfs hgs (HFP.out.trans HGP.out.symm))
    have HSB := Lib.hid (sameF_true FA ZA L L fc zc fs zs W16 · hfs hzs (HFP.out.trans hzp.symm))
    have HDS := Lib.hid (ra_ext HDS.out hy)
    have HJ5 := Lib.hid hj5
    clear hx15 hy hfs hgs hj5 hzs hzp HFS HGS HMR HFP HGP
    go_upto_region 20 with (fail)
    obtain ⟨be, oe, hze, hEA, _, hce⟩ := HDS.out.at_ dsc_len (show 0 < 1 by omega)
    subst hEA
    have q0 : W16.cell? ⟨be, oe, none⟩ = some (.int .i64 1) := hce 0 (by omega)
    have q1 : W16.cell? ⟨be, oe + 1, none⟩ = some (.int .i64 iv) := hce 1 (by omega)
    have q2 : W16.cell? ⟨be, oe + 2, none⟩ = some (.int .i64 (k : Nat)) := hce 2 (by omega)
    have z1 : W16.cell? ⟨g5, 1, none⟩ = some (.int .i64 iv) := HJ5.out.cell 1
    have HXF := Lib.hid hx16
    clear hce hze HDS HJ5 hx16
    refine wp_region_obl 18 (fun ix vals v w1 => match ix with | 0 => v = .slice (some ⟨be, oe, none⟩) 1 ec | 1 => v = .pointer (some ⟨be, oe, none⟩) | 2 => v = .agg #[.int .i64 1, .int .i64 iv, .int .i64 (k : Nat)] | 3 => v = .pointer (some ⟨g5, 1, none⟩) | 4 => v = .int .i64 iv | 5 => v = .int .i64 (k : Nat) | 6 => v = .agg #[.int .i64 1, .int .i64 iv, .int .i64 (k : Nat)] | 7 => v = .bool true | 8 => v = .bool true | 9 => v = .slice FA L fc | 10 => v = .slice GA L gc_ | 11 => v = .bool true | 12 => v = .bool true | 13 => v = .bool true | 14 => v = .slice FA L fc | 15 => v = .slice ZA L zc | 16 => v = .bool true | _ => v = .bool true) (by kernel_rfl) (by kernel_rfl) ?_ ?_ ?_ ?_
    · intro ix vals v w1 w2 hi hr hx
      match ix, hr with
      | 0, hr => exact hr
      | 1, hr => exact hr
      | 2, hr => exact hr
      | 3, hr => exact hr
      | 4, hr => exact hr
      | 5, hr => exact hr
      | 6, hr => exact hr
      | 7, hr => exact hr
      | 8, hr => exact hr
      | 9, hr => exact hr
      | 10, hr => exact hr
      | 11, hr => exact hr
      | 12, hr => exact hr
      | 13, hr => exact hr
      | 14, hr => exact hr
      | 15, hr => exact hr
      | 16, hr => exact hr
      | (kx + 17), hr => exact hr
    · intro ix vals vals_ v w1 hi hv hr
      exact hr
    · refine ⟨?_, ?_, ?_, ?_, ?_, ?_, ?_, ?_, ?_, ?_, ?_, ?_, ?_, ?_, ?_, ?_, ?_, ?_, trivial⟩
      · intro vals w1 hx hd ha
        clear hd ha
        simp only [Lf]
        go_wp2
        exact ⟨rfl, Ext.refl _, rfl⟩
      · intro vals w1 hx hd ha
        have e0 : vals 0 = .slice (some ⟨be, oe, none⟩) 1 ec := hd 0 (by decide)
        clear hd ha
        simp only [Lf, dstAt, Act.put, List.getElem?_toArray, List.getElem?_cons_zero, Option.bind_some, List.setIfInBounds_toArray, List.set_cons_zero, List.set_cons_succ]
        simp only [e0]
        clear e0
        go_wp2
        exact ⟨rfl, Ext.refl _, rfl⟩
      · intro vals w1 hx hd ha
        have e1 : vals 1 = .pointer (some ⟨be, oe, none⟩) := hd 1 (by decide)
        clear hd ha
        simp only [Lf, dstAt, Act.put, List.getElem?_toArray, List.getElem?_cons_zero, List.getElem?_cons_succ, Option.bind_some, List.setIfInBounds_toArray, List.set_cons_zero, List.set_cons_succ]
        simp only [e1]
        clear e1
        have q0 := ext_cell hx.undrew q0; have q1 := ext_cell hx.undrew q1; have q2 := ext_cell hx.undrew q2
        go_wp2
        exact ⟨rfl, Ext.refl _, rfl⟩
      · intro vals w1 hx hd ha
        clear hd ha
        simp only [Lf, dstAt, Act.put, List.getElem?_toArray, List.getElem?_cons_zero, List.getElem?_cons_succ, Option.bind_some, List.setIfInBounds_toArray, List.set_cons_zero, List.set_cons_succ]
        go_wp2
        exact ⟨rfl, Ext.refl _, rfl⟩
      · intro vals w1 hx hd ha
        have e3 : vals 3 = .pointer (some ⟨g5, 1, none⟩) := hd 3 (by decide)
        clear hd ha
        simp only [Lf, dstAt, Act.put, List.getElem?_toArray, List.getElem?_cons_zero, List.getElem?_cons_succ, Option.bind_some, List.setIfInBounds_toArray, List.set_cons_zero, List.set_cons_succ]
        simp only [e3]
        clear e3
        have z1 := ext_cell hx.undrew z1
        go_wp2
        exact ⟨rfl, Ext.refl _, rfl⟩
      · intro vals w1 hx hd ha
        clear hd ha
        simp only [Lf, dstAt, Act.put, List.getElem?_toArray, List.getElem?_cons_zero, List.getElem?_cons_succ, Option.bind_some, List.setIfInBounds_toArray, List.set_cons_zero, List.set_cons_succ]
        go_wp2
        exact ⟨rfl, Ext.refl _, rfl⟩
      · intro vals w1 hx hd ha
        have e4 : vals 4 = .int .i64 iv := hd 4 (by decide)
        have e5 : vals 5 = .int .i64 (k : Nat) := hd 5 (by decide)
        clear hd ha
        simp only [Lf, dstAt, Act.put, List.getElem?_toArray, List.getElem?_cons_zero, List.getElem?_cons_succ, Option.bind_some, List.setIfInBounds_toArray, List.set_cons_zero, List.set_cons_succ]
        simp only [e4, e5]
        clear e4 e5
        go_wp2
        exact ⟨rfl, Ext.refl _, rfl⟩
      · intro vals w1 hx hd ha
        have e2 : vals 2 = .agg #[.int .i64 1, .int .i64 iv, .int .i64 (k : Nat)] := hd 2 (by decide)
        have e6 : vals 6 = .agg #[.int .i64 1, .int .i64 iv, .int .i64 (k : Nat)] := hd 6 (by decide)
        clear hd ha
        simp only [Lf, dstAt, Act.put, List.getElem?_toArray, List.getElem?_cons_zero, List.getElem?_cons_succ, Option.bind_some, List.setIfInBounds_toArray, List.set_cons_zero, List.set_cons_succ]
        simp only [e2, e6]
        clear e2 e6
        go_wp2
        exact ⟨rfl, Ext.refl _, rfl⟩
      · intro vals w1 hx hd ha
        have e7 : vals 7 = .bool true := hd 7 (by decide)
        clear hd ha
        simp only [Lf, dstAt, Act.put, List.getElem?_toArray, List.getElem?_cons_zero, List.getElem?_cons_succ, Option.bind_some, List.setIfInBounds_toArray, List.set_cons_zero, List.set_cons_succ]
        simp only [e7]
        clear e7
        go_wp2
        exact ⟨rfl, Ext.refl _, rfl⟩
      · intro vals w1 hx hd ha
        have e8 : vals 8 = .bool true := hd 8 (by decide)
        clear hd ha
        simp only [Lf, dstAt, Act.put, List.getElem?_toArray, List.getElem?_cons_zero, List.getElem?_cons_succ, Option.bind_some, List.setIfInBounds_toArray, List.set_cons_zero, List.set_cons_succ]
        simp only [e8]
        clear e8
        go_wp2
        exact ⟨rfl, Ext.refl _, rfl⟩
      · intro vals w1 hx hd ha
        have e8 : vals 8 = .bool true := hd 8 (by decide)
        clear hd ha
        simp only [Lf, dstAt, Act.put, List.getElem?_toArray, List.getElem?_cons_zero, List.getElem?_cons_succ, Option.bind_some, List.setIfInBounds_toArray, List.set_cons_zero, List.set_cons_succ]
        simp only [e8]
        clear e8
        go_wp2
        exact ⟨rfl, Ext.refl _, rfl⟩
      · intro vals w1 hx hd ha
        have e8 : vals 8 = .bool true := hd 8 (by decide)
        have e9 : vals 9 = .slice FA L fc := hd 9 (by decide)
        have e10 : vals 10 = .slice GA L gc_ := hd 10 (by decide)
        clear hd ha
        simp only [Lf, dstAt, Act.put, List.getElem?_toArray, List.getElem?_cons_zero, List.getElem?_cons_succ, Option.bind_some, List.setIfInBounds_toArray, List.set_cons_zero, List.set_cons_succ]
        simp only [e8]
        simp only [e9]
        simp only [e10]
        clear e8 e9 e10
        have HS := Lib.hid (HSA.out w1 hx.undrew)
        go_wp2_with (refine HS.out.mono ?_; rintro e w2 ⟨rfl, hy⟩)
        exact ⟨rfl, hy, rfl⟩
      · intro vals w1 hx hd ha
        have e8 : vals 8 = .bool true := hd 8 (by decide)
        have e11 : vals 11 = .bool true := hd 11 (by decide)
        clear hd ha
        simp only [Lf, dstAt, Act.put, List.getElem?_toArray, List.getElem?_cons_zero, List.getElem?_cons_succ, Option.bind_some, List.setIfInBounds_toArray, List.set_cons_zero, List.set_cons_succ]
        simp only [e8, e11]
        clear e8 e11
        go_wp2
        exact ⟨rfl, Ext.refl _, rfl⟩
      · intro vals w1 hx hd ha
        have e11 : vals 11 = .bool true := hd 11 (by decide)
        have e12 : vals 12 = .bool true := hd 12 (by decide)
        clear hd ha
        simp only [Lf, dstAt, Act.put, List.getElem?_toArray, List.getElem?_cons_zero, List.getElem?_cons_succ, Option.bind_some, List.setIfInBounds_toArray, List.set_cons_zero, List.set_cons_succ]
        simp only [e11, e12]
        clear e11 e12
        go_wp2
        exact ⟨rfl, Ext.refl _, rfl⟩
      · intro vals w1 hx hd ha
        have e13 : vals 13 = .bool true := hd 13 (by decide)
        clear hd ha
        simp only [Lf, dstAt, Act.put, List.getElem?_toArray, List.getElem?_cons_zero, List.getElem?_cons_succ, Option.bind_some, List.setIfInBounds_toArray, List.set_cons_zero, List.set_cons_succ]
        simp only [e13]
        clear e13
        go_wp2
        exact ⟨rfl, Ext.refl _, rfl⟩
      · intro vals w1 hx hd ha
        have e13 : vals 13 = .bool true := hd 13 (by decide)
        clear hd ha
        simp only [Lf, dstAt, Act.put, List.getElem?_toArray, List.getElem?_cons_zero, List.getElem?_cons_succ, Option.bind_some, List.setIfInBounds_toArray, List.set_cons_zero, List.set_cons_succ]
        simp only [e13]
        clear e13
        go_wp2
        exact ⟨rfl, Ext.refl _, rfl⟩
      · intro vals w1 hx hd ha
        have e13 : vals 13 = .bool true := hd 13 (by decide)
        have e14 : vals 14 = .slice FA L fc := hd 14 (by decide)
        have e15 : vals 15 = .slice ZA L zc := hd 15 (by decide)
        clear hd ha
        simp only [Lf, dstAt, Act.put, List.getElem?_toArray, List.getElem?_cons_zero, List.getElem?_cons_succ, Option.bind_some, List.setIfInBounds_toArray, List.set_cons_zero, List.set_cons_succ]
        simp only [e13]
        simp only [e14]
        simp only [e15]
        clear e13 e14 e15
        have HS := Lib.hid (HSB.out w1 hx.undrew)
        go_wp2_with (refine HS.out.mono ?_; rintro e w2 ⟨rfl, hy⟩)
        exact ⟨rfl, hy, rfl⟩
      · intro vals w1 hx hd ha
        have e13 : vals 13 = .bool true := hd 13 (by decide)
        have e16 : vals 16 = .bool true := hd 16 (by decide)
        clear hd ha
        simp only [Lf, dstAt, Act.put, List.getElem?_toArray, List.getElem?_cons_zero, List.getElem?_cons_succ, Option.bind_some, List.setIfInBounds_toArray, List.set_cons_zero, List.set_cons_succ]
        simp only [e13, e16]
        clear e13 e16
        go_wp2
        exact ⟨rfl, Ext.refl _, rfl⟩
    intro vals W17 hz hf
    have v17 : vals 17 = .bool true := hf 17 (by omega)
    have HX := Lib.hid (Ext.trans HXF.out hz.undrew)
    clear hf hz q0 q1 q2 z1 HSA HSB
    refine tail1 18 _ (by kernel_rfl) (by kernel_rfl) rfl ?_
    simp only [Lf, dstAt, Act.put, List.getElem?_toArray, List.getElem?_cons_zero, List.getElem?_cons_succ, Option.bind_some, List.setIfInBounds_toArray, List.set_cons_zero, List.set_cons_succ]
    rw [v17]
    clear v17
    go_wp2
    go_ret
    exact ⟨rfl, HX.out⟩
end Go.Proofs.Ytmlabgmigakcbaa
