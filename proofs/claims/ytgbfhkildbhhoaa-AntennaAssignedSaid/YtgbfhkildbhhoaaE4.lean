/- AntennaAssigned: the walk. -/
import Derived.Test.YtgbfhkildbhhoaaL0
import Derived.Test.YtgbfhkildbhhoaaQ2
import Derived.Test.YtgbfhkildbhhoaaTn2
import Derived.BigQuiet
namespace Go.Proofs.Ytgbfhkildbhhoaa
open Go.RowKit

theorem clash_nil (l : List Use) (m : Int) (hv : validU l = true) (hm : inB m 0 8 = true) (hc : (clashP l m).1 = -1) : (clashP l m).2.1 = [] := by
  have h1 := (clash_iff l m hv hm).2.2.1 hc
  unfold clashP at hc ⊢
  rw [hv, hm, Bool.true_and, if_pos rfl] at hc ⊢
  dsimp only at hc ⊢
  rcases scan_none l m (orderP l) with ⟨_, _, h3⟩ | ⟨pre, i, post, h2, _, h3, h4⟩
  · exact h3
  · exfalso
    have hil : i < l.length := (mem_order l i).1 (by rw [h2]; simp)
    have := h1 l[i] (List.getElem_mem hil)
    rw [← frP_at l i hil] at this
    omega
theorem RA.int_at {w : World} {B n c : Nat} {A : Option Addr} {l : List Int} (h : RA intCells 1 w B A n c l) {k : Nat} (hk : k < n) : ∃ b o, A = some ⟨b, o, none⟩ ∧ w.cell? ⟨b, o + k, none⟩ = some (.int .i64 (l.getD k 0)) := by
  obtain ⟨b, o, hz, hA, _, hc⟩ := h.at_ int_len hk
  refine ⟨b, o, hA, ?_⟩
  have := hc 0 (by omega)
  rw [Nat.mul_one, Nat.add_zero] at this
  rw [this, List.getD_eq_getElem?_getD, List.getElem?_eq_getElem hz]
  rfl

theorem idxP_get (q : Use → Bool) (l : List Use) (i : Nat) (h : i < l.length) (hq : q l[i] = true) : (idxP q l 0)[(idxP q (l.take i) 0).length]? = some i := by
  have h1 := idxP_append q (l.take (i + 1)) (l.drop (i + 1)) 0
  rw [List.take_append_drop, idxP_succ q l i h, if_pos hq] at h1
  rw [h1, List.append_assoc, List.getElem?_append_right (Nat.le_refl _), Nat.sub_self]
  rfl
set_option maxRecDepth 100000 in
set_option maxHeartbeats 8000000 in
theorem assigned_walk (xa : Option Addr) (xn xc : Nat) (xs : List T3) (antennas : Int) (w : World) (hr : RA t3Cells 3 w w.heap.size xa xn xc xs) (hok : ∀ t ∈ xs, t.ok) (hw : I64ok antennas) :
    Calls Try.prog 4 #[.slice xa xn xc, .int .i64 antennas] w (Tru w) := by
  have HS := Lib.hid (sane_any w)
  have HM := Lib.hid (fun (W : World) (hW : Ext w W) => made_any xs xa xn xc W (ra_ext hr hW) hok)
  obtain ⟨l, hl⟩ : ∃ l, l = madeP xs := ⟨_, rfl⟩
  have hval : validU l = true := by rw [hl]; exact made_valid xs
  have hlen : l.length ≤ 14 := by rw [hl]; exact made_len xs
  rw [← hl] at HM
  obtain ⟨n, hn⟩ : ∃ n, n = l.length := ⟨_, rfl⟩
  have hn14 : n ≤ 14 := by omega
  have hpk := fun W => pickl_any antennas 9 W hw.1 hw.2 (by omega) (by omega)
  obtain ⟨hb1, hb2⟩ := pickI_bd antennas 9 (by omega)
  obtain ⟨m, hm, hm8⟩ : ∃ m : Nat, pickI antennas 9 = m ∧ m ≤ 8 := ⟨(pickI antennas 9).toNat, by omega, by omega⟩
  rw [hm] at hpk
  have hmB : inB (m : Int) 0 8 = true := by rw [inB_iff]; omega
  have HPK := Lib.hid hpk
  have HV := Lib.hid hval
  have HNL := Lib.hid hn
  have HMB := Lib.hid hmB
  clear hr hok hl hval hlen hn hb1 hb2 hm hpk hmB
  go_enter Try.func4, Try.ntmps4
  go_wp2_with fail
  refine HS.out.mono ?_
  rintro e W1 ⟨rfl, hx⟩
  go_wp2_with fail
  refine (HM.out _ hx).mono ?_
  rintro e W2 ⟨v, rfl, hown, hy⟩
  obtain ⟨A, c, rfl, hnc, hcm⟩ := own_slice hown
  have hx := Ext.trans hx hy
  have hra := RA.of_own (cells := useCells) hown rfl (by rw [← HNL.out]; omega)
  rw [← HNL.out] at hra hnc
  rw [← HNL.out]
  have HRA := Lib.hid hra
  clear hown hy HS HM hra
  go_wp2_with fail
  refine (HPK.out _).mono ?_
  rintro e w' ⟨rfl, rfl⟩
  clear HPK
  have hcl := clash_any l (m : Int) A n c W2 HRA.out (by unfold mxS; omega)
  obtain ⟨he0, hge, hiff⟩ := clash_iff l (m : Int) HV.out HMB.out
  have hcn := clash_nil l (m : Int) HV.out HMB.out
  have hca := clash_at l (m : Int) HV.out HMB.out
  have hce := clash_early l (m : Int) HV.out HMB.out
  have hgood := assign_good l (m : Int) HV.out HMB.out
  have hbad := assign_bad l (m : Int) HV.out HMB.out
  unfold ClashRet at hcl
  rw [he0] at hcl
  generalize (clashP l (m : Int)).1 = t at hcl hge hiff hcn hca hce hgood hbad
  generalize (clashP l (m : Int)).2.1 = there at hcl hcn hca
  have has := fun (W : World) (hW : Ext W2 W) => assign_any l (m : Int) A n c W (ra_ext HRA.out hW) (by unfold mxS; omega)
  by_cases ht : t = -1
  · obtain ⟨g, hg, hgl, hgb, hgd⟩ := hgood ht
    rw [hcn ht] at hcl
    rw [hg] at has
    have HCL := Lib.hid hcl
    have HAS := Lib.hid has
    have HGB := Lib.hid hgb
    have HGD := Lib.hid hgd
    have HGL := Lib.hid hgl
    subst ht
    clear hcl has hg hcn hca hce hgood hbad hge hiff he0 hgl hgb hgd
    go_wp2_with fail
    refine HCL.out.mono ?_
    rintro e W3 ⟨v9, rfl, hown9, hy⟩
    obtain ⟨A9, c9, rfl, _, _⟩ := own_slice hown9
    have hx3 := Ext.trans hx hy
    go_wp2_with fail
    refine (HAS.out _ hy).mono ?_
    rintro e W4 ⟨v11, rfl, hown11, hz⟩
    obtain ⟨A11, c11, rfl, _, _⟩ := own_slice hown11
    have hg4 := RA.of_own (cells := intCells) hown11 rfl (by dsimp only; rw [HGL.out, ← HNL.out]; omega)
    dsimp only at hg4
    dsimp only
    rw [HGL.out, ← HNL.out] at hg4
    rw [HGL.out, ← HNL.out]
    have hx4 := Ext.trans hx3 hz
    have HG := Lib.hid hg4
    have HRA4 := Lib.hid (ra_ext HRA.out (Ext.trans hy hz))
    clear hown9 hown11 hg4 hy hz HCL HAS hx hx3 HRA
    go_wp2_with fail
    go_loopw [14] (fun y wr => ∃ i : Nat, i ≤ n ∧ y = .int .i64 i ∧ Ext W4 wr) (fun y _ => n - (intOf y).toNat)
    case atStart => exact ⟨0, Nat.zero_le _, rfl, Ext.refl _⟩
    case round =>
      obtain ⟨i, hi, rfl, hy⟩ := hrel
      by_cases hin : i < n
      · skip
        obtain ⟨b, o, hA, _, cf, ct⟩ := (HRA4.out.below hy).use_at hin
        obtain ⟨bg, og, hG, cg⟩ := (HG.out.below hy).int_at hin
        obtain ⟨hg0, hg1⟩ := HGB.out i (by rw [← HNL.out]; exact hin)
        obtain ⟨gi, hgi⟩ : ∃ gi, gi = g.getD i 0 := ⟨_, rfl⟩
        rw [← hgi] at cg hg0 hg1
        obtain ⟨fi, hfi⟩ : ∃ fi, fi = frP l i := ⟨_, rfl⟩
        obtain ⟨ti, hti⟩ : ∃ ti, ti = ttP l i := ⟨_, rfl⟩
        rw [← hfi] at cf
        rw [← hti] at ct
        have HGI := Lib.hid hgi
        have HFI := Lib.hid hfi
        have HTI := Lib.hid hti
        have hg0' : ¬ gi < 0 := by omega
        have hg1' : ¬ (m : Int) ≤ gi := by omega
        have hi0 : (0 : Int) ≤ (i : Int) := by omega
        have hii : (i : Int) < (n : Int) := by omega
        subst hA hG
        clear hgi hfi hti hg0 hg1
        have HCF := Lib.hid cf
        have HCT := Lib.hid ct
        have HCG := Lib.hid cg
        obtain ⟨W5, hW5⟩ : ∃ W, W = wr := ⟨_, rfl⟩
        rw [← hW5] at hy HCF HCT HCG cf ct cg ⊢
        clear hW5
        have HY5 := Lib.hid hy
        go_wp2_with fail
        clear cf ct cg
        go_loopw [15] (fun y wi => ∃ k : Nat, k ≤ i ∧ y = .int .i64 k ∧ Ext W5 wi) (fun y _ => i - (intOf y).toNat)
        case atStart => exact ⟨0, Nat.zero_le _, rfl, Ext.refl _⟩
        case round =>
          obtain ⟨k, hk, rfl, hz⟩ := hrel
          have hy := Ext.trans HY5.out hz
          have cf := ext_cell hz HCF.out
          have ct := ext_cell hz HCT.out
          have cg := ext_cell hz HCG.out
          by_cases hki : k < i
          · obtain ⟨b', o', hA', _, df, dt⟩ := (HRA4.out.below hy).use_at (show k < n by omega)
            obtain ⟨bg', og', hG', dg⟩ := (HG.out.below hy).int_at (show k < n by omega)
            injection hA' with hA'
            injection hA' with e1 e2 _
            injection hG' with hG'
            injection hG' with e3 e4 _
            subst e1 e2 e3 e4
            have hne := HGD.out i k (by rw [← HNL.out]; omega) (by rw [← HNL.out]; omega) (by omega)
            rw [← HGI.out, ← HFI.out, ← HTI.out] at hne
            generalize g.getD k 0 = gk at hne dg
            generalize frP l k = fk at hne df
            generalize ttP l k = tk at hne dt
            have hk0 : (0 : Int) ≤ (k : Int) := by omega
            have hkn : (k : Int) < (n : Int) := by omega
            by_cases c1 : fi < tk
            · have d1 : decide (fi < tk) = true := by simpa using c1
              by_cases c2 : fk < ti
              · have d2 : decide (fk < ti) = true := by simpa using c2
                have hnq : ¬ gi = gk := hne c1 c2
                have hnb : (gi == gk) = false := by simpa using hnq
                clear hne
                go_wp2_with fail
                go_quiet (fail)
                go_wp2_with fail
                go_quiet (fail)
                go_wp2_with fail
                go_roundw
                case rel => exact ⟨k + 1, by omega, by go_num, (by repeat (first | exact Below.refl _ _ | assumption | refine Below.drew ?_ | refine below_drewN ?_ _ | refine bl_alloc ?_ _ | refine Below.setCell ?_ (by first | (simp; done) | omega | (simp; omega)) _ | refine bl_then ?_ (by assumption)))⟩
                case measure => simp [intOf]; omega
              · have d2 : decide (fk < ti) = false := by simpa using c2
                clear hne
                go_wp2_with fail
                go_quiet (fail)
                go_wp2_with fail
                go_quiet (fail)
                go_wp2_with fail
                go_roundw
                case rel => exact ⟨k + 1, by omega, by go_num, (by repeat (first | exact Below.refl _ _ | assumption | refine Below.drew ?_ | refine below_drewN ?_ _ | refine bl_alloc ?_ _ | refine Below.setCell ?_ (by first | (simp; done) | omega | (simp; omega)) _ | refine bl_then ?_ (by assumption)))⟩
                case measure => simp [intOf]; omega
            · have d1 : decide (fi < tk) = false := by simpa using c1
              clear hne
              go_wp2_with fail
              go_quiet (fail)
              go_wp2_with fail
              go_quiet (fail)
              go_wp2_with fail
              go_roundw
              case rel => exact ⟨k + 1, by omega, by go_num, (by repeat (first | exact Below.refl _ _ | assumption | refine Below.drew ?_ | refine below_drewN ?_ _ | refine bl_alloc ?_ _ | refine Below.setCell ?_ (by first | (simp; done) | omega | (simp; omega)) _ | refine bl_then ?_ (by assumption)))⟩
              case measure => simp [intOf]; omega
          · go_wp2_with fail
            go_roundw
            case rel => exact ⟨i + 1, by omega, by go_num, hy⟩
            case measure => simp [intOf]; omega
      · go_wp2_with fail
        go_ret
        exact ⟨rfl, Ext.trans hx4 hy⟩
  · skip
    have ht0 : 0 ≤ t := hge.resolve_left ht
    obtain ⟨hth, hmc, -, -⟩ := hca ht
    obtain ⟨hce1, hce0⟩ := hce ht
    rw [hth] at hcl
    rw [hbad ht] at has
    have htb : (t == -1) = false := by simpa using ht
    have hcc := atP_len l t
    obtain ⟨q, hq⟩ : ∃ q, q = cnt l t := ⟨_, rfl⟩
    have hq14 : q ≤ 14 := by have := cnt_le l t; have := HNL.out; omega
    rw [← hq] at hcc hmc
    have HCC := Lib.hid hcc
    have HCL := Lib.hid hcl
    have HAS := Lib.hid has
    have HCE1 := Lib.hid hce1
    have HCE0 := Lib.hid hce0
    clear hcl has hcn hca hce hgood hbad hge hiff he0 hth hcc hq hce1 hce0
    go_wp2_with fail
    refine HCL.out.mono ?_
    rintro e W3 ⟨v9, rfl, hown9, hy⟩
    obtain ⟨A9, c9, rfl, _, _⟩ := own_slice hown9
    have hth9 := RA.of_own (cells := natCells) hown9 rfl (by rw [HCC.out]; omega)
    rw [HCC.out] at hth9
    rw [HCC.out]
    have hx3 := Ext.trans hx hy
    go_wp2_with fail
    refine (HAS.out _ hy).mono ?_
    rintro e W4 ⟨v11, rfl, hown11, hz⟩
    obtain ⟨A11, c11, rfl, _, _⟩ := own_slice hown11
    have hx4 := Ext.trans hx3 hz
    have HTH := Lib.hid (ra_ext hth9 hz)
    have HRA4 := Lib.hid (ra_ext HRA.out (Ext.trans hy hz))
    clear hown9 hown11 hth9 hy hz HCL HAS hx hx3 HRA
    go_wp2_with fail
    go_loopw [17, 18] (fun x y wr => ∃ i : Nat, i ≤ n ∧ y = .int .i64 i ∧ x = .int .i64 ((idxP (hasT t) (l.take i) 0).length : Int) ∧ wr = W4) (fun _ y _ => n - (intOf y).toNat)
    case atStart => exact ⟨0, Nat.zero_le _, rfl, rfl, rfl⟩
    case round =>
      obtain ⟨i, hi, rfl, rfl, rfl⟩ := hrel
      by_cases hin : i < n
      · obtain ⟨b, o, hA, _, cf, ct⟩ := HRA4.out.use_at hin
        have hil : i < l.length := by rw [← HNL.out]; exact hin
        have hst := idxP_succ (hasT t) l i hil
        have hgt := idxP_get (hasT t) l i hil
        have hhas : hasT t l[i] = (decide (frP l i ≤ t) && decide (t < ttP l i)) := by rw [frP_at l i hil, ttP_at l i hil]; rfl
        rw [hhas] at hst hgt
        generalize frP l i = fi at hst hgt cf hhas
        generalize ttP l i = ti at hst hgt ct hhas
        have hpl : (idxP (hasT t) (l.take i) 0).length ≤ i := Nat.le_trans (idxP_le _ _ _) (List.length_take_le _ _)
        have hi0 : (0 : Int) ≤ (i : Int) := by omega
        have hii : (i : Int) < (n : Int) := by omega
        subst hA
        by_cases c1 : fi ≤ t
        · by_cases c2 : t < ti
          · rw [decide_eq_true c1, decide_eq_true c2] at hst hgt
            have hg := hgt rfl
            rw [if_pos (by rfl)] at hst
            have hlt : (idxP (hasT t) (l.take i) 0).length < q := by rw [← HCC.out]; exact (List.getElem?_eq_some_iff.1 hg).1
            obtain ⟨bg, og, hzg, hG, _, hcg⟩ := HTH.out.at_ nat_len hlt
            have hge : (atP l t)[(idxP (hasT t) (l.take i) 0).length] = i := (List.getElem?_eq_some_iff.1 hg).2
            have cg : wr.cell? ⟨bg, og + (idxP (hasT t) (l.take i) 0).length * 1, none⟩ = some (.int .i64 ((atP l t)[(idxP (hasT t) (l.take i) 0).length] : Int)) := hcg 0 (by omega)
            rw [hge, Nat.mul_one] at cg
            have hsl : (idxP (hasT t) (l.take (i + 1)) 0).length = (idxP (hasT t) (l.take i) 0).length + 1 := by rw [hst, List.length_append]; rfl
            generalize (idxP (hasT t) (l.take i) 0).length = a at hlt cg hsl hpl
            have HSL := Lib.hid hsl
            subst hG
            have ha0 : (0 : Int) ≤ (a : Int) := by omega
            have haq : (a : Int) < (q : Int) := by omega
            have haq' : ¬ (q : Int) ≤ (a : Int) := by omega
            have c1' : ¬ t < fi := by omega
            have c2' : ¬ ti ≤ t := by omega
            clear hst hgt hg hge hcg hsl hzg hhas
            go_wp2_with fail
            go_roundw
            case rel => exact ⟨i + 1, by omega, by go_num, by rw [HSL.out]; go_num, trivial⟩
            case measure => simp [intOf]; omega
          · rw [decide_eq_false c2, Bool.and_false] at hst
            have hsl : (idxP (hasT t) (l.take (i + 1)) 0).length = (idxP (hasT t) (l.take i) 0).length := by rw [hst]; simp
            generalize (idxP (hasT t) (l.take i) 0).length = a at hsl hpl
            have HSL := Lib.hid hsl
            have c1' : ¬ t < fi := by omega
            have c2' : ti ≤ t := by omega
            clear hst hgt hsl hhas
            go_wp2_with fail
            go_roundw
            case rel => exact ⟨i + 1, by omega, by go_num, by rw [HSL.out], trivial⟩
            case measure => simp [intOf]; omega
        · rw [decide_eq_false c1, Bool.false_and] at hst
          have hsl : (idxP (hasT t) (l.take (i + 1)) 0).length = (idxP (hasT t) (l.take i) 0).length := by rw [hst]; simp
          generalize (idxP (hasT t) (l.take i) 0).length = a at hsl hpl
          have HSL := Lib.hid hsl
          have c1' : t < fi := by omega
          clear hst hgt hsl hhas
          go_wp2_with fail
          go_roundw
          case rel => exact ⟨i + 1, by omega, by go_num, by rw [HSL.out], trivial⟩
          case measure => simp [intOf]; omega
      · have htk : l.take i = l := List.take_of_length_le (by rw [← HNL.out]; omega)
        have hqq : (idxP (hasT t) (l.take i) 0).length = q := by rw [htk]; exact HCC.out
        rw [hqq]
        clear htk hqq
        go_wp2_with fail
        obtain ⟨W6, hW6⟩ : ∃ W, W = wr := ⟨_, rfl⟩
        rw [← hW6] at hx4 HRA4 ⊢
        clear hW6 HTH
        go_loopw [19, 20] (fun x y wl => ∃ j : Nat, j ≤ n ∧ y = .int .i64 j ∧ Hid (OwnU wl W6.heap.size x ((l.take j).filter fun u => decide (u.fr < t))) ∧ Ext W6 wl) (fun _ y _ => n - (intOf y).toNat)
        case atStart => exact ⟨0, Nat.zero_le _, rfl, Lib.hid (World.ownsRow_nil _ _ _ _), Ext.refl _⟩
        case round =>
          obtain ⟨j, hj, rfl, HO, hy⟩ := hrel
          by_cases hjn : j < n
          · obtain ⟨b, o, hz, hA, _, hc⟩ := (HRA4.out.below hy).at_ use_len hjn
            have hst : (l.take (j + 1)).filter (fun u => decide (u.fr < t)) = (l.take j).filter (fun u => decide (u.fr < t)) ++ (if l[j].fr < t then [l[j]] else []) := by
              rw [List.take_succ_eq_append_getElem hz, List.filter_append]
              congr 1
              by_cases h : l[j].fr < t <;> simp [h]
            have hll : ((l.take j).filter fun u => decide (u.fr < t)).length ≤ 14 := Nat.le_trans (List.length_filter_le _ _) (by rw [List.length_take]; omega)
            have c0 : wr.cell? ⟨b, o + j * 3, none⟩ = some (.int .i64 l[j].sat) := hc 0 (by omega)
            have c1 : wr.cell? ⟨b, o + j * 3 + 1, none⟩ = some (.int .i64 l[j].fr) := hc 1 (by omega)
            have c2 : wr.cell? ⟨b, o + j * 3 + 2, none⟩ = some (.int .i64 l[j].tt) := hc 2 (by omega)
            generalize l[j] = u at hst c0 c1 c2
            obtain ⟨us, uf, ut⟩ := u
            dsimp only at hst c0 c1 c2
            generalize (l.take j).filter (fun u => decide (u.fr < t)) = early at HO hst hll
            obtain ⟨A3, c3, hv3, _, _⟩ := own_slice HO.out
            subst hv3
            have hj0 : (0 : Int) ≤ (j : Int) := by omega
            have hjj : (j : Int) < (n : Int) := by omega
            subst hA
            clear hc hz
            by_cases hlt : uf < t
            · rw [if_pos hlt] at hst
              have hxa : Ext wr (wr.alloc (.cells #[.int .i64 us, .int .i64 uf, .int .i64 ut] 26)) := bl_alloc (Below.refl _ _) _
              have hya := Ext.trans hy hxa
              obtain ⟨v9, W9, hrun, hg9, h9⟩ := snoc_use 27 early (.slice A3 early.length c3) ⟨us, uf, ut⟩ W6.heap.size wr.heap.size (Blk.new _ _ _) (HO.out.ext hxa) (by omega) (Below.size hya)
              have hy9 : Ext W6 W9 := hya.grown hg9 (Below.size hya) (fun q e => (World.ownsRow.lt HO.out q e).1)
              rw [← hst] at h9
              have HO9 := Lib.hid h9
              have HRUN := Lib.hid hrun
              clear hrun hg9 h9 HO hxa hya hst
              go_wp2_with (refine wpList_append_run_ rfl _ _ _ rfl rfl rfl HRUN.out ?_)
              clear HRUN
              go_roundw
              case rel => exact ⟨j + 1, by omega, by go_num, HO9, hy9⟩
              case measure => simp [intOf]; omega
            · rw [if_neg hlt, List.append_nil] at hst
              have HO9 : Hid (OwnU wr W6.heap.size (.slice A3 early.length c3) ((l.take (j + 1)).filter fun u => decide (u.fr < t))) := Lib.hid (by rw [hst]; exact HO.out)
              clear hst HO
              go_wp2_with fail
              go_roundw
              case rel => exact ⟨j + 1, by omega, by go_num, HO9, hy⟩
              case measure => simp [intOf]; omega
          · have htk : l.take j = l := List.take_of_length_le (by rw [← HNL.out]; omega)
            rw [htk] at HO
            have hfl : (l.filter fun u => decide (u.fr < t)).length ≤ 14 := Nat.le_trans (List.length_filter_le _ _) (by rw [← HNL.out]; omega)
            obtain ⟨A3, c3, hv3, _, _⟩ := own_slice HO.out
            subst hv3
            have hcl := clash_any (l.filter fun u => decide (u.fr < t)) (m : Int) A3 _ c3 wr (RA.of_own (cells := useCells) HO.out rfl (by omega)) (by unfold mxS; omega)
            unfold ClashRet at hcl
            rw [HCE1.out, HCE0.out] at hcl
            generalize (l.filter fun u => decide (u.fr < t)).length = e9 at hcl hfl
            have HCL := Lib.hid hcl
            have hxw := Ext.trans hx4 hy
            clear hcl htk HO
            go_wp2_with fail
            refine HCL.out.mono ?_
            rintro e W8 ⟨v22, rfl, _, hz⟩
            have hxf := Ext.trans hxw hz
            clear HCL hz hxw
            go_wp2_with fail
            go_ret
            exact ⟨rfl, hxf⟩
end Go.Proofs.Ytgbfhkildbhhoaa
