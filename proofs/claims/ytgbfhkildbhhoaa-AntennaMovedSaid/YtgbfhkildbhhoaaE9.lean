/- AntennaMoved: the walk. -/
import Derived.Test.YtgbfhkildbhhoaaL0
import Derived.Test.YtgbfhkildbhhoaaQ4
import Derived.Test.YtgbfhkildbhhoaaTn2
import Derived.Laws.BitsLemmas
namespace Go.Proofs.Ytgbfhkildbhhoaa
open Go.RowKit

theorem mov_take (l : List Use) (k : Nat) (d : Int) (hk : k ≤ l.length) (i : Nat) (h : i < l.length) (hr : rotP l.length k i < l.length) : (movP l k d).take (i + 1) = (movP l k d).take i ++ [shU d l[rotP l.length k i]] := by
  have hm : i < (movP l k d).length := by rw [mov_len]; exact h
  rw [List.take_succ_eq_append_getElem hm]
  congr 2
  have hg : (movP l k d)[i]? = some (shU d l[rotP l.length k i]) := by
    unfold movP
    have he := rot_eq hk h
    rw [List.getElem?_map, List.getElem?_append, List.length_drop]
    split
    · rw [if_pos (by omega)] at he
      rw [List.getElem?_drop, show k + i = rotP l.length k i by omega, List.getElem?_eq_getElem hr]
      rfl
    · rw [if_neg (by omega)] at he
      rw [List.getElem?_take, if_pos (by omega), show i - (l.length - k) = rotP l.length k i by omega, List.getElem?_eq_getElem hr]
      rfl
  rw [List.getElem?_eq_getElem hm] at hg
  injection hg
theorem clash_nil9 (l : List Use) (m : Int) (hv : validU l = true) (hm : inB m 0 8 = true) (hc : (clashP l m).1 = -1) : (clashP l m).2.1 = [] := by
  have h1 := (clash_iff l m hv hm).2.2.1 hc
  unfold clashP at hc ⊢
  rw [hv, hm, Bool.true_and, if_pos rfl] at hc ⊢
  dsimp only at hc ⊢
  rcases scan_none l m (orderP l) with ⟨_, _, h3⟩ | ⟨pre, i, post, h2, _, h3, h4⟩
  · exact h3
  · exfalso
    have hil : i < l.length := (mem_order l i).1 (by rw [h2]; simp)
    have := h1 l[i] (List.getElem_mem hil)
    rw [← frP_at l i hil] at this
    omega
/-- All that the law asks of the two clashes. -/
theorem mov_all (l : List Use) (k : Nat) (d m : Int) (hk : k ≤ l.length) (hv : validU l = true) (hv2 : validU (movP l k d) = true) (hm : inB m 0 8 = true) (hs : ∀ u ∈ l, u.tt ≤ 200) : ∃ (t u : Int) (a b : List Nat), clashP l m = (t, a, 0) ∧ clashP (movP l k d) m = (u, b, 0) ∧ a.length = b.length ∧ (∀ x ∈ a, x < l.length) ∧ (∀ x ∈ b, x < l.length) ∧ orP a = orP (b.map (rotP l.length k)) ∧ a.length ≤ l.length ∧ ((t = -1 ∧ u = -1) ∨ (0 ≤ t ∧ t ≤ 200 ∧ u = t + d)) := by
  obtain ⟨e1, h1, _⟩ := clash_iff l m hv hm
  obtain ⟨e2, _, _⟩ := clash_iff (movP l k d) m hv2 hm
  obtain ⟨hi, hu⟩ := mov_clash l k d m hv hv2 hm
  refine ⟨(clashP l m).1, (clashP (movP l k d) m).1, (clashP l m).2.1, (clashP (movP l k d) m).2.1, Prod.ext rfl (Prod.ext rfl e1), Prod.ext rfl (Prod.ext rfl e2), ?_⟩
  rcases Decidable.em ((clashP l m).1 = -1) with hc | hc
  · rw [clash_nil9 l m hv hm hc, clash_nil9 _ m hv2 hm (hi.1 hc)]
    exact ⟨rfl, fun x hx => absurd hx (by simp), fun x hx => absurd hx (by simp), rfl, Nat.zero_le _, Or.inl ⟨hc, hi.1 hc⟩⟩
  · have hu := hu hc
    obtain ⟨v, hvm, hve⟩ := (clash_at l m hv hm hc).2.2.1
    have h9 := hs v hvm
    have h8 := formed_lt (((validU_iff l).1 hv).2.1 v hvm)
    rw [(clash_at l m hv hm hc).1, (clash_at _ m hv2 hm (fun e => hc (hi.2 e))).1, hu]
    refine ⟨by rw [atP_len, atP_len, mov_cnt], fun x hx => ((mem_atP _ _ _).1 hx).1, fun x hx => ?_, mov_bits l k d _ hk, by rw [atP_len]; exact cnt_le _ _, .inr ⟨by omega, by omega, rfl⟩⟩
    have := ((mem_atP _ _ _).1 hx).1
    rwa [mov_len] at this
theorem orb_i64 (a x : Nat) (ha : a < 16384) (hx : x < 14) : bits BinOp.or IntKind.i64 (a : Int) ((2 : Int) ^ x) = ((a ||| 2 ^ x : Nat) : Int) ∧ a ||| 2 ^ x < 16384 := by
  have hp : 2 ^ x < 2 ^ 14 := Nat.pow_lt_pow_right (by decide) hx
  have hc : ((2 : Int) ^ x) = ((2 ^ x : Nat) : Int) := by simp
  have hw : ∀ n : Int, 0 ≤ n → n < 2 ^ 62 → IntKind.i64.wrap n = n := fun n h0 h1 => IntWalk.i64_in _ (by omega)
  rw [hc]
  exact ⟨(bits_nat .i64 62 (by decide) hw a (2 ^ x) (by omega) (by omega)).2, Nat.or_lt_two_pow (n := 14) ha hp⟩
theorem orP_take (L : List Nat) (w : Nat) (h : w < L.length) : orP (L.take (w + 1)) = orP (L.take w) ||| 2 ^ L[w] := by
  rw [List.take_succ_eq_append_getElem h, orP_snoc]

set_option maxRecDepth 100000 in
set_option maxHeartbeats 8000000 in
theorem moved_walk (xa : Option Addr) (xn xc : Nat) (xs : List T3) (turn by_ antennas : Int) (w : World) (hr : RA t3Cells 3 w w.heap.size xa xn xc xs) (hok : ∀ t ∈ xs, t.ok) (hw1 : I64ok turn) (hw2 : I64ok by_) (hw3 : I64ok antennas) :
    Calls Try.prog 9 #[.slice xa xn xc, .int .i64 turn, .int .i64 by_, .int .i64 antennas] w (Tru w) := by
  have HS := Lib.hid (sane_any w)
  have HM := Lib.hid (fun (W : World) (hW : Ext w W) => made_any xs xa xn xc W (ra_ext hr hW) hok)
  obtain ⟨l, hl⟩ : ∃ l, l = madeP xs := ⟨_, rfl⟩
  have hval : validU l = true := by rw [hl]; exact made_valid xs
  have hlen : l.length ≤ 14 := by rw [hl]; exact made_len xs
  have hsm : ∀ u ∈ l, u.tt ≤ 200 := by rw [hl]; exact made_small xs
  rw [← hl] at HM
  obtain ⟨n, hn⟩ : ∃ n, n = l.length := ⟨_, rfl⟩
  have hn14 : n ≤ 14 := by omega
  have hpk := fun W => pickl_any turn ((n : Int) + 1) W hw1.1 hw1.2 (by omega) (by omega)
  obtain ⟨hb1, hb2⟩ := pickI_bd turn ((n : Int) + 1) (by omega)
  obtain ⟨k, hk, hkn⟩ : ∃ k : Nat, pickI turn ((n : Int) + 1) = k ∧ k ≤ n := ⟨(pickI turn ((n : Int) + 1)).toNat, by omega, by omega⟩
  rw [hk] at hpk
  have hpk2 := fun W => pickl_any by_ 5000 W hw2.1 hw2.2 (by omega) (by omega)
  obtain ⟨hb3, hb4⟩ := pickI_bd by_ 5000 (by omega)
  generalize pickI by_ 5000 = d at hpk2 hb3 hb4
  have hpk3 := fun W => pickl_any antennas 9 W hw3.1 hw3.2 (by omega) (by omega)
  obtain ⟨hb5, hb6⟩ := pickI_bd antennas 9 (by omega)
  obtain ⟨m, hm, hm8⟩ : ∃ m : Nat, pickI antennas 9 = m ∧ m ≤ 8 := ⟨(pickI antennas 9).toNat, by omega, by omega⟩
  rw [hm] at hpk3
  have hmB : inB (m : Int) 0 8 = true := by rw [inB_iff]; omega
  have hval2 := mov_valid l k d hval hb3 (fun u hu => by have := hsm u hu; omega)
  obtain ⟨t, u, a, b, hca, hcb, hab, hain, hbin, hbits, hal, htu⟩ := mov_all l k d (m : Int) (by omega) hval hval2 hmB hsm
  obtain ⟨hrl, hr0, hr1⟩ := mov_rows l k d (by omega) hval hval2
  have hmo := mov_most l k d
  have hml := mov_len l k d
  rw [← hn] at hml hain hbin hbits hal
  have HPK := Lib.hid hpk
  have HPK2 := Lib.hid hpk2
  have HPK3 := Lib.hid hpk3
  have HV := Lib.hid hval
  have HV2 := Lib.hid hval2
  have HNL := Lib.hid hn
  have HML := Lib.hid hml
  have HSM := Lib.hid hsm
  have HCA := Lib.hid hca
  have HCB := Lib.hid hcb
  have HAIN := Lib.hid hain
  have HBIN := Lib.hid hbin
  have HBITS := Lib.hid hbits
  have HRL := Lib.hid hrl
  have HR0 := Lib.hid hr0
  have HR1 := Lib.hid hr1
  have HMO := Lib.hid hmo
  have HAB := Lib.hid hab
  have HTU := Lib.hid htu
  clear hr hok hl hlen hb1 hb2 hb5 hb6 hm hpk hpk2 hpk3 hmB hk hval hval2 hn hml hsm hca hcb hain hbin hbits hrl hr0 hr1 hmo hab htu
  go_enter Try.func9, Try.ntmps9
  go_wp2_with fail
  refine HS.out.mono ?_
  rintro e W1 ⟨rfl, hx⟩
  go_wp2_with fail
  refine (HM.out _ hx).mono ?_
  rintro e W2 ⟨v, rfl, hown, hy⟩
  obtain ⟨A, c, rfl, hnc, hcm⟩ := own_slice hown
  have hx := Ext.trans hx hy
  have hra := RA.of_own (cells := useCells) hown rfl (by rw [← HNL.out]; omega)
  rw [← HNL.out] at hra hnc
  rw [← HNL.out]
  have HRA := Lib.hid hra
  clear hown hy HS HM hra
  go_wp2_with fail
  refine (HPK.out _).mono ?_
  rintro e w' ⟨rfl, rfl⟩
  clear HPK
  go_wp2_with fail
  refine (HPK2.out _).mono ?_
  rintro e w' ⟨rfl, rfl⟩
  clear HPK2
  go_wp2_with fail
  go_loopw [13, 14] (fun y z wr => ∃ i : Nat, i ≤ n ∧ z = .int .i64 i ∧ Hid (OwnU wr W2.heap.size y ((movP l k d).take i)) ∧ Ext W2 wr) (fun _ z _ => n - (intOf z).toNat)
  case atStart => exact ⟨0, Nat.zero_le _, rfl, Lib.hid (World.ownsRow_nil _ _ _ _), Ext.refl _⟩
  case round =>
    obtain ⟨i, hi, rfl, HO, hy⟩ := hrel
    by_cases hin : i < n
    · have hil : i < l.length := by rw [← HNL.out]; exact hin
      have hkl : k ≤ l.length := by rw [← HNL.out]; exact hkn
      have hrl := rot_lt (n := l.length) (k := k) hil
      obtain ⟨b6, o6, hz, hA, _, hc⟩ := (HRA.out.below hy).at_ use_len (show rotP l.length k i < n by rw [HNL.out]; exact hrl)
      have hst := mov_take l k d hkl i hil hrl
      have hsm := HSM.out l[rotP l.length k i] (List.getElem_mem hrl)
      have hfm := formed_lt (((validU_iff l).1 HV.out).2.1 l[rotP l.length k i] (List.getElem_mem hrl))
      have c0 : wr.cell? ⟨b6, o6 + rotP l.length k i * 3, none⟩ = some (.int .i64 l[rotP l.length k i].sat) := hc 0 (by omega)
      have c1 : wr.cell? ⟨b6, o6 + rotP l.length k i * 3 + 1, none⟩ = some (.int .i64 l[rotP l.length k i].fr) := hc 1 (by omega)
      have c2 : wr.cell? ⟨b6, o6 + rotP l.length k i * 3 + 2, none⟩ = some (.int .i64 l[rotP l.length k i].tt) := hc 2 (by omega)
      generalize l[rotP l.length k i] = us at hst hsm hfm c0 c1 c2
      obtain ⟨us, uf, ut⟩ := us
      dsimp only at hsm hfm c0 c1 c2
      rw [show shU d ⟨us, uf, ut⟩ = ⟨us, uf + d, ut + d⟩ from rfl] at hst
      have hrem : ((i : Int) + (k : Int)).tmod (n : Int) = ((rotP l.length k i : Nat) : Int) := by
        rw [← HNL.out, Int.tmod_eq_emod_of_nonneg (by omega)]
        unfold rotP
        simp
      have hrem2 : ((i : Int) + (k : Int)) % (n : Int) = ((rotP l.length k i : Nat) : Int) := by
        rw [← hrem, Int.tmod_eq_emod_of_nonneg (by omega)]
      have hrl : rotP l.length k i < n := Nat.lt_of_lt_of_eq hrl HNL.out.symm
      generalize rotP l.length k i = r at hrem hrem2 hrl c0 c1 c2
      have hll : ((movP l k d).take i).length ≤ 14 := Nat.le_trans (List.length_take_le _ _) (Nat.le_trans hi hn14)
      generalize (movP l k d).take i = mv at HO hst hll
      obtain ⟨A3, c3, hv3, _, _⟩ := own_slice HO.out
      subst hv3
      have hn0 : ¬ (n : Int) = 0 := by omega
      have hn0b : ((n : Int) == 0) = false := by simpa using hn0
      have hr0 : (0 : Int) ≤ (r : Int) := by omega
      have hrn : (r : Int) < (n : Int) := by omega
      have HST := Lib.hid hst
      subst hA
      clear hc hz hst
      go_upto_region 12 with (fail)
      have hy9 : Ext wr (wr.alloc (.cells #[.int .i64 us, .int .i64 uf, .int .i64 ut] 26)) := bl_alloc (Below.refl _ _) _
      have J : Blk (wr.alloc (.cells #[.int .i64 us, .int .i64 uf, .int .i64 ut] 26)) wr.heap.size 26 #[.int .i64 us, .int .i64 uf, .int .i64 ut] := Blk.new _ _ _
      have hO9 := HO.out.ext hy9
      have hne : ∀ q, (Value.slice A3 mv.length c3).ownBlock = some q → q ≠ wr.heap.size := fun q e => by have := (World.ownsRow.lt HO.out q e).2; omega
      have hwz : W2.heap.size ≤ wr.heap.size := Below.size hy
      obtain ⟨g5, hg5⟩ : ∃ g, g = wr.heap.size := ⟨_, rfl⟩
      rw [← hg5] at J hne hwz ⊢
      clear hg5
      generalize wr.alloc (.cells #[.int .i64 us, .int .i64 uf, .int .i64 ut] 26) = W5 at hy9 J hO9 ⊢
      have hy5 := Ext.trans hy hy9
      clear c0 c1 c2 hy hy9 HO hrem hrem2 hrl
      have J1 := J.set_ 1 (.int .i64 (uf + d))
      have J2 := J1.set_ 2 (.int .i64 (ut + d))
      rw [show ((#[Value.int .i64 us, .int .i64 uf, .int .i64 ut] : Array Value).setIfInBounds 1 (.int .i64 (uf + d))).setIfInBounds 2 (.int .i64 (ut + d)) = #[.int .i64 us, .int .i64 (uf + d), .int .i64 (ut + d)] from rfl] at J2
      have hO10 := (hO9.far (p := ⟨g5, 1, none⟩) hne (.int .i64 (uf + d))).far (p := ⟨g5, 2, none⟩) hne (.int .i64 (ut + d))
      have hy6 := (hy5.setCell (p := ⟨g5, 1, none⟩) hwz (.int .i64 (uf + d))).setCell (p := ⟨g5, 2, none⟩) hwz (.int .i64 (ut + d))
      have d1 : W5.cell? ⟨g5, 1, none⟩ = some (.int .i64 uf) := J.cell 1
      have d2 : W5.cell? ⟨g5, 2, none⟩ = some (.int .i64 ut) := J.cell 2
      have f1 : W5.frozen? ⟨g5, 1, none⟩ = false := J.frozen 1
      have f2 : W5.frozen? ⟨g5, 2, none⟩ = false := J.frozen 2
      have HJ2 := Lib.hid J2
      have HO10 := Lib.hid hO10
      have HY6 := Lib.hid hy6
      have hwr1 : IntKind.i64.wrap (uf + d) = uf + d := IntWalk.i64_in _ (by omega)
      have hwr2 : IntKind.i64.wrap (ut + d) = ut + d := IntWalk.i64_in _ (by omega)
      clear J J1 J2 hO9 hO10 hy5 hy6 hne
      go_upto_region 14 with (fail)
      obtain ⟨W6, hW6⟩ : ∃ W, W = (W5.setCell ⟨g5, 1, none⟩ (.int .i64 (uf + d))).setCell ⟨g5, 2, none⟩ (.int .i64 (ut + d)) := ⟨_, rfl⟩
      rw [← hW6] at HJ2 HO10 HY6 ⊢
      clear hW6 d1 d2 f1 f2
      have d0 : W6.cell? ⟨g5, 0, none⟩ = some (.int .i64 us) := HJ2.out.cell 0
      have d1 : W6.cell? ⟨g5, 1, none⟩ = some (.int .i64 (uf + d)) := HJ2.out.cell 1
      have d2 : W6.cell? ⟨g5, 2, none⟩ = some (.int .i64 (ut + d)) := HJ2.out.cell 2
      have hxa : Ext W6 (W6.alloc (.cells #[.int .i64 us, .int .i64 (uf + d), .int .i64 (ut + d)] 26)) := bl_alloc (Below.refl _ _) _
      have hya := Ext.trans HY6.out hxa
      obtain ⟨v9, W9, hrun, hg9, h9⟩ := snoc_use 27 mv (.slice A3 mv.length c3) ⟨us, uf + d, ut + d⟩ W2.heap.size W6.heap.size (Blk.new _ _ _) (HO10.out.ext hxa) (by omega) (Below.size hya)
      have hy9 : Ext W2 W9 := hya.grown hg9 (Below.size hya) (fun q e => (World.ownsRow.lt HO10.out q e).1)
      rw [← HST.out] at h9
      have HO9 := Lib.hid h9
      have HRUN := Lib.hid hrun
      clear hrun hg9 h9 HO10 hxa hya HST HY6 HJ2
      go_wp2_with (refine wpList_append_run_ rfl _ _ _ rfl rfl rfl HRUN.out ?_)
      clear HRUN
      go_roundw
      case rel => exact ⟨i + 1, by omega, by go_num, HO9, hy9⟩
      case measure => simp [intOf]; omega
    · skip
      have htk : (movP l k d).take i = movP l k d := List.take_of_length_le (by rw [HML.out]; omega)
      rw [htk] at HO
      obtain ⟨A3, c3, hv3, _, _⟩ := own_slice HO.out
      subst hv3
      have hra2 := RA.of_own (cells := useCells) HO.out rfl (by rw [HML.out]; omega)
      rw [HML.out] at hra2 ⊢
      obtain ⟨W3, hW3⟩ : ∃ W, W = wr := ⟨_, rfl⟩
      rw [← hW3] at hy hra2 ⊢
      clear hW3 HO htk
      have hx3 := Ext.trans hx hy
      have HA := Lib.hid (ra_ext HRA.out hy)
      have HB := Lib.hid hra2
      have hCA := fun (W : World) (hW : Ext W3 W) => clash_any l (m : Int) A n c W (ra_ext HA.out hW) (by unfold mxS; omega)
      have hCB := fun (W : World) (hW : Ext W3 W) => clash_any (movP l k d) (m : Int) A3 n c3 W (ra_ext HB.out hW) (by unfold mxS; omega)
      have hFA := fun (W : World) (hW : Ext W3 W) => fewest_any l A n c W (ra_ext HA.out hW) (by omega)
      have hFB := fun (W : World) (hW : Ext W3 W) => fewest_any (movP l k d) A3 n c3 W (ra_ext HB.out hW) (by omega)
      have hRA := fun (W : World) (hW : Ext W3 W) => rows_any l A n c W (ra_ext HA.out hW) (by unfold mxS; omega)
      have hRB := fun (W : World) (hW : Ext W3 W) => rows_any (movP l k d) A3 n c3 W (ra_ext HB.out hW) (by unfold mxS; omega)
      rw [HCA.out] at hCA
      rw [HCB.out] at hCB
      rw [fewest_ok l HV.out] at hFA
      rw [fewest_ok _ HV2.out, HMO.out] at hFB
      unfold RowsRet at hRA hRB
      rw [HR0.out] at hRA
      rw [HR1.out] at hRB
      have hrl := HRL.out
      generalize (rowsP l).1 = ra at hRA hrl
      generalize (rowsP (movP l k d)).1 = rb at hRB hrl
      have hcn : mostP l l ≤ 14 := Nat.le_trans (mostP_le l l) (by rw [← HNL.out]; omega)
      generalize mostP l l = mo at hFA hFB hcn
      have HRL2 := Lib.hid hrl
      have HFA := Lib.hid hFA
      have HFB := Lib.hid hFB
      have HRA2 := Lib.hid hRA
      have HRB2 := Lib.hid hRB
      have HCLA := Lib.hid hCA
      have HCLB := Lib.hid hCB
      clear hCA hCB hFA hFB hRA hRB hrl hra2 hx
      have HY3 : Hid (Ext W3 W3) := Lib.hid (Ext.refl _)
      go_wp2_with fail
      refine (HPK3.out _).mono ?_
      rintro e w' ⟨rfl, rfl⟩
      clear HPK3
      go_wp2_with fail
      refine (HCLA.out _ (Ext.refl _)).mono ?_
      rintro e W4 ⟨va, rfl, howna, hz⟩
      dsimp only at howna
      have hy4 : Ext W3 W4 := hz
      obtain ⟨Aa, ca, hva, _, _⟩ := own_slice howna
      subst hva
      have hraa := (RA.of_own (cells := natCells) howna rfl (by omega))
      clear howna hz HCLA
      go_wp2_with fail
      refine (HCLB.out _ hy4).mono ?_
      rintro e W5 ⟨vb, rfl, hownb, hz⟩
      dsimp only at hownb
      obtain ⟨Ab, cb, hvb, _, _⟩ := own_slice hownb
      subst hvb
      have hrab := (RA.of_own (cells := natCells) hownb rfl (by rw [← HAB.out]; omega))
      rw [← HAB.out] at hrab ⊢
      have hraa := ra_ext hraa hz
      have hy5 := Ext.trans hy4 hz
      clear hownb hz hy4 HCLB
      obtain ⟨q, hq⟩ : ∃ q, q = a.length := ⟨_, rfl⟩
      rw [← hq] at hraa hrab hal ⊢
      have HQ := Lib.hid hq
      clear hq
      go_wp2_with fail
      refine (HFA.out _ hy5).mono ?_
      rintro e W6 ⟨rfl, hz⟩
      have hraa := ra_ext hraa hz
      have hrab := ra_ext hrab hz
      have hy6 := Ext.trans hy5 hz
      clear hz hy5 HFA
      go_wp2_with fail
      refine (HFB.out _ hy6).mono ?_
      rintro e W7 ⟨rfl, hz⟩
      have hraa := ra_ext hraa hz
      have hrab := ra_ext hrab hz
      have hy7 := Ext.trans hy6 hz
      clear hz hy6 HFB
      go_wp2_with fail
      refine (HRA2.out _ hy7).mono ?_
      rintro e W8 ⟨v27, rs1, rfl, hri1, hrm1, hz⟩
      obtain ⟨A27, c27, hv27, _, _⟩ := own_slice hri1.out
      subst hv27
      have hraa := ra_ext hraa hz
      have hrab := ra_ext hrab hz
      have hy8 := Ext.trans hy7 hz
      have hrl1 : rs1.length = ra.length := by rw [← hrm1, List.length_map]
      rw [hrl1]
      clear hz hy7 HRA2 hri1 hrm1 hrl1
      go_wp2_with fail
      refine (HRB2.out _ hy8).mono ?_
      rintro e W9 ⟨v29, rs2, rfl, hri2, hrm2, hz⟩
      obtain ⟨A29, c29, hv29, _, _⟩ := own_slice hri2.out
      subst hv29
      have hraa := ra_ext hraa hz
      have hrab := ra_ext hrab hz
      have hy9 := Ext.trans hy8 hz
      have hrl2 : rs2.length = ra.length := by rw [← HRL2.out, ← hrm2, List.length_map]
      rw [hrl2]
      have HAA := Lib.hid hraa
      have HBB := Lib.hid hrab
      have hxf := Ext.trans hx3 hy9
      generalize ra.length = rq
      clear hz hy8 HRB2 hri2 hrm2 hrl2 hraa hrab HRL2 hy9 hx3
      go_wp2_with fail
      go_loopw [31, 32, 33] (fun x y z wl => ∃ i one two : Nat, i ≤ q ∧ z = .int .i64 i ∧ x = .int .i64 one ∧ y = .int .i64 two ∧ Hid (one = orP (a.take i)) ∧ Hid (two = orP ((b.map (rotP n k)).take i)) ∧ one < 16384 ∧ two < 16384 ∧ wl = W9) (fun _ _ z _ => q - (intOf z).toNat)
      case atStart => exact ⟨0, 0, 0, Nat.zero_le _, rfl, rfl, rfl, Lib.hid rfl, Lib.hid rfl, by omega, by omega, rfl⟩
      case round =>
        obtain ⟨i, one, two, hi, rfl, rfl, rfl, H1, H2, h1, h2, rfl⟩ := hrel
        by_cases hiq : i < q
        · obtain ⟨b1, o1, hz1, hA1, _, hc1⟩ := HAA.out.at_ nat_len hiq
          obtain ⟨b2, o2, hz2, hA2, _, hc2⟩ := HBB.out.at_ nat_len hiq
          have hs1 := orP_take a i hz1
          have hz3 : i < (b.map (rotP n k)).length := by rw [List.length_map]; exact hz2
          have hs2 := orP_take (b.map (rotP n k)) i hz3
          rw [List.getElem_map, ← H2.out] at hs2
          rw [← H1.out] at hs1
          have hx1 := HAIN.out a[i] (List.getElem_mem hz1)
          have hx2 := HBIN.out b[i] (List.getElem_mem hz2)
          have c1 : wr.cell? ⟨b1, o1 + i * 1, none⟩ = some (.int .i64 (a[i] : Int)) := hc1 0 (by omega)
          have c2 : wr.cell? ⟨b2, o2 + i * 1, none⟩ = some (.int .i64 (b[i] : Int)) := hc2 0 (by omega)
          rw [Nat.mul_one] at c1 c2
          generalize a[i] = x1 at hs1 hx1 c1
          generalize b[i] = x2 at hs2 hx2 c2
          have hrem : ((x2 : Int) + (k : Int)).tmod (n : Int) = ((rotP n k x2 : Nat) : Int) := by
            rw [Int.tmod_eq_emod_of_nonneg (by omega)]
            unfold rotP
            simp
          have hrem2 : ((x2 : Int) + (k : Int)) % (n : Int) = ((rotP n k x2 : Nat) : Int) := by
            rw [← hrem, Int.tmod_eq_emod_of_nonneg (by omega)]
          have hrl := rot_lt (n := n) (k := k) hx2
          generalize rotP n k x2 = r at hs2 hrem hrem2 hrl
          obtain ⟨g1, g2⟩ := orb_i64 one x1 h1 (by omega)
          obtain ⟨g3, g4⟩ := orb_i64 two r h2 (by omega)
          have hp1 := pow_lo x1
          have hp2 := pow_hi (show x1 ≤ 16 by omega)
          have hp3 := pow_lo r
          have hp4 := pow_hi (show r ≤ 16 by omega)
          obtain ⟨one', ho1⟩ : ∃ o, o = one ||| 2 ^ x1 := ⟨_, rfl⟩
          obtain ⟨two', ho2⟩ : ∃ o, o = two ||| 2 ^ r := ⟨_, rfl⟩
          rw [← ho1] at g1 g2 hs1
          rw [← ho2] at g3 g4 hs2
          have HS1 := Lib.hid hs1.symm
          have HS2 := Lib.hid hs2.symm
          have hn0 : ¬ (n : Int) = 0 := by omega
          have hn0b : ((n : Int) == 0) = false := by simpa using hn0
          have k1 : ¬ (x1 : Int) < 0 := by omega
          have k2 : ¬ (n : Int) ≤ (x1 : Int) := by omega
          have k3 : ¬ (x2 : Int) < 0 := by omega
          have k4 : ¬ (n : Int) ≤ (x2 : Int) := by omega
          have k5 : (0 : Int) ≤ (x1 : Int) := by omega
          have k6 : (0 : Int) ≤ (r : Int) := by omega
          have k7 : (0 : Int) ≤ (i : Int) := by omega
          have k8 : (i : Int) < (q : Int) := by omega
          subst hA1 hA2
          clear hc1 hc2 hz1 hz2 hz3 hs1 hs2 ho1 ho2
          go_wp2_with fail
          go_roundw
          case rel => exact ⟨i + 1, one', two', by omega, by go_num, rfl, rfl, HS1, HS2, g2, g4, trivial⟩
          case measure => simp [intOf]; omega
        · have hta : a.take i = a := List.take_of_length_le (by rw [← HQ.out]; omega)
          have htb : (b.map (rotP n k)).take i = b.map (rotP n k) := List.take_of_length_le (by rw [List.length_map, ← HAB.out, ← HQ.out]; omega)
          obtain rfl : one = two := by rw [H1.out, H2.out, hta, htb]; exact HBITS.out
          clear hta htb H1 H2
          rcases HTU.out with ⟨e1, e2⟩ | ⟨e1, e3, e2⟩
          · subst e1 e2
            go_wp2_with fail
            go_ret
            exact ⟨rfl, hxf⟩
          · have htn : ¬ t < 0 := by omega
            have hun : ¬ u < 0 := by omega
            subst e2
            have hwt : IntKind.i64.wrap (t + d) = t + d := IntWalk.i64_in _ (by omega)
            go_wp2_with fail
            go_ret
            exact ⟨rfl, hxf⟩
end Go.Proofs.Ytgbfhkildbhhoaa
