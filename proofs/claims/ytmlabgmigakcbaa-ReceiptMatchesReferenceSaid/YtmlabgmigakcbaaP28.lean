/- The walk of ReceiptMatchesReference. -/
import Derived.Test.YtmlabgmigakcbaaP27
namespace Go.Proofs.Ytmlabgmigakcbaa
open Go.RowKit
theorem wrap64_bd (n : Int) : -9223372036854775808 ≤ wrap64 n ∧ wrap64 n ≤ 9223372036854775807 := by
 unfold wrap64
 omega
theorem recV_many (os : List Opt) (ps : List Pas) (sts : List Stn) (rs : List Rcp) (ns : List Nte) (now : Int) : (recV os ps sts rs ns now).1.1.length ≤ os.length := by
 unfold recV
 split
 ·dsimp only; rw [recP_many]; exact Nat.le_refl _
 ·exact Nat.zero_le _
set_option maxRecDepth 100000 in
set_option maxHeartbeats 32000000 in
theorem matches_walk (c : Cas) (o : Opt) (which : Int) (rs : List Rcp) (QA : Option Addr) (qn qc : Nat) (ns : List Nte) (NA : Option Addr) (nn nc : Nat) (now : Int) (w : World) (hc : CasR w w.heap.size c) (hcn : c.wa = none → c.wc = 0) (ho : OptR w o) (hwh : I64ok which) (hq : RA rcpCells 3 w w.heap.size QA qn qc rs) (hqn : QA = none → qc = 0) (hn : RA nteCells 3 w w.heap.size NA nn nc ns) (hnn : NA = none → nc = 0) (hnow : I64ok now) :
  Calls Try.prog 3 #[casV c, .agg (optCells o).toArray, .int .i64 which, .slice QA qn qc, .slice NA nn nc, .int .i64 now] w fun e w' => e = .returned (.bool true) ∧ Below w.heap.size w w' := by
 have HSANE := Lib.hid (fun W : World => sane_any W)
 have HMADE := Lib.hid (fun (W : World) (hW : Ext w W) => (made_any c W (hc.ext hW)).mono fun _ _ h => made_own h)
 have HTRUE := Lib.hid (fun (W : World) (OA PA SA : Option Addr) (oc pc sc : Nat) (os : List Opt) (hW : Ext w W) (h : MadeR W c OA PA SA oc pc sc os) => truth_own c OA PA SA oc pc sc os W (hc.ext hW) h)
 have hTL := casW_len c
 have hL8 := casO_len c
 generalize casW c = TW at HTRUE hTL
 obtain ⟨⟨R0, N0⟩, TE⟩ := TW
 dsimp only at HTRUE hTL
 obtain ⟨hR8, hN56⟩ := hTL
 obtain ⟨L, hL⟩ : ∃ L, L = (casO c).length := ⟨_, rfl⟩
 rw [← hL] at hL8
 have HMADE2 : Hid (∀ (W : World), Ext w W → Calls Try.prog 11 #[casV c] W fun e w' => ∃ OA PA SA oc pc sc os, e = .returned (.tuple #[.slice OA L oc, .slice PA (casP c).length pc, .slice SA 3 sc]) ∧ MadeO w' W.heap.size w'.heap.size c OA PA SA oc pc sc os ∧ Ext W w') := Lib.hid (by rw [hL]; exact HMADE.out)
 have HLL := Lib.hid hL
 have HMR0 : Hid (∀ (W : World) (OA PA SA : Option Addr) (oc pc sc : Nat) (os : List Opt), MadeR W c OA PA SA oc pc sc os → Ops W W.heap.size OA L oc os) := Lib.hid (fun W OA PA SA oc pc sc os h => by rw [hL]; exact h.ho)
 rw [← hL] at HTRUE
 clear hL HMADE
 generalize hpn : (casP c).length = pn at HMADE2 HTRUE
 have HPN := Lib.hid hpn
 clear hpn
 have hqcap := hq.cap
 have hqle := hq.le
 have hncap := hn.cap
 have hnle := hn.le
 have hqn0 : QA = none → qn = 0 := fun e => by have h1 := hqn e; omega
 have hnn0 : NA = none → nn = 0 := fun e => by have h1 := hnn e; omega
 obtain ⟨m5, hm5⟩ : ∃ m, m = min qn 5 := ⟨_, rfl⟩
 obtain ⟨n5, hn5⟩ : ∃ m, m = min nn 5 := ⟨_, rfl⟩
 have HQ5 := Lib.hid (hq.cut rcp_len m5 (by omega))
 have HN5 := Lib.hid (hn.cut nte_len n5 (by omega))
 have HM5 := Lib.hid hm5
 have HNM5 := Lib.hid hn5
 clear hm5 hn5 hq hn
 have hcv : casV c = .agg #[.slice c.pa c.pn c.pc, .slice c.oa c.on c.oc, .int .i64 c.sk.a, .int .i64 c.sk.b, .int .i64 c.sk.c, .int .i64 c.lost, .slice c.wa c.wn c.wc] := rfl
 rw [hcv] at HMADE2 HTRUE ⊢
 clear hcv hc hcn
 generalize c.pa = pa at HMADE2 HTRUE ⊢
 generalize c.pn = pcn at HMADE2 HTRUE ⊢
 generalize c.pc = pcc at HMADE2 HTRUE ⊢
 generalize c.oa = oa at HMADE2 HTRUE ⊢
 generalize c.on = ocn at HMADE2 HTRUE ⊢
 generalize c.oc = occ at HMADE2 HTRUE ⊢
 generalize c.sk.a = sa at HMADE2 HTRUE ⊢
 generalize c.sk.b = sb at HMADE2 HTRUE ⊢
 generalize c.sk.c = sc at HMADE2 HTRUE ⊢
 generalize c.lost = lo at HMADE2 HTRUE ⊢
 generalize c.wa = wa at HMADE2 HTRUE ⊢
 generalize c.wn = wn at HMADE2 HTRUE ⊢
 generalize c.wc = wcp at HMADE2 HTRUE ⊢
 obtain ⟨id, i1, i2, i3, i4, i5, i6, i7, a, m, d, l⟩ := o
 have hoe : (optCells ⟨id, i1, i2, i3, i4, i5, i6, i7, a, m, d, l⟩).toArray = #[.int .i64 id, .int .i64 i1, .int .i64 i2, .int .i64 i3, .int .i64 i4, .int .i64 i5, .int .i64 i6, .int .i64 i7, .slice a m d] := rfl
 rw [hoe]
 have hosl := ho.sl
 have hon := ho.nil_
 dsimp only at hosl hon
 have hole := hosl.le
 have hocap := hosl.cap
 have hon0 : a = none → m = 0 := fun e => by have h1 := hon e; omega
 obtain ⟨m7, hm7⟩ : ∃ q, q = min m 7 := ⟨_, rfl⟩
 have HO7 := Lib.hid (hosl.cut slt_len m7 (by omega))
 have HM7 := Lib.hid hm7
 clear hoe ho hosl hm7
 have HPKI := Lib.hid (fun (i : Int) (W : World) (hl : 0 < (L : Int)) => pickl_any (wrap64 (which + i)) L W (wrap64_bd _).1 (wrap64_bd _).2 hl (by omega))
 have HPKIB := Lib.hid (fun (i : Int) (hl : 0 < (L : Int)) => pickI_bd (wrap64 (which + i)) L hl)
 have HPKW := Lib.hid (fun (W : World) (hl : 0 < (L : Int)) => pickl_any which L W hwh.1 hwh.2 hl (by omega))
 have HPKB := Lib.hid (fun (hl : 0 < (L : Int)) => pickI_bd which L hl)
 have HPKN := Lib.hid (fun (W : World) => pickl_any now 9000 W hnow.1 hnow.2 (by omega) (by omega))
 generalize pickI which L = pz at HPKW HPKB
 generalize pickI now 9000 = pnow at HPKN
 clear hwh hnow
 obtain ⟨rl, hrl⟩ : ∃ z, z = R0.length + m5 := ⟨_, rfl⟩
 obtain ⟨nl, hnl⟩ : ∃ z, z = N0.length + n5 := ⟨_, rfl⟩
 obtain ⟨r0l, hr0l⟩ : ∃ z, z = R0.length := ⟨_, rfl⟩
 obtain ⟨n0l, hn0l⟩ : ∃ z, z = N0.length := ⟨_, rfl⟩
 rw [← hr0l] at HTRUE hrl hR8
 rw [← hn0l] at HTRUE hnl hN56
 have HR0L := Lib.hid hr0l
 have HN0L := Lib.hid hn0l
 have hrlb : rl ≤ 100 := by have := HM5.out; omega
 have hnlb : nl ≤ 100 := by have := HNM5.out; omega
 have HRL := Lib.hid hrl
 have HNL := Lib.hid hnl
 clear hr0l hn0l hrl hnl
 generalize decide (TE = 0) = tb at HTRUE
 go_enter Try.func3, Try.ntmps3
 go_upto_region 1 with (fail)
 obtain ⟨W1, hW1⟩ : ∃ W, W = (w.alloc (.cells #[.slice pa pcn pcc, .slice oa ocn occ, .int .i64 sa, .int .i64 sb, .int .i64 sc, .int .i64 lo, .slice wa wn wcp] 27)).alloc (.cells #[.int .i64 id, .int .i64 i1, .int .i64 i2, .int .i64 i3, .int .i64 i4, .int .i64 i5, .int .i64 i6, .int .i64 i7, .slice a m d] 32) := ⟨_, rfl⟩
 rw [← hW1]
 obtain ⟨J4, J5, hx1⟩ := al2 w W1 _ _ _ _ hW1
 clear hW1
 obtain ⟨g5, hg5⟩ : ∃ g, g = w.heap.size + 1 := ⟨_, rfl⟩
 obtain ⟨g4, hg4⟩ : ∃ g, g = w.heap.size := ⟨_, rfl⟩
 rw [← hg5] at J5 ⊢
 rw [← hg4] at J4 ⊢
 have hg45 : g4 ≠ g5 := by omega
 have hg5w : w.heap.size ≤ g5 := by omega
 have h5lt := J5.lt
 have h4lt := J4.lt
 clear hg4 hg5
 have HJ4 := Lib.hid J4
 have HJ5 := Lib.hid J5
 clear J4 J5
 go_wp2_with fail
 refine (HSANE.out _).mono ?_
 rintro e W2 ⟨rfl, hy⟩
 have hx2 := Ext.trans hx1 hy
 have h5lt2 : g5 < W2.heap.size := Nat.lt_of_lt_of_le h5lt (Below.size hy)
 have hj4 := HJ4.out.ext hy
 have HJ5 := Lib.hid (HJ5.out.ext hy)
 have d0 : W2.cell? ⟨g4, 0, none⟩ = some (.slice pa pcn pcc) := hj4.cell 0
 have d1 : W2.cell? ⟨g4, 1, none⟩ = some (.slice oa ocn occ) := hj4.cell 1
 have d2 : W2.cell? ⟨g4, 2, none⟩ = some (.int .i64 sa) := hj4.cell 2
 have d3 : W2.cell? ⟨g4, 3, none⟩ = some (.int .i64 sb) := hj4.cell 3
 have d4 : W2.cell? ⟨g4, 4, none⟩ = some (.int .i64 sc) := hj4.cell 4
 have d5 : W2.cell? ⟨g4, 5, none⟩ = some (.int .i64 lo) := hj4.cell 5
 have d6 : W2.cell? ⟨g4, 6, none⟩ = some (.slice wa wn wcp) := hj4.cell 6
 have HC := Lib.hid (HMADE2.out W2 hx2)
 have HJ4 := Lib.hid hj4
 clear hj4 hx1 HSANE HMADE2 hy h5lt h4lt
 go_wp2_with fail
 refine HC.out.mono ?_
 rintro e W3 ⟨OA, PA, SA, oc, pc, sc_, os, rfl, hmo, hy⟩
 have hx3 := Ext.trans hx2 hy
 have hj4 := HJ4.out.ext hy
 have HJ5 := Lib.hid (HJ5.out.ext hy)
 have d0 : W3.cell? ⟨g4, 0, none⟩ = some (.slice pa pcn pcc) := hj4.cell 0
 have d1 : W3.cell? ⟨g4, 1, none⟩ = some (.slice oa ocn occ) := hj4.cell 1
 have d2 : W3.cell? ⟨g4, 2, none⟩ = some (.int .i64 sa) := hj4.cell 2
 have d3 : W3.cell? ⟨g4, 3, none⟩ = some (.int .i64 sb) := hj4.cell 3
 have d4 : W3.cell? ⟨g4, 4, none⟩ = some (.int .i64 sc) := hj4.cell 4
 have d5 : W3.cell? ⟨g4, 5, none⟩ = some (.int .i64 lo) := hj4.cell 5
 have d6 : W3.cell? ⟨g4, 6, none⟩ = some (.slice wa wn wcp) := hj4.cell 6
 have HMO := Lib.hid hmo
 have h23 := Below.size hy
 have HC2 := Lib.hid (HTRUE.out W3 OA PA SA oc pc sc_ os hx3 hmo.r)
 clear HC hx2 hy hmo HTRUE HJ4 hj4
 go_wp2_with fail
 refine HC2.out.mono ?_
 rintro e W3a ⟨RA0, rc0, NA0, nc0, rfl, hr0, hn0, hy⟩
 obtain ⟨W4, hW4⟩ : ∃ W, W = W3a := ⟨_, rfl⟩
 rw [← hW4] at hr0 hn0 hy ⊢
 have hx4 := Ext.trans hx3 hy
 have h3sz := Below.size hy
 obtain ⟨v4, W4a, hrun1, hg1, hr1⟩ := rcp_app 33 R0 (rs.take m5) (.slice RA0 r0l rc0) W3.heap.size _ m5 qc QA hr0 (ra_ext HQ5.out hx4) (by have := HR0L.out; have := HM5.out; omega) h3sz
 have hy1 : Ext W3 W4a := hy.grown hg1 h3sz (fun q e => (World.ownsRow.lt hr0 q e).1)
 have hn1 : OwnNt W4a W3.heap.size (.slice NA0 n0l nc0) N0 := own_other hn0 hr0 (by decide) hg1
 have hx4a := Ext.trans hx3 hy1
 have h3sa := Below.size hy1
 obtain ⟨v5, W4b, hrun2, hg2, hn2⟩ := nte_app 34 N0 (ns.take n5) (.slice NA0 n0l nc0) W3.heap.size _ n5 nc NA hn1 (ra_ext HN5.out hx4a) (by have := HN0L.out; have := HNM5.out; omega) h3sa
 have hy2 : Ext W3 W4b := hy1.grown hg2 h3sa (fun q e => (World.ownsRow.lt hn1 q e).1)
 have hr2 : OwnRc W4b W3.heap.size v4 (R0 ++ rs.take m5) := own_other hr1 hn1 (by decide) hg2
 obtain ⟨RS, hRS⟩ : ∃ l, l = R0 ++ rs.take m5 := ⟨_, rfl⟩
 obtain ⟨NS, hNS⟩ : ∃ l, l = N0 ++ ns.take n5 := ⟨_, rfl⟩
 rw [← hRS] at hr2
 rw [← hNS] at hn2
 have hrl0 : RS.length = rl := by rw [hRS, List.length_append, ← HR0L.out, HRL.out, HQ5.out.len]
 have hnl0 : NS.length = nl := by rw [hNS, List.length_append, ← HN0L.out, HNL.out, HN5.out.len]
 obtain ⟨RB, rk, hv4, _, _⟩ := own_slice hr2
 obtain ⟨NB, nk, hv5, _, _⟩ := own_slice hn2
 subst hv4 hv5
 rw [hrl0] at hrun1 hr2
 rw [hnl0] at hrun2 hn2
 have HRSL := Lib.hid hrl0
 have HNSL := Lib.hid hnl0
 have HRUN1 := Lib.hid hrun1
 have HRUN2 := Lib.hid hrun2
 have HR2 := Lib.hid hr2
 have HN2 := Lib.hid hn2
 have HY2 := Lib.hid hy2
 have HX4B := Lib.hid (Ext.trans hx3 hy2)
 have HJ5 := Lib.hid (HJ5.out.ext hy2)
 clear hW4 HC2 hr0 hn0 hy hx4 h3sz hrun1 hg1 hr1 hy1 hn1 hx4a h3sa hrun2 hg2 hn2 hy2 hr2 hRS hNS hrl0 hnl0 hx3 HR0L HN0L hR8 hN56
 go_upto_region 5 with (fail)
 go_cut [16] from 54 to 61 (fun v wc => v = .slice RB rl rk ∧ wc = W4a)
 case first => as_aux_lemma =>
  rcases QA with _ | ⟨bN, oN, spN⟩
  ·have h0 := hqn0 rfl
   have h1 := hqn rfl
   have h2 : m5 = 0 := by have := HM5.out; omega
   subst h0 h1 h2
   go_wp2_with (refine wpList_append_run_ rfl _ _ _ rfl rfl rfl HRUN1.out ?_)
   go_meet
   case rel => exact ⟨rfl, rfl⟩
  ·have hif : (if (5 : Int) < (qn : Int) then 5 else (qn : Int)).toNat = m5 := by have := HM5.out; split <;> omega
   go_wp2_with (refine wpList_append_run_ rfl _ _ _ rfl rfl rfl HRUN1.out ?_)
   all_goals (go_meet; exact ⟨rfl, rfl⟩)
 case rest => as_aux_lemma =>
 obtain ⟨rfl, hW⟩ := hcut
 rw [hW]
 clear hW wc HRUN1 hqn hqn0
 go_upto_region 6 with (fail)
 go_cut [17] from 61 to 68 (fun v wc => v = .slice NB nl nk ∧ wc = W4b)
 case first => as_aux_lemma =>
  rcases NA with _ | ⟨bN, oN, spN⟩
  ·have h0 := hnn0 rfl
   have h1 := hnn rfl
   have h2 : n5 = 0 := by have := HNM5.out; omega
   subst h0 h1 h2
   go_wp2_with (refine wpList_append_run_ rfl _ _ _ rfl rfl rfl HRUN2.out ?_)
   go_meet
   case rel => exact ⟨rfl, rfl⟩
  ·have hif : (if (5 : Int) < (nn : Int) then 5 else (nn : Int)).toNat = n5 := by have := HNM5.out; split <;> omega
   go_wp2_with (refine wpList_append_run_ rfl _ _ _ rfl rfl rfl HRUN2.out ?_)
   all_goals (go_meet; exact ⟨rfl, rfl⟩)
 case rest => as_aux_lemma =>
 obtain ⟨rfl, hW⟩ := hcut
 rw [hW]
 clear hW wc HRUN2 hnn hnn0
 have hxa : Ext W4b (W4b.alloc (.cells #[] 32)) := bl_alloc (Below.refl _ _) _
 have hx3b := Ext.trans HY2.out hxa
 obtain ⟨gb, kb, W4, hrun, hx34, hgb, hbo⟩ := copy_opt 36 os _ W4b.heap.size L oc OA W4b.heap.size (Blk.new W4b 32 #[]) (Nat.le_refl _) (by omega) (ra_ext (HMR0.out W3 OA PA SA oc pc sc_ os HMO.out.r).out hx3b)
 have hxb4 := Ext.trans hxa hx34
 have hx34 := Ext.trans hx3b hx34
 have hx4 := Ext.trans HX4B.out hxb4
 have HR4 := Lib.hid (own_ext HR2.out hxb4)
 have HN4 := Lib.hid (own_ext HN2.out hxb4)
 have h3b := Below.size HY2.out
 have hj5 := HJ5.out.ext hxb4
 have HBO := Lib.hid hbo
 have HX34 := Lib.hid hx34
 have HRUN := Lib.hid hrun
 clear hrun hxa hx34 hbo hx3b hxb4 HR2 HN2 HY2 HX4B
 go_upto_region 8 with (refine wpList_append_run_ rfl _ _ _ rfl rfl rfl HRUN.out ?_)
 clear HRUN
 go_cut [] from 71 to 79 (fun wc => wc = W4.setCell ⟨g5, 8, none⟩ (.slice a m7 d))
 case first => as_aux_lemma =>
  have e7 : W4.cell? ⟨g5, 7 + 1, none⟩ = some (.slice a m d) := hj5.cell 8
  have e7' : W4.cell? ⟨g5, 8, none⟩ = some (.slice a m d) := hj5.cell 8
  have e7f : W4.frozen? ⟨g5, 7 + 1, none⟩ = false := hj5.frozen 8
  rcases a with _ | ⟨bN, oN, spN⟩
  ·have h0 := hon0 rfl
   have h1 := hon rfl
   have h2 : m7 = 0 := by have := HM7.out; omega
   subst h0 h1 h2
   go_wp2
   go_meet
   exact rfl
  ·have hif : (if (7 : Int) < (m : Int) then 7 else (m : Int)).toNat = m7 := by have := HM7.out; split <;> omega
   go_wp2
   all_goals (go_meet; exact rfl)
 case rest => as_aux_lemma =>
 subst hcut
 have hx5 : Ext w (W4.setCell ⟨g5, 8, none⟩ (.slice a m7 d)) := Below.setCell hx4 hg5w _
 have hj5b := hj5.set_ 8 (.slice a m7 d)
 have hbo := own_set HBO.out (p := ⟨g5, 8, none⟩) (fun e => by injection e with e; have e : gb = g5 := e; omega) (.slice a m7 d)
 have hr5 := own_set HR4.out (p := ⟨g5, 8, none⟩) (fun e => by have e2 := (World.ownsRow.lt HR4.out _ e).1; have e3 : W3.heap.size ≤ g5 := e2; omega) (.slice a m7 d)
 have hn5 := own_set HN4.out (p := ⟨g5, 8, none⟩) (fun e => by have e2 := (World.ownsRow.lt HN4.out _ e).1; have e3 : W3.heap.size ≤ g5 := e2; omega) (.slice a m7 d)
 have hmid : ∀ k, W2.heap.size ≤ k → k < W3.heap.size → (W4.setCell ⟨g5, 8, none⟩ (.slice a m7 d)).heap[k]? = W3.heap[k]? := fun k h1 h2 => (Below.heap_setCell W4 ⟨g5, 8, none⟩ _ k (by show k ≠ g5; omega)).trans (HX34.out.block k h2)
 have hsz : W3.heap.size ≤ (W4.setCell ⟨g5, 8, none⟩ (.slice a m7 d)).heap.size := by rw [World.size_setCell]; exact Below.size HX34.out
 clear HJ5 HBO hj5 hx4 HX34 HR4 HN4
 generalize W4.setCell ⟨g5, 8, none⟩ (.slice a m7 d) = W5 at hx5 hj5b hbo hmid hsz hr5 hn5 ⊢
 have hj5 : Blk W5 g5 32 #[.int .i64 id, .int .i64 i1, .int .i64 i2, .int .i64 i3, .int .i64 i4, .int .i64 i5, .int .i64 i6, .int .i64 i7, .slice a m7 d] := hj5b
 clear hj5b
 have HX5 := Lib.hid hx5
 have HBO := Lib.hid hbo
 have HMID := Lib.hid hmid
 have HR5 := Lib.hid hr5
 have HN5_ := Lib.hid hn5
 clear hx5 hbo hmid hr5 hn5
 go_upto_if 81 with (fail)
 go_cut [] from 81 to 89 (fun wc => Hid (∃ os2, Ops wc wc.heap.size (some ⟨gb, 0, none⟩) L kb os2) ∧ Hid (MadeR wc c OA PA SA oc pc sc_ os) ∧ Hid (RA rcpCells 3 wc wc.heap.size RB rl rk RS) ∧ Hid (RA nteCells 3 wc wc.heap.size NB nl nk NS) ∧ Ext w wc)
 case first => as_aux_lemma =>
  by_cases hL0 : 0 < L
  ·have hLz : (0 : Int) < (L : Int) := by omega
   obtain ⟨hp1, hp2⟩ := HPKB.out hLz
   obtain ⟨pk, rfl⟩ : ∃ q : Nat, pz = q := ⟨pz.toNat, by omega⟩
   have HPK := Lib.hid (fun W => HPKW.out W hLz)
   have hlo : os.length = L := by rw [HLL.out]; exact HMO.out.hl
   have hpk : pk < os.length := by omega
   have hpz : (pk : Int) < (L : Int) := by omega
   go_upto_region 10 with (fail)
   have e0 : W5.cell? ⟨g5, 0, none⟩ = some (.int .i64 id) := hj5.cell 0
   have e1 : W5.cell? ⟨g5, 1, none⟩ = some (.int .i64 i1) := hj5.cell 1
   have e2 : W5.cell? ⟨g5, 2, none⟩ = some (.int .i64 i2) := hj5.cell 2
   have e3 : W5.cell? ⟨g5, 3, none⟩ = some (.int .i64 i3) := hj5.cell 3
   have e4 : W5.cell? ⟨g5, 4, none⟩ = some (.int .i64 i4) := hj5.cell 4
   have e5 : W5.cell? ⟨g5, 5, none⟩ = some (.int .i64 i5) := hj5.cell 5
   have e6 : W5.cell? ⟨g5, 6, none⟩ = some (.int .i64 i6) := hj5.cell 6
   have e7 : W5.cell? ⟨g5, 7, none⟩ = some (.int .i64 i7) := hj5.cell 7
   have e8 : W5.cell? ⟨g5, 8, none⟩ = some (.slice a m7 d) := hj5.cell 8
   refine wp_region_obl 7 (fun ix vals v w1 => match ix with | 0 => v = .slice (some ⟨gb, 0, none⟩) L kb | 1 => v = .int .i64 which | 2 => v = .slice (some ⟨gb, 0, none⟩) L kb | 3 => v = .int .i64 (L : Nat) | 4 => v = .int .i64 (pk : Nat) | 5 => v = .agg #[.int .i64 id, .int .i64 i1, .int .i64 i2, .int .i64 i3, .int .i64 i4, .int .i64 i5, .int .i64 i6, .int .i64 i7, .slice a m7 d] | _ => v = .pointer (some ⟨gb, pk * 9, none⟩)) (by kernel_rfl) (by kernel_rfl) ?_ ?_ ?_ ?_
   ·intro ix vals v w1 w2 hi hr hx
    match ix, hr with
    |0, hr => exact hr
    |1, hr => exact hr
    |2, hr => exact hr
    |3, hr => exact hr
    |4, hr => exact hr
    |5, hr => exact hr
    |(kx + 6), hr => exact hr
   ·intro ix vals vals_ v w1 hi hv hr
    exact hr
   ·refine ⟨?_, ?_, ?_, ?_, ?_, ?_, ?_, trivial⟩
    ·intro vals w1 hx hd ha
     clear hd ha
     simp only [Lf]
     go_wp2
     exact ⟨rfl, Ext.refl _, rfl⟩
    ·intro vals w1 hx hd ha
     clear hd ha
     simp only [Lf, dstAt, Act.put, List.getElem?_toArray, List.getElem?_cons_zero, Option.bind_some, List.setIfInBounds_toArray, List.set_cons_zero, List.set_cons_succ]
     go_wp2
     exact ⟨rfl, Ext.refl _, rfl⟩
    ·intro vals w1 hx hd ha
     clear hd ha
     simp only [Lf, dstAt, Act.put, List.getElem?_toArray, List.getElem?_cons_zero, List.getElem?_cons_succ, Option.bind_some, List.setIfInBounds_toArray, List.set_cons_zero, List.set_cons_succ]
     go_wp2
     exact ⟨rfl, Ext.refl _, rfl⟩
    ·intro vals w1 hx hd ha
     have e2 : vals 2 = .slice (some ⟨gb, 0, none⟩) L kb := hd 2 (by decide)
     clear hd ha
     simp only [Lf, dstAt, Act.put, List.getElem?_toArray, List.getElem?_cons_zero, List.getElem?_cons_succ, Option.bind_some, List.setIfInBounds_toArray, List.set_cons_zero, List.set_cons_succ]
     simp only [e2]
     clear e2
     go_wp2
     exact ⟨rfl, Ext.refl _, rfl⟩
    ·intro vals w1 hx hd ha
     have e1 : vals 1 = .int .i64 which := hd 1 (by decide)
     have e3 : vals 3 = .int .i64 (L : Nat) := hd 3 (by decide)
     clear hd ha
     simp only [Lf, dstAt, Act.put, List.getElem?_toArray, List.getElem?_cons_zero, List.getElem?_cons_succ, Option.bind_some, List.setIfInBounds_toArray, List.set_cons_zero, List.set_cons_succ]
     simp only [e1]
     simp only [e3]
     clear e1 e3
     go_wp2_with (refine (HPK.out _).mono ?_; rintro e w2 ⟨rfl, rfl⟩)
     exact ⟨rfl, Ext.refl _, rfl⟩
    ·intro vals w1 hx hd ha
     clear hd ha
     simp only [Lf, dstAt, Act.put, List.getElem?_toArray, List.getElem?_cons_zero, List.getElem?_cons_succ, Option.bind_some, List.setIfInBounds_toArray, List.set_cons_zero, List.set_cons_succ]
     have e0 := ext_cell hx.undrew e0; have e1 := ext_cell hx.undrew e1; have e2 := ext_cell hx.undrew e2; have e3 := ext_cell hx.undrew e3; have e4 := ext_cell hx.undrew e4; have e5 := ext_cell hx.undrew e5; have e6 := ext_cell hx.undrew e6; have e7 := ext_cell hx.undrew e7; have e8 := ext_cell hx.undrew e8
     go_wp2
     exact ⟨rfl, Ext.refl _, rfl⟩
    ·intro vals w1 hx hd ha
     have e0 : vals 0 = .slice (some ⟨gb, 0, none⟩) L kb := hd 0 (by decide)
     have e1 : vals 1 = .int .i64 which := hd 1 (by decide)
     have e2 : vals 2 = .slice (some ⟨gb, 0, none⟩) L kb := hd 2 (by decide)
     have e3 : vals 3 = .int .i64 (L : Nat) := hd 3 (by decide)
     have e4 : vals 4 = .int .i64 (pk : Nat) := hd 4 (by decide)
     have e5 : vals 5 = .agg #[.int .i64 id, .int .i64 i1, .int .i64 i2, .int .i64 i3, .int .i64 i4, .int .i64 i5, .int .i64 i6, .int .i64 i7, .slice a m7 d] := hd 5 (by decide)
     clear hd ha
     simp only [Lf, dstAt, Act.put, List.getElem?_toArray, List.getElem?_cons_zero, List.getElem?_cons_succ, Option.bind_some, List.setIfInBounds_toArray, List.set_cons_zero, List.set_cons_succ]
     simp only [e0, e1, e2, e3, e4, e5]
     clear e0 e1 e2 e3 e4 e5
     go_wp2
     exact ⟨rfl, Ext.refl _, rfl⟩
   intro vals W6 hz hf
   have v5 : vals 5 = .agg #[.int .i64 id, .int .i64 i1, .int .i64 i2, .int .i64 i3, .int .i64 i4, .int .i64 i5, .int .i64 i6, .int .i64 i7, .slice a m7 d] := hf 5 (by omega)
   have v6 : vals 6 = .pointer (some ⟨gb, pk * 9, none⟩) := hf 6 (by omega)
   have hz := hz.undrew
   have hbo6 : OwnOp W6 W4b.heap.size (.slice (some ⟨gb, 0, none⟩) L kb) os := own_ext HBO.out hz
   obtain ⟨hbo7, hth, hgr⟩ := own_opt_set hbo6 pk hpk ⟨id, i1, i2, i3, i4, i5, i6, i7, a, m7, d, l.take m7⟩
   obtain ⟨W7, hW7⟩ : ∃ W, W = W6.setCells gb (pk * 9) (optCells ⟨id, i1, i2, i3, i4, i5, i6, i7, a, m7, d, l.take m7⟩) := ⟨_, rfl⟩
   rw [← hW7] at hbo7 hgr
   have hx56 := Ext.trans HX5.out hz
   have hx7 : Ext w W7 := hx56.grown hgr (Below.size hx56) (fun q e => by injection e with e; omega)
   have hs56 := Below.size hz
   have hmr7 : MadeR W7 c OA PA SA oc pc sc_ os := (HMO.out.mid (fun k h1 h2 => (hgr.block k (by omega) (fun e => by injection e with e; omega)).trans ((hz.block k (by omega)).trans (HMID.out k h1 h2)))).r
   have hr7 : OwnRc W7 W3.heap.size (.slice RB rl rk) RS := own_other (own_ext HR5.out hz) hbo6 (by decide) hgr
   have hn7 : OwnNt W7 W3.heap.size (.slice NB nl nk) NS := own_other (own_ext HN5_.out hz) hbo6 (by decide) hgr
   have hr8 : RA rcpCells 3 W7 W7.heap.size RB rl rk RS := by unfold OwnRc at hr7; rw [HRSL.out] at hr7; exact RA.of_own2 hr7 HRSL.out
   have hn8 : RA nteCells 3 W7 W7.heap.size NB nl nk NS := by unfold OwnNt at hn7; rw [HNSL.out] at hn7; exact RA.of_own2 hn7 HNSL.out
   have hops : Ops W7 W7.heap.size (some ⟨gb, 0, none⟩) L kb (os.set pk ⟨id, i1, i2, i3, i4, i5, i6, i7, a, m7, d, l.take m7⟩) := ⟨hbo7.ra (by rw [List.length_set]; omega), fun x hx => by
    rcases List.mem_or_eq_of_mem_set hx with h | h
    ·exact hmr7.ho.each x h
    ·subst h
     exact ra_ext HO7.out hx7⟩
   have HREL := Lib.hid (⟨Lib.hid ⟨_, hops⟩, Lib.hid hmr7, Lib.hid hr8, Lib.hid hn8, hx7⟩ : Hid (∃ os2, Ops W7 W7.heap.size (some ⟨gb, 0, none⟩) L kb os2) ∧ Hid (MadeR W7 c OA PA SA oc pc sc_ os) ∧ Hid (RA rcpCells 3 W7 W7.heap.size RB rl rk RS) ∧ Hid (RA nteCells 3 W7 W7.heap.size NB nl nk NS) ∧ Ext w W7)
   clear hf hx7 hmr7 hops hbo7 hgr hbo6 hx56 hz e0 e1 e2 e3 e4 e5 e6 e7 e8 hs56 hr7 hn7 hr8 hn8
   refine tail1 7 _ (by kernel_rfl) (by kernel_rfl) rfl ?_
   simp only [Lf, dstAt, Act.put, List.getElem?_toArray, List.getElem?_cons_zero, List.getElem?_cons_succ, Option.bind_some, List.setIfInBounds_toArray, List.set_cons_zero, List.set_cons_succ]
   rw [v5, v6]
   clear v5 v6
   refine wpList_store_st rfl _ _ _ rfl gb (pk * 9) _ (optCells ⟨id, i1, i2, i3, i4, i5, i6, i7, a, m7, d, l.take m7⟩) rfl rfl rfl hth (by kernel_rfl) (opt_ones _) ?_
   rw [← hW7]
   clear hth hW7
   go_wp2
   go_meet
   case rel => exact HREL.out
  ·have hLz : ¬ (0 : Int) < (L : Int) := by omega
   have hmr := (HMO.out.mid HMID.out).r
   have hr8 : RA rcpCells 3 W5 W5.heap.size RB rl rk RS := by have hr7 : OwnRc W5 W3.heap.size (.slice RB rl rk) RS := HR5.out; unfold OwnRc at hr7; rw [HRSL.out] at hr7; exact RA.of_own2 hr7 HRSL.out
   have hn8 : RA nteCells 3 W5 W5.heap.size NB nl nk NS := by have hn7 : OwnNt W5 W3.heap.size (.slice NB nl nk) NS := HN5_.out; unfold OwnNt at hn7; rw [HNSL.out] at hn7; exact RA.of_own2 hn7 HNSL.out
   have HREL := Lib.hid (⟨Lib.hid ⟨os, ⟨OwnOp.ra HBO.out (by have := HMO.out.hl; rw [← HLL.out] at this; omega), hmr.ho.each⟩⟩, Lib.hid hmr, Lib.hid hr8, Lib.hid hn8, HX5.out⟩ : Hid (∃ os2, Ops W5 W5.heap.size (some ⟨gb, 0, none⟩) L kb os2) ∧ Hid (MadeR W5 c OA PA SA oc pc sc_ os) ∧ Hid (RA rcpCells 3 W5 W5.heap.size RB rl rk RS) ∧ Hid (RA nteCells 3 W5 W5.heap.size NB nl nk NS) ∧ Ext w W5)
   clear hmr hr8 hn8
   go_wp2
   go_meet
   case rel => exact HREL.out
 case rest => as_aux_lemma =>
 obtain ⟨HBO2, HMR, HRS, HNS, hx8⟩ := hcut
 obtain ⟨W8, hW8⟩ : ∃ q, q = wc := ⟨_, rfl⟩
 rw [← hW8] at HBO2 HMR HRS HNS hx8 ⊢
 clear hW8 HMO HMID HBO HX5 HPKW HPKB hj5 HO7 HM7 hon hole hocap hon0 h5lt2 h23 hgb hsz hg45 hg5w HR5 HN5_ h3b HM5 HNM5 HQ5 HN5 hqcap hqle hncap hnle HRL HNL
 have HX8 := Lib.hid hx8
 go_upto_region 11 with (fail)
 have hxa : Ext W8 (W8.alloc (.cells #[.slice OA L oc, .slice (some ⟨gb, 0, none⟩) L kb] 36)) := bl_alloc (Below.refl _ _) _
 have J := Blk.new W8 36 #[.slice OA L oc, .slice (some ⟨gb, 0, none⟩) L kb]
 obtain ⟨os2, hos2⟩ := HBO2.out
 have hos1 := HMR0.out W8 OA PA SA oc pc sc_ os HMR.out
 obtain ⟨gx, hgx⟩ : ∃ g, g = W8.heap.size := ⟨_, rfl⟩
 have HGX := Lib.hid hgx
 rw [← hgx] at J
 obtain ⟨W9, hW9⟩ : ∃ W, W = W8.alloc (.cells #[.slice OA L oc, .slice (some ⟨gb, 0, none⟩) L kb] 36) := ⟨_, rfl⟩
 rw [← hW9] at hxa J
 have HXS : Hid (∀ k, k < 2 → ∃ A c xs, W9.cell? ⟨gx, k, none⟩ = some (.slice A L c) ∧ Ops W9 W9.heap.size A L c xs) := Lib.hid (fun k hk => by
  match k, hk with
  |0, _ => exact ⟨_, _, _, J.cell 0, hos1.ext hxa⟩
  |1, _ => exact ⟨_, _, _, J.cell 1, hos2.ext hxa⟩)
 have HPS : Hid (RA pasCells 6 W9 W9.heap.size PA pn pc (casP c)) := Lib.hid (by
  have h := ra_ext HMR.out.ps hxa
  rw [HPN.out] at h
  exact h)
 have HST := Lib.hid (ra_ext HMR.out.st hxa)
 have HRS := Lib.hid (ra_ext HRS.out hxa)
 have HNS := Lib.hid (ra_ext HNS.out hxa)
 have HX9 := Lib.hid (Ext.trans HX8.out hxa)
 have HW9 := Lib.hid hW9
 clear hxa J hos1 hos2 hgx hW9 HBO2 HMR hx8 HX8 HMR0 HPN HLL
 generalize casP c = CP at HPS
 generalize casS c = CS at HST
 obtain ⟨bS, oS, rfl, hscap⟩ : ∃ b o, SA = some ⟨b, o, none⟩ ∧ 3 ≤ sc_ := by
  obtain ⟨b, o, h, _⟩ := HST.out.rd.2 (by omega)
  exact ⟨b, o, h, HST.out.cap⟩
 have HST2 := Lib.hid (HST.out.cut stn_len 2 (by omega))
 go_wp2_with fail
 rw [← HW9.out, ← HGX.out]
 clear HW9 HGX
 go_loopw [93] (fun i wr => ∃ k : Nat, k ≤ 2 ∧ i = .int .i64 k ∧ Ext W9 wr) (fun i _ => 2 - (intOf i).toNat)
 case atStart => exact ⟨0, Nat.zero_le _, rfl, Ext.refl _⟩
 case round => as_aux_lemma =>
  obtain ⟨k, hk, rfl, hx⟩ := hrel
  by_cases hk2 : k < 2
  ·obtain ⟨XA, xc, xs, hc0, hops⟩ := HXS.out k hk2
   have hc0 := ext_cell hx hc0
   have HK2 := Lib.hid hk2
   have hk2z : (k : Int) < 2 := by omega
   have hxa : Ext wr (wr.alloc (.cells #[.slice (some ⟨bS, oS, none⟩) 3 sc_, .slice (some ⟨bS, oS, none⟩) 2 sc_] 38)) := bl_alloc (Below.refl _ _) _
   have J := Blk.new wr 38 #[.slice (some ⟨bS, oS, none⟩) 3 sc_, .slice (some ⟨bS, oS, none⟩) 2 sc_]
   obtain ⟨gz, hgz⟩ : ∃ g, g = wr.heap.size := ⟨_, rfl⟩
   have HGZ := Lib.hid hgz
   rw [← hgz] at J
   obtain ⟨W10, hW10⟩ : ∃ W, W = wr.alloc (.cells #[.slice (some ⟨bS, oS, none⟩) 3 sc_, .slice (some ⟨bS, oS, none⟩) 2 sc_] 38) := ⟨_, rfl⟩
   rw [← hW10] at hxa J
   have hx10 := Ext.trans hx hxa
   have HZS : Hid (∀ q, q < 2 → ∃ (z : Nat) (zs : List Stn), W10.cell? ⟨gz, q, none⟩ = some (.slice (some ⟨bS, oS, none⟩) z sc_) ∧ RA stnCells 6 W10 W10.heap.size (some ⟨bS, oS, none⟩) z sc_ zs) := Lib.hid (fun q hq => by
    match q, hq with
    |0, _ => exact ⟨_, _, J.cell 0, ra_ext HST.out hx10⟩
    |1, _ => exact ⟨_, _, J.cell 1, ra_ext HST2.out hx10⟩)
   have HOP := Lib.hid (hops.ext hx10)
   have HP10 := Lib.hid (ra_ext HPS.out hx10)
   have HR10 := Lib.hid (ra_ext HRS.out hx10)
   have HN10 := Lib.hid (ra_ext HNS.out hx10)
   have HX10 := Lib.hid hx10
   have HW10 := Lib.hid hW10
   clear hops hxa J hgz hW10 hx10 hx
   go_wp2_with fail
   rw [← HW10.out, ← HGZ.out]
   clear HW10 HGZ hc0
   go_loopw [102] (fun i wr => ∃ q : Nat, q ≤ 2 ∧ i = .int .i64 q ∧ Ext W10 wr) (fun i _ => 2 - (intOf i).toNat)
   case atStart => exact ⟨0, Nat.zero_le _, rfl, Ext.refl _⟩
   case round => as_aux_lemma =>
    obtain ⟨q, hq, rfl, hx⟩ := hrel
    by_cases hq2 : q < 2
    ·obtain ⟨sn, sts, hz0, hst⟩ := HZS.out q hq2
     have hz0 := ext_cell hx hz0
     have HQ2 := Lib.hid hq2
     have hq2z : (q : Int) < 2 := by omega
     have HV := Lib.hid (valid_any xs CP sts XA PA (some ⟨bS, oS, none⟩) L xc pn pc sn sc_ wr (HOP.out.ext hx) (ra_ext HP10.out hx) (ra_ext hst hx))
     have HV2 := Lib.hid (fun (W : World) (hW : Ext W10 W) => rvalid_any xs CP sts XA PA (some ⟨bS, oS, none⟩) L xc pn pc sn sc_ W (HOP.out.ext hW) (ra_ext HP10.out hW) (ra_ext hst hW))
     have HSTq := Lib.hid hst
     generalize validP xs CP sts = vb at HV HV2
     have hvb : (vb != vb) = false := by cases vb <;> rfl
     clear hst
     go_wp2_with fail
     refine HV.out.mono ?_
     rintro e W11 ⟨rfl, hy⟩
     have hx11 := Ext.trans hx hy
     have HV3 := Lib.hid (HV2.out W11 hx11)
     clear HV HV2 hy hx hz0
     go_wp2_with fail
     refine HV3.out.mono ?_
     rintro e W12 ⟨rfl, hy⟩
     have hx12 := Ext.trans hx11 hy
     clear HV3 hy hx11
     have hxa : Ext W12 (W12.alloc (.cells #[.int .i64 now, .int .i64 pnow] 3)) := bl_alloc (Below.refl _ _) _
     have J := Blk.new W12 3 #[.int .i64 now, .int .i64 pnow]
     obtain ⟨gt, hgt⟩ : ∃ g, g = W12.heap.size := ⟨_, rfl⟩
     have HGT := Lib.hid hgt
     rw [← hgt] at J
     obtain ⟨W13, hW13⟩ : ∃ W, W = W12.alloc (.cells #[.int .i64 now, .int .i64 pnow] 3) := ⟨_, rfl⟩
     rw [← hW13] at hxa J
     have hx13 := Ext.trans hx12 hxa
     have HTS : Hid (∀ z, z < 2 → ∃ tv : Int, W13.cell? ⟨gt, z, none⟩ = some (.int .i64 tv)) := Lib.hid (fun z hz => by
      match z, hz with
      |0, _ => exact ⟨_, J.cell 0⟩
      |1, _ => exact ⟨_, J.cell 1⟩)
     have HOP13 := Lib.hid (HOP.out.ext hx13)
     have HP13 := Lib.hid (ra_ext HP10.out hx13)
     have HS13 := Lib.hid (ra_ext HSTq.out hx13)
     have HR13 := Lib.hid (ra_ext HR10.out hx13)
     have HN13 := Lib.hid (ra_ext HN10.out hx13)
     have HX13 := Lib.hid hx13
     have HW13 := Lib.hid hW13
     clear hxa J hgt hW13 hx13 hx12 HSTq hvb
     go_wp2_with (refine (HPKN.out _).mono ?_; rintro e w2 ⟨rfl, rfl⟩)
     rw [← HW13.out, ← HGT.out]
     clear HW13 HGT
     go_loopw [120] (fun i wr => ∃ z : Nat, z ≤ 2 ∧ i = .int .i64 z ∧ Ext W13 wr) (fun i _ => 2 - (intOf i).toNat)
     case atStart => exact ⟨0, Nat.zero_le _, rfl, Ext.refl _⟩
     case round => as_aux_lemma =>
      obtain ⟨z, hz, rfl, hx⟩ := hrel
      by_cases hz2 : z < 2
      ·obtain ⟨tv, ht0⟩ := HTS.out z hz2
       have ht0 := ext_cell hx ht0
       have HZ2 := Lib.hid hz2
       have hz2z : (z : Int) < 2 := by omega
       have hc1 := rec_any xs CP sts RS NS tv XA PA (some ⟨bS, oS, none⟩) RB NB L xc pn pc sn sc_ rl rk nl nk wr (HOP13.out.ext hx) (ra_ext HP13.out hx) (ra_ext HS13.out hx) (ra_ext HR13.out hx) (ra_ext HN13.out hx)
       have hc2 := fun (W : World) (hW : Ext W13 W) => (rrec_any xs CP sts RS NS tv XA PA (some ⟨bS, oS, none⟩) RB NB L xc pn pc sn sc_ rl rk nl nk W (HOP13.out.ext hW) (ra_ext HP13.out hW) (ra_ext HS13.out hW) (ra_ext HR13.out hW) (ra_ext HN13.out hW)).mono fun _ _ h => h.out recV_fs recV_ds
       have hmany := recV_many xs CP sts RS NS tv
       rw [HOP13.out.out.len] at hmany
       generalize recV xs CP sts RS NS tv = X at hc1 hc2 hmany
       obtain ⟨⟨XF, XD⟩, XE⟩ := X
       dsimp only at hc1 hc2 hmany
       generalize hfl : XF.length = fl at hc1 hc2 hmany
       generalize hdl : XD.length = dl at hc1 hc2
       have HC := Lib.hid hc1
       have HC2 := Lib.hid hc2
       clear hc1 hc2 hfl hdl
       go_wp2_with fail
       refine HC.out.mono ?_
       rintro e W14 ⟨FA, fc, DA, dc, rfl, hro, hy⟩
       have hx14 := Ext.trans hx hy
       have HD := Lib.hid (HC2.out W14 hx14)
       have HRO := Lib.hid hro
       clear HC HC2 hro hy hx ht0
       go_wp2_with fail
       refine HD.out.mono ?_
       rintro e W15 ⟨FB, fcB, DB, dcB, rfl, hro2, hy⟩
       have hx15 := Ext.trans hx14 hy
       obtain ⟨⟨f1, hf1, hp1⟩, hd1⟩ := HRO.out.ext hy
       obtain ⟨⟨f2, hf2, hp2⟩, hd2⟩ := hro2
       have hsf := sameF_any FA FB fl fl fc fcB f1 f2 W15 hf1 hf2
       rw [decide_eq_true (hp1.trans hp2.symm)] at hsf
       have HSF := Lib.hid hsf
       have HF2 := Lib.hid hf2
       have HD1 := Lib.hid hd1
       have HD2 := Lib.hid hd2
       have hee : (XE != XE) = false := by simp
       have hee2 : (XE == XE) = true := by simp
       clear HD HRO hy hx14 hf1 hp1 hd1 hf2 hp2 hd2 hsf
       go_wp2_with fail
       refine HSF.out.mono ?_
       rintro e W16 ⟨rfl, hy⟩
       have hx16 := Ext.trans hx15 hy
       have HSD := Lib.hid (same_dsc_true DA DB dl dc dcB XD W16 (ra_ext HD1.out hy) (ra_ext HD2.out hy))
       have HF2 := Lib.hid (HF2.out.ext hy)
       clear HSF hy hx15 HD1 HD2
       go_wp2_with fail
       refine HSD.out.mono ?_
       rintro e W17 ⟨rfl, hy⟩
       have hx17 := Ext.trans hx16 hy
       have hf17 := HF2.out.ext hy
       have HDL := Lib.hid (Delivered_any f2 FB fl fcB W17 hf17.out (by omega))
       have HF17 := Lib.hid hf17
       clear HSD hy hx16 HF2 hf17
       go_wp2_with fail
       refine HDL.out.mono ?_
       rintro e W18 ⟨v18, rfl, ho18, hy⟩
       have hx18 := Ext.trans hx17 hy
       have HDL2 := Lib.hid (rDelivered_any f2 FB fl fcB W18 (HF17.out.ext hy).out (by omega))
       have HO18 := Lib.hid ho18
       clear HDL hy hx17 HF17 ho18
       go_wp2_with fail
       refine HDL2.out.mono ?_
       rintro e W19 ⟨v19, rfl, ho19, hy⟩
       have hx19 := Ext.trans hx18 hy
       have ho18 := HO18.out.ext hy
       generalize delP (f2.map (·.p)) = EV at ho18 ho19
       obtain ⟨E1, e1c, hv18, _, _⟩ := own_slice ho18
       obtain ⟨E2, e2c, hv19, _, _⟩ := own_slice ho19
       subst hv18 hv19
       have hr18 : RA evtCells 7 W19 W19.heap.size E1 EV.length e1c EV := RA.of_own2 ho18 rfl
       have hr19 : RA evtCells 7 W19 W19.heap.size E2 EV.length e2c EV := RA.of_own2 ho19 rfl
       have hel := hr18.le
       generalize hev : EV.length = el at hr18 hr19 hel ⊢
       have HE1 := Lib.hid hr18
       have HE2 := Lib.hid hr19
       have HX19 := Lib.hid hx19
       clear HDL2 hy hx18 HO18 ho18 ho19 hr18 hr19 hev hx19
       go_wp2_with fail
       go_loopw [34] (fun i wr => ∃ j : Nat, j ≤ el ∧ i = .int .i64 j ∧ Ext W19 wr) (fun i _ => el - (intOf i).toNat)
       case atStart => exact ⟨0, Nat.zero_le _, rfl, Ext.refl _⟩
       case round => as_aux_lemma =>
        obtain ⟨j, hj, rfl, hx⟩ := hrel
        by_cases hje : j < el
        ·obtain ⟨b1, o1, hzz1, hA1, _, hcc1⟩ := (ra_ext HE1.out hx).at_ evt_len hje
         obtain ⟨b2, o2, hzz2, hA2, _, hcc2⟩ := (ra_ext HE2.out hx).at_ evt_len hje
         have hjz : (j : Int) < (el : Int) := by omega
         have HJE := Lib.hid hje
         generalize EV[j] = ev at hcc1 hcc2
         obtain ⟨et, ei⟩ := ev
         have c0 : wr.cell? ⟨b1, o1 + j * 7, none⟩ = some (.int .i64 2) := hcc1 0 (by omega)
         have c1 : wr.cell? ⟨b1, o1 + j * 7 + 1, none⟩ = some (.int .i64 et) := hcc1 1 (by omega)
         have c2 : wr.cell? ⟨b1, o1 + j * 7 + 2, none⟩ = some (.int .i64 ei) := hcc1 2 (by omega)
         have c3 : wr.cell? ⟨b1, o1 + j * 7 + 3, none⟩ = some (.slice none 0 0) := hcc1 3 (by omega)
         have d0 : wr.cell? ⟨b2, o2 + j * 7, none⟩ = some (.int .i64 2) := hcc2 0 (by omega)
         have d1 : wr.cell? ⟨b2, o2 + j * 7 + 1, none⟩ = some (.int .i64 et) := hcc2 1 (by omega)
         have d2 : wr.cell? ⟨b2, o2 + j * 7 + 2, none⟩ = some (.int .i64 ei) := hcc2 2 (by omega)
         have n1 : (et != et) = false := by simp
         have n2 : (ei != ei) = false := by simp
         subst hA1 hA2
         clear hcc1 hcc2 hzz1 hzz2
         go_upto_region 33 with (fail)
         refine wp_region_obl 47 (fun ix vals v w1 => match ix with | 0 => v = .slice (some ⟨b1, o1, none⟩) el e1c | 1 => v = .int .i64 (j : Int) | 2 => v = .pointer (some ⟨b1, o1 + j * 7, none⟩) | 3 => v = .pointer (some ⟨b1, o1 + j * 7, none⟩) | 4 => v = .int .i64 2 | 5 => v = .slice (some ⟨b2, o2, none⟩) el e2c | 6 => v = .int .i64 (j : Int) | 7 => v = .pointer (some ⟨b2, o2 + j * 7, none⟩) | 8 => v = .pointer (some ⟨b2, o2 + j * 7, none⟩) | 9 => v = .int .i64 2 | 10 => v = .bool false | 11 => v = .bool false | 12 => v = .slice (some ⟨b1, o1, none⟩) el e1c | 13 => v = .int .i64 (j : Int) | 14 => v = .pointer (some ⟨b1, o1 + j * 7, none⟩) | 15 => v = .pointer (some ⟨b1, o1 + j * 7 + 1, none⟩) | 16 => v = .int .i64 et | 17 => v = .slice (some ⟨b2, o2, none⟩) el e2c | 18 => v = .int .i64 (j : Int) | 19 => v = .pointer (some ⟨b2, o2 + j * 7, none⟩) | 20 => v = .pointer (some ⟨b2, o2 + j * 7 + 1, none⟩) | 21 => v = .int .i64 et | 22 => v = .bool false | 23 => v = .bool false | 24 => v = .bool false | 25 => v = .slice (some ⟨b1, o1, none⟩) el e1c | 26 => v = .int .i64 (j : Int) | 27 => v = .pointer (some ⟨b1, o1 + j * 7, none⟩) | 28 => v = .pointer (some ⟨b1, o1 + j * 7 + 2, none⟩) | 29 => v = .int .i64 ei | 30 => v = .slice (some ⟨b2, o2, none⟩) el e2c | 31 => v = .int .i64 (j : Int) | 32 => v = .pointer (some ⟨b2, o2 + j * 7, none⟩) | 33 => v = .pointer (some ⟨b2, o2 + j * 7 + 2, none⟩) | 34 => v = .int .i64 ei | 35 => v = .bool false | 36 => v = .bool false | 37 => v = .bool false | 38 => v = .slice (some ⟨b1, o1, none⟩) el e1c | 39 => v = .int .i64 (j : Int) | 40 => v = .pointer (some ⟨b1, o1 + j * 7, none⟩) | 41 => v = .pointer (some ⟨b1, o1 + j * 7 + 3, none⟩) | 42 => v = .pointer (some ⟨b1, o1 + j * 7 + 3, none⟩) | 43 => v = .slice none 0 0 | 44 => v = .int .i64 0 | 45 => v = .bool false | _ => v = .bool false) (by kernel_rfl) (by kernel_rfl) ?_ ?_ ?_ ?_
         ·intro ix vals v w1 w2 hi hr hx
          match ix, hr with
          |0, hr => exact hr
          |1, hr => exact hr
          |2, hr => exact hr
          |3, hr => exact hr
          |4, hr => exact hr
          |5, hr => exact hr
          |6, hr => exact hr
          |7, hr => exact hr
          |8, hr => exact hr
          |9, hr => exact hr
          |10, hr => exact hr
          |11, hr => exact hr
          |12, hr => exact hr
          |13, hr => exact hr
          |14, hr => exact hr
          |15, hr => exact hr
          |16, hr => exact hr
          |17, hr => exact hr
          |18, hr => exact hr
          |19, hr => exact hr
          |20, hr => exact hr
          |21, hr => exact hr
          |22, hr => exact hr
          |23, hr => exact hr
          |24, hr => exact hr
          |25, hr => exact hr
          |26, hr => exact hr
          |27, hr => exact hr
          |28, hr => exact hr
          |29, hr => exact hr
          |30, hr => exact hr
          |31, hr => exact hr
          |32, hr => exact hr
          |33, hr => exact hr
          |34, hr => exact hr
          |35, hr => exact hr
          |36, hr => exact hr
          |37, hr => exact hr
          |38, hr => exact hr
          |39, hr => exact hr
          |40, hr => exact hr
          |41, hr => exact hr
          |42, hr => exact hr
          |43, hr => exact hr
          |44, hr => exact hr
          |45, hr => exact hr
          |(kx + 46), hr => exact hr
         ·intro ix vals vals_ v w1 hi hv hr
          exact hr
         ·refine obls_ofT [some 176, some 177, some 178, some 179, some 180, some 181, some 182, some 183, some 184, some 185, some 186, some 187, some 188, some 189, some 190, some 191, some 192, some 193, some 194, some 195, some 196, some 197, some 198, some 199, some 200, some 201, some 202, some 203, some 204, some 205, some 206, some 207, some 208, some 209, some 210, some 211, some 212, some 213, some 214, some 215, some 216, some 217, some 218, some 219, some 220, some 221, some 222] [(32, .slice (some ⟨b1, o1, none⟩) el e1c), (33, .slice (some ⟨b2, o2, none⟩) el e2c), (34, .int .i64 (j : Int))] 266 (by kernel_rfl) (by kernel_rfl) ⟨by kernel_rfl, by kernel_rfl, by kernel_rfl, trivial⟩ ?_
          refine ⟨?_, ?_, ?_, ?_, ?_, ?_, ?_, ?_, ?_, ?_, ?_, ?_, ?_, ?_, ?_, ?_, ?_, ?_, ?_, ?_, ?_, ?_, ?_, ?_, ?_, ?_, ?_, ?_, ?_, ?_, ?_, ?_, ?_, ?_, ?_, ?_, ?_, ?_, ?_, ?_, ?_, ?_, ?_, ?_, ?_, ?_, ?_, trivial⟩
          ·intro vals w1 hx hd
           refine .r [(32, .slice (some ⟨b1, o1, none⟩) el e1c)] (Op.move (Operand.const (.slice (some ⟨b1, o1, none⟩) el e1c))) 54 176 ⟨.out (by kernel_rfl) (by kernel_rfl), trivial⟩ ?_
           clear hd
           go_wp2
           exact ⟨rfl, Ext.refl _, rfl⟩
          ·intro vals w1 hx hd
           refine .r [(34, .int .i64 (j : Int))] (Op.move (Operand.const (.int .i64 (j : Int)))) 3 177 ⟨.out (by kernel_rfl) (by kernel_rfl), trivial⟩ ?_
           clear hd
           go_wp2
           exact ⟨rfl, Ext.refl _, rfl⟩
          ·intro vals w1 hx hd
           refine .r [(176, .slice (some ⟨b1, o1, none⟩) el e1c), (177, .int .i64 (j : Int))] (Op.indexAddr 54 (Operand.const (.slice (some ⟨b1, o1, none⟩) el e1c)) (Operand.const (.int .i64 (j : Int)))) 0 178 ⟨.inn 0 (by kernel_rfl) (hd 0 (by decide)), .inn 1 (by kernel_rfl) (hd 1 (by decide)), trivial⟩ ?_
           clear hd
           go_wp2
           exact ⟨rfl, Ext.refl _, rfl⟩
          ·intro vals w1 hx hd
           refine .r [(178, .pointer (some ⟨b1, o1 + j * 7, none⟩))] (Op.fieldAddr 59 (Operand.const (.pointer (some ⟨b1, o1 + j * 7, none⟩))) 0) 0 179 ⟨.inn 2 (by kernel_rfl) (hd 2 (by decide)), trivial⟩ ?_
           clear hd
           go_wp2
           exact ⟨rfl, Ext.refl _, rfl⟩
          ·intro vals w1 hx hd
           refine .r [(179, .pointer (some ⟨b1, o1 + j * 7, none⟩))] (Op.load 3 (Operand.const (.pointer (some ⟨b1, o1 + j * 7, none⟩)))) 3 180 ⟨.inn 3 (by kernel_rfl) (hd 3 (by decide)), trivial⟩ ?_
           clear hd
           have c0 := ext_cell hx c0
           go_wp2
           exact ⟨rfl, Ext.refl _, rfl⟩
          ·intro vals w1 hx hd
           refine .r [(33, .slice (some ⟨b2, o2, none⟩) el e2c)] (Op.move (Operand.const (.slice (some ⟨b2, o2, none⟩) el e2c))) 54 181 ⟨.out (by kernel_rfl) (by kernel_rfl), trivial⟩ ?_
           clear hd
           go_wp2
           exact ⟨rfl, Ext.refl _, rfl⟩
          ·intro vals w1 hx hd
           refine .r [(34, .int .i64 (j : Int))] (Op.move (Operand.const (.int .i64 (j : Int)))) 3 182 ⟨.out (by kernel_rfl) (by kernel_rfl), trivial⟩ ?_
           clear hd
           go_wp2
           exact ⟨rfl, Ext.refl _, rfl⟩
          ·intro vals w1 hx hd
           refine .r [(181, .slice (some ⟨b2, o2, none⟩) el e2c), (182, .int .i64 (j : Int))] (Op.indexAddr 54 (Operand.const (.slice (some ⟨b2, o2, none⟩) el e2c)) (Operand.const (.int .i64 (j : Int)))) 0 183 ⟨.inn 5 (by kernel_rfl) (hd 5 (by decide)), .inn 6 (by kernel_rfl) (hd 6 (by decide)), trivial⟩ ?_
           clear hd
           go_wp2
           exact ⟨rfl, Ext.refl _, rfl⟩
          ·intro vals w1 hx hd
           refine .r [(183, .pointer (some ⟨b2, o2 + j * 7, none⟩))] (Op.fieldAddr 59 (Operand.const (.pointer (some ⟨b2, o2 + j * 7, none⟩))) 0) 0 184 ⟨.inn 7 (by kernel_rfl) (hd 7 (by decide)), trivial⟩ ?_
           clear hd
           go_wp2
           exact ⟨rfl, Ext.refl _, rfl⟩
          ·intro vals w1 hx hd
           refine .r [(184, .pointer (some ⟨b2, o2 + j * 7, none⟩))] (Op.load 3 (Operand.const (.pointer (some ⟨b2, o2 + j * 7, none⟩)))) 3 185 ⟨.inn 8 (by kernel_rfl) (hd 8 (by decide)), trivial⟩ ?_
           clear hd
           have d0 := ext_cell hx d0
           go_wp2
           exact ⟨rfl, Ext.refl _, rfl⟩
          ·intro vals w1 hx hd
           refine .r [(180, .int .i64 2), (185, .int .i64 2)] (Op.binOp BinOp.neq 3 (Operand.const (.int .i64 2)) (Operand.const (.int .i64 2)) 3) 4 186 ⟨.inn 4 (by kernel_rfl) (hd 4 (by decide)), .inn 9 (by kernel_rfl) (hd 9 (by decide)), trivial⟩ ?_
           clear hd
           go_wp2
           exact ⟨rfl, Ext.refl _, rfl⟩
          ·intro vals w1 hx hd
           refine .r [(186, .bool false)] (Op.move (Operand.const (.bool false))) 4 187 ⟨.inn 10 (by kernel_rfl) (hd 10 (by decide)), trivial⟩ ?_
           clear hd
           go_wp2
           exact ⟨rfl, Ext.refl _, rfl⟩
          ·intro vals w1 hx hd
           refine .r [(32, .slice (some ⟨b1, o1, none⟩) el e1c), (187, .bool false)] (Op.move (Operand.const (.slice (some ⟨b1, o1, none⟩) el e1c))) 54 188 ⟨.out (by kernel_rfl) (by kernel_rfl), .inn 11 (by kernel_rfl) (hd 11 (by decide)), trivial⟩ ?_
           clear hd
           go_wp2
           exact ⟨rfl, Ext.refl _, rfl⟩
          ·intro vals w1 hx hd
           refine .r [(34, .int .i64 (j : Int)), (187, .bool false)] (Op.move (Operand.const (.int .i64 (j : Int)))) 3 189 ⟨.out (by kernel_rfl) (by kernel_rfl), .inn 11 (by kernel_rfl) (hd 11 (by decide)), trivial⟩ ?_
           clear hd
           go_wp2
           exact ⟨rfl, Ext.refl _, rfl⟩
          ·intro vals w1 hx hd
           refine .r [(188, .slice (some ⟨b1, o1, none⟩) el e1c), (189, .int .i64 (j : Int)), (187, .bool false)] (Op.indexAddr 54 (Operand.const (.slice (some ⟨b1, o1, none⟩) el e1c)) (Operand.const (.int .i64 (j : Int)))) 0 190 ⟨.inn 12 (by kernel_rfl) (hd 12 (by decide)), .inn 13 (by kernel_rfl) (hd 13 (by decide)), .inn 11 (by kernel_rfl) (hd 11 (by decide)), trivial⟩ ?_
           clear hd
           go_wp2
           exact ⟨rfl, Ext.refl _, rfl⟩
          ·intro vals w1 hx hd
           refine .r [(190, .pointer (some ⟨b1, o1 + j * 7, none⟩)), (187, .bool false)] (Op.fieldAddr 59 (Operand.const (.pointer (some ⟨b1, o1 + j * 7, none⟩))) 1) 0 191 ⟨.inn 14 (by kernel_rfl) (hd 14 (by decide)), .inn 11 (by kernel_rfl) (hd 11 (by decide)), trivial⟩ ?_
           clear hd
           go_wp2
           exact ⟨rfl, Ext.refl _, rfl⟩
          ·intro vals w1 hx hd
           refine .r [(191, .pointer (some ⟨b1, o1 + j * 7 + 1, none⟩)), (187, .bool false)] (Op.load 3 (Operand.const (.pointer (some ⟨b1, o1 + j * 7 + 1, none⟩)))) 3 192 ⟨.inn 15 (by kernel_rfl) (hd 15 (by decide)), .inn 11 (by kernel_rfl) (hd 11 (by decide)), trivial⟩ ?_
           clear hd
           have c1 := ext_cell hx c1
           go_wp2
           exact ⟨rfl, Ext.refl _, rfl⟩
          ·intro vals w1 hx hd
           refine .r [(33, .slice (some ⟨b2, o2, none⟩) el e2c), (187, .bool false)] (Op.move (Operand.const (.slice (some ⟨b2, o2, none⟩) el e2c))) 54 193 ⟨.out (by kernel_rfl) (by kernel_rfl), .inn 11 (by kernel_rfl) (hd 11 (by decide)), trivial⟩ ?_
           clear hd
           go_wp2
           exact ⟨rfl, Ext.refl _, rfl⟩
          ·intro vals w1 hx hd
           refine .r [(34, .int .i64 (j : Int)), (187, .bool false)] (Op.move (Operand.const (.int .i64 (j : Int)))) 3 194 ⟨.out (by kernel_rfl) (by kernel_rfl), .inn 11 (by kernel_rfl) (hd 11 (by decide)), trivial⟩ ?_
           clear hd
           go_wp2
           exact ⟨rfl, Ext.refl _, rfl⟩
          ·intro vals w1 hx hd
           refine .r [(193, .slice (some ⟨b2, o2, none⟩) el e2c), (194, .int .i64 (j : Int)), (187, .bool false)] (Op.indexAddr 54 (Operand.const (.slice (some ⟨b2, o2, none⟩) el e2c)) (Operand.const (.int .i64 (j : Int)))) 0 195 ⟨.inn 17 (by kernel_rfl) (hd 17 (by decide)), .inn 18 (by kernel_rfl) (hd 18 (by decide)), .inn 11 (by kernel_rfl) (hd 11 (by decide)), trivial⟩ ?_
           clear hd
           go_wp2
           exact ⟨rfl, Ext.refl _, rfl⟩
          ·intro vals w1 hx hd
           refine .r [(195, .pointer (some ⟨b2, o2 + j * 7, none⟩)), (187, .bool false)] (Op.fieldAddr 59 (Operand.const (.pointer (some ⟨b2, o2 + j * 7, none⟩))) 1) 0 196 ⟨.inn 19 (by kernel_rfl) (hd 19 (by decide)), .inn 11 (by kernel_rfl) (hd 11 (by decide)), trivial⟩ ?_
           clear hd
           go_wp2
           exact ⟨rfl, Ext.refl _, rfl⟩
          ·intro vals w1 hx hd
           refine .r [(196, .pointer (some ⟨b2, o2 + j * 7 + 1, none⟩)), (187, .bool false)] (Op.load 3 (Operand.const (.pointer (some ⟨b2, o2 + j * 7 + 1, none⟩)))) 3 197 ⟨.inn 20 (by kernel_rfl) (hd 20 (by decide)), .inn 11 (by kernel_rfl) (hd 11 (by decide)), trivial⟩ ?_
           clear hd
           have d1 := ext_cell hx d1
           go_wp2
           exact ⟨rfl, Ext.refl _, rfl⟩
          ·intro vals w1 hx hd
           refine .r [(192, .int .i64 et), (197, .int .i64 et), (187, .bool false)] (Op.binOp BinOp.neq 3 (Operand.const (.int .i64 et)) (Operand.const (.int .i64 et)) 3) 4 198 ⟨.inn 16 (by kernel_rfl) (hd 16 (by decide)), .inn 21 (by kernel_rfl) (hd 21 (by decide)), .inn 11 (by kernel_rfl) (hd 11 (by decide)), trivial⟩ ?_
           clear hd
           go_wp2
           exact ⟨rfl, Ext.refl _, rfl⟩
          ·intro vals w1 hx hd
           refine .r [(187, .bool false), (198, .bool false)] (Op.pick (Operand.const (.bool false)) (Operand.const (Value.bool true)) (Operand.const (.bool false))) 4 199 ⟨.inn 11 (by kernel_rfl) (hd 11 (by decide)), .inn 22 (by kernel_rfl) (hd 22 (by decide)), trivial⟩ ?_
           clear hd
           go_wp2
           exact ⟨rfl, Ext.refl _, rfl⟩
          ·intro vals w1 hx hd
           refine .r [(199, .bool false)] (Op.move (Operand.const (.bool false))) 4 200 ⟨.inn 23 (by kernel_rfl) (hd 23 (by decide)), trivial⟩ ?_
           clear hd
           go_wp2
           exact ⟨rfl, Ext.refl _, rfl⟩
          ·intro vals w1 hx hd
           refine .r [(32, .slice (some ⟨b1, o1, none⟩) el e1c), (200, .bool false)] (Op.move (Operand.const (.slice (some ⟨b1, o1, none⟩) el e1c))) 54 201 ⟨.out (by kernel_rfl) (by kernel_rfl), .inn 24 (by kernel_rfl) (hd 24 (by decide)), trivial⟩ ?_
           clear hd
           go_wp2
           exact ⟨rfl, Ext.refl _, rfl⟩
          ·intro vals w1 hx hd
           refine .r [(34, .int .i64 (j : Int)), (200, .bool false)] (Op.move (Operand.const (.int .i64 (j : Int)))) 3 202 ⟨.out (by kernel_rfl) (by kernel_rfl), .inn 24 (by kernel_rfl) (hd 24 (by decide)), trivial⟩ ?_
           clear hd
           go_wp2
           exact ⟨rfl, Ext.refl _, rfl⟩
          ·intro vals w1 hx hd
           refine .r [(201, .slice (some ⟨b1, o1, none⟩) el e1c), (202, .int .i64 (j : Int)), (200, .bool false)] (Op.indexAddr 54 (Operand.const (.slice (some ⟨b1, o1, none⟩) el e1c)) (Operand.const (.int .i64 (j : Int)))) 0 203 ⟨.inn 25 (by kernel_rfl) (hd 25 (by decide)), .inn 26 (by kernel_rfl) (hd 26 (by decide)), .inn 24 (by kernel_rfl) (hd 24 (by decide)), trivial⟩ ?_
           clear hd
           go_wp2
           exact ⟨rfl, Ext.refl _, rfl⟩
          ·intro vals w1 hx hd
           refine .r [(203, .pointer (some ⟨b1, o1 + j * 7, none⟩)), (200, .bool false)] (Op.fieldAddr 59 (Operand.const (.pointer (some ⟨b1, o1 + j * 7, none⟩))) 2) 0 204 ⟨.inn 27 (by kernel_rfl) (hd 27 (by decide)), .inn 24 (by kernel_rfl) (hd 24 (by decide)), trivial⟩ ?_
           clear hd
           go_wp2
           exact ⟨rfl, Ext.refl _, rfl⟩
          ·intro vals w1 hx hd
           refine .r [(204, .pointer (some ⟨b1, o1 + j * 7 + 2, none⟩)), (200, .bool false)] (Op.load 3 (Operand.const (.pointer (some ⟨b1, o1 + j * 7 + 2, none⟩)))) 3 205 ⟨.inn 28 (by kernel_rfl) (hd 28 (by decide)), .inn 24 (by kernel_rfl) (hd 24 (by decide)), trivial⟩ ?_
           clear hd
           have c2 := ext_cell hx c2
           go_wp2
           exact ⟨rfl, Ext.refl _, rfl⟩
          ·intro vals w1 hx hd
           refine .r [(33, .slice (some ⟨b2, o2, none⟩) el e2c), (200, .bool false)] (Op.move (Operand.const (.slice (some ⟨b2, o2, none⟩) el e2c))) 54 206 ⟨.out (by kernel_rfl) (by kernel_rfl), .inn 24 (by kernel_rfl) (hd 24 (by decide)), trivial⟩ ?_
           clear hd
           go_wp2
           exact ⟨rfl, Ext.refl _, rfl⟩
          ·intro vals w1 hx hd
           refine .r [(34, .int .i64 (j : Int)), (200, .bool false)] (Op.move (Operand.const (.int .i64 (j : Int)))) 3 207 ⟨.out (by kernel_rfl) (by kernel_rfl), .inn 24 (by kernel_rfl) (hd 24 (by decide)), trivial⟩ ?_
           clear hd
           go_wp2
           exact ⟨rfl, Ext.refl _, rfl⟩
          ·intro vals w1 hx hd
           refine .r [(206, .slice (some ⟨b2, o2, none⟩) el e2c), (207, .int .i64 (j : Int)), (200, .bool false)] (Op.indexAddr 54 (Operand.const (.slice (some ⟨b2, o2, none⟩) el e2c)) (Operand.const (.int .i64 (j : Int)))) 0 208 ⟨.inn 30 (by kernel_rfl) (hd 30 (by decide)), .inn 31 (by kernel_rfl) (hd 31 (by decide)), .inn 24 (by kernel_rfl) (hd 24 (by decide)), trivial⟩ ?_
           clear hd
           go_wp2
           exact ⟨rfl, Ext.refl _, rfl⟩
          ·intro vals w1 hx hd
           refine .r [(208, .pointer (some ⟨b2, o2 + j * 7, none⟩)), (200, .bool false)] (Op.fieldAddr 59 (Operand.const (.pointer (some ⟨b2, o2 + j * 7, none⟩))) 2) 0 209 ⟨.inn 32 (by kernel_rfl) (hd 32 (by decide)), .inn 24 (by kernel_rfl) (hd 24 (by decide)), trivial⟩ ?_
           clear hd
           go_wp2
           exact ⟨rfl, Ext.refl _, rfl⟩
          ·intro vals w1 hx hd
           refine .r [(209, .pointer (some ⟨b2, o2 + j * 7 + 2, none⟩)), (200, .bool false)] (Op.load 3 (Operand.const (.pointer (some ⟨b2, o2 + j * 7 + 2, none⟩)))) 3 210 ⟨.inn 33 (by kernel_rfl) (hd 33 (by decide)), .inn 24 (by kernel_rfl) (hd 24 (by decide)), trivial⟩ ?_
           clear hd
           have d2 := ext_cell hx d2
           go_wp2
           exact ⟨rfl, Ext.refl _, rfl⟩
          ·intro vals w1 hx hd
           refine .r [(205, .int .i64 ei), (210, .int .i64 ei), (200, .bool false)] (Op.binOp BinOp.neq 3 (Operand.const (.int .i64 ei)) (Operand.const (.int .i64 ei)) 3) 4 211 ⟨.inn 29 (by kernel_rfl) (hd 29 (by decide)), .inn 34 (by kernel_rfl) (hd 34 (by decide)), .inn 24 (by kernel_rfl) (hd 24 (by decide)), trivial⟩ ?_
           clear hd
           go_wp2
           exact ⟨rfl, Ext.refl _, rfl⟩
          ·intro vals w1 hx hd
           refine .r [(200, .bool false), (211, .bool false)] (Op.pick (Operand.const (.bool false)) (Operand.const (Value.bool true)) (Operand.const (.bool false))) 4 212 ⟨.inn 24 (by kernel_rfl) (hd 24 (by decide)), .inn 35 (by kernel_rfl) (hd 35 (by decide)), trivial⟩ ?_
           clear hd
           go_wp2
           exact ⟨rfl, Ext.refl _, rfl⟩
          ·intro vals w1 hx hd
           refine .r [(212, .bool false)] (Op.move (Operand.const (.bool false))) 4 213 ⟨.inn 36 (by kernel_rfl) (hd 36 (by decide)), trivial⟩ ?_
           clear hd
           go_wp2
           exact ⟨rfl, Ext.refl _, rfl⟩
          ·intro vals w1 hx hd
           refine .r [(32, .slice (some ⟨b1, o1, none⟩) el e1c), (213, .bool false)] (Op.move (Operand.const (.slice (some ⟨b1, o1, none⟩) el e1c))) 54 214 ⟨.out (by kernel_rfl) (by kernel_rfl), .inn 37 (by kernel_rfl) (hd 37 (by decide)), trivial⟩ ?_
           clear hd
           go_wp2
           exact ⟨rfl, Ext.refl _, rfl⟩
          ·intro vals w1 hx hd
           refine .r [(34, .int .i64 (j : Int)), (213, .bool false)] (Op.move (Operand.const (.int .i64 (j : Int)))) 3 215 ⟨.out (by kernel_rfl) (by kernel_rfl), .inn 37 (by kernel_rfl) (hd 37 (by decide)), trivial⟩ ?_
           clear hd
           go_wp2
           exact ⟨rfl, Ext.refl _, rfl⟩
          ·intro vals w1 hx hd
           refine .r [(214, .slice (some ⟨b1, o1, none⟩) el e1c), (215, .int .i64 (j : Int)), (213, .bool false)] (Op.indexAddr 54 (Operand.const (.slice (some ⟨b1, o1, none⟩) el e1c)) (Operand.const (.int .i64 (j : Int)))) 0 216 ⟨.inn 38 (by kernel_rfl) (hd 38 (by decide)), .inn 39 (by kernel_rfl) (hd 39 (by decide)), .inn 37 (by kernel_rfl) (hd 37 (by decide)), trivial⟩ ?_
           clear hd
           go_wp2
           exact ⟨rfl, Ext.refl _, rfl⟩
          ·intro vals w1 hx hd
           refine .r [(216, .pointer (some ⟨b1, o1 + j * 7, none⟩)), (213, .bool false)] (Op.fieldAddr 59 (Operand.const (.pointer (some ⟨b1, o1 + j * 7, none⟩))) 3) 0 217 ⟨.inn 40 (by kernel_rfl) (hd 40 (by decide)), .inn 37 (by kernel_rfl) (hd 37 (by decide)), trivial⟩ ?_
           clear hd
           go_wp2
           exact ⟨rfl, Ext.refl _, rfl⟩
          ·intro vals w1 hx hd
           refine .r [(217, .pointer (some ⟨b1, o1 + j * 7 + 3, none⟩)), (213, .bool false)] (Op.fieldAddr 57 (Operand.const (.pointer (some ⟨b1, o1 + j * 7 + 3, none⟩))) 0) 0 218 ⟨.inn 41 (by kernel_rfl) (hd 41 (by decide)), .inn 37 (by kernel_rfl) (hd 37 (by decide)), trivial⟩ ?_
           clear hd
           go_wp2
           exact ⟨rfl, Ext.refl _, rfl⟩
          ·intro vals w1 hx hd
           refine .r [(218, .pointer (some ⟨b1, o1 + j * 7 + 3, none⟩)), (213, .bool false)] (Op.load 25 (Operand.const (.pointer (some ⟨b1, o1 + j * 7 + 3, none⟩)))) 25 219 ⟨.inn 42 (by kernel_rfl) (hd 42 (by decide)), .inn 37 (by kernel_rfl) (hd 37 (by decide)), trivial⟩ ?_
           clear hd
           have c3 := ext_cell hx c3
           go_wp2
           exact ⟨rfl, Ext.refl _, rfl⟩
          ·intro vals w1 hx hd
           refine .r [(219, .slice none 0 0), (213, .bool false)] (Op.call { callee := Callee.builtin Builtin.len, args := #[(Operand.const (.slice none 0 0))], argTypes := #[25] }) 3 220 ⟨.inn 43 (by kernel_rfl) (hd 43 (by decide)), .inn 37 (by kernel_rfl) (hd 37 (by decide)), trivial⟩ ?_
           clear hd
           go_wp2
           exact ⟨rfl, Ext.refl _, rfl⟩
          ·intro vals w1 hx hd
           refine .r [(220, .int .i64 0), (213, .bool false)] (Op.binOp BinOp.neq 3 (Operand.const (.int .i64 0)) (Operand.const (Value.int IntKind.i64 0)) 3) 4 221 ⟨.inn 44 (by kernel_rfl) (hd 44 (by decide)), .inn 37 (by kernel_rfl) (hd 37 (by decide)), trivial⟩ ?_
           clear hd
           go_wp2
           exact ⟨rfl, Ext.refl _, rfl⟩
          ·intro vals w1 hx hd
           refine .r [(213, .bool false), (221, .bool false)] (Op.pick (Operand.const (.bool false)) (Operand.const (Value.bool true)) (Operand.const (.bool false))) 4 222 ⟨.inn 37 (by kernel_rfl) (hd 37 (by decide)), .inn 45 (by kernel_rfl) (hd 45 (by decide)), trivial⟩ ?_
           clear hd
           go_wp2
           exact ⟨rfl, Ext.refl _, rfl⟩
         intro vals W5 hx9 hf
         have e46 : vals 46 = .bool false := hf 46 (by omega)
         clear hf
         have HX5 := Lib.hid (Ext.trans hx hx9.undrew)
         clear hx hx9
         refine tail0 (by kernel_rfl) ?_
         simp only [Lf, dstAt, Act.put, List.getElem?_toArray, List.getElem?_cons_zero, List.getElem?_cons_succ, Option.bind_some, List.setIfInBounds_toArray, List.set_cons_zero, List.set_cons_succ]
         rw [e46]
         clear e46
         go_wp2_with fail
         go_roundw
         case rel => exact ⟨j + 1, HJE.out, by go_num, HX5.out⟩
         case measure => have := HJE.out; simp [intOf]; omega
        ·have hjz : ¬ (j : Int) < (el : Int) := by omega
         have hx20 := Ext.trans HX19.out hx
         clear HE1 HE2 HX19 hx hje
         obtain ⟨W20, hW20⟩ : ∃ W, W = wr := ⟨_, rfl⟩
         have HX20 : Hid (Ext W13 W20) := Lib.hid (by rw [hW20]; exact hx20)
         have HW20 := Lib.hid hW20
         clear hW20 hx20
         go_wp2_with fail
         rw [← HW20.out]
         clear HW20
         go_loopw [35] (fun i wr => ∃ j : Nat, j ≤ rl ∧ i = .int .i64 j ∧ Ext W20 wr) (fun i _ => rl - (intOf i).toNat)
         case atStart => exact ⟨0, Nat.zero_le _, rfl, Ext.refl _⟩
         case round => as_aux_lemma =>
          obtain ⟨j, hj, rfl, hx⟩ := hrel
          by_cases hjr : j < rl
          ·by_cases hL0 : 0 < L
           ·have hLz : (0 : Int) < (L : Int) := by omega
            have hjz : (j : Int) < (rl : Int) := by omega
            have HPJ := Lib.hid (fun W => HPKI.out (j : Int) W hLz)
            obtain ⟨hp1, hp2⟩ := HPKIB.out (j : Int) hLz
            generalize pickI (wrap64 (which + (j : Int))) (L : Int) = pj at HPJ hp1 hp2
            obtain ⟨pk, rfl⟩ : ∃ q : Nat, pj = q := ⟨pj.toNat, by omega⟩
            have hpk : pk < L := by omega
            have HJR := Lib.hid hjr
            have hxr := Ext.trans HX20.out hx
            obtain ⟨b1, o1, hzz1, hA1, _, hcc1⟩ := (ra_ext HR13.out hxr).at_ rcp_len hjr
            obtain ⟨b2, o2, hzz2, hA2, _, hcc2⟩ := (ra_ext HOP13.out.out hxr).at_ opt_len hpk
            have hft1 := fun (W : World) (hW : Ext W13 W) => Fits_any xs[pk] CP sts RS[j] tv PA (some ⟨bS, oS, none⟩) pn pc sn sc_ W (ra_ext (HOP13.out.each _ (List.getElem_mem hzz2)) hW) (ra_ext HP13.out hW) (ra_ext HS13.out hW)
            have hft2 := fun (W : World) (hW : Ext W13 W) => rFits_any xs[pk] CP sts RS[j] tv PA (some ⟨bS, oS, none⟩) pn pc sn sc_ W (ra_ext (HOP13.out.each _ (List.getElem_mem hzz2)) hW) (ra_ext HP13.out hW) (ra_ext HS13.out hW)
            generalize fitsV xs[pk] CP sts RS[j] tv = FL at hft1 hft2
            generalize xs[pk] = po at hft1 hft2 hcc2
            generalize RS[j] = pr at hft1 hft2 hcc1
            obtain ⟨id, i1, i2, i3, i4, i5, i6, i7, a, m, d, l⟩ := po
            obtain ⟨rsn, rim, rat⟩ := pr
            have hoe : (optCells ⟨id, i1, i2, i3, i4, i5, i6, i7, a, m, d, l⟩).toArray = #[.int .i64 id, .int .i64 i1, .int .i64 i2, .int .i64 i3, .int .i64 i4, .int .i64 i5, .int .i64 i6, .int .i64 i7, .slice a m d] := rfl
            have hre : (rcpCells ⟨rsn, rim, rat⟩).toArray = #[.int .i64 rsn, .int .i64 rim, .int .i64 rat] := rfl
            rw [hoe, hre] at hft1 hft2
            have HF1 := Lib.hid hft1
            have HF2 := Lib.hid hft2
            have c0 : wr.cell? ⟨b2, o2 + pk * 9, none⟩ = some (.int .i64 id) := hcc2 0 (by omega)
            have c1 : wr.cell? ⟨b2, o2 + pk * 9 + 1, none⟩ = some (.int .i64 i1) := hcc2 1 (by omega)
            have c2 : wr.cell? ⟨b2, o2 + pk * 9 + 2, none⟩ = some (.int .i64 i2) := hcc2 2 (by omega)
            have c3 : wr.cell? ⟨b2, o2 + pk * 9 + 3, none⟩ = some (.int .i64 i3) := hcc2 3 (by omega)
            have c4 : wr.cell? ⟨b2, o2 + pk * 9 + 4, none⟩ = some (.int .i64 i4) := hcc2 4 (by omega)
            have c5 : wr.cell? ⟨b2, o2 + pk * 9 + 5, none⟩ = some (.int .i64 i5) := hcc2 5 (by omega)
            have c6 : wr.cell? ⟨b2, o2 + pk * 9 + 6, none⟩ = some (.int .i64 i6) := hcc2 6 (by omega)
            have c7 : wr.cell? ⟨b2, o2 + pk * 9 + 7, none⟩ = some (.int .i64 i7) := hcc2 7 (by omega)
            have c8 : wr.cell? ⟨b2, o2 + pk * 9 + 8, none⟩ = some (.slice a m d) := hcc2 8 (by omega)
            obtain ⟨fl_, hfl_⟩ : ∃ z, z = FL.length := ⟨_, rfl⟩
            have HFL : Hid (FL.length = fl_) := Lib.hid hfl_.symm
            subst hA1 hA2
            clear hft1 hft2 hoe hre hcc2 hzz1 hzz2 hfl_
            go_upto_region 39 with (refine (HPJ.out _).mono ?_; rintro e w2 ⟨rfl, rfl⟩)
            have hya : Ext wr (wr.alloc (.cells #[.int .i64 id, .int .i64 i1, .int .i64 i2, .int .i64 i3, .int .i64 i4, .int .i64 i5, .int .i64 i6, .int .i64 i7, .slice a m d] 32)) := bl_alloc (Below.refl _ _) _
            have J := Blk.new wr 32 #[.int .i64 id, .int .i64 i1, .int .i64 i2, .int .i64 i3, .int .i64 i4, .int .i64 i5, .int .i64 i6, .int .i64 i7, .slice a m d]
            have q0 : wr.cell? ⟨b1, o1 + j * 3, none⟩ = some (.int .i64 rsn) := hcc1 0 (by omega)
            have q1 : wr.cell? ⟨b1, o1 + j * 3 + 1, none⟩ = some (.int .i64 rim) := hcc1 1 (by omega)
            have q2 : wr.cell? ⟨b1, o1 + j * 3 + 2, none⟩ = some (.int .i64 rat) := hcc1 2 (by omega)
            have q0 := ext_cell hya q0
            have q1 := ext_cell hya q1
            have q2 := ext_cell hya q2
            clear hcc1
            generalize wr.heap.size = g36 at J ⊢
            generalize wr.alloc (.cells #[.int .i64 id, .int .i64 i1, .int .i64 i2, .int .i64 i3, .int .i64 i4, .int .i64 i5, .int .i64 i6, .int .i64 i7, .slice a m d] 32) = W21 at hya J q0 q1 q2 ⊢
            have d0 : W21.cell? ⟨g36, 0, none⟩ = some (.int .i64 id) := J.cell 0
            have d1 : W21.cell? ⟨g36, 1, none⟩ = some (.int .i64 i1) := J.cell 1
            have d2 : W21.cell? ⟨g36, 2, none⟩ = some (.int .i64 i2) := J.cell 2
            have d3 : W21.cell? ⟨g36, 3, none⟩ = some (.int .i64 i3) := J.cell 3
            have d4 : W21.cell? ⟨g36, 4, none⟩ = some (.int .i64 i4) := J.cell 4
            have d5 : W21.cell? ⟨g36, 5, none⟩ = some (.int .i64 i5) := J.cell 5
            have d6 : W21.cell? ⟨g36, 6, none⟩ = some (.int .i64 i6) := J.cell 6
            have d7 : W21.cell? ⟨g36, 7, none⟩ = some (.int .i64 i7) := J.cell 7
            have d8 : W21.cell? ⟨g36, 8, none⟩ = some (.slice a m d) := J.cell 8
            have r0 : W21.cell? ⟨b1, o1 + j * 3, none⟩ = some (.int .i64 rsn) := q0
            have r1 : W21.cell? ⟨b1, o1 + j * 3 + 1, none⟩ = some (.int .i64 rim) := q1
            have r2 : W21.cell? ⟨b1, o1 + j * 3 + 2, none⟩ = some (.int .i64 rat) := q2
            have hx21 := Ext.trans hx hya
            have hxk := Ext.trans hxr hya
            clear J q0 q1 q2 hya hx hxr c0 c1 c2 c3 c4 c5 c6 c7 c8
            refine wp_region_obl 20 (fun ix vals v w1 => match ix with | 0 => v = .agg #[.int .i64 id, .int .i64 i1, .int .i64 i2, .int .i64 i3, .int .i64 i4, .int .i64 i5, .int .i64 i6, .int .i64 i7, .slice a m d] | 1 => v = .slice PA pn pc | 2 => v = .slice (some ⟨bS, oS, none⟩) sn sc_ | 3 => v = .slice (some ⟨b1, o1, none⟩) rl rk | 4 => v = .int .i64 (j : Int) | 5 => v = .pointer (some ⟨b1, o1 + j * 3, none⟩) | 6 => v = .agg #[.int .i64 rsn, .int .i64 rim, .int .i64 rat] | 7 => v = .int .i64 tv | 8 => ∃ A k, v = .slice A fl_ k ∧ RA natCells 1 w1 w1.heap.size A fl_ k FL | 9 => v = .agg #[.int .i64 id, .int .i64 i1, .int .i64 i2, .int .i64 i3, .int .i64 i4, .int .i64 i5, .int .i64 i6, .int .i64 i7, .slice a m d] | 10 => v = .slice PA pn pc | 11 => v = .slice (some ⟨bS, oS, none⟩) sn sc_ | 12 => v = .slice (some ⟨b1, o1, none⟩) rl rk | 13 => v = .int .i64 (j : Int) | 14 => v = .pointer (some ⟨b1, o1 + j * 3, none⟩) | 15 => v = .agg #[.int .i64 rsn, .int .i64 rim, .int .i64 rat] | 16 => v = .int .i64 tv | 17 => ∃ A k, v = .slice A fl_ k ∧ RA natCells 1 w1 w1.heap.size A fl_ k FL | 18 => v = .bool true | _ => v = .bool false) (by kernel_rfl) (by kernel_rfl) ?_ ?_ ?_ ?_
            ·intro ix vals v w1 w2 hi hr hx
             match ix, hr with
             |0, hr => exact hr
             |1, hr => exact hr
             |2, hr => exact hr
             |3, hr => exact hr
             |4, hr => exact hr
             |5, hr => exact hr
             |6, hr => exact hr
             |7, hr => exact hr
             |8, hr => obtain ⟨A, k, h1, h2⟩ := hr; exact ⟨A, k, h1, ra_ext h2 hx⟩
             |9, hr => exact hr
             |10, hr => exact hr
             |11, hr => exact hr
             |12, hr => exact hr
             |13, hr => exact hr
             |14, hr => exact hr
             |15, hr => exact hr
             |16, hr => exact hr
             |17, hr => obtain ⟨A, k, h1, h2⟩ := hr; exact ⟨A, k, h1, ra_ext h2 hx⟩
             |18, hr => exact hr
             |(kx + 19), hr => exact hr
            ·intro ix vals vals_ v w1 hi hv hr
             exact hr
            ·refine obls_ofT [some 243, some 244, some 245, some 246, some 247, some 248, some 249, some 250, some 251, some 252, some 253, some 254, some 255, some 256, some 257, some 258, some 259, some 260, some 261, some 262] [(14, .slice PA pn pc), (23, .slice (some ⟨bS, oS, none⟩) sn sc_), (16, .slice (some ⟨b1, o1, none⟩) rl rk), (35, .int .i64 (j : Int)), (25, .int .i64 tv), (36, .pointer (some ⟨g36, 0, none⟩))] 266 (by kernel_rfl) (by kernel_rfl) ⟨by kernel_rfl, by kernel_rfl, by kernel_rfl, by kernel_rfl, by kernel_rfl, by kernel_rfl, trivial⟩ ?_
             refine ⟨?_, ?_, ?_, ?_, ?_, ?_, ?_, ?_, ?_, ?_, ?_, ?_, ?_, ?_, ?_, ?_, ?_, ?_, ?_, ?_, trivial⟩
             ·intro vals w1 hx hd
              refine .r [(36, .pointer (some ⟨g36, 0, none⟩))] (Op.load 32 (Operand.const (.pointer (some ⟨g36, 0, none⟩)))) 32 243 ⟨.out (by kernel_rfl) (by kernel_rfl), trivial⟩ ?_
              clear hd
              have d0 := ext_cell hx.undrew d0; have d1 := ext_cell hx.undrew d1; have d2 := ext_cell hx.undrew d2; have d3 := ext_cell hx.undrew d3; have d4 := ext_cell hx.undrew d4; have d5 := ext_cell hx.undrew d5; have d6 := ext_cell hx.undrew d6; have d7 := ext_cell hx.undrew d7; have d8 := ext_cell hx.undrew d8
              go_wp2
              exact ⟨rfl, Ext.refl _, rfl⟩
             ·intro vals w1 hx hd
              refine .r [(14, .slice PA pn pc)] (Op.move (Operand.const (.slice PA pn pc))) 37 244 ⟨.out (by kernel_rfl) (by kernel_rfl), trivial⟩ ?_
              clear hd
              go_wp2
              exact ⟨rfl, Ext.refl _, rfl⟩
             ·intro vals w1 hx hd
              refine .r [(23, .slice (some ⟨bS, oS, none⟩) sn sc_)] (Op.move (Operand.const (.slice (some ⟨bS, oS, none⟩) sn sc_))) 38 245 ⟨.out (by kernel_rfl) (by kernel_rfl), trivial⟩ ?_
              clear hd
              go_wp2
              exact ⟨rfl, Ext.refl _, rfl⟩
             ·intro vals w1 hx hd
              refine .r [(16, .slice (some ⟨b1, o1, none⟩) rl rk)] (Op.move (Operand.const (.slice (some ⟨b1, o1, none⟩) rl rk))) 33 246 ⟨.out (by kernel_rfl) (by kernel_rfl), trivial⟩ ?_
              clear hd
              go_wp2
              exact ⟨rfl, Ext.refl _, rfl⟩
             ·intro vals w1 hx hd
              refine .r [(35, .int .i64 (j : Int))] (Op.move (Operand.const (.int .i64 (j : Int)))) 3 247 ⟨.out (by kernel_rfl) (by kernel_rfl), trivial⟩ ?_
              clear hd
              go_wp2
              exact ⟨rfl, Ext.refl _, rfl⟩
             ·intro vals w1 hx hd
              refine .r [(246, .slice (some ⟨b1, o1, none⟩) rl rk), (247, .int .i64 (j : Int))] (Op.indexAddr 33 (Operand.const (.slice (some ⟨b1, o1, none⟩) rl rk)) (Operand.const (.int .i64 (j : Int)))) 0 248 ⟨.inn 3 (by kernel_rfl) (hd 3 (by decide)), .inn 4 (by kernel_rfl) (hd 4 (by decide)), trivial⟩ ?_
              clear hd
              go_wp2
              exact ⟨rfl, Ext.refl _, rfl⟩
             ·intro vals w1 hx hd
              refine .r [(248, .pointer (some ⟨b1, o1 + j * 3, none⟩))] (Op.load 63 (Operand.const (.pointer (some ⟨b1, o1 + j * 3, none⟩)))) 63 249 ⟨.inn 5 (by kernel_rfl) (hd 5 (by decide)), trivial⟩ ?_
              clear hd
              have r0 := ext_cell hx.undrew r0; have r1 := ext_cell hx.undrew r1; have r2 := ext_cell hx.undrew r2
              go_wp2
              exact ⟨rfl, Ext.refl _, rfl⟩
             ·intro vals w1 hx hd
              refine .r [(25, .int .i64 tv)] (Op.move (Operand.const (.int .i64 tv))) 3 250 ⟨.out (by kernel_rfl) (by kernel_rfl), trivial⟩ ?_
              clear hd
              go_wp2
              exact ⟨rfl, Ext.refl _, rfl⟩
             ·intro vals w1 hx hd
              refine .r [(243, .agg #[.int .i64 id, .int .i64 i1, .int .i64 i2, .int .i64 i3, .int .i64 i4, .int .i64 i5, .int .i64 i6, .int .i64 i7, .slice a m d]), (244, .slice PA pn pc), (245, .slice (some ⟨bS, oS, none⟩) sn sc_), (249, .agg #[.int .i64 rsn, .int .i64 rim, .int .i64 rat]), (250, .int .i64 tv)] (Op.call { callee := Callee.value (Operand.func 23), args := #[(Operand.const (.agg #[.int .i64 id, .int .i64 i1, .int .i64 i2, .int .i64 i3, .int .i64 i4, .int .i64 i5, .int .i64 i6, .int .i64 i7, .slice a m d])), (Operand.const (.slice PA pn pc)), (Operand.const (.slice (some ⟨bS, oS, none⟩) sn sc_)), (Operand.const (.agg #[.int .i64 rsn, .int .i64 rim, .int .i64 rat])), (Operand.const (.int .i64 tv))], argTypes := #[32, 37, 38, 63, 3] }) 25 251 ⟨.inn 0 (by kernel_rfl) (hd 0 (by decide)), .inn 1 (by kernel_rfl) (hd 1 (by decide)), .inn 2 (by kernel_rfl) (hd 2 (by decide)), .inn 6 (by kernel_rfl) (hd 6 (by decide)), .inn 7 (by kernel_rfl) (hd 7 (by decide)), trivial⟩ ?_
              clear hd
              have HCa := Lib.hid (HF1.out w1 (Ext.trans hxk hx.undrew))
              go_wp2_with fail
              refine HCa.out.mono ?_
              rintro e w2 ⟨v, rfl, ho, hy⟩
              obtain ⟨A9, k9, rfl, _, _⟩ := own_slice ho
              have hra := OwnN.ra ho
              rw [HFL.out] at hra ⊢
              go_wp2
              exact ⟨rfl, hy, A9, k9, rfl, hra⟩
             ·intro vals w1 hx hd
              refine .r [(36, .pointer (some ⟨g36, 0, none⟩))] (Op.load 32 (Operand.const (.pointer (some ⟨g36, 0, none⟩)))) 32 252 ⟨.out (by kernel_rfl) (by kernel_rfl), trivial⟩ ?_
              clear hd
              have d0 := ext_cell hx.undrew d0; have d1 := ext_cell hx.undrew d1; have d2 := ext_cell hx.undrew d2; have d3 := ext_cell hx.undrew d3; have d4 := ext_cell hx.undrew d4; have d5 := ext_cell hx.undrew d5; have d6 := ext_cell hx.undrew d6; have d7 := ext_cell hx.undrew d7; have d8 := ext_cell hx.undrew d8
              go_wp2
              exact ⟨rfl, Ext.refl _, rfl⟩
             ·intro vals w1 hx hd
              refine .r [(14, .slice PA pn pc)] (Op.move (Operand.const (.slice PA pn pc))) 37 253 ⟨.out (by kernel_rfl) (by kernel_rfl), trivial⟩ ?_
              clear hd
              go_wp2
              exact ⟨rfl, Ext.refl _, rfl⟩
             ·intro vals w1 hx hd
              refine .r [(23, .slice (some ⟨bS, oS, none⟩) sn sc_)] (Op.move (Operand.const (.slice (some ⟨bS, oS, none⟩) sn sc_))) 38 254 ⟨.out (by kernel_rfl) (by kernel_rfl), trivial⟩ ?_
              clear hd
              go_wp2
              exact ⟨rfl, Ext.refl _, rfl⟩
             ·intro vals w1 hx hd
              refine .r [(16, .slice (some ⟨b1, o1, none⟩) rl rk)] (Op.move (Operand.const (.slice (some ⟨b1, o1, none⟩) rl rk))) 33 255 ⟨.out (by kernel_rfl) (by kernel_rfl), trivial⟩ ?_
              clear hd
              go_wp2
              exact ⟨rfl, Ext.refl _, rfl⟩
             ·intro vals w1 hx hd
              refine .r [(35, .int .i64 (j : Int))] (Op.move (Operand.const (.int .i64 (j : Int)))) 3 256 ⟨.out (by kernel_rfl) (by kernel_rfl), trivial⟩ ?_
              clear hd
              go_wp2
              exact ⟨rfl, Ext.refl _, rfl⟩
             ·intro vals w1 hx hd
              refine .r [(255, .slice (some ⟨b1, o1, none⟩) rl rk), (256, .int .i64 (j : Int))] (Op.indexAddr 33 (Operand.const (.slice (some ⟨b1, o1, none⟩) rl rk)) (Operand.const (.int .i64 (j : Int)))) 0 257 ⟨.inn 12 (by kernel_rfl) (hd 12 (by decide)), .inn 13 (by kernel_rfl) (hd 13 (by decide)), trivial⟩ ?_
              clear hd
              go_wp2
              exact ⟨rfl, Ext.refl _, rfl⟩
             ·intro vals w1 hx hd
              refine .r [(257, .pointer (some ⟨b1, o1 + j * 3, none⟩))] (Op.load 63 (Operand.const (.pointer (some ⟨b1, o1 + j * 3, none⟩)))) 63 258 ⟨.inn 14 (by kernel_rfl) (hd 14 (by decide)), trivial⟩ ?_
              clear hd
              have r0 := ext_cell hx.undrew r0; have r1 := ext_cell hx.undrew r1; have r2 := ext_cell hx.undrew r2
              go_wp2
              exact ⟨rfl, Ext.refl _, rfl⟩
             ·intro vals w1 hx hd
              refine .r [(25, .int .i64 tv)] (Op.move (Operand.const (.int .i64 tv))) 3 259 ⟨.out (by kernel_rfl) (by kernel_rfl), trivial⟩ ?_
              clear hd
              go_wp2
              exact ⟨rfl, Ext.refl _, rfl⟩
             ·intro vals w1 hx hd
              refine .r [(252, .agg #[.int .i64 id, .int .i64 i1, .int .i64 i2, .int .i64 i3, .int .i64 i4, .int .i64 i5, .int .i64 i6, .int .i64 i7, .slice a m d]), (253, .slice PA pn pc), (254, .slice (some ⟨bS, oS, none⟩) sn sc_), (258, .agg #[.int .i64 rsn, .int .i64 rim, .int .i64 rat]), (259, .int .i64 tv)] (Op.call { callee := Callee.value (Operand.func 24), args := #[(Operand.const (.agg #[.int .i64 id, .int .i64 i1, .int .i64 i2, .int .i64 i3, .int .i64 i4, .int .i64 i5, .int .i64 i6, .int .i64 i7, .slice a m d])), (Operand.const (.slice PA pn pc)), (Operand.const (.slice (some ⟨bS, oS, none⟩) sn sc_)), (Operand.const (.agg #[.int .i64 rsn, .int .i64 rim, .int .i64 rat])), (Operand.const (.int .i64 tv))], argTypes := #[32, 37, 38, 63, 3] }) 25 260 ⟨.inn 9 (by kernel_rfl) (hd 9 (by decide)), .inn 10 (by kernel_rfl) (hd 10 (by decide)), .inn 11 (by kernel_rfl) (hd 11 (by decide)), .inn 15 (by kernel_rfl) (hd 15 (by decide)), .inn 16 (by kernel_rfl) (hd 16 (by decide)), trivial⟩ ?_
              clear hd
              have HCa := Lib.hid (HF2.out w1 (Ext.trans hxk hx.undrew))
              go_wp2_with fail
              refine HCa.out.mono ?_
              rintro e w2 ⟨A9, k9, rfl, ho, hy⟩
              have hra := OwnN.ra ho
              rw [HFL.out] at hra ⊢
              go_wp2
              exact ⟨rfl, hy, A9, k9, rfl, hra⟩
             ·intro vals w1 hx hd
              have r8 : (fun v w1 => ∃ A k, v = .slice A fl_ k ∧ RA natCells 1 w1 w1.heap.size A fl_ k FL) (vals 8) w1 := hd 8 (by decide)
              dsimp only at r8
              have r17 : (fun v w1 => ∃ A k, v = .slice A fl_ k ∧ RA natCells 1 w1 w1.heap.size A fl_ k FL) (vals 17) w1 := hd 17 (by decide)
              dsimp only at r17
              refine .r [(251, vals 8), (260, vals 17)] (Op.call { callee := Callee.value (Operand.func 22), args := #[(Operand.const (vals 8)), (Operand.const (vals 17))], argTypes := #[25, 25] }) 4 261 ⟨.inn 8 (by kernel_rfl) rfl, .inn 17 (by kernel_rfl) rfl, trivial⟩ ?_
              clear hd
              obtain ⟨A8, k8, e_8, ha8⟩ := r8
              obtain ⟨A9, k9, e_17, ha9⟩ := r17
              have hin := ints_nat A8 A9 fl_ fl_ k8 k9 FL FL w1 ha8 ha9
              rw [decide_eq_true rfl] at hin
              have HIN := Lib.hid hin
              clear hin ha8 ha9
              rw [e_8, e_17]
              go_wp2_with fail
              refine HIN.out.mono ?_
              rintro e w2 ⟨rfl, hy⟩
              go_wp2
              exact ⟨rfl, hy, rfl⟩
             ·intro vals w1 hx hd
              refine .r [(261, .bool true)] (Op.unOp UnOp.not 4 (Operand.const (.bool true))) 4 262 ⟨.inn 18 (by kernel_rfl) (hd 18 (by decide)), trivial⟩ ?_
              clear hd
              go_wp2
              exact ⟨rfl, Ext.refl _, rfl⟩
            intro vals W22 hz hf
            have v19 : vals 19 = .bool false := hf 19 (by omega)
            have hz := hz.undrew
            have HX22 := Lib.hid (Ext.trans hx21 hz)
            clear hf hz hx21 hxk r0 r1 r2 d0 d1 d2 d3 d4 d5 d6 d7 d8 HF1 HF2 HFL HPJ
            refine tail0 (by kernel_rfl) ?_
            simp only [Lf, dstAt, Act.put, List.getElem?_toArray, List.getElem?_cons_zero, List.getElem?_cons_succ, Option.bind_some, List.setIfInBounds_toArray, List.set_cons_zero, List.set_cons_succ]
            rw [v19]
            clear v19
            go_wp2_with fail
            go_roundw
            case rel => exact ⟨j + 1, HJR.out, by go_num, HX22.out⟩
            case measure => have := HJR.out; simp [intOf]; omega
           ·have hLz : ¬ (0 : Int) < (L : Int) := by omega
            have hjz : (j : Int) < (rl : Int) := by omega
            have HXF := Lib.hid (Ext.trans HX20.out hx)
            clear hx
            go_wp2_with fail
            go_roundw
            case rel => exact ⟨z + 1, HZ2.out, by go_num, HXF.out⟩
            case measure => have := HZ2.out; simp [intOf]; omega
          ·have hjz : ¬ (j : Int) < (rl : Int) := by omega
           have HXF := Lib.hid (Ext.trans HX20.out hx)
           clear hx
           go_wp2_with fail
           go_roundw
           case rel => exact ⟨z + 1, HZ2.out, by go_num, HXF.out⟩
           case measure => have := HZ2.out; simp [intOf]; omega
      ·have hz2z : ¬ (z : Int) < 2 := by omega
       have HXF := Lib.hid (Ext.trans HX13.out hx)
       clear hx
       go_wp2_with fail
       go_roundw
       case rel => exact ⟨q + 1, HQ2.out, by go_num, HXF.out⟩
       case measure => have := HQ2.out; simp [intOf]; omega
    ·have hq2z : ¬ (q : Int) < 2 := by omega
     have HXF := Lib.hid (Ext.trans HX10.out hx)
     clear hx
     go_wp2_with fail
     go_roundw
     case rel => exact ⟨k + 1, HK2.out, by go_num, HXF.out⟩
     case measure => have := HK2.out; simp [intOf]; omega
  ·have hk2z : ¬ (k : Int) < 2 := by omega
   have HXF := Lib.hid (Ext.trans HX9.out hx)
   clear hx
   go_wp2_with fail
   go_ret
   exact ⟨rfl, HXF.out⟩
end Go.Proofs.Ytmlabgmigakcbaa
