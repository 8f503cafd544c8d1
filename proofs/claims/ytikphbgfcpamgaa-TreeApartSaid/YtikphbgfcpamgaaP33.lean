/- The law TreeSends of the tree layer: for every input the call returns true and each argument reads afterwards as it read before: whatever is lost, following the tree of options sends each image in its slots, in order, up to the first one that is not lost, and in no further one; all of them in the order of time. No condition. -/
import Derived.Test.YtikphbgfcpamgaaP26
import Derived.Test.YtikphbgfcpamgaaP31
import Derived.Test.YtikphbgfcpamgaaP32
import Derived.Test.YtikphbgfcpamgaaRows
import Derived.ProofKit
import Derived.OpenShut
import Derived.ChangeOld
import Derived.Below
import Derived.Deep.Slices
namespace Go.Proofs.Ytikphbgfcpamgaa
open Go.RowKit

theorem OwnOs.ops {W : World} {b : Nat} {A : Option Addr} {n c : Nat} {os : List Opt} (h : OwnOs W b (.slice A n c) os) (hn : n = os.length) : Ops W W.heap.size A n c os := by
  subst hn
  refine ⟨RA.of_own2 h.1 rfl, fun o ho => ?_⟩
  obtain ⟨h1, h2⟩ := h.2 o ho
  rw [h1] at h2 ⊢
  exact RA.of_own2 h2 rfl
theorem made_ops (xs : List Six) (XA : Option Addr) (n c : Nat) (w : World) (hr : RA sixCells 6 w w.heap.size XA n c xs) (hb : ∀ x ∈ xs, x.ok) :
    Calls Try.prog 10 #[.slice XA n c] w fun e w' => ∃ A c os, opsP os = madeP xs ∧ e = .returned (.slice A os.length c) ∧ Ops w' w'.heap.size A os.length c os ∧ Ext w w' := by
  refine (made_any xs XA n c w hr hb).mono ?_
  rintro e w' ⟨v, os, rfl, ho, hf, hx⟩
  obtain ⟨A, c', rfl, _, _⟩ := own_slice ho.1
  exact ⟨A, c', os, hf, rfl, ho.ops rfl, hx⟩
theorem loss_ra (x : Int) (w : World) (h : I64ok x) : Calls Try.prog 17 #[.int .i64 x] w fun e w' => ∃ A c, e = .returned (.slice A (lossP x).length c) ∧ RA intCells 1 w' w'.heap.size A (lossP x).length c (lossP x) ∧ Ext w w' := by
  refine (losses_any x w h.1 h.2).mono ?_
  rintro e w' ⟨v, rfl, ho, hx⟩
  obtain ⟨A, c', rfl, _, _⟩ := own_slice ho
  exact ⟨A, c', rfl, RA.of_own2 ho rfl, hx⟩
theorem build_made (xs : List Six) (os : List Opt) (A : Option Addr) (n c : Nat) (w : World) (ho : opsP os = madeP xs) (h : Ops w w.heap.size A n c os) :
    Calls Try.prog 13 #[.slice A n c] w fun e w' => ∃ TA c', e = .returned (.tuple #[.agg #[.int .i64 (treeP (madeP xs)).2, .slice TA (treeP (madeP xs)).1.length c'], .int .i64 0]) ∧ RA brnCells 5 w' w'.heap.size TA (treeP (madeP xs)).1.length c' (treeP (madeP xs)).1 ∧ Ext w w' := by
  have hb := build_any os A n c w h
  rw [ho, made_build] at hb
  exact hb.mono fun e w' hr => buildRet_ra hr
theorem fol_made (xs : List Six) (x : Int) (os : List Opt) (A TA LA : Option Addr) (n c tn tc ln lc : Nat) (w : World) (ho : opsP os = madeP xs) (h : Ops w w.heap.size A n c os) (hT : RA brnCells 5 w w.heap.size TA tn tc (treeP (madeP xs)).1) (hL : RA intCells 1 w w.heap.size LA ln lc (lossP x)) :
    Calls Try.prog 24 #[.agg #[.int .i64 (treeP (madeP xs)).2, .slice TA tn tc], .slice A n c, .slice LA ln lc] w fun e w' => ∃ QA qc, e = .returned (.tuple #[.slice QA (runP (qP (madeP xs) (lossP x)) (srt (madeP xs)) 0).length qc, .int .i64 0]) ∧ RA ackCells 3 w' w'.heap.size QA (runP (qP (madeP xs) (lossP x)) (srt (madeP xs)) 0).length qc (runP (qP (madeP xs) (lossP x)) (srt (madeP xs)) 0) ∧ Ext w w' := by
  have hb := follow_any _ TA tn tc (treeP (madeP xs)).2 os A n c LA ln lc (lossP x) w hT h hL
  rw [ho, made_fol] at hb
  exact hb.mono fun e w' hr => ackRet_some hr
theorem valid_made (xs : List Six) (os : List Opt) (A TA : Option Addr) (n c tn tc : Nat) (w : World) (ho : opsP os = madeP xs) (h : Ops w w.heap.size A n c os) (hT : RA brnCells 5 w w.heap.size TA tn tc (treeP (madeP xs)).1) :
    Calls Try.prog 18 #[.agg #[.int .i64 (treeP (madeP xs)).2, .slice TA tn tc], .slice A n c] w fun e w' => e = .returned (.bool true) ∧ Ext w w' := by
  have hb := valid_any _ TA tn tc (treeP (madeP xs)).2 os A n c w hT h
  rw [ho, made_valid] at hb
  exact hb
theorem slot_os {os : List Opt} {l : List Op} (h : opsP os = l) {o s : Int} {t : Slt} (ht : slotAt l o s = some t) : ∃ (i j : Nat) (x : Opt), o = i ∧ s = j ∧ os[i]? = some x ∧ x.l[j]? = some t := by
  unfold slotAt at ht
  split at ht
  · rename_i hos
    refine ⟨o.toNat, s.toNat, ?_⟩
    subst h
    unfold opsP at ht
    rw [List.getElem?_map] at ht
    cases hx : os[o.toNat]? with
    | none => rw [hx] at ht; cases ht
    | some x =>
      rw [hx] at ht
      exact ⟨x, by omega, by omega, rfl, ht⟩
  · cases ht
end Go.Proofs.Ytikphbgfcpamgaa
namespace Go.Proofs.Ytikphbgfcpamgaa
open Go.RowKit

theorem drewN_ext (w : World) (n : Nat) : Ext w (w.drewN n) := (by repeat (first | exact Below.refl _ _ | assumption | refine Below.drew ?_ | refine below_drewN ?_ _ | refine bl_alloc ?_ _ | refine Below.setCell ?_ (by first | (simp; done) | omega | (simp; omega)) _ | refine bl_then ?_ (by assumption)))
theorem slt_size : (Try.prog.info? 62).map (·.size) = some 3 := by kernel_rfl
theorem opsP_len {os : List Opt} {l : List Op} (h : opsP os = l) : os.length = l.length := by rw [← h]; simp [opsP]

theorem car_six {l : List Op} (h : carP l = true) {i : Nat} {o : Op} (hi : l[i]? = some o) : o.l.length ≤ 6 := by
  rcases Nat.lt_or_ge 6 o.l.length with h6 | h6
  · have h2 : o.l[6]? = some o.l[6] := List.getElem?_eq_getElem h6
    have := (plc_ok (carP_iff.1 h).1 (p := ⟨i, 6, o.l[6].fr, o.l[6].tt⟩) ⟨o, o.l[6], hi, h2, rfl, rfl⟩).2.2.2.2.1
    exact absurd this (Nat.lt_irrefl 6)
  · exact h6
theorem lead_le (lost : List Int) : ∀ l : List Slt, leadN lost l ≤ l.length := by
  intro l
  induction l with
  | nil => exact Nat.le_refl _
  | cons s r ih => rw [leadN]; split <;> simp <;> omega
theorem lead_step {lost : List Int} {l : List Slt} {r : Nat} {s : Slt} (hs : l[r]? = some s) : leadN lost (l.drop r) = if s.p ∈ lost then leadN lost (l.drop (r + 1)) + 1 else 0 := by
  have hr := (List.getElem?_eq_some_iff.1 hs).1
  rw [List.drop_eq_getElem_cons hr, leadN, (List.getElem?_eq_some_iff.1 hs).2]
theorem scan_step {i : Int} {d : Nat} {l : List Ack} {j M : Nat} {a : Ack} (ha : l[j]? = some a) (h : scanO i d (l.drop j) = some M) : if a.opt = i then a.slot = (d : Int) ∧ scanO i (d + 1) (l.drop (j + 1)) = some M else scanO i d (l.drop (j + 1)) = some M := by
  have hr := (List.getElem?_eq_some_iff.1 ha).1
  rw [List.drop_eq_getElem_cons hr, scanO, (List.getElem?_eq_some_iff.1 ha).2] at h
  by_cases h1 : a.opt = i
  · rw [if_neg (by simpa using h1)] at h
    rw [if_pos h1]
    by_cases h2 : a.slot = (d : Int)
    · rw [if_neg (by simpa using h2)] at h
      exact ⟨h2, h⟩
    · rw [if_pos h2] at h
      cases h
  · rw [if_pos h1] at h
    rwa [if_neg h1]
theorem ops_at {os : List Opt} {l : List Op} (h : opsP os = l) {k : Nat} {x : Opt} (hx : os[k]? = some x) : l[k]? = some x.op := by
  subst h
  unfold opsP
  rw [List.getElem?_map, hx]
  rfl

set_option maxRecDepth 100000 in
set_option maxHeartbeats 8000000 in
theorem sends_walk (z0 : List Six) (a0 : Option Addr) (len0 cap0 : Nat) (a1 : Int) (w : World) (g0 : RA sixCells 6 w w.heap.size a0 len0 cap0 z0) (o0 : ∀ x ∈ z0, x.ok) (g1 : I64ok a1) :
    Calls Try.prog 4 #[.slice a0 len0 cap0, .int .i64 a1] w fun e w' => e = .returned (.bool true) ∧ Below w.heap.size w w' := by
  have HSANE := Lib.hid (fun W : World => sane_any W)
  have HMADE := Lib.hid (fun (W : World) (hW : Ext w W) => made_ops z0 a0 len0 cap0 W (ra_ext g0 hW) o0)
  have HLOSS := Lib.hid (fun (W : World) => loss_ra a1 W g1)
  have HBLD := Lib.hid (fun (W : World) (os : List Opt) (A : Option Addr) (n c : Nat) ho h => build_made z0 os A n c W ho h)
  have HFOL := Lib.hid (fun (W : World) (os : List Opt) (A TA LA : Option Addr) (n c tn tc ln lc : Nat) ho h hT hL => fol_made z0 a1 os A TA LA n c tn tc ln lc W ho h hT hL)
  have HVAL := Lib.hid (fun (W : World) (os : List Opt) (A TA : Option Addr) (n c tn tc : Nat) ho h hT => valid_made z0 os A TA n c tn tc W ho h hT)
  have hseq := sends_plain (lost := lossP a1) (made_car z0)
  have hfew := made_few z0
  have hsix : ∀ (i : Nat) (o : Op), (madeP z0)[i]? = some o → o.l.length ≤ 6 := fun i o h => car_six (made_car z0) h
  have hak := made_acks z0 a1
  clear g0 o0 g1
  generalize lossP a1 = lost at HLOSS HFOL hseq hak
  generalize runP (qP (madeP z0) lost) (srt (madeP z0)) 0 = acks at HFOL hseq hak
  generalize (treeP (madeP z0)).1 = T at HBLD HFOL HVAL
  generalize (treeP (madeP z0)).2 = st at HBLD HFOL HVAL
  generalize madeP z0 = l at HMADE HBLD HFOL HVAL hseq hfew hsix
  have HSIX := Lib.hid hsix
  clear hsix
  obtain ⟨hseq1, hseq2⟩ := hseq
  have HSEQ2 := Lib.hid hseq2
  have HSEQ1 : Hid (seqOK l lost (-1) (acks.drop 0) = true) := Lib.hid hseq1
  clear hseq1 hseq2
  go_enter Try.func4, Try.ntmps4
  go_wp2_with fail
  refine (HSANE.out _).mono ?_
  rintro e W1 ⟨rfl, hx1⟩
  go_wp2_with fail
  refine (HMADE.out W1 hx1).mono ?_
  rintro e W2 ⟨A, c, os, hos, rfl, hops, hy⟩
  have hx2 := Ext.trans hx1 hy
  have HOPS := Lib.hid hops
  clear hx1 hy hops HMADE HSANE
  go_wp2_with fail
  refine (HLOSS.out W2).mono ?_
  rintro e W3 ⟨LA, lc, rfl, hl, hy⟩
  have hx3 := Ext.trans hx2 hy
  have HOPS := Lib.hid (HOPS.out.ext hy)
  have HL := Lib.hid hl
  clear hx2 hy hl HLOSS
  go_wp2_with fail
  refine (HBLD.out W3 os A _ c hos HOPS.out).mono ?_
  rintro e W4 ⟨TA, tc, rfl, hT, hy⟩
  have hx4 := Ext.trans hx3 hy
  have HOPS := Lib.hid (HOPS.out.ext hy)
  have HL := Lib.hid (ra_ext HL.out hy)
  have HT := Lib.hid hT
  clear hx3 hy hT HBLD
  have hxa : Ext W4 (W4.alloc (.cells #[.int .i64 st, .slice TA T.length tc] 33)) := bl_alloc (Below.refl _ _) _
  have J := Blk.new W4 33 #[.int .i64 st, .slice TA T.length tc]
  go_upto_region 7 with (fail)
  generalize W4.heap.size = gT at J ⊢
  generalize W4.alloc (.cells #[.int .i64 st, .slice TA T.length tc] 33) = W5 at hxa J ⊢
  have hx5 := Ext.trans hx4 hxa
  have HOPS := Lib.hid (HOPS.out.ext hxa)
  have HL := Lib.hid (ra_ext HL.out hxa)
  have HT := Lib.hid (ra_ext HT.out hxa)
  have HJ := Lib.hid J
  clear hx4 hxa J
  have t0 : W5.cell? ⟨gT, 0, none⟩ = some (.int .i64 st) := HJ.out.cell 0
  have t1 : W5.cell? ⟨gT, 1, none⟩ = some (.slice TA T.length tc) := HJ.out.cell 1
  go_wp2_with fail
  refine (HFOL.out W5 os A TA LA _ c _ tc _ lc hos HOPS.out HT.out HL.out).mono ?_
  rintro e W6 ⟨QA, qc, rfl, hq, hy⟩
  have hx6 := Ext.trans hx5 hy
  have HOPS := Lib.hid (HOPS.out.ext hy)
  have HL := Lib.hid (ra_ext HL.out hy)
  have HT := Lib.hid (ra_ext HT.out hy)
  have HJ := Lib.hid (HJ.out.ext hy)
  have HQ := Lib.hid hq
  clear hx5 hy hq HFOL t0 t1
  have t0 : W6.cell? ⟨gT, 0, none⟩ = some (.int .i64 st) := HJ.out.cell 0
  have t1 : W6.cell? ⟨gT, 1, none⟩ = some (.slice TA T.length tc) := HJ.out.cell 1
  go_wp2_with fail
  refine (HVAL.out W6 os A TA _ c _ tc hos HOPS.out HT.out).mono ?_
  rintro e W7 ⟨rfl, hy⟩
  have hx7 := Ext.trans hx6 hy
  have HOPS := Lib.hid (HOPS.out.ext hy)
  have HL := Lib.hid (ra_ext HL.out hy)
  have HQ := Lib.hid (ra_ext HQ.out hy)
  clear hx6 hy HVAL t0 t1 HT HJ
  have hol := opsP_len hos
  obtain ⟨m, hm⟩ : ∃ m, m = acks.length := ⟨_, rfl⟩
  obtain ⟨n, hn⟩ : ∃ n, n = os.length := ⟨_, rfl⟩
  obtain ⟨ln, hln⟩ : ∃ n, n = lost.length := ⟨_, rfl⟩
  rw [← hm] at HQ hak ⊢
  rw [← hn] at HOPS hol ⊢
  rw [← hln] at HL ⊢
  rw [← hol] at hfew
  have HM := Lib.hid hm
  have HN := Lib.hid hn
  have HOS := Lib.hid hos
  clear hm hn hln hos hol
  go_wp2_with fail
  go_loopw [12, 13] (fun y x wr => ∃ (j : Nat) (L : Int), j ≤ m ∧ x = .int .i64 j ∧ y = .int .i64 L ∧ Hid (seqOK l lost L (acks.drop j) = true) ∧ Ext W7 wr) (fun _ x _ => m - (intOf x).toNat)
  case atStart => exact ⟨0, -1, Nat.zero_le _, rfl, rfl, HSEQ1, Ext.refl _⟩
  case round =>
    clear HSEQ1
    obtain ⟨j, L, hj, rfl, rfl, HG, hxq⟩ := hrel
    by_cases hjm : j < m
    · obtain ⟨b, o, hz, hA, _, hcell⟩ := (ra_ext HQ.out hxq).at_ ack_len hjm
      have hg := HG.out
      rw [List.drop_eq_getElem_cons hz, seqOK] at hg
      generalize acks[j] = a at hcell hg
      obtain ⟨ao, as_, ai⟩ := a
      dsimp only at hg
      cases hs : slotAt l ao as_ with
      | none => rw [hs] at hg; cases hg
      | some s =>
        rw [hs] at hg
        dsimp only at hg
        rw [Bool.and_eq_true, Bool.and_eq_true, decide_eq_true_eq, beq_iff_eq] at hg
        obtain ⟨⟨hg1, hg2⟩, hg3⟩ := hg
        obtain ⟨p, q, x, rfl, rfl, hx, hsx⟩ := slot_os HOS.out hs
        have a0 : wr.cell? ⟨b, o + j * 3, none⟩ = some (.int .i64 p) := hcell 0 (by omega)
        have a1 : wr.cell? ⟨b, o + j * 3 + 1, none⟩ = some (.int .i64 q) := hcell 1 (by omega)
        have a2 : wr.cell? ⟨b, o + j * 3 + 2, none⟩ = some (.bool ai) := hcell 2 (by omega)
        have hjz : (j : Int) < (m : Int) := by omega
        have hops := HOPS.out.ext hxq
        have hpn : p < n := by rw [HN.out]; exact (List.getElem?_eq_some_iff.1 hx).1
        obtain ⟨b2, o2, hz2, hA2, _, hc2⟩ := hops.out.at_ opt_len hpn
        have hxe : os[p] = x := (List.getElem?_eq_some_iff.1 hx).2
        have hsl := hops.each x (List.mem_of_getElem? hx)
        rw [hxe] at hc2
        have c8 : wr.cell? ⟨b2, o2 + p * 9 + 8, none⟩ = some (.slice x.a x.n x.c) := hc2 8 (by omega)
        obtain ⟨oi, oi1, oi2, osa, osf, ost, oi6, osz, oa, on, oc, ol⟩ := x
        dsimp only at hsl hsx c8
        have hql : q < on := by rw [← hsl.len]; exact (List.getElem?_eq_some_iff.1 hsx).1
        obtain ⟨b3, o3, hz3, hA3, _, hc3⟩ := hsl.at_ slt_len hql
        have hse : ol[q] = s := (List.getElem?_eq_some_iff.1 hsx).2
        rw [hse] at hc3
        obtain ⟨sp, sf, stt⟩ := s
        have s0 : wr.cell? ⟨b3, o3 + q * 3, none⟩ = some (.int .i64 sp) := hc3 0 (by omega)
        have s1 : wr.cell? ⟨b3, o3 + q * 3 + 1, none⟩ = some (.int .i64 sf) := hc3 1 (by omega)
        have s2 : wr.cell? ⟨b3, o3 + q * 3 + 2, none⟩ = some (.int .i64 stt) := hc3 2 (by omega)
        dsimp only at hg1 hg2 hg3
        obtain ⟨dd, hdd⟩ : ∃ d, d = decide (sp ∈ lost) := ⟨_, rfl⟩
        rw [← hdd] at hg2
        have HDD := Lib.hid hdd
        subst hA hA2 hA3 hg2
        have HG3 := Lib.hid hg3
        have hole := hops.out.le
        have hsle := hsl.le
        clear hdd hcell hz hg3 HG hs hx hsx hops hxe hc2 hsl hse hc3 hz2 hz3
        have hx5 : Ext W7 (wr.alloc (.cells #[.int .i64 p, .int .i64 q, .bool (!dd)] 60)) := bl_alloc hxq _
        have hx6 : Ext wr (wr.alloc (.cells #[.int .i64 p, .int .i64 q, .bool (!dd)] 60)) := bl_alloc (Below.refl _ _) _
        have J5 := Blk.new wr 60 #[.int .i64 p, .int .i64 q, .bool (!dd)]
        go_upto_region 15 with (fail)
        generalize wr.heap.size = g5 at J5 ⊢
        generalize wr.alloc (.cells #[.int .i64 p, .int .i64 q, .bool (!dd)] 60) = W8 at hx5 hx6 J5 ⊢
        have d0 : W8.cell? ⟨g5, 0, none⟩ = some (.int .i64 p) := J5.cell 0
        have d1 : W8.cell? ⟨g5, 1, none⟩ = some (.int .i64 q) := J5.cell 1
        have d2 : W8.cell? ⟨g5, 2, none⟩ = some (.bool (!dd)) := J5.cell 2
        have c8 := ext_cell hx6 c8
        have s0 := ext_cell hx6 s0
        have s1 := ext_cell hx6 s1
        have s2 := ext_cell hx6 s2
        clear a0 a1 a2 J5 hxq hx6
        have hp0 : ¬ (p : Int) < 0 := by omega
        have hq0 : ¬ (q : Int) < 0 := by omega
        have hpz : ¬ (n : Int) ≤ (p : Int) := by omega
        have hqz : ¬ (on : Int) ≤ (q : Int) := by omega
        have hpz2 : (p : Int) < (n : Int) := by omega
        have hqz2 : (q : Int) < (on : Int) := by omega
        go_upto_region 17 with (fail)
        go_quiet (fail)
        have hxn : Ext W8 (W8.drewN nq) := drewN_ext _ _
        go_upto_region 19 with (fail)
        generalize W8.drewN nq = W9 at hxn ⊢
        have hx9 := Ext.trans hx5 hxn
        have d0 := ext_cell hxn d0
        have d1 := ext_cell hxn d1
        have d2 := ext_cell hxn d2
        have c8 := ext_cell hxn c8
        have s0 := ext_cell hxn s0
        have s1 := ext_cell hxn s1
        have s2 := ext_cell hxn s2
        clear hx5 hxn
        refine wp_region_obl 11 (fun ix vals v w1 => match ix with | 0 => v = .slice (some ⟨b2, o2, none⟩) n c | 1 => v = .pointer (some ⟨g5, 0, none⟩) | 2 => v = .int .i64 (p : Int) | 3 => v = .pointer (some ⟨b2, o2 + p * 9, none⟩) | 4 => v = .pointer (some ⟨b2, o2 + p * 9 + 8, none⟩) | 5 => v = .slice (some ⟨b3, o3, none⟩) on oc | 6 => v = .pointer (some ⟨g5, 1, none⟩) | 7 => v = .int .i64 (q : Int) | 8 => v = .pointer (some ⟨b3, o3 + q * 3, none⟩) | 9 => v = .agg #[.int .i64 sp, .int .i64 sf, .int .i64 stt] | _ => ∃ g, v = .pointer (some ⟨g, 0, none⟩) ∧ Blk w1 g 62 #[.int .i64 0, .int .i64 0, .int .i64 0] ∧ W9.heap.size ≤ g) (by kernel_rfl) (by kernel_rfl) ?_ ?_ ?_ ?_
        · intro ix vals v w1 w2 hi hr hx
          match ix, hr with
          | 0, hr => exact hr
          | 1, hr => exact hr
          | 2, hr => exact hr
          | 3, hr => exact hr
          | 4, hr => exact hr
          | 5, hr => exact hr
          | 6, hr => exact hr
          | 7, hr => exact hr
          | 8, hr => exact hr
          | 9, hr => exact hr
          | (kx + 10), hr => obtain ⟨g, h1, h2, h3⟩ := hr; exact ⟨g, h1, h2.ext hx, h3⟩
        · intro ix vals vals_ v w1 hi hv hr
          exact hr
        · refine ⟨?_, ?_, ?_, ?_, ?_, ?_, ?_, ?_, ?_, ?_, ?_, trivial⟩
          · intro vals w1 hx hd ha
            clear hd ha
            simp only [Lf]
            go_wp2
            exact ⟨rfl, Ext.refl _, rfl⟩
          · intro vals w1 hx hd ha
            clear hd ha
            simp only [Lf, dstAt, Act.put, List.getElem?_toArray, List.getElem?_cons_zero, Option.bind_some, List.setIfInBounds_toArray, List.set_cons_zero, List.set_cons_succ]
            go_wp2
            exact ⟨rfl, Ext.refl _, rfl⟩
          · intro vals w1 hx hd ha
            have e1 : vals 1 = .pointer (some ⟨g5, 0, none⟩) := hd 1 (by decide)
            clear hd ha
            simp only [Lf, dstAt, Act.put, List.getElem?_toArray, List.getElem?_cons_zero, List.getElem?_cons_succ, Option.bind_some, List.setIfInBounds_toArray, List.set_cons_zero, List.set_cons_succ]
            simp only [e1]
            clear e1
            have d0 := ext_cell hx d0
            go_wp2
            exact ⟨rfl, Ext.refl _, rfl⟩
          · intro vals w1 hx hd ha
            have e0 : vals 0 = .slice (some ⟨b2, o2, none⟩) n c := hd 0 (by decide)
            have e2 : vals 2 = .int .i64 (p : Int) := hd 2 (by decide)
            clear hd ha
            simp only [Lf, dstAt, Act.put, List.getElem?_toArray, List.getElem?_cons_zero, List.getElem?_cons_succ, Option.bind_some, List.setIfInBounds_toArray, List.set_cons_zero, List.set_cons_succ]
            simp only [e0, e2]
            clear e0 e2
            go_wp2
            exact ⟨rfl, Ext.refl _, rfl⟩
          · intro vals w1 hx hd ha
            have e3 : vals 3 = .pointer (some ⟨b2, o2 + p * 9, none⟩) := hd 3 (by decide)
            clear hd ha
            simp only [Lf, dstAt, Act.put, List.getElem?_toArray, List.getElem?_cons_zero, List.getElem?_cons_succ, Option.bind_some, List.setIfInBounds_toArray, List.set_cons_zero, List.set_cons_succ]
            simp only [e3]
            clear e3
            go_wp2
            exact ⟨rfl, Ext.refl _, rfl⟩
          · intro vals w1 hx hd ha
            have e4 : vals 4 = .pointer (some ⟨b2, o2 + p * 9 + 8, none⟩) := hd 4 (by decide)
            clear hd ha
            simp only [Lf, dstAt, Act.put, List.getElem?_toArray, List.getElem?_cons_zero, List.getElem?_cons_succ, Option.bind_some, List.setIfInBounds_toArray, List.set_cons_zero, List.set_cons_succ]
            simp only [e4]
            clear e4
            have c8 := ext_cell hx c8
            go_wp2
            exact ⟨rfl, Ext.refl _, rfl⟩
          · intro vals w1 hx hd ha
            clear hd ha
            simp only [Lf, dstAt, Act.put, List.getElem?_toArray, List.getElem?_cons_zero, List.getElem?_cons_succ, Option.bind_some, List.setIfInBounds_toArray, List.set_cons_zero, List.set_cons_succ]
            go_wp2
            exact ⟨rfl, Ext.refl _, rfl⟩
          · intro vals w1 hx hd ha
            have e6 : vals 6 = .pointer (some ⟨g5, 1, none⟩) := hd 6 (by decide)
            clear hd ha
            simp only [Lf, dstAt, Act.put, List.getElem?_toArray, List.getElem?_cons_zero, List.getElem?_cons_succ, Option.bind_some, List.setIfInBounds_toArray, List.set_cons_zero, List.set_cons_succ]
            simp only [e6]
            clear e6
            have d1 := ext_cell hx d1
            go_wp2
            exact ⟨rfl, Ext.refl _, rfl⟩
          · intro vals w1 hx hd ha
            have e5 : vals 5 = .slice (some ⟨b3, o3, none⟩) on oc := hd 5 (by decide)
            have e7 : vals 7 = .int .i64 (q : Int) := hd 7 (by decide)
            clear hd ha
            simp only [Lf, dstAt, Act.put, List.getElem?_toArray, List.getElem?_cons_zero, List.getElem?_cons_succ, Option.bind_some, List.setIfInBounds_toArray, List.set_cons_zero, List.set_cons_succ]
            simp only [e5, e7]
            clear e5 e7
            go_wp2
            exact ⟨rfl, Ext.refl _, rfl⟩
          · intro vals w1 hx hd ha
            have e8 : vals 8 = .pointer (some ⟨b3, o3 + q * 3, none⟩) := hd 8 (by decide)
            clear hd ha
            simp only [Lf, dstAt, Act.put, List.getElem?_toArray, List.getElem?_cons_zero, List.getElem?_cons_succ, Option.bind_some, List.setIfInBounds_toArray, List.set_cons_zero, List.set_cons_succ]
            simp only [e8]
            clear e8
            have s0 := ext_cell hx s0; have s1 := ext_cell hx s1; have s2 := ext_cell hx s2
            go_wp2
            exact ⟨rfl, Ext.refl _, rfl⟩
          · intro vals w1 hx hd ha
            clear hd ha
            simp only [Lf, dstAt, Act.put, List.getElem?_toArray, List.getElem?_cons_zero, List.getElem?_cons_succ, Option.bind_some, List.setIfInBounds_toArray, List.set_cons_zero, List.set_cons_succ]
            have hz9 := Below.size hx.undrew
            go_wp2
            exact ⟨rfl, (by repeat (first | exact Below.refl _ _ | assumption | refine Below.drew ?_ | refine below_drewN ?_ _ | refine bl_alloc ?_ _ | refine Below.setCell ?_ (by first | (simp; done) | omega | (simp; omega)) _ | refine bl_then ?_ (by assumption))), _, rfl, Blk.new _ _ _, hz9⟩
        intro vals W10 hy hf
        have v9 : vals 9 = .agg #[.int .i64 sp, .int .i64 sf, .int .i64 stt] := hf 9 (by omega)
        obtain ⟨g6, v10, jf, hg6⟩ : ∃ g, vals 10 = .pointer (some ⟨g, 0, none⟩) ∧ Blk W10 g 62 #[.int .i64 0, .int .i64 0, .int .i64 0] ∧ W9.heap.size ≤ g := hf 10 (by omega)
        have hy := hy.undrew
        have hxr := ((One.refl g6 W10).row #[.int .i64 sp, .int .i64 sf, .int .i64 stt]).ext hy hg6
        have jr := jf.row #[.int .i64 sp, .int .i64 sf, .int .i64 stt]
        have HJF := Lib.hid jf
        clear hf hy jf c8 s0 s1 s2 d0 d1
        refine tail1 11 _ (by kernel_rfl) (by kernel_rfl) rfl ?_
        simp only [Lf, dstAt, Act.put, List.getElem?_toArray, List.getElem?_cons_zero, List.getElem?_cons_succ, Option.bind_some, List.setIfInBounds_toArray, List.set_cons_zero, List.set_cons_succ]
        rw [v9, v10]
        clear v9 v10
        refine wpList_store_row rfl _ _ _ rfl g6 #[.int .i64 sp, .int .i64 sf, .int .i64 stt] rfl rfl 62 _ HJF.out slt_size rfl (by simp [Value.oneCell']) ?_
        go_upto_region 20 with (fail)
        generalize W10.setRow g6 #[.int .i64 sp, .int .i64 sf, .int .i64 stt] = W11 at hxr jr ⊢
        have hx11 := Ext.trans hx9 hxr
        have d2 := ext_cell hxr d2
        have e0 : W11.cell? ⟨g6, 0, none⟩ = some (.int .i64 sp) := jr.cell 0
        have e1 : W11.cell? ⟨g6, 1, none⟩ = some (.int .i64 sf) := jr.cell 1
        have e2 : W11.cell? ⟨g6, 2, none⟩ = some (.int .i64 stt) := jr.cell 2
        have HH : Hid (∀ k, Calls Try.prog 30 #[.slice LA ln lc, .int .i64 sp] (W11.drewN k) fun e w' => e = .returned (.bool dd) ∧ w' = W11.drewN k) := Lib.hid (fun k => by
          have h := isLost_any LA ln lc lost sp _ (W11.drewN k) (ra_ext HL.out (Ext.trans hx11 (drewN_ext W11 k)))
          rw [← HDD.out] at h
          exact h)
        clear HJF jr hxr hx9 hpz hqz hpz2 hqz2 hp0 hq0
        have hlt : ¬ sf < L := by omega
        go_quiet (exact Calls.quiet_of_same (HH.out _))
        have HX12 := Lib.hid (Ext.trans hx11 (drewN_ext W11 nq))
        clear HH
        go_wp2
        go_roundw
        case rel => exact ⟨j + 1, stt, by omega, by go_num, rfl, HG3, HX12.out⟩
        case measure => simp [intOf]; omega
    · clear HG
      have hjz : ¬ (j : Int) < (m : Int) := by omega
      go_wp2_with fail
      go_loopw [16] (fun x wr => ∃ k : Nat, k ≤ n ∧ x = .int .i64 k ∧ Ext W7 wr) (fun x _ => n - (intOf x).toNat)
      case atStart => exact ⟨0, Nat.zero_le _, rfl, hxq⟩
      case round =>
        clear hxq hjm hj
        obtain ⟨k, hk, rfl, hxq⟩ := hrel
        by_cases hkn : k < n
        · have hkl : k < os.length := by rw [← HN.out]; exact hkn
          have hxe : os[k]? = some os[k] := List.getElem?_eq_getElem hkl
          have hops := HOPS.out.ext hxq
          obtain ⟨b2, o2, hz2, hA2, _, hc2⟩ := hops.out.at_ opt_len hkn
          have hsl := hops.each os[k] (List.getElem_mem hkl)
          have hlx := ops_at HOS.out hxe
          have hsc := HSEQ2.out k _ hlx
          have h6 := HSIX.out k _ hlx
          generalize os[k] = x at hc2 hsl hsc h6
          have c8 : wr.cell? ⟨b2, o2 + k * 9 + 8, none⟩ = some (.slice x.a x.n x.c) := hc2 8 (by omega)
          obtain ⟨oi, oi1, oi2, osa, osf, ost, oi6, osz, oa, on, oc, ol⟩ := x
          dsimp only [Opt.op] at hsl hsc h6 c8
          have hlen := hsl.len
          rw [hlen] at hsc h6
          subst hA2
          have HSL := Lib.hid hsl
          have HLEN := Lib.hid hlen
          have HC8 : Hid (∀ W, Ext wr W → W.cell? ⟨b2, o2 + k * 9 + 8, none⟩ = some (.slice oa on oc)) := Lib.hid (fun W hx => ext_cell hx c8)
          have hkz : (k : Int) < (n : Int) := by omega
          have hld := lead_le lost ol
          rw [hlen] at hld
          obtain ⟨R, hR⟩ : ∃ R, R = leadN lost ol := ⟨_, rfl⟩
          rw [← hR] at hsc hld
          have HSC : Hid (scanO (k : Int) 0 (acks.drop 0) = some (min (R + 1) on)) := Lib.hid hsc
          have HR0 : Hid (R = 0 + leadN lost (ol.drop 0)) := Lib.hid (by rw [hR, Nat.zero_add]; rfl)
          clear hz2 hc2 hsl hlen hsc hlx hxe hops c8 hR hkl
          obtain ⟨Wk, rfl⟩ : ∃ W, W = wr := ⟨_, rfl⟩
          go_wp2_with fail
          go_loopw [17] (fun x w3 => ∃ r : Nat, r ≤ on ∧ x = .int .i64 r ∧ Hid (R = r + leadN lost (ol.drop r)) ∧ Ext Wk w3) (fun x _ => on - (intOf x).toNat)
          case atStart => exact ⟨0, Nat.zero_le _, rfl, HR0, Ext.refl _⟩
          case round =>
            clear HR0
            obtain ⟨r, hr, rfl, HRR, hx3⟩ := hrel
            have hx4 := Ext.trans hxq hx3
            have c8 := HC8.out wr hx3
            by_cases hro : r < on
            · obtain ⟨b3, o3, hz3, hA3, _, hc3⟩ := (ra_ext HSL.out hx3).at_ slt_len hro
              have hld := lead_step (lost := lost) (List.getElem?_eq_getElem hz3)
              generalize ol[r] = s at hc3 hld
              have s0 : wr.cell? ⟨b3, o3 + r * 3, none⟩ = some (.int .i64 s.p) := hc3 0 (by omega)
              have hrz : (r : Int) < (on : Int) := by omega
              have HCL := Lib.hid (isLost_any LA ln lc lost s.p _ wr (ra_ext HL.out hx4))
              subst hA3
              generalize s.p = sp at s0 HCL hld
              have HLD := Lib.hid hld
              clear hc3 hz3 hld
              go_wp2_with fail
              refine HCL.out.mono ?_
              rintro e w' ⟨rfl, rfl⟩
              clear HCL
              by_cases hsp : sp ∈ lost
              · rw [decide_eq_true hsp]
                have HRR : Hid (R = r + 1 + leadN lost (ol.drop (r + 1))) := Lib.hid (by have h1 := HRR.out; have h2 := HLD.out; rw [if_pos hsp] at h2; omega)
                clear HLD
                go_wp2_with fail
                go_roundw
                case rel => exact ⟨r + 1, by omega, by go_num, HRR, hx3⟩
                case measure => simp [intOf]; omega
              · rw [decide_eq_false hsp]
                obtain rfl : R = r := by have h1 := HRR.out; have h2 := HLD.out; rw [if_neg hsp] at h2; omega
                have HSC : Hid (scanO (k : Int) 0 (acks.drop 0) = some (R + 1)) := Lib.hid (by rw [HSC.out, Nat.min_eq_left (by omega)])
                have hrm : (R : Int) + 1 ≤ (on : Int) := by omega
                clear HLD HRR HSL HC8 hx3
                go_wp2_with fail
                go_loopw [19, 20] (fun y x w4 => ∃ (jj d : Nat), jj ≤ m ∧ x = .int .i64 jj ∧ y = .int .i64 d ∧ d ≤ jj ∧ Hid (scanO (k : Int) d (acks.drop jj) = some (R + 1)) ∧ Ext W7 w4) (fun _ x _ => m - (intOf x).toNat)
                case atStart => exact ⟨0, 0, Nat.zero_le _, rfl, rfl, Nat.le_refl _, HSC, hx4⟩
                case round =>
                  clear HSC hx4
                  obtain ⟨jj, d, hjj, rfl, rfl, hdj, HG, hx4⟩ := hrel
                  by_cases hjm : jj < m
                  · obtain ⟨b, o, hz, hA, _, hcell⟩ := (ra_ext HQ.out hx4).at_ ack_len hjm
                    have hg := scan_step (List.getElem?_eq_getElem hz) HG.out
                    generalize acks[jj] = a at hcell hg
                    obtain ⟨ao, as_, ai⟩ := a
                    dsimp only at hg
                    have a0 : wr.cell? ⟨b, o + jj * 3, none⟩ = some (.int .i64 ao) := hcell 0 (by omega)
                    have a1 : wr.cell? ⟨b, o + jj * 3 + 1, none⟩ = some (.int .i64 as_) := hcell 1 (by omega)
                    have hjz : (jj : Int) < (m : Int) := by omega
                    subst hA
                    clear hcell hz HG
                    by_cases hak2 : ao = (k : Int)
                    · rw [if_pos hak2] at hg
                      obtain ⟨rfl, hg⟩ := hg
                      have HG := Lib.hid hg
                      subst hak2
                      clear hg
                      go_wp2_with fail
                      go_roundw
                      case rel => exact ⟨jj + 1, d + 1, by omega, by go_num, by go_num, by omega, HG, hx4⟩
                      case measure => simp [intOf]; omega
                    · rw [if_neg hak2] at hg
                      have HG := Lib.hid hg
                      clear hg
                      go_wp2_with fail
                      go_roundw
                      case rel => exact ⟨jj + 1, d, by omega, by go_num, rfl, by omega, HG, hx4⟩
                      case measure => simp [intOf]; omega
                  · have hend : d = R + 1 := by
                      have h := HG.out
                      rw [List.drop_of_length_le (by rw [← HM.out]; omega)] at h
                      exact Option.some.inj h
                    subst hend
                    have hjz : ¬ (jj : Int) < (m : Int) := by omega
                    clear HG
                    go_wp2_with fail
                    go_roundw
                    case rel => exact ⟨k + 1, by omega, by go_num, hx4⟩
                    case measure => simp [intOf]; omega
            · obtain rfl : r = on := by omega
              obtain rfl : R = r := by have h1 := HRR.out; rw [List.drop_of_length_le (by rw [HLEN.out]; omega)] at h1; exact h1
              have HSC : Hid (scanO (k : Int) 0 (acks.drop 0) = some R) := Lib.hid (by rw [HSC.out, Nat.min_eq_right (by omega)])
              have hrz : ¬ (R : Int) < (R : Int) := by omega
              have hrm : ¬ (R : Int) + 1 ≤ (R : Int) := by omega
              clear HRR HSL hx3
              go_wp2_with fail
              go_loopw [19, 20] (fun y x w4 => ∃ (jj d : Nat), jj ≤ m ∧ x = .int .i64 jj ∧ y = .int .i64 d ∧ d ≤ jj ∧ Hid (scanO (k : Int) d (acks.drop jj) = some (R)) ∧ Ext W7 w4) (fun _ x _ => m - (intOf x).toNat)
              case atStart => exact ⟨0, 0, Nat.zero_le _, rfl, rfl, Nat.le_refl _, HSC, hx4⟩
              case round =>
                clear HSC hx4
                obtain ⟨jj, d, hjj, rfl, rfl, hdj, HG, hx4⟩ := hrel
                by_cases hjm : jj < m
                · obtain ⟨b, o, hz, hA, _, hcell⟩ := (ra_ext HQ.out hx4).at_ ack_len hjm
                  have hg := scan_step (List.getElem?_eq_getElem hz) HG.out
                  generalize acks[jj] = a at hcell hg
                  obtain ⟨ao, as_, ai⟩ := a
                  dsimp only at hg
                  have a0 : wr.cell? ⟨b, o + jj * 3, none⟩ = some (.int .i64 ao) := hcell 0 (by omega)
                  have a1 : wr.cell? ⟨b, o + jj * 3 + 1, none⟩ = some (.int .i64 as_) := hcell 1 (by omega)
                  have hjz : (jj : Int) < (m : Int) := by omega
                  subst hA
                  clear hcell hz HG
                  by_cases hak2 : ao = (k : Int)
                  · rw [if_pos hak2] at hg
                    obtain ⟨rfl, hg⟩ := hg
                    have HG := Lib.hid hg
                    subst hak2
                    clear hg
                    go_wp2_with fail
                    go_roundw
                    case rel => exact ⟨jj + 1, d + 1, by omega, by go_num, by go_num, by omega, HG, hx4⟩
                    case measure => simp [intOf]; omega
                  · rw [if_neg hak2] at hg
                    have HG := Lib.hid hg
                    clear hg
                    go_wp2_with fail
                    go_roundw
                    case rel => exact ⟨jj + 1, d, by omega, by go_num, rfl, by omega, HG, hx4⟩
                    case measure => simp [intOf]; omega
                · have hend : d = R := by
                    have h := HG.out
                    rw [List.drop_of_length_le (by rw [← HM.out]; omega)] at h
                    exact Option.some.inj h
                  subst hend
                  have hjz : ¬ (jj : Int) < (m : Int) := by omega
                  clear HG
                  go_wp2_with fail
                  go_roundw
                  case rel => exact ⟨k + 1, by omega, by go_num, hx4⟩
                  case measure => simp [intOf]; omega
        · have hkz : ¬ (k : Int) < (n : Int) := by omega
          have HX := Lib.hid (Ext.trans hx7 hxq)
          go_wp2_with fail
          go_ret
          exact ⟨rfl, HX.out⟩
end Go.Proofs.Ytikphbgfcpamgaa
namespace Go.Proofs.Ytikphbgfcpamgaa
open Go.ChangeShapes Go.WideShapes Go.ChangeAt Go.RowKit Go.Deep

theorem ownKn : ownKnob Try.prog.godebug = none := by kernel_rfl
theorem laidOut : laidOutB Try.prog = true := by kernel_rfl
theorem i64_of_wf {n : Int} (h : (Lit.int .i64 n).wf = true) : I64ok n := by
  simpa [I64ok, Lit.wf, IntKind.min, IntKind.max, IntKind.signed, IntKind.bits] using h
section
variable {H : Type} {enc : TypeId × Value → H} {W : World} {base : Nat} {spare : Nat → Bool} {held : Bool}
set_option maxRecDepth 100000 in
theorem open_Six {cs : List Value} {n : Nat} {x : DataW H × List MemPlace} (h : DataW.trod enc Try.prog W base spare held n 71 cs = some x) : ∃ q : Six, q.ok ∧ cs = sixCells q := by
  obtain ⟨xs, m, _, _, hlen, hxl, hg⟩ := DataW.trod_array Try.underlying71 h
  have hc4 : Try.prog.cellsOf 71 = 6 := by kernel_rfl
  have hc1 : Try.prog.cellsOf 3 = 1 := by kernel_rfl
  rw [hc4] at hlen
  match cs, hlen with
  | [c0, c1, c2, c3, c4, c5], _ =>
    have g0 := hg 0 (by omega)
    have g1 := hg 1 (by omega)
    have g2 := hg 2 (by omega)
    have g3 := hg 3 (by omega)
    have g4 := hg 4 (by omega)
    have g5 := hg 5 (by omega)
    rw [hc1] at g0 g1 g2 g3 g4 g5
    match xs, hxl with
    | [y0, y1, y2, y3, y4, y5], _ =>
      simp at g0 g1 g2 g3 g4 g5
      obtain ⟨a0, e0, _, w0⟩ := DataW.trod_int Try.underlying3 g0
      obtain ⟨a1, e1, _, w1⟩ := DataW.trod_int Try.underlying3 g1
      obtain ⟨a2, e2, _, w2⟩ := DataW.trod_int Try.underlying3 g2
      obtain ⟨a3, e3, _, w3⟩ := DataW.trod_int Try.underlying3 g3
      obtain ⟨a4, e4, _, w4⟩ := DataW.trod_int Try.underlying3 g4
      obtain ⟨a5, e5, _, w5⟩ := DataW.trod_int Try.underlying3 g5
      simp at e0 e1 e2 e3 e4 e5
      subst e0 e1 e2 e3 e4 e5
      exact ⟨⟨a0, a1, a2, a3, a4, a5⟩, ⟨i64_of_wf w0, i64_of_wf w1, i64_of_wf w2, i64_of_wf w3, i64_of_wf w4, i64_of_wf w5⟩, rfl⟩
theorem list_of {α : Type} {P : Nat → α → Prop} (n : Nat) (h : ∀ i, i < n → ∃ x, P i x) : ∃ l : List α, l.length = n ∧ ∀ i x, l[i]? = some x → P i x := by
  induction n with
  | zero => exact ⟨[], rfl, fun i x hx => by simp at hx⟩
  | succ n ih =>
    obtain ⟨l, hl, hp⟩ := ih fun i hi => h i (by omega)
    obtain ⟨x, hx⟩ := h n (by omega)
    refine ⟨l ++ [x], by simp [hl], fun i y hy => ?_⟩
    rw [List.getElem?_append] at hy
    split at hy
    · exact hp i y hy
    · rename_i hi
      have hi0 : i - l.length = 0 := by
        rcases Nat.eq_zero_or_pos (i - l.length) with e | e
        · exact e
        · rw [List.getElem?_eq_none (by simp; omega)] at hy; cases hy
      rw [hi0] at hy
      simp at hy
      subst hy
      have : i = n := by omega
      subst this
      exact hx
theorem open_rows {α : Type} {cells : α → List Value} {s : Nat} {t te : TypeId} {ok : α → Prop} (hu : Try.prog.underlying t = some (.slice te)) (hcs : Try.prog.cellsOf te = s) (hlen : ∀ q, (cells q).length = s) (h0 : 0 < s)
    (hop : ∀ (m : Nat) (cs : List Value) (x : DataW H × List MemPlace), DataW.trod enc Try.prog W base spare held m te cs = some x → ∃ q, ok q ∧ cs = cells q)
    {fuel : Nat} {v : Value} {z : DataW H × List MemPlace} (hf : DataW.trod enc Try.prog W base spare held fuel t [v] = some z) : ∃ A n c, v = .slice A n c ∧ ∃ xs, RA cells s W W.heap.size A n c xs ∧ (A = none → c = 0) ∧ ∀ x ∈ xs, ok x := by
  rcases open_slice hu hf with ⟨hcs, _⟩ | ⟨a, len, cap, m, n', D, Pl, hcs2, hb, hl, hm, hmm, hx, hi⟩
  · obtain rfl : v = .slice none 0 0 := by simpa using hcs
    exact ⟨none, 0, 0, rfl, [], ⟨Reads.none_, rfl, Nat.le_refl _, Nat.zero_le _, Nat.zero_le _⟩, fun _ => rfl, fun z hz => by cases hz⟩
  · obtain rfl : v = .slice (some a) len cap := by simpa using hcs2
    have hlm : len ≤ m := by rw [hmm]; split <;> omega
    obtain ⟨l, hll, hp⟩ := list_of (P := fun i (q : α) => ok q ∧ ∀ j, j < s → W.cell? (a.add (i * s + j)) = (cells q)[j]?) len (fun i hin => by
      obtain ⟨cs', h1, h2⟩ := hi i (by omega)
      rw [hcs] at h1
      obtain ⟨q, hok, rfl⟩ := hop _ _ _ h2
      obtain ⟨_, _, hat⟩ := World.cells?_some h1
      exact ⟨q, hok, fun j hj => by rw [← add_of_add]; exact hat j hj⟩)
    refine ⟨some a, len, cap, rfl, l, ⟨⟨by rw [flat_len hlen, hll], fun hn => ?_⟩, hll, hl, hm, Nat.le_trans hl (by unfold maxLen at hm; exact hm)⟩, fun e => (by cases e), fun x hx => ?_⟩
    · have hn : 0 < len := hn
      have hz := (hp 0 l[0] (List.getElem?_eq_getElem (by omega))).2 0 h0
      rw [List.getElem?_eq_getElem (by rw [hlen]; exact h0)] at hz
      obtain ⟨b, o, sp⟩ := a
      have hsp : sp = none := by simpa [Addr.add] using World.cell?_spot hz
      subst hsp
      have hlt := World.block_lt_of_cell? W _ hz
      refine ⟨b, o, rfl, by simpa [Addr.add] using hlt, fun j u hu => ?_⟩
      have hj : j < l.length * s := by
        rcases Nat.lt_or_ge j (l.length * s) with e | e
        · exact e
        · rw [List.getElem?_eq_none (by rw [flat_len hlen]; exact e)] at hu; cases hu
      have hdm := Nat.div_add_mod j s
      have hmd := Nat.mod_lt j h0
      have hjd : j / s < l.length := by rw [Nat.div_lt_iff_lt_mul h0]; exact hj
      have hcell := (hp (j / s) l[j / s] (List.getElem?_eq_getElem hjd)).2 (j % s) hmd
      have hg := flat_at hlen l (j / s) hjd (j % s) hmd
      rw [Nat.mul_comm (j / s) s, hdm] at hg hcell
      rw [Addr.add_lit] at hcell
      rw [hcell, ← hg, hu]
    · obtain ⟨i, hil, rfl⟩ := List.mem_iff_getElem.1 hx
      exact (hp i _ (List.getElem?_eq_getElem hil)).1
theorem open_Sixs {A : Option Addr} {n c : Nat} {d : DataW H} {p : List MemPlace} (h : DataW.Trod enc Try.prog W base spare held 22 (.slice A n c) d p) : ∃ xs, RA sixCells 6 W W.heap.size A n c xs ∧ ∀ x ∈ xs, Six.ok x := by
  obtain ⟨fuel, hf⟩ := h
  obtain ⟨A', n', c', e, xs, h1, _, h3⟩ := open_rows (cells := sixCells) (s := 6) Try.underlying22 (by kernel_rfl) (fun _ => rfl) (by decide) (fun _ _ _ h => open_Six h) hf
  injection e with e1 e2 e3
  subst e1 e2 e3
  exact ⟨xs, h1, h3⟩
end
end Go.Proofs.Ytikphbgfcpamgaa
namespace Go.Proofs.Ytikphbgfcpamgaa
open Go.ChangeShapes Go.WideShapes Go.ChangeAt Go.RowKit Go.Deep
set_option linter.unusedVariables false
set_option maxRecDepth 100000 in
theorem treeSends_lifted (os : Os) (started : os.Started) (H : Type) (enc : TypeId × Value → H) :
    ReturnsInHanded {} Try.checked os 4 .any (Rows.treeSendsSpec.pre6 enc Try.prog Try.f4 Rows.treeSendsRow.domain false) (Rows.treeSendsSpec.post enc Try.prog Try.f4 false true false false) := by
  refine returnsInHanded_of_change (C := Try.checked) ownKn started (by kernel_rfl) Try.func4
    (ChangeSpec.witness6 (enc := enc) (C := Try.checked) false ⟨#[], #[.slice none 0 0, .int .i64 0], []⟩ 8 (by kernel_rfl) (by kernel_rfl) (by kernel_rfl) (by kernel_rfl)) ?_
  intro W base args ds gs before hval0 hW hcnd _
  have hval : ∀ (j : Nat) t v, Try.f4.params[j]? = some t → args[j]? = some v → Value.okWide Try.prog W .any base t v := hval0
  have hW' := hW
  obtain ⟨p, q, hA0, hV, rfl, hfz, hnd⟩ := hW
  have hA : DataW.TrodAll enc Try.prog W 0 (fun _ => true) true Try.f4.params.toList args.toList ds p := hA0
  rw [Try.params4] at hA hval
  obtain ⟨v0, vs0, d0, ds0, p0, q0, hargs, rfl, rfl, h0, r0⟩ := trodAll_cons hA
  obtain ⟨v1, vs1, d1, ds1, p1, q1, rfl, rfl, rfl, h1, r1⟩ := trodAll_cons r0
  obtain ⟨rfl, rfl, rfl⟩ := trodAll_nil r1
  obtain rfl : args = #[v0, v1] := by cases args; simp_all
  obtain ⟨rfl, rfl⟩ := trodVars_none hV
  obtain ⟨a0, len0, cap0, rfl⟩ := okWide_slice Try.underlying22 (hval 0 22 v0 rfl rfl)
  have k0 := h0
  obtain ⟨z0, g0, o0⟩ := open_Sixs h0
  have lt0 : ∀ x ∈ p0, x.block < W.heap.size := by obtain ⟨m, hm⟩ := k0; exact DataW.trod_lt m _ _ _ hm
  obtain ⟨a1, rfl, rfl, rfl, w1⟩ := open_int Try.underlying3 (hval 1 3 v1 rfl rfl) h1
  clear hA0 hval0
  refine (sends_walk z0 a0 len0 cap0 a1 W g0 o0 (i64_of_wf w1)).mono fun e W' ⟨he, bel⟩ => ?_
  subst he
  exact ⟨_, rfl, _, _, _, [], _, [], hW', trodAll_mk1 (shut_bool Try.underlying4 _), (trodAll_cons_mk (Below.trod laidOut (by kernel_rfl) (of_decide_eq_true (by kernel_rfl)) k0 bel lt0) (trodAll_cons_mk (shut_int Try.underlying3 w1) trodAll_mk0)), rfl, bel.frame _, fun h => by cases h⟩

theorem treeSends_over : Rows.treeSendsRow.holds Try.pinned (OpenSpec.ofChange Rows.treeSendsSpec) :=
  OpenClaim.holds_of_wide 4 Try.f4 rfl rfl rfl rfl rfl rfl rfl ⟨rfl, rfl, rfl, rfl, rfl⟩ rfl rfl rfl rfl rfl (by kernel_rfl) Try.func4 (by kernel_rfl)
    (of_decide_eq_true (by kernel_rfl)) (by unfold Func.isWrapper; first | (rw [if_pos (by decide +kernel)]; kernel_rfl) | (rw [if_neg (by decide +kernel)]; exact ⟨rfl, rfl⟩))
    (fun os started H enc _ => treeSends_lifted os started H enc)

theorem treeSends_proved : Rows.TreeSendsSaid := treeSends_over
end Go.Proofs.Ytikphbgfcpamgaa
