/- The law TreePrunes of the tree layer: for every input the call returns true and each argument reads afterwards as it read before: after some acks, following what Prune leaves sends exactly what following the whole tree sends after them; and it takes no more of the uplink. No condition. -/
import Derived.Test.YtikphbgfcpamgaaP33
import Derived.Deep.CutRange
namespace Go.Proofs.Ytikphbgfcpamgaa
open Go.RowKit

/-- What is left after j acks. -/
structure Left (l : List Op) (lost : List Int) (T : List Brn) (st : Int) (acks : List Ack) (j : Nat) (P : List Brn) (k : Int) : Prop where
  prn : prunP l T st (acks.take j) = some (P, k)
  valid : validP l P k = true
  fol : folP l P k lost = some (acks.drop j)
  len : P.length ≤ T.length
  fin : j = acks.length → k = -1 ∧ P = []
  wrong : ∀ a, acks[j]? = some a → prunP l T st (acks.take j ++ [⟨a.opt, a.slot + 1, a.is_⟩]) = none
theorem made_left (xs : List Six) (x : Int) (j : Nat) (hj : j ≤ (runP (qP (madeP xs) (lossP x)) (srt (madeP xs)) 0).length) :
    ∃ P k, Left (madeP xs) (lossP x) (treeP (madeP xs)).1 (treeP (madeP xs)).2 (runP (qP (madeP xs) (lossP x)) (srt (madeP xs)) 0) j P k := by
  have hc := made_car xs
  have hv := made_valid xs
  have hlen := made_len xs
  have hg := car_good hc
  have hdn : Down (treeP (madeP xs)).1 := bld_down _ [] down_nil
  have hrp : Rep (treeP (madeP xs)).1 (treeP (madeP xs)).2 (dt (srt (madeP xs)) 0) := bld_rep _ []
  rw [← folD_dt] at hj ⊢
  obtain ⟨k', D', h1, h2, h3, h4, h5⟩ := prn_take j _ _ hrp hj
  have hD : D' = .leaf ∨ D' ∈ subs (dt (srt (madeP xs)) 0) := by
    by_cases h : D' = .leaf
    · exact .inl h
    · exact .inr (h4 _ (subs_self h))
  have hg' : Good (madeP xs) D' := by
    rcases hD with h | h
    · rw [h]; trivial
    · exact good_sub hg _ h
  have hl' : (bld [] D').1.length ≤ (treeP (madeP xs)).1.length := bld_len_sub h4
  have hv' := built_valid hc hg' (Nat.le_trans hl' hlen)
  refine ⟨(bld [] D').1, (bld [] D').2, ?_, hv', ?_, hl', ?_, ?_⟩
  · unfold prunP
    rw [if_pos hv, h1, Option.map_some, unf_rep hdn h2]
  · unfold folP
    rw [hv', loss_ok, unf_rep (bld_down _ [] down_nil) (bld_rep _ []), h3]
    rfl
  · intro h
    rw [h, List.drop_of_length_le (Nat.le_refl _)] at h3
    cases D' with
    | leaf => exact ⟨rfl, rfl⟩
    | node a o s n y => simp [folD] at h3
  · intro a ha
    unfold prunP
    rw [if_pos hv, h5 a ha]
    rfl
theorem made_none (xs : List Six) : prunP (madeP xs) (treeP (madeP xs)).1 (treeP (madeP xs)).2 [] = some ((treeP (madeP xs)).1, (treeP (madeP xs)).2) := by
  unfold prunP
  rw [if_pos (made_valid xs), prnT, Option.map_some, made_unf]
  rfl
theorem made_slots (xs : List Six) (x : Int) : ∀ a ∈ runP (qP (madeP xs) (lossP x)) (srt (madeP xs)) 0, 0 ≤ a.slot ∧ a.slot < 6 := fun a ha => by
  have h := run_opts (made_car xs) a ha
  exact ⟨h.2.2.1, h.2.2.2⟩
theorem flat_take {α : Type} {cells : α → List Value} {s : Nat} (hs : ∀ x, (cells x).length = s) (l : List α) (k : Nat) : (l.take k).flatMap cells = (l.flatMap cells).take (k * s) := by
  induction l generalizing k with
  | nil => simp
  | cons x r ih =>
    cases k with
    | zero => simp
    | succ k =>
      rw [List.take_succ_cons, List.flatMap_cons, List.flatMap_cons, ih, List.take_append, hs, Nat.succ_mul, List.take_of_length_le (l := cells x) (i := k * s + s) (by rw [hs]; omega), Nat.add_sub_cancel]
theorem flat_drop {α : Type} {cells : α → List Value} {s : Nat} (hs : ∀ x, (cells x).length = s) (l : List α) (k : Nat) : (l.drop k).flatMap cells = (l.flatMap cells).drop (k * s) := by
  induction l generalizing k with
  | nil => simp
  | cons x r ih =>
    cases k with
    | zero => simp
    | succ k =>
      rw [List.drop_succ_cons, List.flatMap_cons, ih, List.drop_append, hs, Nat.succ_mul, List.drop_of_length_le (l := cells x) (i := k * s + s) (by rw [hs]; omega), List.nil_append, Nat.add_sub_cancel]
theorem RA.cut {α : Type} {cells : α → List Value} {s : Nat} (hs : ∀ x, (cells x).length = s) {w : World} {B n c : Nat} {A : Option Addr} {l : List α} (h : RA cells s w B A n c l) (k : Nat) (hk : k ≤ n) : RA cells s w B A k c (l.take k) := by
  refine ⟨?_, by rw [List.length_take, h.len]; omega, Nat.le_trans hk h.cap, h.capM, Nat.le_trans hk h.le⟩
  rw [flat_take hs]
  exact h.rd.upto hk
theorem RA.tail {α : Type} {cells : α → List Value} {s : Nat} (hs : ∀ x, (cells x).length = s) {w : World} {B n c : Nat} {A : Option Addr} {l : List α} (h : RA cells s w B A n c l) (k : Nat) (hk : k ≤ n) : RA cells s w B (if c = k then A else A.map (·.add (k * s))) (n - k) (c - k) (l.drop k) := by
  have hc := h.cap
  have hm := h.capM
  have hl := h.le
  refine ⟨?_, by rw [List.length_drop, h.len], by omega, by omega, by omega⟩
  rw [flat_drop hs]
  exact h.rd.cut hk h.cap
/-- An own row's slice: its parts, and what a nil one is. -/
theorem own_slice2 {w : World} {base : Nat} {e : TypeId} {size : Nat} {v : Value} {n : Nat} {xs : List Value} (h : w.ownsRow base e size v n xs) : ∃ A c, v = .slice A n c ∧ (A = none → n = 0 ∧ c = 0) := by
  rcases h.2 with ⟨rfl, h0⟩ | ⟨g, cap, cur, rfl, _⟩
  · first | exact ⟨none, 0, by rw [h0], fun _ => ⟨h0, rfl⟩⟩ | (have := h.1; exact ⟨none, 0, by simp_all, fun _ => by simp_all⟩)
  · exact ⟨_, _, rfl, fun h => by cases h⟩
theorem fol_made2 (xs : List Six) (x : Int) (os : List Opt) (A TA LA : Option Addr) (n c tn tc ln lc : Nat) (w : World) (ho : opsP os = madeP xs) (h : Ops w w.heap.size A n c os) (hT : RA brnCells 5 w w.heap.size TA tn tc (treeP (madeP xs)).1) (hL : RA intCells 1 w w.heap.size LA ln lc (lossP x)) :
    Calls Try.prog 24 #[.agg #[.int .i64 (treeP (madeP xs)).2, .slice TA tn tc], .slice A n c, .slice LA ln lc] w fun e w' => ∃ QA qc, e = .returned (.tuple #[.slice QA (runP (qP (madeP xs) (lossP x)) (srt (madeP xs)) 0).length qc, .int .i64 0]) ∧ RA ackCells 3 w' w'.heap.size QA (runP (qP (madeP xs) (lossP x)) (srt (madeP xs)) 0).length qc (runP (qP (madeP xs) (lossP x)) (srt (madeP xs)) 0) ∧ (QA = none → (runP (qP (madeP xs) (lossP x)) (srt (madeP xs)) 0).length = 0 ∧ qc = 0) ∧ Ext w w' := by
  have hb := follow_any _ TA tn tc (treeP (madeP xs)).2 os A n c LA ln lc (lossP x) w hT h hL
  rw [ho, made_fol] at hb
  refine hb.mono ?_
  rintro e w' ⟨v, rfl, ho, hx⟩
  obtain ⟨A', c', rfl, hn⟩ := own_slice2 ho
  exact ⟨A', c', rfl, RA.of_own2 ho rfl, hn, hx⟩
theorem prune_l {l : List Op} (T : List Brn) (st : Int) (P : List Brn) (k : Int) (known : List Ack) (os : List Opt) (A TA KA : Option Addr) (n c tn tc kn kc : Nat) (w : World) (ho : opsP os = l) (h : Ops w w.heap.size A n c os) (hT : RA brnCells 5 w w.heap.size TA tn tc T) (hK : RA ackCells 3 w w.heap.size KA kn kc known) (hp : prunP l T st known = some (P, k)) :
    Calls Try.prog 28 #[.agg #[.int .i64 st, .slice TA tn tc], .slice A n c, .slice KA kn kc] w fun e w' => ∃ A c, e = .returned (.tuple #[.agg #[.int .i64 k, .slice A P.length c], .int .i64 0]) ∧ RA brnCells 5 w' w'.heap.size A P.length c P ∧ Ext w w' := by
  have hb := prune_any T TA tn tc st os A n c KA kn kc known w hT h hK
  rw [ho, hp] at hb
  exact hb.mono fun e w' hr => pruneRet_some hr
theorem prune_no {l : List Op} (T : List Brn) (st : Int) (known : List Ack) (os : List Opt) (A TA KA : Option Addr) (n c tn tc kn kc : Nat) (w : World) (ho : opsP os = l) (h : Ops w w.heap.size A n c os) (hT : RA brnCells 5 w w.heap.size TA tn tc T) (hK : RA ackCells 3 w w.heap.size KA kn kc known) (hp : prunP l T st known = none) :
    Calls Try.prog 28 #[.agg #[.int .i64 st, .slice TA tn tc], .slice A n c, .slice KA kn kc] w fun e w' => e = .returned (.tuple #[.agg #[.int .i64 0, .slice none 0 0], .int .i64 200]) ∧ Ext w w' := by
  have hb := prune_any T TA tn tc st os A n c KA kn kc known w hT h hK
  rw [ho, hp] at hb
  exact hb
theorem valid_l {l : List Op} (P : List Brn) (k : Int) (os : List Opt) (A TA : Option Addr) (n c tn tc : Nat) (w : World) (ho : opsP os = l) (h : Ops w w.heap.size A n c os) (hT : RA brnCells 5 w w.heap.size TA tn tc P) (hv : validP l P k = true) :
    Calls Try.prog 18 #[.agg #[.int .i64 k, .slice TA tn tc], .slice A n c] w fun e w' => e = .returned (.bool true) ∧ Ext w w' := by
  have hb := valid_any P TA tn tc k os A n c w hT h
  rw [ho, hv] at hb
  exact hb
theorem fol_l {l : List Op} (P : List Brn) (k : Int) (lost : List Int) (r : List Ack) (os : List Opt) (A TA LA : Option Addr) (n c tn tc ln lc : Nat) (w : World) (ho : opsP os = l) (h : Ops w w.heap.size A n c os) (hT : RA brnCells 5 w w.heap.size TA tn tc P) (hL : RA intCells 1 w w.heap.size LA ln lc lost) (hf : folP l P k lost = some r) :
    Calls Try.prog 24 #[.agg #[.int .i64 k, .slice TA tn tc], .slice A n c, .slice LA ln lc] w fun e w' => ∃ QA qc, e = .returned (.tuple #[.slice QA r.length qc, .int .i64 0]) ∧ RA ackCells 3 w' w'.heap.size QA r.length qc r ∧ Ext w w' := by
  have hb := follow_any P TA tn tc k os A n c LA ln lc lost w hT h hL
  rw [ho, hf] at hb
  exact hb.mono fun e w' hr => ackRet_some hr
end Go.Proofs.Ytikphbgfcpamgaa
namespace Go.Proofs.Ytikphbgfcpamgaa
open Go.RowKit

theorem prune_o {l : List Op} (T : List Brn) (st : Int) (P : List Brn) (k : Int) (known : List Ack) (os : List Opt) (A TA KA : Option Addr) (n c tn tc kn kc : Nat) (w : World) (ho : opsP os = l) (h : Ops w w.heap.size A n c os) (hT : RA brnCells 5 w w.heap.size TA tn tc T) (hK : RA ackCells 3 w w.heap.size KA kn kc known) (hp : prunP l T st known = some (P, k)) :
    Calls Try.prog 28 #[.agg #[.int .i64 st, .slice TA tn tc], .slice A n c, .slice KA kn kc] w fun e w' => ∃ A c, e = .returned (.tuple #[.agg #[.int .i64 k, .slice A P.length c], .int .i64 0]) ∧ w'.ownsRow w.heap.size 30 5 (.slice A P.length c) P.length (P.flatMap brnCells) ∧ Ext w w' := by
  have hb := prune_any T TA tn tc st os A n c KA kn kc known w hT h hK
  rw [ho, hp] at hb
  refine hb.mono ?_
  rintro e w' ⟨v, rfl, ho, hx⟩
  have ho' : w'.ownsRow w.heap.size 30 5 v P.length (P.flatMap brnCells) := ho
  obtain ⟨A, c, rfl, _, _⟩ := own_slice ho'
  exact ⟨A, c, rfl, ho', hx⟩
theorem info_ackR : (Try.prog.info? 60).map (fun i => (i.zero, i.size, i.bytes)) = some (some (.agg #[.int .i64 0, .int .i64 0, .bool false]), 3, 24) := by kernel_rfl
theorem ack_put {l : List Ack} {K : Nat} {a : Ack} (ha : l[K]? = some a) (x : Int) : ((l.take (K + 1)).flatMap ackCells).set (K * 3 + 1) (.int .i64 x) = (l.take K ++ [(⟨a.opt, x, a.is_⟩ : Ack)]).flatMap ackCells := by
  have hk := (List.getElem?_eq_some_iff.1 ha).1
  have he := (List.getElem?_eq_some_iff.1 ha).2
  have hF : ((l.take K).flatMap ackCells).length = K * 3 := by
    rw [flat_len ack_len, List.length_take]
    congr 1
    omega
  rw [List.take_succ_eq_append_getElem hk, he, List.flatMap_append, List.flatMap_append, List.set_append_right _ _ (by omega), hF]
  rw [show K * 3 + 1 - K * 3 = 1 by omega]
  rfl
set_option maxRecDepth 100000 in
set_option maxHeartbeats 8000000 in
theorem prunes_walk (z0 : List Six) (a0 : Option Addr) (len0 cap0 : Nat) (a1 a2 : Int) (w : World) (g0 : RA sixCells 6 w w.heap.size a0 len0 cap0 z0) (o0 : ∀ x ∈ z0, x.ok) (g1 : I64ok a1) (g2 : I64ok a2) :
    Calls Try.prog 6 #[.slice a0 len0 cap0, .int .i64 a1, .int .i64 a2] w fun e w' => e = .returned (.bool true) ∧ Below w.heap.size w w' := by
  have HSANE := Lib.hid (fun W : World => sane_any W)
  have HMADE := Lib.hid (fun (W : World) (hW : Ext w W) => made_ops z0 a0 len0 cap0 W (ra_ext g0 hW) o0)
  have HLOSS := Lib.hid (fun (W : World) => loss_ra a1 W g1)
  have HBLD := Lib.hid (fun (W : World) (os : List Opt) (A : Option Addr) (n c : Nat) ho h => build_made z0 os A n c W ho h)
  have HFOL := Lib.hid (fun (W : World) (os : List Opt) (A TA LA : Option Addr) (n c tn tc ln lc : Nat) ho h hT hL => fol_made2 z0 a1 os A TA LA n c tn tc ln lc W ho h hT hL)
  have hak := made_acks z0 a1
  have hslt := made_slots z0 a1
  have hnone := made_none z0
  have htl := made_len z0
  have hleft := made_left z0 a1
  clear g0 o0 g1
  generalize lossP a1 = lost at HLOSS HFOL hak hslt hleft
  generalize runP (qP (madeP z0) lost) (srt (madeP z0)) 0 = acks at HFOL hak hslt hleft
  generalize (treeP (madeP z0)).1 = T at HBLD HFOL hnone htl hleft
  generalize (treeP (madeP z0)).2 = st at HBLD HFOL hnone hleft
  generalize madeP z0 = l at HMADE HBLD HFOL hnone hleft
  obtain ⟨m, hm⟩ : ∃ m, m = acks.length := ⟨_, rfl⟩
  have pk := fun W => pickl_any a2 ((m : Int) + 1) W g2.1 g2.2 (by omega) (by rw [hm]; omega)
  have hpb := pickP_bd a2 ((m : Int) + 1) (by omega)
  obtain ⟨K, hKp⟩ : ∃ K : Nat, pickP a2 ((m : Int) + 1) = (K : Int) := ⟨(pickP a2 ((m : Int) + 1)).toNat, by omega⟩
  rw [hKp] at pk hpb
  have hKm : K ≤ m := by omega
  obtain ⟨P, kp, hLF⟩ := hleft K (by rw [← hm]; exact hKm)
  have hpl := hLF.len
  obtain ⟨pn, hpn⟩ : ∃ n, n = P.length := ⟨_, rfl⟩
  have HPN := Lib.hid hpn
  rw [← hpn] at hpl
  have HLF := Lib.hid hLF
  have PK := Lib.hid pk
  have HSLT := Lib.hid hslt
  have HNONE := Lib.hid hnone
  rw [← hm] at hak HFOL
  have HM := Lib.hid hm
  clear hslt hnone hleft hLF pk hKp hpb hm hpn g2
  go_enter Try.func6, Try.ntmps6
  go_wp2_with fail
  refine (HSANE.out _).mono ?_
  rintro e W1 ⟨rfl, hx1⟩
  go_wp2_with fail
  refine (HMADE.out W1 hx1).mono ?_
  rintro e W2 ⟨A, c, os, hos, rfl, hops, hy⟩
  have hx2 := Ext.trans hx1 hy
  have HOPS := Lib.hid hops
  clear hx1 hy hops HMADE HSANE
  go_wp2_with fail
  refine (HLOSS.out W2).mono ?_
  rintro e W3 ⟨LA, lc, rfl, hl, hy⟩
  have hx3 := Ext.trans hx2 hy
  have HOPS := Lib.hid (HOPS.out.ext hy)
  have HL := Lib.hid hl
  clear hx2 hy hl HLOSS
  go_wp2_with fail
  refine (HBLD.out W3 os A _ c hos HOPS.out).mono ?_
  rintro e W4 ⟨TA, tc, rfl, hT, hy⟩
  have hx4 := Ext.trans hx3 hy
  have HOPS := Lib.hid (HOPS.out.ext hy)
  have HL := Lib.hid (ra_ext HL.out hy)
  have HT := Lib.hid hT
  clear hx3 hy hT HBLD
  have hxa : Ext W4 (W4.alloc (.cells #[.int .i64 st, .slice TA T.length tc] 33)) := bl_alloc (Below.refl _ _) _
  have J := Blk.new W4 33 #[.int .i64 st, .slice TA T.length tc]
  go_upto_region 7 with (fail)
  generalize W4.heap.size = gT at J ⊢
  generalize W4.alloc (.cells #[.int .i64 st, .slice TA T.length tc] 33) = W5 at hxa J ⊢
  have hx5 := Ext.trans hx4 hxa
  have HOPS := Lib.hid (HOPS.out.ext hxa)
  have HL := Lib.hid (ra_ext HL.out hxa)
  have HT := Lib.hid (ra_ext HT.out hxa)
  have HJ := Lib.hid J
  clear hx4 hxa J
  have t0 : W5.cell? ⟨gT, 0, none⟩ = some (.int .i64 st) := HJ.out.cell 0
  have t1 : W5.cell? ⟨gT, 1, none⟩ = some (.slice TA T.length tc) := HJ.out.cell 1
  go_wp2_with fail
  refine (HFOL.out W5 os A TA LA _ c _ tc _ lc hos HOPS.out HT.out HL.out).mono ?_
  rintro e W6 ⟨QA, qc, rfl, hq, hqn, hy⟩
  have hx6 := Ext.trans hx5 hy
  have HOPS := Lib.hid (HOPS.out.ext hy)
  have HL := Lib.hid (ra_ext HL.out hy)
  have HT := Lib.hid (ra_ext HT.out hy)
  have HJ := Lib.hid (HJ.out.ext hy)
  have hqcap := hq.cap
  have hqm := hq.capM
  have HQ := Lib.hid hq
  have HQN := Lib.hid hqn
  clear hx5 hy hq hqn HFOL t0 t1
  obtain ⟨n, hn⟩ : ∃ n, n = os.length := ⟨_, rfl⟩
  obtain ⟨ln, hln⟩ : ∃ n, n = lost.length := ⟨_, rfl⟩
  obtain ⟨tn, htn⟩ : ∃ n, n = T.length := ⟨_, rfl⟩
  rw [← hn] at HOPS ⊢
  rw [← hln] at HL ⊢
  rw [← htn] at HT HJ hpl htl ⊢
  have HOS := Lib.hid hos
  have HTN := Lib.hid htn
  clear hn hln hos htn
  have t0 : W6.cell? ⟨gT, 0, none⟩ = some (.int .i64 st) := HJ.out.cell 0
  have t1 : W6.cell? ⟨gT, 1, none⟩ = some (.slice TA tn tc) := HJ.out.cell 1
  go_wp2_with fail
  refine (PK.out _).mono ?_
  rintro e w1 ⟨rfl, rfl⟩
  have HPR : Hid (∀ W, Ext W6 W → Calls Try.prog 28 #[.agg #[.int .i64 st, .slice TA tn tc], .slice A n c, .slice QA K qc] W fun e w' => ∃ A c, e = .returned (.tuple #[.agg #[.int .i64 kp, .slice A pn c], .int .i64 0]) ∧ w'.ownsRow W.heap.size 30 5 (.slice A pn c) pn (P.flatMap brnCells) ∧ Ext W w') := Lib.hid (fun W hx => by
    have h := prune_o T st P kp (acks.take K) os A TA QA n c tn tc K qc W HOS.out (HOPS.out.ext hx) (ra_ext HT.out hx) ((ra_ext HQ.out hx).cut ack_len K hKm) HLF.out.prn
    rw [← HPN.out] at h
    exact h)
  clear PK
  have hkq : K ≤ qc := Nat.le_trans hKm hqcap
  go_upto_region 11 with (fail)
  refine wp_region_late 10 8 (fun ix vals v w1 => match ix with | 0 => v = .agg #[.int .i64 st, .slice TA tn tc] | 1 => v = .slice A n c | 2 => v = .slice QA m qc | 3 => v = .int .i64 (K : Int) | 4 => v = .slice QA K qc | 5 => ∃ A c, v = .tuple #[.agg #[.int .i64 kp, .slice A pn c], .int .i64 0] ∧ w1.ownsRow W6.heap.size 30 5 (.slice A pn c) pn (P.flatMap brnCells) | 6 => ∃ A c, v = .tuple #[.agg #[.int .i64 kp, .slice A pn c], .int .i64 0] ∧ w1.ownsRow W6.heap.size 30 5 (.slice A pn c) pn (P.flatMap brnCells) | 7 => ∃ A c, v = .agg #[.int .i64 kp, .slice A pn c] ∧ w1.ownsRow W6.heap.size 30 5 (.slice A pn c) pn (P.flatMap brnCells) | 8 => v = .int .i64 0 | _ => ∃ g, v = .pointer (some ⟨g, 0, none⟩) ∧ Blk w1 g 33 #[.int .i64 0, .slice none 0 0] ∧ W6.heap.size ≤ g) (fun _ _ => none) (by kernel_rfl) (by kernel_rfl) (by kernel_rfl) (by kernel_rfl) _ rfl ?_ ?_ ?_ ?_ ?_
  · intro ix vals v w1 hi hr k hk
    match ix, hr, hk with
    | 0, _, hk => cases hk
    | 1, _, hk => cases hk
    | 2, _, hk => cases hk
    | 3, _, hk => cases hk
    | 4, _, hk => cases hk
    | 5, _, hk => cases hk
    | 6, _, hk => cases hk
    | 7, _, hk => cases hk
    | 8, _, hk => cases hk
    | (kx + 9), _, hk => cases hk
  · intro ix vals v w1 w2 hi hr hx
    match ix, hr with
    | 0, hr => exact hr
    | 1, hr => exact hr
    | 2, hr => exact hr
    | 3, hr => exact hr
    | 4, hr => exact hr
    | 5, hr => obtain ⟨A, c, h1, h2⟩ := hr; exact ⟨A, c, h1, own_ext h2 hx⟩
    | 6, hr => obtain ⟨A, c, h1, h2⟩ := hr; exact ⟨A, c, h1, own_ext h2 hx⟩
    | 7, hr => obtain ⟨A, c, h1, h2⟩ := hr; exact ⟨A, c, h1, own_ext h2 hx⟩
    | 8, hr => exact hr
    | (kx + 9), hr => obtain ⟨g, h1, h2, h3⟩ := hr; exact ⟨g, h1, h2.ext hx, h3⟩
  · intro ix vals vals_ v w1 hi hv hr
    exact hr
  · refine ⟨?_, ?_, ?_, ?_, ?_, ?_, ?_, ?_, ?_, ?_, trivial⟩
    · intro vals w1 hx hd ha
      refine plain1 (fun _ => rfl) ?_
      clear hd ha
      simp only [Lf]
      have t0 := ext_cell hx t0; have t1 := ext_cell hx t1
      go_wp2
      exact ⟨rfl, Ext.refl _, rfl⟩
    · intro vals w1 hx hd ha
      refine plain1 (fun _ => rfl) ?_
      clear hd ha
      simp only [Lf, dstAt, Act.put, List.getElem?_toArray, List.getElem?_cons_zero, Option.bind_some, List.setIfInBounds_toArray, List.set_cons_zero, List.set_cons_succ]
      go_wp2
      exact ⟨rfl, Ext.refl _, rfl⟩
    · intro vals w1 hx hd ha
      refine plain1 (fun _ => rfl) ?_
      clear hd ha
      simp only [Lf, dstAt, Act.put, List.getElem?_toArray, List.getElem?_cons_zero, List.getElem?_cons_succ, Option.bind_some, List.setIfInBounds_toArray, List.set_cons_zero, List.set_cons_succ]
      go_wp2
      exact ⟨rfl, Ext.refl _, rfl⟩
    · intro vals w1 hx hd ha
      refine plain1 (fun _ => rfl) ?_
      clear hd ha
      simp only [Lf, dstAt, Act.put, List.getElem?_toArray, List.getElem?_cons_zero, List.getElem?_cons_succ, Option.bind_some, List.setIfInBounds_toArray, List.set_cons_zero, List.set_cons_succ]
      go_wp2
      exact ⟨rfl, Ext.refl _, rfl⟩
    · intro vals w1 hx hd ha
      have e2 : vals 2 = .slice QA m qc := hd 2 (by decide)
      have e3 : vals 3 = .int .i64 (K : Int) := hd 3 (by decide)
      refine plain1 (fun _ => rfl) ?_
      clear hd ha
      simp only [Lf, dstAt, Act.put, List.getElem?_toArray, List.getElem?_cons_zero, List.getElem?_cons_succ, Option.bind_some, List.setIfInBounds_toArray, List.set_cons_zero, List.set_cons_succ]
      simp only [e2]
      simp only [e3]
      clear e2 e3
      rcases QA with _ | ⟨bx, ox, sp⟩
      · have h0 := HQN.out rfl; have h1 : K = 0 := (by omega); have h2 : qc = 0 := h0.2; subst h1 h2; go_wp2; exact ⟨rfl, Ext.refl _, rfl⟩
      · go_wp2; exact ⟨rfl, Ext.refl _, rfl⟩
    · intro vals w1 hx hd ha
      have e0 : vals 0 = .agg #[.int .i64 st, .slice TA tn tc] := hd 0 (by decide)
      have e1 : vals 1 = .slice A n c := hd 1 (by decide)
      have e4 : vals 4 = .slice QA K qc := hd 4 (by decide)
      refine plain1 (fun _ => rfl) ?_
      clear hd ha
      simp only [Lf, dstAt, Act.put, List.getElem?_toArray, List.getElem?_cons_zero, List.getElem?_cons_succ, Option.bind_some, List.setIfInBounds_toArray, List.set_cons_zero, List.set_cons_succ]
      simp only [e0]
      simp only [e1]
      simp only [e4]
      clear e0 e1 e4
      have hz := Below.size hx.undrew
      go_wp2_with fail
      refine (HPR.out w1 hx.undrew).mono ?_
      rintro e w2 ⟨A, c, rfl, hown, hb2⟩
      have hown := Lib.hid (own_base hown hz)
      go_wp2
      exact ⟨rfl, hb2, A, c, rfl, hown.out⟩
    · intro vals w1 hx hd ha
      have r5 : (fun v w1 => ∃ A c, v = .tuple #[.agg #[.int .i64 kp, .slice A pn c], .int .i64 0] ∧ w1.ownsRow W6.heap.size 30 5 (.slice A pn c) pn (P.flatMap brnCells)) (vals 5) w1 := hd 5 (by decide)
      dsimp only at r5
      refine plain1 (fun _ => rfl) ?_
      clear hd ha
      simp only [Lf, dstAt, Act.put, List.getElem?_toArray, List.getElem?_cons_zero, List.getElem?_cons_succ, Option.bind_some, List.setIfInBounds_toArray, List.set_cons_zero, List.set_cons_succ]
      obtain ⟨A, c, e_5, hown⟩ := r5
      rw [e_5]
      have hown := Lib.hid hown
      go_wp2
      exact ⟨rfl, Ext.refl _, A, c, rfl, hown.out⟩
    · intro vals w1 hx hd ha
      have r6 : (fun v w1 => ∃ A c, v = .tuple #[.agg #[.int .i64 kp, .slice A pn c], .int .i64 0] ∧ w1.ownsRow W6.heap.size 30 5 (.slice A pn c) pn (P.flatMap brnCells)) (vals 6) w1 := hd 6 (by decide)
      dsimp only at r6
      refine plain1 (fun _ => rfl) ?_
      clear hd ha
      simp only [Lf, dstAt, Act.put, List.getElem?_toArray, List.getElem?_cons_zero, List.getElem?_cons_succ, Option.bind_some, List.setIfInBounds_toArray, List.set_cons_zero, List.set_cons_succ]
      obtain ⟨A, c, e_6, hown⟩ := r6
      rw [e_6]
      have hown := Lib.hid hown
      go_wp2
      exact ⟨rfl, Ext.refl _, A, c, rfl, hown.out⟩
    · intro vals w1 hx hd ha
      have r6 : (fun v w1 => ∃ A c, v = .tuple #[.agg #[.int .i64 kp, .slice A pn c], .int .i64 0] ∧ w1.ownsRow W6.heap.size 30 5 (.slice A pn c) pn (P.flatMap brnCells)) (vals 6) w1 := hd 6 (by decide)
      dsimp only at r6
      refine plain1 (fun _ => rfl) ?_
      clear hd ha
      simp only [Lf, dstAt, Act.put, List.getElem?_toArray, List.getElem?_cons_zero, List.getElem?_cons_succ, Option.bind_some, List.setIfInBounds_toArray, List.set_cons_zero, List.set_cons_succ]
      obtain ⟨A, c, e_6, hown⟩ := r6
      rw [e_6]
      clear hown
      go_wp2
      exact ⟨rfl, Ext.refl _, rfl⟩
    · intro vals w1 hx hd ha
      refine plain1 (fun _ => rfl) ?_
      clear hd ha
      simp only [Lf, dstAt, Act.put, List.getElem?_toArray, List.getElem?_cons_zero, List.getElem?_cons_succ, Option.bind_some, List.setIfInBounds_toArray, List.set_cons_zero, List.set_cons_succ]
      have hz9 := Below.size hx.undrew
      go_wp2
      exact ⟨rfl, (by repeat (first | exact Below.refl _ _ | assumption | refine Below.drew ?_ | refine below_drewN ?_ _ | refine bl_alloc ?_ _ | refine Below.setCell ?_ (by first | (simp; done) | omega | (simp; omega)) _ | refine bl_then ?_ (by assumption))), _, rfl, Blk.new _ _ _, hz9⟩
  intro vals W7 hy hf _
  obtain ⟨PA, pc, v7, hop⟩ : ∃ A c, vals 7 = .agg #[.int .i64 kp, .slice A pn c] ∧ W7.ownsRow W6.heap.size 30 5 (.slice A pn c) pn (P.flatMap brnCells) := hf 7 (by omega)
  have v8 : vals 8 = .int .i64 0 := hf 8 (by omega)
  obtain ⟨gP, v9, jf, hgP⟩ : ∃ g, vals 9 = .pointer (some ⟨g, 0, none⟩) ∧ Blk W7 g 33 #[.int .i64 0, .slice none 0 0] ∧ W6.heap.size ≤ g := hf 9 (by omega)
  have hy := hy.undrew
  have hone := (One.refl gP W7).row #[.int .i64 kp, .slice PA pn pc]
  have hxr := hone.ext hy hgP
  have hop8 := hone.own hop jf (by decide)
  have jr := jf.row #[.int .i64 kp, .slice PA pn pc]
  have HJF := Lib.hid jf
  clear hf hy jf hone hop t0 t1 HPR
  simp only [Lf, dstAt, Act.put, List.getElem?_toArray, List.getElem?_cons_zero, List.getElem?_cons_succ, Option.bind_some, List.setIfInBounds_toArray, List.set_cons_zero, List.set_cons_succ]
  rw [v7, v8, v9]
  clear v7 v8 v9
  refine wpList_store_row rfl _ _ _ rfl gP #[.int .i64 kp, .slice PA pn pc] rfl rfl 33 _ HJF.out tre_size rfl (by simp [Value.oneCell']) ?_
  go_wp2_with fail
  refine Qn_of ?_
  refine tail1 11 _ (by kernel_rfl) (by kernel_rfl) rfl ?_
  generalize W7.setRow gP #[.int .i64 kp, .slice PA pn pc] = W8 at hxr hop8 jr ⊢
  have hx8 := Ext.trans hx6 hxr
  have HOPS := Lib.hid (HOPS.out.ext hxr)
  have HL := Lib.hid (ra_ext HL.out hxr)
  have HT := Lib.hid (ra_ext HT.out hxr)
  have HQ := Lib.hid (ra_ext HQ.out hxr)
  have HJ := Lib.hid (HJ.out.ext hxr)
  have HJP := Lib.hid jr
  have HP : Hid (RA brnCells 5 W8 W8.heap.size PA pn pc P) := Lib.hid (RA.of_own2 hop8 HPN.out.symm)
  clear HJF jr hop8 hxr hx6
  have p0 : W8.cell? ⟨gP, 0, none⟩ = some (.int .i64 kp) := HJP.out.cell 0
  have p1 : W8.cell? ⟨gP, 1, none⟩ = some (.slice PA pn pc) := HJP.out.cell 1
  go_wp2_with fail
  refine (valid_l P kp os A PA n c pn pc W8 HOS.out HOPS.out HP.out HLF.out.valid).mono ?_
  rintro e W9 ⟨rfl, hy⟩
  have hx9 := Ext.trans hx8 hy
  have HOPS := Lib.hid (HOPS.out.ext hy)
  have HL := Lib.hid (ra_ext HL.out hy)
  have HT := Lib.hid (ra_ext HT.out hy)
  have HQ := Lib.hid (ra_ext HQ.out hy)
  have HJ := Lib.hid (HJ.out.ext hy)
  have HJP := Lib.hid (HJP.out.ext hy)
  have HP := Lib.hid (ra_ext HP.out hy)
  clear hx8 hy p0 p1
  have p0 : W9.cell? ⟨gP, 0, none⟩ = some (.int .i64 kp) := HJP.out.cell 0
  have p1 : W9.cell? ⟨gP, 1, none⟩ = some (.slice PA pn pc) := HJP.out.cell 1
  go_wp2_with fail
  refine (fol_l P kp lost (acks.drop K) os A PA LA n c pn pc ln lc W9 HOS.out HOPS.out HP.out HL.out HLF.out.fol).mono ?_
  rintro e W10 ⟨RA_, rc, rfl, hr, hy⟩
  obtain ⟨rn, hrn⟩ : ∃ r, r = (acks.drop K).length := ⟨_, rfl⟩
  rw [← hrn] at hr ⊢
  have HRM : Hid (rn = m - K) := Lib.hid (by rw [hrn, List.length_drop, HM.out])
  have hx10 := Ext.trans hx9 hy
  have HOPS := Lib.hid (HOPS.out.ext hy)
  have HL := Lib.hid (ra_ext HL.out hy)
  have HT := Lib.hid (ra_ext HT.out hy)
  have HQ := Lib.hid (ra_ext HQ.out hy)
  have HJ := Lib.hid (HJ.out.ext hy)
  have HJP := Lib.hid (HJP.out.ext hy)
  have HP := Lib.hid (ra_ext HP.out hy)
  have HRR := Lib.hid hr
  clear hx9 hy hr p0 p1 hrn
  have t0 : W10.cell? ⟨gT, 0, none⟩ = some (.int .i64 st) := HJ.out.cell 0
  have t1 : W10.cell? ⟨gT, 1, none⟩ = some (.slice TA tn tc) := HJ.out.cell 1
  go_wp2_with fail
  refine (prune_l T st T st [] os A TA none n c tn tc 0 0 W10 HOS.out HOPS.out HT.out ra_nil HNONE.out).mono ?_
  rintro e W11 ⟨NA, nc, rfl, hnr, hy⟩
  rw [← HTN.out] at hnr ⊢
  have hx11 := Ext.trans hx10 hy
  have HOPS := Lib.hid (HOPS.out.ext hy)
  have HL := Lib.hid (ra_ext HL.out hy)
  have HT := Lib.hid (ra_ext HT.out hy)
  have HQ := Lib.hid (ra_ext HQ.out hy)
  have HJ := Lib.hid (HJ.out.ext hy)
  have HJP := Lib.hid (HJP.out.ext hy)
  have HP := Lib.hid (ra_ext HP.out hy)
  have HRR := Lib.hid (ra_ext HRR.out hy)
  have HNR := Lib.hid hnr
  clear hx10 hy hnr t0 t1
  have hxa : Ext W11 (W11.alloc (.cells #[.int .i64 st, .slice NA tn nc] 33)) := bl_alloc (Below.refl _ _) _
  have JN := Blk.new W11 33 #[.int .i64 st, .slice NA tn nc]
  go_upto_region 16 with (fail)
  generalize W11.heap.size = gN at JN ⊢
  generalize W11.alloc (.cells #[.int .i64 st, .slice NA tn nc] 33) = W12 at hxa JN ⊢
  have hx12 := Ext.trans hx11 hxa
  have HOPS := Lib.hid (HOPS.out.ext hxa)
  have HL := Lib.hid (ra_ext HL.out hxa)
  have HT := Lib.hid (ra_ext HT.out hxa)
  have HQ := Lib.hid (ra_ext HQ.out hxa)
  have HJ := Lib.hid (HJ.out.ext hxa)
  have HJP := Lib.hid (HJP.out.ext hxa)
  have HP := Lib.hid (ra_ext HP.out hxa)
  have HRR := Lib.hid (ra_ext HRR.out hxa)
  have HNR := Lib.hid (ra_ext HNR.out hxa)
  clear hx11 hxa
  have t0 : W12.cell? ⟨gT, 0, none⟩ = some (.int .i64 st) := HJ.out.cell 0
  have t1 : W12.cell? ⟨gT, 1, none⟩ = some (.slice TA tn tc) := HJ.out.cell 1
  have p0 : W12.cell? ⟨gP, 0, none⟩ = some (.int .i64 kp) := HJP.out.cell 0
  have p1 : W12.cell? ⟨gP, 1, none⟩ = some (.slice PA pn pc) := HJP.out.cell 1
  have n0 : W12.cell? ⟨gN, 0, none⟩ = some (.int .i64 st) := JN.cell 0
  have n1 : W12.cell? ⟨gN, 1, none⟩ = some (.slice NA tn nc) := JN.cell 1
  have HSA : Hid (∀ (W : World) (A : Option Addr) (c : Nat), Ext W12 W → RA ackCells 3 W W.heap.size A rn c (acks.drop K) → Calls Try.prog 27 #[.slice RA_ rn rc, .slice A rn c] W fun e w' => e = .returned (.bool true) ∧ Ext W w') := Lib.hid (fun W A c hx h => by
    have h := rsameA_any RA_ A rn rn rc c (acks.drop K) (acks.drop K) W (ra_ext HRR.out hx) h
    rw [decide_eq_true rfl] at h
    exact h)
  have HTS : Hid (∀ W, Ext W12 W → Calls Try.prog 20 #[.agg #[.int .i64 st, .slice NA tn nc], .agg #[.int .i64 st, .slice TA tn tc]] W fun e w' => e = .returned (.bool true) ∧ Ext W w') := Lib.hid (fun W hx => by
    have h := same_any st st NA TA tn tn nc tc T T W (ra_ext HNR.out hx) (ra_ext HT.out hx)
    rw [decide_eq_true ⟨rfl, rfl⟩] at h
    exact h)
  have HQC : Hid (∀ W, Ext W12 W → RA ackCells 3 W W.heap.size (if qc = K then QA else QA.map (·.add (K * 3))) (m - K) (qc - K) (acks.drop K)) := Lib.hid (fun W hx => (ra_ext HQ.out hx).tail ack_len K hKm)
  rw [← HRM.out] at HQC
  have hnil := HQN.out
  refine wp_region_obl 27 (fun ix vals v w1 => match ix with | 0 => v = .int .i64 0 | 1 => v = .bool false | 2 => v = .bool false | 3 => v = .int .i64 0 | 4 => v = .bool false | 5 => v = .bool false | 6 => v = .bool false | 7 => v = .slice RA_ rn rc | 8 => v = .slice QA m qc | 9 => v = .int .i64 (K : Int) | 10 => ∃ A c, v = .slice A rn c ∧ RA ackCells 3 w1 w1.heap.size A rn c (acks.drop K) | 11 => v = .bool true | 12 => v = .bool false | 13 => v = .bool false | 14 => v = .bool false | 15 => v = .agg #[.int .i64 st, .slice NA tn nc] | 16 => v = .agg #[.int .i64 st, .slice TA tn tc] | 17 => v = .bool true | 18 => v = .bool false | 19 => v = .bool false | 20 => v = .bool false | 21 => v = .agg #[.int .i64 kp, .slice PA pn pc] | 22 => v = .int .i64 (6 * pn : Nat) | 23 => v = .agg #[.int .i64 st, .slice TA tn tc] | 24 => v = .int .i64 (6 * tn : Nat) | 25 => v = .bool false | _ => v = .bool false) (by kernel_rfl) (by kernel_rfl) ?_ ?_ ?_ ?_
  · intro ix vals v w1 w2 hi hr hx
    match ix, hr with
    | 0, hr => exact hr
    | 1, hr => exact hr
    | 2, hr => exact hr
    | 3, hr => exact hr
    | 4, hr => exact hr
    | 5, hr => exact hr
    | 6, hr => exact hr
    | 7, hr => exact hr
    | 8, hr => exact hr
    | 9, hr => exact hr
    | 10, hr => obtain ⟨A, c, h1, h2⟩ := hr; exact ⟨A, c, h1, ra_ext h2 hx⟩
    | 11, hr => exact hr
    | 12, hr => exact hr
    | 13, hr => exact hr
    | 14, hr => exact hr
    | 15, hr => exact hr
    | 16, hr => exact hr
    | 17, hr => exact hr
    | 18, hr => exact hr
    | 19, hr => exact hr
    | 20, hr => exact hr
    | 21, hr => exact hr
    | 22, hr => exact hr
    | 23, hr => exact hr
    | 24, hr => exact hr
    | 25, hr => exact hr
    | (kx + 26), hr => exact hr
  · intro ix vals vals_ v w1 hi hv hr
    exact hr
  · refine obls_ofT [some 84, some 85, some 86, some 87, some 88, some 89, some 90, some 91, some 92, some 93, some 94, some 95, some 96, some 97, some 98, some 99, some 100, some 101, some 102, some 103, some 104, some 105, some 106, some 107, some 108, some 109, some 110] [(18, .int .i64 0), (20, .int .i64 0), (17, .slice RA_ rn rc), (12, .slice QA m qc), (14, .int .i64 (K : Int)), (19, .pointer (some ⟨gN, 0, none⟩)), (10, .pointer (some ⟨gT, 0, none⟩)), (15, .pointer (some ⟨gP, 0, none⟩))] 155 (by kernel_rfl) (by kernel_rfl) ⟨by kernel_rfl, by kernel_rfl, by kernel_rfl, by kernel_rfl, by kernel_rfl, by kernel_rfl, by kernel_rfl, by kernel_rfl, trivial⟩ ?_
    refine ⟨?_, ?_, ?_, ?_, ?_, ?_, ?_, ?_, ?_, ?_, ?_, ?_, ?_, ?_, ?_, ?_, ?_, ?_, ?_, ?_, ?_, ?_, ?_, ?_, ?_, ?_, ?_, trivial⟩
    · intro vals w1 hx hd
      refine .r [(18, .int .i64 0)] (Op.move (Operand.const (.int .i64 0))) 41 84 ⟨.out (by kernel_rfl) (by kernel_rfl), trivial⟩ ?_
      clear hd
      go_wp2
      exact ⟨rfl, Ext.refl _, rfl⟩
    · intro vals w1 hx hd
      refine .r [(84, .int .i64 0)] (Op.binOp BinOp.neq 41 (Operand.const (.int .i64 0)) (Operand.const (Value.int IntKind.i64 0)) 41) 4 85 ⟨.inn 0 (by kernel_rfl) (hd 0 (by decide)), trivial⟩ ?_
      clear hd
      go_wp2
      exact ⟨rfl, Ext.refl _, rfl⟩
    · intro vals w1 hx hd
      refine .r [(85, .bool false)] (Op.move (Operand.const (.bool false))) 4 86 ⟨.inn 1 (by kernel_rfl) (hd 1 (by decide)), trivial⟩ ?_
      clear hd
      go_wp2
      exact ⟨rfl, Ext.refl _, rfl⟩
    · intro vals w1 hx hd
      refine .r [(20, .int .i64 0), (86, .bool false)] (Op.move (Operand.const (.int .i64 0))) 41 87 ⟨.out (by kernel_rfl) (by kernel_rfl), .inn 2 (by kernel_rfl) (hd 2 (by decide)), trivial⟩ ?_
      clear hd
      go_wp2
      exact ⟨rfl, Ext.refl _, rfl⟩
    · intro vals w1 hx hd
      refine .r [(87, .int .i64 0), (86, .bool false)] (Op.binOp BinOp.neq 41 (Operand.const (.int .i64 0)) (Operand.const (Value.int IntKind.i64 0)) 41) 4 88 ⟨.inn 3 (by kernel_rfl) (hd 3 (by decide)), .inn 2 (by kernel_rfl) (hd 2 (by decide)), trivial⟩ ?_
      clear hd
      go_wp2
      exact ⟨rfl, Ext.refl _, rfl⟩
    · intro vals w1 hx hd
      refine .r [(86, .bool false), (88, .bool false)] (Op.pick (Operand.const (.bool false)) (Operand.const (Value.bool true)) (Operand.const (.bool false))) 4 89 ⟨.inn 2 (by kernel_rfl) (hd 2 (by decide)), .inn 4 (by kernel_rfl) (hd 4 (by decide)), trivial⟩ ?_
      clear hd
      go_wp2
      exact ⟨rfl, Ext.refl _, rfl⟩
    · intro vals w1 hx hd
      refine .r [(89, .bool false)] (Op.move (Operand.const (.bool false))) 4 90 ⟨.inn 5 (by kernel_rfl) (hd 5 (by decide)), trivial⟩ ?_
      clear hd
      go_wp2
      exact ⟨rfl, Ext.refl _, rfl⟩
    · intro vals w1 hx hd
      refine .r [(17, .slice RA_ rn rc), (90, .bool false)] (Op.move (Operand.const (.slice RA_ rn rc))) 35 91 ⟨.out (by kernel_rfl) (by kernel_rfl), .inn 6 (by kernel_rfl) (hd 6 (by decide)), trivial⟩ ?_
      clear hd
      go_wp2
      exact ⟨rfl, Ext.refl _, rfl⟩
    · intro vals w1 hx hd
      refine .r [(12, .slice QA m qc), (90, .bool false)] (Op.move (Operand.const (.slice QA m qc))) 35 92 ⟨.out (by kernel_rfl) (by kernel_rfl), .inn 6 (by kernel_rfl) (hd 6 (by decide)), trivial⟩ ?_
      clear hd
      go_wp2
      exact ⟨rfl, Ext.refl _, rfl⟩
    · intro vals w1 hx hd
      refine .r [(14, .int .i64 (K : Int)), (90, .bool false)] (Op.move (Operand.const (.int .i64 (K : Int)))) 3 93 ⟨.out (by kernel_rfl) (by kernel_rfl), .inn 6 (by kernel_rfl) (hd 6 (by decide)), trivial⟩ ?_
      clear hd
      go_wp2
      exact ⟨rfl, Ext.refl _, rfl⟩
    · intro vals w1 hx hd
      refine .r [(92, .slice QA m qc), (93, .int .i64 (K : Int)), (90, .bool false)] (Op.slice 35 (Operand.const (.slice QA m qc)) (some (Operand.const (.int .i64 (K : Int)))) none none) 35 94 ⟨.inn 8 (by kernel_rfl) (hd 8 (by decide)), .inn 9 (by kernel_rfl) (hd 9 (by decide)), .inn 6 (by kernel_rfl) (hd 6 (by decide)), trivial⟩ ?_
      clear hd
      have hq := Lib.hid (HQC.out w1 hx.undrew)
      have hrm := HRM.out
      subst hrm
      rcases QA with _ | ⟨bx, ox, sp⟩
      · have h0 := hnil rfl; have h1 : K = 0 := (by omega); have h2 : qc = 0 := h0.2; have h3 : m = 0 := h0.1; subst h1 h2 h3; go_wp2; exact ⟨rfl, Ext.refl _, none, 0, rfl, by simpa using hq.out⟩
      by_cases hck : qc = K
      · rw [if_pos hck, show qc - K = 0 by omega] at hq; go_wp2; exact ⟨rfl, Ext.refl _, _, _, rfl, hq.out⟩
      · rw [if_neg hck] at hq; go_wp2; exact ⟨rfl, Ext.refl _, _, _, rfl, by first | exact hq.out | simpa using hq.out⟩
    · intro vals w1 hx hd
      have r10 : (fun v w1 => ∃ A c, v = .slice A rn c ∧ RA ackCells 3 w1 w1.heap.size A rn c (acks.drop K)) (vals 10) w1 := hd 10 (by decide)
      dsimp only at r10
      obtain ⟨A10, c10, e_10, h10⟩ := r10
      refine .r [(91, .slice RA_ rn rc), (94, .slice A10 rn c10), (90, .bool false)] (Op.call { callee := Callee.value (Operand.func 27), args := #[(Operand.const (.slice RA_ rn rc)), (Operand.const (.slice A10 rn c10))], argTypes := #[35, 35] }) 4 95 ⟨.inn 7 (by kernel_rfl) (hd 7 (by decide)), .inn 10 (by kernel_rfl) e_10, .inn 6 (by kernel_rfl) (hd 6 (by decide)), trivial⟩ ?_
      clear hd e_10
      have hca := Lib.hid (HSA.out w1 A10 c10 hx.undrew h10)
      clear h10
      go_wp2_with fail
      refine hca.out.mono ?_
      rintro e w2 ⟨rfl, hb2⟩
      go_wp2
      exact ⟨rfl, hb2, rfl⟩
    · intro vals w1 hx hd
      refine .r [(95, .bool true), (90, .bool false)] (Op.unOp UnOp.not 4 (Operand.const (.bool true))) 4 96 ⟨.inn 11 (by kernel_rfl) (hd 11 (by decide)), .inn 6 (by kernel_rfl) (hd 6 (by decide)), trivial⟩ ?_
      clear hd
      go_wp2
      exact ⟨rfl, Ext.refl _, rfl⟩
    · intro vals w1 hx hd
      refine .r [(90, .bool false), (96, .bool false)] (Op.pick (Operand.const (.bool false)) (Operand.const (Value.bool true)) (Operand.const (.bool false))) 4 97 ⟨.inn 6 (by kernel_rfl) (hd 6 (by decide)), .inn 12 (by kernel_rfl) (hd 12 (by decide)), trivial⟩ ?_
      clear hd
      go_wp2
      exact ⟨rfl, Ext.refl _, rfl⟩
    · intro vals w1 hx hd
      refine .r [(97, .bool false)] (Op.move (Operand.const (.bool false))) 4 98 ⟨.inn 13 (by kernel_rfl) (hd 13 (by decide)), trivial⟩ ?_
      clear hd
      go_wp2
      exact ⟨rfl, Ext.refl _, rfl⟩
    · intro vals w1 hx hd
      refine .r [(19, .pointer (some ⟨gN, 0, none⟩)), (98, .bool false)] (Op.load 33 (Operand.const (.pointer (some ⟨gN, 0, none⟩)))) 33 99 ⟨.out (by kernel_rfl) (by kernel_rfl), .inn 14 (by kernel_rfl) (hd 14 (by decide)), trivial⟩ ?_
      clear hd
      have n0 := ext_cell hx n0; have n1 := ext_cell hx n1
      go_wp2
      exact ⟨rfl, Ext.refl _, rfl⟩
    · intro vals w1 hx hd
      refine .r [(10, .pointer (some ⟨gT, 0, none⟩)), (98, .bool false)] (Op.load 33 (Operand.const (.pointer (some ⟨gT, 0, none⟩)))) 33 100 ⟨.out (by kernel_rfl) (by kernel_rfl), .inn 14 (by kernel_rfl) (hd 14 (by decide)), trivial⟩ ?_
      clear hd
      have t0 := ext_cell hx t0; have t1 := ext_cell hx t1
      go_wp2
      exact ⟨rfl, Ext.refl _, rfl⟩
    · intro vals w1 hx hd
      refine .r [(99, .agg #[.int .i64 st, .slice NA tn nc]), (100, .agg #[.int .i64 st, .slice TA tn tc]), (98, .bool false)] (Op.call { callee := Callee.value (Operand.func 20), args := #[(Operand.const (.agg #[.int .i64 st, .slice NA tn nc])), (Operand.const (.agg #[.int .i64 st, .slice TA tn tc]))], argTypes := #[33, 33] }) 4 101 ⟨.inn 15 (by kernel_rfl) (hd 15 (by decide)), .inn 16 (by kernel_rfl) (hd 16 (by decide)), .inn 14 (by kernel_rfl) (hd 14 (by decide)), trivial⟩ ?_
      clear hd
      go_wp2_with fail
      refine (HTS.out w1 hx.undrew).mono ?_
      rintro e w2 ⟨rfl, hb2⟩
      go_wp2
      exact ⟨rfl, hb2, rfl⟩
    · intro vals w1 hx hd
      refine .r [(101, .bool true), (98, .bool false)] (Op.unOp UnOp.not 4 (Operand.const (.bool true))) 4 102 ⟨.inn 17 (by kernel_rfl) (hd 17 (by decide)), .inn 14 (by kernel_rfl) (hd 14 (by decide)), trivial⟩ ?_
      clear hd
      go_wp2
      exact ⟨rfl, Ext.refl _, rfl⟩
    · intro vals w1 hx hd
      refine .r [(98, .bool false), (102, .bool false)] (Op.pick (Operand.const (.bool false)) (Operand.const (Value.bool true)) (Operand.const (.bool false))) 4 103 ⟨.inn 14 (by kernel_rfl) (hd 14 (by decide)), .inn 18 (by kernel_rfl) (hd 18 (by decide)), trivial⟩ ?_
      clear hd
      go_wp2
      exact ⟨rfl, Ext.refl _, rfl⟩
    · intro vals w1 hx hd
      refine .r [(103, .bool false)] (Op.move (Operand.const (.bool false))) 4 104 ⟨.inn 19 (by kernel_rfl) (hd 19 (by decide)), trivial⟩ ?_
      clear hd
      go_wp2
      exact ⟨rfl, Ext.refl _, rfl⟩
    · intro vals w1 hx hd
      refine .r [(15, .pointer (some ⟨gP, 0, none⟩)), (104, .bool false)] (Op.load 33 (Operand.const (.pointer (some ⟨gP, 0, none⟩)))) 33 105 ⟨.out (by kernel_rfl) (by kernel_rfl), .inn 20 (by kernel_rfl) (hd 20 (by decide)), trivial⟩ ?_
      clear hd
      have p0 := ext_cell hx p0; have p1 := ext_cell hx p1
      go_wp2
      exact ⟨rfl, Ext.refl _, rfl⟩
    · intro vals w1 hx hd
      refine .r [(105, .agg #[.int .i64 kp, .slice PA pn pc]), (104, .bool false)] (Op.call { callee := Callee.value (Operand.func 21), args := #[(Operand.const (.agg #[.int .i64 kp, .slice PA pn pc]))], argTypes := #[33] }) 3 106 ⟨.inn 21 (by kernel_rfl) (hd 21 (by decide)), .inn 20 (by kernel_rfl) (hd 20 (by decide)), trivial⟩ ?_
      clear hd
      go_wp2_with fail
      refine (units_any kp PA pn pc w1 (by omega)).mono ?_
      rintro e w2 ⟨rfl, hb2⟩
      go_wp2
      exact ⟨rfl, hb2, rfl⟩
    · intro vals w1 hx hd
      refine .r [(10, .pointer (some ⟨gT, 0, none⟩)), (104, .bool false)] (Op.load 33 (Operand.const (.pointer (some ⟨gT, 0, none⟩)))) 33 107 ⟨.out (by kernel_rfl) (by kernel_rfl), .inn 20 (by kernel_rfl) (hd 20 (by decide)), trivial⟩ ?_
      clear hd
      have t0 := ext_cell hx t0; have t1 := ext_cell hx t1
      go_wp2
      exact ⟨rfl, Ext.refl _, rfl⟩
    · intro vals w1 hx hd
      refine .r [(107, .agg #[.int .i64 st, .slice TA tn tc]), (104, .bool false)] (Op.call { callee := Callee.value (Operand.func 21), args := #[(Operand.const (.agg #[.int .i64 st, .slice TA tn tc]))], argTypes := #[33] }) 3 108 ⟨.inn 23 (by kernel_rfl) (hd 23 (by decide)), .inn 20 (by kernel_rfl) (hd 20 (by decide)), trivial⟩ ?_
      clear hd
      go_wp2_with fail
      refine (units_any st TA tn tc w1 (by omega)).mono ?_
      rintro e w2 ⟨rfl, hb2⟩
      go_wp2
      exact ⟨rfl, hb2, rfl⟩
    · intro vals w1 hx hd
      refine .r [(106, .int .i64 (6 * pn : Nat)), (108, .int .i64 (6 * tn : Nat)), (104, .bool false)] (Op.binOp BinOp.gtr 3 (Operand.const (.int .i64 (6 * pn : Nat))) (Operand.const (.int .i64 (6 * tn : Nat))) 3) 4 109 ⟨.inn 22 (by kernel_rfl) (hd 22 (by decide)), .inn 24 (by kernel_rfl) (hd 24 (by decide)), .inn 20 (by kernel_rfl) (hd 20 (by decide)), trivial⟩ ?_
      clear hd
      go_wp2
      exact ⟨rfl, Ext.refl _, by show Value.bool _ = Value.bool _; congr 1; exact decide_eq_false (by omega)⟩
    · intro vals w1 hx hd
      refine .r [(104, .bool false), (109, .bool false)] (Op.pick (Operand.const (.bool false)) (Operand.const (Value.bool true)) (Operand.const (.bool false))) 4 110 ⟨.inn 20 (by kernel_rfl) (hd 20 (by decide)), .inn 25 (by kernel_rfl) (hd 25 (by decide)), trivial⟩ ?_
      clear hd
      go_wp2
      exact ⟨rfl, Ext.refl _, rfl⟩
  intro vals W13 hy hf
  have v26 : vals 26 = .bool false := hf 26 (by omega)
  have hy := hy.undrew
  refine tail0 (by kernel_rfl) ?_
  simp only [Lf, dstAt, Act.put, List.getElem?_toArray, List.getElem?_cons_zero, List.getElem?_cons_succ, Option.bind_some, List.setIfInBounds_toArray, List.set_cons_zero, List.set_cons_succ]
  rw [v26]
  clear hf v26 t0 t1 n0 n1 p0 p1 HSA HTS HQC
  have hx13 := Ext.trans hx12 hy
  have HOPS := Lib.hid (HOPS.out.ext hy)
  have HL := Lib.hid (ra_ext HL.out hy)
  have HT := Lib.hid (ra_ext HT.out hy)
  have HQ := Lib.hid (ra_ext HQ.out hy)
  have HJ := Lib.hid (HJ.out.ext hy)
  have HJP := Lib.hid (HJP.out.ext hy)
  have HP := Lib.hid (ra_ext HP.out hy)
  clear hx12 hy
  have p0 : W13.cell? ⟨gP, 0, none⟩ = some (.int .i64 kp) := HJP.out.cell 0
  have p1 : W13.cell? ⟨gP, 1, none⟩ = some (.slice PA pn pc) := HJP.out.cell 1
  have HX13 := Lib.hid hx13
  have HQW := HLF.out.wrong
  have HFIN := HLF.out.fin
  rw [← HM.out] at HFIN
  clear hx13 hnil
  by_cases hkm : K = m
  · obtain ⟨hk1, hk2⟩ := HFIN hkm
    obtain rfl : pn = 0 := by rw [HPN.out, hk2]; rfl
    subst hk1 hkm
    clear HQW HFIN hk2
    go_wp2_with fail
    go_ret
    exact ⟨rfl, HX13.out⟩
  · have hkm2 : K < m := by omega
    have hka : K < acks.length := by rw [← HM.out]; exact hkm2
    have hae : acks[K]? = some acks[K] := List.getElem?_eq_getElem hka
    have hwr := HQW _ hae
    have hsl := HSLT.out _ (List.getElem_mem hka)
    have hput := ack_put hae (acks[K].slot + 1)
    have htk : acks.take (K + 1) = acks.take K ++ [acks[K]] := List.take_succ_eq_append_getElem hka
    generalize acks[K] = a at hwr hsl hput htk hae
    have hkz : ¬ (K : Int) = (m : Int) := by omega
    have hkz2 : (K : Int) + 1 ≤ (qc : Int) := by omega
    obtain ⟨bq, oq, hqa⟩ : ∃ b o, QA = some ⟨b, o, none⟩ := by
      obtain ⟨b, o, _, h, _⟩ := HQ.out.at_ ack_len hkm2
      exact ⟨b, o, h⟩
    subst hqa
    have hxe : Ext W13 (W13.alloc (.cells #[] 60)) := bl_alloc (Below.refl _ _) _
    obtain ⟨i0, hi0, hz0, hz1, hz2⟩ := info_parts info_ackR
    obtain ⟨g, kc, W15, hrun, hxf, hgb, _, hown⟩ := copy_row (P := Try.prog) (by decide) Try.underlying35 hi0 hz0 hz1 hz2 rfl (by decide) 35 (acks.take (K + 1)) _ W13.heap.size (K + 1) qc (some ⟨bq, oq, none⟩) W13.heap.size (Blk.new W13 60 #[]) (Nat.le_refl _) (by omega) ((ra_ext HQ.out hxe).cut ack_len (K + 1) hkm2)
    have HRUN := Lib.hid hrun
    have hx15 := Ext.trans hxe hxf
    have hown2 := hown
    obtain ⟨_, hh⟩ := hown2
    rcases hh with ⟨hh, _⟩ | ⟨g', cap', cur, hh, hgb', hgc, hh1, hh2, hh3, hh4⟩
    · cases hh
    injection hh with hh5 hh6 hh7
    injection hh5 with hh8
    injection hh8 with hh9
    subst hh9 hh7
    clear hh6
    have jb : Blk W15 g 60 cur := hgc
    have hfz := jb.frozen (K * 3 + 1)
    have hF : ((acks.take K).flatMap ackCells).length = K * 3 := by rw [flat_len ack_len, List.length_take, Nat.min_eq_left (by omega)]
    have hcur : cur[K * 3 + 1]? = some (.int .i64 a.slot) := by
      have h1 : (cur.toList.take ((K + 1) * 3))[K * 3 + 1]? = some (.int .i64 a.slot) := by
        rw [hh4, htk, List.flatMap_append, List.getElem?_append_right (by omega), hF, show K * 3 + 1 - K * 3 = 1 by omega]
        rfl
      rw [List.getElem?_take, if_pos (by omega)] at h1
      simpa using h1
    have c1 : W15.cell? ⟨g, K * 3 + 1, none⟩ = some (.int .i64 a.slot) := by rw [jb.cell]; exact hcur
    obtain ⟨hst1, hst2⟩ := World.ownsRow.stored hown (K * 3 + 1) (.int .i64 (a.slot + 1))
    rw [hput] at hst1
    have hx16 : Ext W13 (W15.setCell ⟨g, K * 3 + 1, none⟩ (.int .i64 (a.slot + 1))) := Below.setCell hx15 hgb _
    have HRA := Lib.hid (RA.of_own2 (l := acks.take K ++ [(⟨a.opt, a.slot + 1, a.is_⟩ : Ack)]) hst1 (by rw [List.length_append, List.length_take]; simp; omega))
    have hsb : a.slot + 1 ≤ 6 := by omega
    have hsb0 : 0 ≤ a.slot := hsl.1
    have hwp : IntKind.i64.wrap (a.slot + 1) = a.slot + 1 := IntWalk.i64_in _ (by omega)
    have HWR := Lib.hid hwr
    have HX16 := Lib.hid hx16
    clear hrun hxf hown hst1 hst2 hcur hgc hh1 hh2 hh3 hh4 hgb hgb' hput htk hae hsl jb hx15 hwr hx16 HQW HFIN hka hF HSLT HLF HNONE HQ HP HJP p0 p1 hxe hz1 hz2 hi0 hz0
    go_upto_region 21 with (refine wpList_append_run_ rfl _ _ _ rfl rfl rfl HRUN.out ?_)
    go_upto_region 22 with (fail)
    generalize W15.setCell ⟨g, K * 3 + 1, none⟩ (.int .i64 (a.slot + 1)) = W16 at HRA HX16 ⊢
    have t0 : W16.cell? ⟨gT, 0, none⟩ = some (.int .i64 st) := (HJ.out.ext HX16.out).cell 0
    have t1 : W16.cell? ⟨gT, 1, none⟩ = some (.slice TA tn tc) := (HJ.out.ext HX16.out).cell 1
    clear c1 hfz
    go_wp2_with fail
    refine (prune_no T st _ os A TA (some ⟨g, 0, none⟩) n c tn tc _ _ W16 HOS.out (HOPS.out.ext HX16.out) (ra_ext HT.out HX16.out) HRA.out HWR.out).mono ?_
    rintro e W17 ⟨rfl, hy⟩
    have HXE : Hid (Ext w (W17.alloc (.cells #[.int .i64 0, .slice none 0 0] 33))) := Lib.hid (bl_alloc (Ext.trans HX13.out (Ext.trans HX16.out hy)) _)
    go_wp2_with fail
    go_ret
    exact ⟨rfl, HXE.out⟩
end Go.Proofs.Ytikphbgfcpamgaa
namespace Go.Proofs.Ytikphbgfcpamgaa
open Go.ChangeShapes Go.WideShapes Go.ChangeAt Go.RowKit Go.Deep
set_option linter.unusedVariables false
set_option maxRecDepth 100000 in
theorem treePrunes_lifted (os : Os) (started : os.Started) (H : Type) (enc : TypeId × Value → H) :
    ReturnsInHanded {} Try.checked os 6 .any (Rows.treePrunesSpec.pre6 enc Try.prog Try.f6 Rows.treePrunesRow.domain false) (Rows.treePrunesSpec.post enc Try.prog Try.f6 false true false false) := by
  refine returnsInHanded_of_change (C := Try.checked) ownKn started (by kernel_rfl) Try.func6
    (ChangeSpec.witness6 (enc := enc) (C := Try.checked) false ⟨#[], #[.slice none 0 0, .int .i64 0, .int .i64 0], []⟩ 8 (by kernel_rfl) (by kernel_rfl) (by kernel_rfl) (by kernel_rfl)) ?_
  intro W base args ds gs before hval0 hW hcnd _
  have hval : ∀ (j : Nat) t v, Try.f6.params[j]? = some t → args[j]? = some v → Value.okWide Try.prog W .any base t v := hval0
  have hW' := hW
  obtain ⟨p, q, hA0, hV, rfl, hfz, hnd⟩ := hW
  have hA : DataW.TrodAll enc Try.prog W 0 (fun _ => true) true Try.f6.params.toList args.toList ds p := hA0
  rw [Try.params6] at hA hval
  obtain ⟨v0, vs0, d0, ds0, p0, q0, hargs, rfl, rfl, h0, r0⟩ := trodAll_cons hA
  obtain ⟨v1, vs1, d1, ds1, p1, q1, rfl, rfl, rfl, h1, r1⟩ := trodAll_cons r0
  obtain ⟨v2, vs2, d2, ds2, p2, q2, rfl, rfl, rfl, h2, r2⟩ := trodAll_cons r1
  obtain ⟨rfl, rfl, rfl⟩ := trodAll_nil r2
  obtain rfl : args = #[v0, v1, v2] := by cases args; simp_all
  obtain ⟨rfl, rfl⟩ := trodVars_none hV
  obtain ⟨a0, len0, cap0, rfl⟩ := okWide_slice Try.underlying22 (hval 0 22 v0 rfl rfl)
  have k0 := h0
  obtain ⟨z0, g0, o0⟩ := open_Sixs h0
  have lt0 : ∀ x ∈ p0, x.block < W.heap.size := by obtain ⟨m, hm⟩ := k0; exact DataW.trod_lt m _ _ _ hm
  obtain ⟨a1, rfl, rfl, rfl, w1⟩ := open_int Try.underlying3 (hval 1 3 v1 rfl rfl) h1
  obtain ⟨a2, rfl, rfl, rfl, w2⟩ := open_int Try.underlying3 (hval 2 3 v2 rfl rfl) h2
  clear hA0 hval0
  refine (prunes_walk z0 a0 len0 cap0 a1 a2 W g0 o0 (i64_of_wf w1) (i64_of_wf w2)).mono fun e W' ⟨he, bel⟩ => ?_
  subst he
  exact ⟨_, rfl, _, _, _, [], _, [], hW', trodAll_mk1 (shut_bool Try.underlying4 _), (trodAll_cons_mk (Below.trod laidOut (by kernel_rfl) (of_decide_eq_true (by kernel_rfl)) k0 bel lt0) (trodAll_cons_mk (shut_int Try.underlying3 w1) (trodAll_cons_mk (shut_int Try.underlying3 w2) trodAll_mk0))), rfl, bel.frame _, fun h => by cases h⟩

theorem treePrunes_over : Rows.treePrunesRow.holds Try.pinned (OpenSpec.ofChange Rows.treePrunesSpec) :=
  OpenClaim.holds_of_wide 6 Try.f6 rfl rfl rfl rfl rfl rfl rfl ⟨rfl, rfl, rfl, rfl, rfl⟩ rfl rfl rfl rfl rfl (by kernel_rfl) Try.func6 (by kernel_rfl)
    (of_decide_eq_true (by kernel_rfl)) (by unfold Func.isWrapper; first | (rw [if_pos (by decide +kernel)]; kernel_rfl) | (rw [if_neg (by decide +kernel)]; exact ⟨rfl, rfl⟩))
    (fun os started H enc _ => treePrunes_lifted os started H enc)

theorem treePrunes_proved : Rows.TreePrunesSaid := treePrunes_over
end Go.Proofs.Ytikphbgfcpamgaa
