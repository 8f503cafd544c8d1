/- Inputs that integers determine: options that are carried together. -/
import Derived.Test.YtikphbgfcpamgaaP30
import Derived.Test.YtikphbgfcpamgaaP03
import Derived.Test.YtikphbgfcpamgaaP17
import Derived.ArgAppend
namespace Go.Proofs.Ytikphbgfcpamgaa
open Go.RowKit Go.Shelf

def Tru (w : World) (e : Ending) (w' : World) : Prop := e = .returned (.bool true) ∧ Ext w w'
theorem ackRet_some {l : List Ack} {w w' : World} {e : Ending} (h : AcksRet (some l) w e w') : ∃ A c, e = .returned (.tuple #[.slice A l.length c, .int .i64 0]) ∧ RA ackCells 3 w' w'.heap.size A l.length c l ∧ Ext w w' := by
  obtain ⟨v, rfl, ho, hx⟩ := h
  obtain ⟨A, c, rfl, _, _⟩ := own_slice ho
  exact ⟨A, c, rfl, RA.of_own2 ho rfl, hx⟩
theorem pruneRet_some {X : List Brn × Int} {w w' : World} {e : Ending} (h : PruneRet (some X) w e w') : ∃ A c, e = .returned (.tuple #[.agg #[.int .i64 X.2, .slice A X.1.length c], .int .i64 0]) ∧ RA brnCells 5 w' w'.heap.size A X.1.length c X.1 ∧ Ext w w' := by
  obtain ⟨v, rfl, ho, hx⟩ := h
  have ho' : w'.ownsRow w.heap.size 30 5 v X.1.length (X.1.flatMap brnCells) := ho
  obtain ⟨A, c, rfl, _, _⟩ := own_slice ho'
  exact ⟨A, c, rfl, RA.of_own2 ho' rfl, hx⟩
theorem buildRet_ra {X : List Brn × Int × Int} {w w' : World} {e : Ending} (h : BuildRet X w e w') : ∃ A c, e = .returned (.tuple #[.agg #[.int .i64 X.2.1, .slice A X.1.length c], .int .i64 X.2.2]) ∧ RA brnCells 5 w' w'.heap.size A X.1.length c X.1 ∧ Ext w w' := by
  obtain ⟨v, rfl, ho, hx⟩ := h
  have ho' : w'.ownsRow w.heap.size 30 5 v X.1.length (X.1.flatMap brnCells) := ho
  obtain ⟨A, c, rfl, _, _⟩ := own_slice ho'
  exact ⟨A, c, rfl, RA.of_own2 ho' rfl, hx⟩
theorem prune_any (T : List Brn) (TA : Option Addr) (tn tc : Nat) (k : Int) (os : List Opt) (A : Option Addr) (n c : Nat) (KA : Option Addr) (kn kc : Nat) (known : List Ack) (w : World)
    (hT : RA brnCells 5 w w.heap.size TA tn tc T) (hO : Ops w w.heap.size A n c os) (hK : RA ackCells 3 w w.heap.size KA kn kc known) :
    Calls Try.prog 28 #[.agg #[.int .i64 k, .slice TA tn tc], .slice A n c, .slice KA kn kc] w (PruneRet (prunP (opsP os) T k known) w) := callsIn_wide.1 (Prune_in T TA tn tc k os A n c KA kn kc known w hT hO hK)
def fstO (g0 : Nat) : Opt := ⟨0, 0, 0, 0, 0, 5, 0, 1, some ⟨g0, 0, none⟩, 2, 2, [⟨1, 10, 12⟩, ⟨2, 30, 32⟩]⟩
theorem ex_three {w : World} {B h0 h1 h2 g g0 : Nat} (ty : TypeId) (hex : Ex w B h0 h1 h2) (hg : Blk w g 27 (optCells (fstO g0)).toArray) (k0 : Blk w g0 62 #[.int .i64 1, .int .i64 10, .int .i64 12, .int .i64 2, .int .i64 30, .int .i64 32]) :
    ∃ A c w', (Builtin.append_ #[28, 28] ty #[.slice (some ⟨h2, 0, none⟩) 2 2, .slice (some ⟨g, 0, none⟩) 1 1]).run Try.prog w = .ok (.slice A 3 c) w' ∧ Ext w w' ∧ Ops w' w'.heap.size A 3 c (exO h0 h1 ++ [fstO g0]) := by
  obtain ⟨i0, hi0, hz0, hz1, hz2⟩ := info_parts info_opt
  have hk2 := hex.k2
  obtain ⟨v', w', h1', h2', h3⟩ := run_append_arg_grows (P := Try.prog) (w := w) 28 ty 27 i0 _ 9 88 Try.underlying28 hi0 hz0 hz1 hz2 rfl (by omega) ⟨h2, 0, none⟩ 2 2 ((exO h0 h1).flatMap optCells) rfl (fun j u hu => by rw [Addr.add_lit, Nat.zero_add, hk2.cell, ← hu]; show (((exO h0 h1).flatMap optCells).toArray)[j]? = _; simp) ⟨g, 0, none⟩ 1 1 (optCells (fstO g0)) rfl (fun j u hu => by rw [Addr.add_lit, Nat.zero_add, hg.cell, ← hu]; simp) (by omega) (by unfold maxLen; omega) (by omega)
  obtain ⟨A, c, rfl, _, _⟩ := own_slice h2'
  have hx2 : Ext w w' := ⟨h3.os, h3.tape, h3.output, h3.size, fun k hk => h3.block k hk (by simp)⟩
  have ho := h2'
  have hra : RA optCells 9 w' w'.heap.size A 3 c (exO h0 h1 ++ [fstO g0]) := RA.of_own2 (by rw [List.flatMap_append]; exact ho) rfl
  refine ⟨A, c, w', h1', hx2, hra, fun o hm => ?_⟩
  rcases List.mem_append.1 hm with hm | hm
  · exact (hex.ext hx2).ops.each o hm
  · obtain rfl := List.mem_singleton.1 hm
    exact blk_ra (k0.ext hx2) _ 2 rfl rfl rfl (by omega)
theorem Ex.base {W : World} {B B' g0 g1 g2 : Nat} (h : Ex W B g0 g1 g2) (hb : B' ≤ B) : Ex W B' g0 g1 g2 := ⟨h.k0, h.k1, h.k2, Nat.le_trans hb h.b2⟩
theorem thr_ops (h0 h1 g0 : Nat) : opsP (exO h0 h1 ++ [fstO g0]) = exL ++ [⟨0, 0, 0, 5, 1, [⟨1, 10, 12⟩, ⟨2, 30, 32⟩]⟩] := rfl
theorem build_three (W : World) (A : Option Addr) (c h0 h1 g0 : Nat) (h : Ops W W.heap.size A 3 c (exO h0 h1 ++ [fstO g0])) :
    Calls Try.prog 13 #[.slice A 3 c] W fun e w' => ∃ A c, e = .returned (.tuple #[.agg #[.int .i64 0, .slice A 0 c], .int .i64 200]) ∧ Ext W w' := by
  have hb := build_any _ A 3 c W h
  rw [thr_ops, ev_twice] at hb
  refine hb.mono ?_
  rintro e w' hr
  obtain ⟨A, c, rfl, _, hx⟩ := buildRet_ra hr
  exact ⟨A, c, rfl, hx⟩
def cT : Array Value := #[.int .i64 30, .int .i64 0, .int .i64 1, .int .i64 (-1), .int .i64 (-1), .int .i64 20, .int .i64 1, .int .i64 0, .int .i64 0, .int .i64 0, .int .i64 20, .int .i64 1, .int .i64 0, .int .i64 (-1), .int .i64 (-1), .int .i64 10, .int .i64 0, .int .i64 0, .int .i64 2, .int .i64 1]
def cP : Array Value := #[.int .i64 20, .int .i64 1, .int .i64 0, .int .i64 (-1), .int .i64 (-1)]
theorem four (W : World) (c1 c2 c3 c4 : Array Value) (t1 t2 t3 t4 : TypeId) : let W' := (((W.alloc (.cells c1 t1)).alloc (.cells c2 t2)).alloc (.cells c3 t3)).alloc (.cells c4 t4)
    Ext W W' ∧ Blk W' W.heap.size t1 c1 ∧ Blk W' (W.heap.size + 1) t2 c2 ∧ Blk W' (W.heap.size + 1 + 1) t3 c3 ∧ Blk W' (W.heap.size + 1 + 1 + 1) t4 c4 := by
  refine ⟨bl_alloc (bl_alloc (bl_alloc (bl_alloc (Below.refl _ _) _) _) _) _, ?_, ?_, ?_, ?_⟩
  · exact (((Blk.new _ _ _).alloc _).alloc _).alloc _
  · exact ((Blk.new_at _ _ _ (by simp)).alloc _).alloc _
  · exact (Blk.new_at _ _ _ (by simp)).alloc _
  · exact Blk.new_at _ _ _ (by simp)
set_option maxRecDepth 100000 in
set_option maxHeartbeats 8000000 in
theorem sane_any (w : World) : Calls Try.prog 9 #[] w (Tru w) := by
  have HEXA := Lib.hid (fun W => example_any W)
  go_enter Try.func9, Try.ntmps9
  go_wp2_with fail
  refine (HEXA.out w).mono ?_
  rintro e W1 ⟨g0, g1, g2, rfl, hex, hx1⟩
  have hb := Lib.hid (build_any (exO g0 g1) (some ⟨g2, 0, none⟩) 2 2 W1 hex.ops)
  rw [exO_ops, ev_build] at hb
  have HEX1 := Lib.hid hex
  clear hex
  go_wp2_with fail
  refine hb.out.mono ?_
  rintro e W2a hr
  obtain ⟨TA, tc, rfl, hT, hx2⟩ := buildRet_ra hr
  dsimp only
  have hTl : exT.length = 4 := rfl
  rw [hTl] at hT ⊢
  have hxb : Ext W2a (W2a.alloc (.cells #[.int .i64 3, .slice TA 4 tc] 33)) := bl_alloc (Below.refl _ _) _
  have JB := Blk.new W2a 33 #[.int .i64 3, .slice TA 4 tc]
  clear hr hTl hb
  go_upto_region 3 with (fail)
  generalize W2a.heap.size = gT at JB ⊢
  have hT2 := ra_ext hT hxb
  have HEX2 := Lib.hid ((HEX1.out.ext hx2).ext hxb)
  have hxw := Ext.trans (Ext.trans hx1 hx2) hxb
  generalize W2a.alloc (.cells #[.int .i64 3, .slice TA 4 tc] 33) = W2 at JB hT2 HEX2 hxw ⊢
  have HT2 := Lib.hid hT2
  have HJB := Lib.hid JB
  clear hT hx1 hx2 hxb hT2 JB HEX1
  have HFOL : Hid (∀ W gi, Ext W2 W → Blk W gi 3 #[.int .i64 1] → Calls Try.prog 24 #[.agg #[.int .i64 3, .slice TA 4 tc], .slice (some ⟨g2, 0, none⟩) 2 2, .slice (some ⟨gi, 0, none⟩) 1 1] W (AcksRet (some exA) W)) := Lib.hid (fun W gi hx hg => by
    have h := follow_any exT TA 4 tc 3 (exO g0 g1) (some ⟨g2, 0, none⟩) 2 2 (some ⟨gi, 0, none⟩) 1 1 [1] W (ra_ext HT2.out hx) (HEX2.out.ext hx).ops (blk_ra hg [1] 1 rfl rfl rfl (by omega))
    rwa [exO_ops, ev_fol] at h)
  have HD1 : Hid (∀ W gi, Ext W2 W → Blk W gi 3 #[.int .i64 1] → Calls Try.prog 25 #[.agg #[.int .i64 3, .slice TA 4 tc], .slice (some ⟨g2, 0, none⟩) 2 2, .slice (some ⟨gi, 0, none⟩) 1 1] W fun e w' => e = .returned (.tuple #[.int .i64 1, .int .i64 0]) ∧ Ext W w') := Lib.hid (fun W gi hx hg => by
    have h := delivered_any exT TA 4 tc 3 (exO g0 g1) (some ⟨g2, 0, none⟩) 2 2 (some ⟨gi, 0, none⟩) 1 1 [1] W (ra_ext HT2.out hx) (HEX2.out.ext hx).ops (blk_ra hg [1] 1 rfl rfl rfl (by omega))
    rw [exO_ops, ev_del1] at h
    exact h)
  have HD2 : Hid (∀ W, Ext W2 W → Calls Try.prog 25 #[.agg #[.int .i64 3, .slice TA 4 tc], .slice (some ⟨g2, 0, none⟩) 2 2, .slice none 0 0] W fun e w' => e = .returned (.tuple #[.int .i64 3, .int .i64 0]) ∧ Ext W w') := Lib.hid (fun W hx => by
    have h := delivered_any exT TA 4 tc 3 (exO g0 g1) (some ⟨g2, 0, none⟩) 2 2 none 0 0 [] W (ra_ext HT2.out hx) (HEX2.out.ext hx).ops ra_nil
    rw [exO_ops, ev_del2] at h
    exact h)
  have HPT : Hid (∀ W, Ext W2 W → Calls Try.prog 22 #[.agg #[.int .i64 3, .slice TA 4 tc], .slice (some ⟨g2, 0, none⟩) 2 2] W fun e w' => e = .returned (.tuple #[.int .i64 6, .int .i64 0]) ∧ Ext W w') := Lib.hid (fun W hx => by
    have h := paths_any exT TA 4 tc 3 (exO g0 g1) (some ⟨g2, 0, none⟩) 2 2 W (ra_ext HT2.out hx) (HEX2.out.ext hx).ops
    rw [exO_ops, ev_paths] at h
    exact h)
  have HP1 : Hid (∀ W gi, Ext W2 W → Blk W gi 60 #[.int .i64 0, .int .i64 0, .bool true] → Calls Try.prog 28 #[.agg #[.int .i64 3, .slice TA 4 tc], .slice (some ⟨g2, 0, none⟩) 2 2, .slice (some ⟨gi, 0, none⟩) 1 1] W (PruneRet (some (exP, 0)) W)) := Lib.hid (fun W gi hx hg => by
    have h := prune_any exT TA 4 tc 3 (exO g0 g1) (some ⟨g2, 0, none⟩) 2 2 (some ⟨gi, 0, none⟩) 1 1 [⟨0, 0, true⟩] W (ra_ext HT2.out hx) (HEX2.out.ext hx).ops (blk_ra hg [(⟨0, 0, true⟩ : Ack)] 1 rfl rfl rfl (by omega))
    rwa [exO_ops, ev_prune] at h)
  have HP2 : Hid (∀ W gi, Ext W2 W → Blk W gi 60 #[.int .i64 1, .int .i64 0, .bool false] → Calls Try.prog 28 #[.agg #[.int .i64 3, .slice TA 4 tc], .slice (some ⟨g2, 0, none⟩) 2 2, .slice (some ⟨gi, 0, none⟩) 1 1] W (PruneRet none W)) := Lib.hid (fun W gi hx hg => by
    have h := prune_any exT TA 4 tc 3 (exO g0 g1) (some ⟨g2, 0, none⟩) 2 2 (some ⟨gi, 0, none⟩) 1 1 [⟨1, 0, false⟩] W (ra_ext HT2.out hx) (HEX2.out.ext hx).ops (blk_ra hg [(⟨1, 0, false⟩ : Ack)] 1 rfl rfl rfl (by omega))
    rwa [exO_ops, ev_none] at h)
  have t0 : W2.cell? ⟨gT, 0, none⟩ = some (.int .i64 3) := HJB.out.cell 0
  have t1 : W2.cell? ⟨gT, 1, none⟩ = some (.slice TA 4 tc) := HJB.out.cell 1
  go_wp2_with fail
  have hxa : Ext W2 (W2.alloc (.cells #[.int .i64 1] 3)) := bl_alloc (Below.refl _ _) _
  refine (HFOL.out _ _ hxa (Blk.new _ _ _)).mono ?_
  rintro e W3 hr
  obtain ⟨QA, qc, rfl, hacks, hy⟩ := ackRet_some hr
  have hqn : exA.length = 3 := rfl
  rw [hqn] at hacks ⊢
  have hx3 := Ext.trans hxa hy
  have HQ := Lib.hid hacks
  clear hxa hy hr hacks t0 t1 HFOL hqn
  have t0 : W3.cell? ⟨gT, 0, none⟩ = some (.int .i64 3) := (HJB.out.ext hx3).cell 0
  have t1 : W3.cell? ⟨gT, 1, none⟩ = some (.slice TA 4 tc) := (HJB.out.ext hx3).cell 1
  go_wp2_with fail
  have hxa : Ext W2 (W3.alloc (.cells #[.int .i64 1] 3)) := bl_alloc hx3 _
  have hxb : Ext W3 (W3.alloc (.cells #[.int .i64 1] 3)) := bl_alloc (Below.refl _ _) _
  refine (HD1.out _ _ hxa (Blk.new _ _ _)).mono ?_
  rintro e W4 ⟨rfl, hy⟩
  have hx4 := Ext.trans hxa hy
  have h34 := Ext.trans hxb hy
  clear hxa hxb hy t0 t1 HD1
  have t0 : W4.cell? ⟨gT, 0, none⟩ = some (.int .i64 3) := (HJB.out.ext hx4).cell 0
  have t1 : W4.cell? ⟨gT, 1, none⟩ = some (.slice TA 4 tc) := (HJB.out.ext hx4).cell 1
  go_wp2_with fail
  refine (HD2.out _ hx4).mono ?_
  rintro e W5 ⟨rfl, hy⟩
  have hx5 := Ext.trans hx4 hy
  have h35 := Ext.trans h34 hy
  clear hx4 hy t0 t1 HD2 h34
  have t0 : W5.cell? ⟨gT, 0, none⟩ = some (.int .i64 3) := (HJB.out.ext hx5).cell 0
  have t1 : W5.cell? ⟨gT, 1, none⟩ = some (.slice TA 4 tc) := (HJB.out.ext hx5).cell 1
  go_wp2_with fail
  refine (HPT.out _ hx5).mono ?_
  rintro e W6 ⟨rfl, hy⟩
  have hx6 := Ext.trans hx5 hy
  have h36 := Ext.trans h35 hy
  clear hx5 hy t0 t1 HPT h35
  have t0 : W6.cell? ⟨gT, 0, none⟩ = some (.int .i64 3) := (HJB.out.ext hx6).cell 0
  have t1 : W6.cell? ⟨gT, 1, none⟩ = some (.slice TA 4 tc) := (HJB.out.ext hx6).cell 1
  go_wp2_with fail
  have hxa : Ext W2 (W6.alloc (.cells #[.int .i64 0, .int .i64 0, .bool true] 60)) := bl_alloc hx6 _
  have hxb : Ext W6 (W6.alloc (.cells #[.int .i64 0, .int .i64 0, .bool true] 60)) := bl_alloc (Below.refl _ _) _
  refine (HP1.out _ _ hxa (Blk.new _ _ _)).mono ?_
  rintro e W7a hr
  obtain ⟨RA_, rc, rfl, hrt, hy⟩ := pruneRet_some hr
  have hpn : exP.length = 1 := rfl
  dsimp only at hrt ⊢
  rw [hpn] at hrt ⊢
  have hxc : Ext W7a (W7a.alloc (.cells #[.int .i64 0, .slice RA_ 1 rc] 33)) := bl_alloc (Below.refl _ _) _
  have JP := Blk.new W7a 33 #[.int .i64 0, .slice RA_ 1 rc]
  go_upto_region 8 with (fail)
  generalize W7a.heap.size = gP at JP ⊢
  have hrt2 := ra_ext hrt hxc
  have hx7 := Ext.trans (Ext.trans hxa hy) hxc
  have h37 := Ext.trans h36 (Ext.trans (Ext.trans hxb hy) hxc)
  generalize W7a.alloc (.cells #[.int .i64 0, .slice RA_ 1 rc] 33) = W7 at JP hrt2 hx7 h37 ⊢
  have HJP := Lib.hid JP
  have HRT := Lib.hid hrt2
  clear hxa hxb hy hr hrt hxc JP hrt2 t0 t1 HP1 h36 hx6 hpn
  have t0 : W7.cell? ⟨gT, 0, none⟩ = some (.int .i64 3) := (HJB.out.ext hx7).cell 0
  have t1 : W7.cell? ⟨gT, 1, none⟩ = some (.slice TA 4 tc) := (HJB.out.ext hx7).cell 1
  go_wp2_with fail
  have hxa : Ext W7 (W7.alloc (.cells #[.int .i64 1, .int .i64 0, .bool false] 60)) := bl_alloc (Below.refl _ _) _
  refine (HP2.out _ _ (Ext.trans hx7 hxa) (Blk.new _ _ _)).mono ?_
  rintro e W8a hr
  obtain ⟨rfl, hy⟩ := hr
  have hxc : Ext W8a (W8a.alloc (.cells #[.int .i64 0, .slice none 0 0] 33)) := bl_alloc (Below.refl _ _) _
  go_upto_region 9 with (fail)
  have h78 := Ext.trans (Ext.trans hxa hy) hxc
  have hx8 := Ext.trans hx7 h78
  have h38 := Ext.trans h37 h78
  generalize W8a.heap.size = g14
  generalize W8a.alloc (.cells #[.int .i64 0, .slice none 0 0] 33) = W8 at h78 hx8 h38 ⊢
  clear hxa hy hxc t0 t1 HP2
  have hk2 := HEX2.out.k2.ext hx8
  have q0 : W8.cell? ⟨g2, 0, none⟩ = some (.int .i64 0) := hk2.cell 0
  have q1 : W8.cell? ⟨g2, 1, none⟩ = some (.int .i64 0) := hk2.cell 1
  have q2 : W8.cell? ⟨g2, 2, none⟩ = some (.int .i64 0) := hk2.cell 2
  have q3 : W8.cell? ⟨g2, 3, none⟩ = some (.int .i64 0) := hk2.cell 3
  have q4 : W8.cell? ⟨g2, 4, none⟩ = some (.int .i64 0) := hk2.cell 4
  have q5 : W8.cell? ⟨g2, 5, none⟩ = some (.int .i64 5) := hk2.cell 5
  have q6 : W8.cell? ⟨g2, 6, none⟩ = some (.int .i64 0) := hk2.cell 6
  have q7 : W8.cell? ⟨g2, 7, none⟩ = some (.int .i64 1) := hk2.cell 7
  have q8 : W8.cell? ⟨g2, 8, none⟩ = some (.slice (some ⟨g0, 0, none⟩) 2 2) := hk2.cell 8
  have HK0 : Hid (∀ W, Ext W8 W → Blk W g0 62 #[.int .i64 1, .int .i64 10, .int .i64 12, .int .i64 2, .int .i64 30, .int .i64 32]) := Lib.hid (fun W hx => (HEX2.out.k0.ext hx8).ext hx)
  clear hk2
  refine wp_region_late 11 9 (fun ix vals v w1 => match ix with | 0 => ∃ h0 h1 h2, v = .slice (some ⟨h2, 0, none⟩) 2 2 ∧ Ex w1 W8.heap.size h0 h1 h2 | 1 => v = .slice (some ⟨g2, 0, none⟩) 2 2 | 2 => v = .pointer (some ⟨g2, 0, none⟩) | 3 => v = .agg #[.int .i64 0, .int .i64 0, .int .i64 0, .int .i64 0, .int .i64 0, .int .i64 5, .int .i64 0, .int .i64 1, .slice (some ⟨g0, 0, none⟩) 2 2] | 4 => ∃ gx, v = .slice (some ⟨gx, 0, none⟩) 1 1 ∧ Blk w1 gx 27 #[.int .i64 0, .int .i64 0, .int .i64 0, .int .i64 0, .int .i64 0, .int .i64 5, .int .i64 0, .int .i64 1, .slice (some ⟨g0, 0, none⟩) 2 2] | 5 => ∃ A c, v = .slice A 3 c ∧ ∃ h0 h1, Ops w1 w1.heap.size A 3 c (exO h0 h1 ++ [fstO g0]) | 6 => ∃ A c, v = .tuple #[.agg #[.int .i64 0, .slice A 0 c], .int .i64 200] | 7 => ∃ A c, v = .tuple #[.agg #[.int .i64 0, .slice A 0 c], .int .i64 200] | 8 => ∃ A c, v = .agg #[.int .i64 0, .slice A 0 c] | 9 => v = .int .i64 200 | _ => ∃ g, v = .pointer (some ⟨g, 0, none⟩) ∧ Blk w1 g 33 #[.int .i64 0, .slice none 0 0] ∧ W8.heap.size ≤ g) (fun _ _ => none) (by kernel_rfl) (by kernel_rfl) (by kernel_rfl) (by kernel_rfl) _ rfl ?_ ?_ ?_ ?_ ?_
  · intro ix vals v w1 hi hr k hk
    match ix, hr, hk with
    | 0, _, hk => cases hk
    | 1, _, hk => cases hk
    | 2, _, hk => cases hk
    | 3, _, hk => cases hk
    | 4, _, hk => cases hk
    | 5, _, hk => cases hk
    | 6, _, hk => cases hk
    | 7, _, hk => cases hk
    | 8, _, hk => cases hk
    | 9, _, hk => cases hk
    | (kx + 10), _, hk => cases hk
  · intro ix vals v w1 w2 hi hr hx
    match ix, hr with
    | 0, hr => obtain ⟨h0, h1, h2, e1, e2⟩ := hr; exact ⟨h0, h1, h2, e1, e2.ext hx⟩
    | 1, hr => exact hr
    | 2, hr => exact hr
    | 3, hr => exact hr
    | 4, hr => obtain ⟨gx, h1, h2⟩ := hr; exact ⟨gx, h1, h2.ext hx⟩
    | 5, hr => obtain ⟨A, c, e1, h0, h1, e2⟩ := hr; exact ⟨A, c, e1, h0, h1, e2.ext hx⟩
    | 6, hr => exact hr
    | 7, hr => exact hr
    | 8, hr => exact hr
    | 9, hr => exact hr
    | (kx + 10), hr => obtain ⟨g, h1, h2, h3⟩ := hr; exact ⟨g, h1, h2.ext hx, h3⟩
  · intro ix vals vals_ v w1 hi hv hr
    exact hr
  · refine ⟨?_, ?_, ?_, ?_, ?_, ?_, ?_, ?_, ?_, ?_, ?_, trivial⟩
    · intro vals w1 hx hd ha
      refine plain1 (fun _ => rfl) ?_
      clear hd ha
      simp only [Lf]
      have hz := Below.size hx.undrew
      go_wp2_with fail
      refine (HEXA.out w1).mono ?_
      rintro e w2 ⟨h0, h1, h2, rfl, hex, hb2⟩
      have hex := Lib.hid (hex.base hz)
      go_wp2
      exact ⟨rfl, hb2, h0, h1, h2, rfl, hex.out⟩
    · intro vals w1 hx hd ha
      refine plain1 (fun _ => rfl) ?_
      clear hd ha
      simp only [Lf, dstAt, Act.put, List.getElem?_toArray, List.getElem?_cons_zero, Option.bind_some, List.setIfInBounds_toArray, List.set_cons_zero, List.set_cons_succ]
      go_wp2
      exact ⟨rfl, Ext.refl _, rfl⟩
    · intro vals w1 hx hd ha
      have e1 : vals 1 = .slice (some ⟨g2, 0, none⟩) 2 2 := hd 1 (by decide)
      refine plain1 (fun _ => rfl) ?_
      clear hd ha
      simp only [Lf, dstAt, Act.put, List.getElem?_toArray, List.getElem?_cons_zero, List.getElem?_cons_succ, Option.bind_some, List.setIfInBounds_toArray, List.set_cons_zero, List.set_cons_succ]
      simp only [e1]
      clear e1
      go_wp2
      exact ⟨rfl, Ext.refl _, rfl⟩
    · intro vals w1 hx hd ha
      have e2 : vals 2 = .pointer (some ⟨g2, 0, none⟩) := hd 2 (by decide)
      refine plain1 (fun _ => rfl) ?_
      clear hd ha
      simp only [Lf, dstAt, Act.put, List.getElem?_toArray, List.getElem?_cons_zero, List.getElem?_cons_succ, Option.bind_some, List.setIfInBounds_toArray, List.set_cons_zero, List.set_cons_succ]
      simp only [e2]
      clear e2
      have q0 := ext_cell hx q0; have q1 := ext_cell hx q1; have q2 := ext_cell hx q2; have q3 := ext_cell hx q3; have q4 := ext_cell hx q4; have q5 := ext_cell hx q5; have q6 := ext_cell hx q6; have q7 := ext_cell hx q7; have q8 := ext_cell hx q8
      go_wp2
      exact ⟨rfl, Ext.refl _, rfl⟩
    · intro vals w1 hx hd ha
      have e3 : vals 3 = .agg #[.int .i64 0, .int .i64 0, .int .i64 0, .int .i64 0, .int .i64 0, .int .i64 5, .int .i64 0, .int .i64 1, .slice (some ⟨g0, 0, none⟩) 2 2] := hd 3 (by decide)
      refine plain1 (fun _ => rfl) ?_
      clear hd ha
      simp only [Lf, dstAt, Act.put, List.getElem?_toArray, List.getElem?_cons_zero, List.getElem?_cons_succ, Option.bind_some, List.setIfInBounds_toArray, List.set_cons_zero, List.set_cons_succ]
      simp only [e3]
      clear e3
      go_wp2
      exact ⟨rfl, (by repeat (first | exact Below.refl _ _ | assumption | refine Below.drew ?_ | refine below_drewN ?_ _ | refine bl_alloc ?_ _ | refine Below.setCell ?_ (by first | (simp; done) | omega | (simp; omega)) _ | refine bl_then ?_ (by assumption))), _, rfl, Blk.new _ _ _⟩
    · intro vals w1 hx hd ha
      have r0 : (fun v w1 => ∃ h0 h1 h2, v = .slice (some ⟨h2, 0, none⟩) 2 2 ∧ Ex w1 W8.heap.size h0 h1 h2) (vals 0) w1 := hd 0 (by decide)
      dsimp only at r0
      have r4 : (fun v w1 => ∃ gx, v = .slice (some ⟨gx, 0, none⟩) 1 1 ∧ Blk w1 gx 27 #[.int .i64 0, .int .i64 0, .int .i64 0, .int .i64 0, .int .i64 0, .int .i64 5, .int .i64 0, .int .i64 1, .slice (some ⟨g0, 0, none⟩) 2 2]) (vals 4) w1 := hd 4 (by decide)
      dsimp only at r4
      refine plain1 (fun _ => rfl) ?_
      clear hd ha
      simp only [Lf, dstAt, Act.put, List.getElem?_toArray, List.getElem?_cons_zero, List.getElem?_cons_succ, Option.bind_some, List.setIfInBounds_toArray, List.set_cons_zero, List.set_cons_succ]
      obtain ⟨h0, h1, h2, e_0, hex⟩ := r0
      obtain ⟨gx, e_4, jx⟩ := r4
      rw [e_0, e_4]
      obtain ⟨A, c, w9, hrun, hx9, hops⟩ := ex_three 28 hex jx (HK0.out _ hx.undrew)
      have hops := Lib.hid hops
      refine wpList_append_run_ rfl _ _ _ rfl rfl rfl hrun ?_
      clear hrun hex jx
      go_wp2
      exact ⟨rfl, hx9, A, c, rfl, h0, h1, hops.out⟩
    · intro vals w1 hx hd ha
      have r5 : (fun v w1 => ∃ A c, v = .slice A 3 c ∧ ∃ h0 h1, Ops w1 w1.heap.size A 3 c (exO h0 h1 ++ [fstO g0])) (vals 5) w1 := hd 5 (by decide)
      dsimp only at r5
      refine plain1 (fun _ => rfl) ?_
      clear hd ha
      simp only [Lf, dstAt, Act.put, List.getElem?_toArray, List.getElem?_cons_zero, List.getElem?_cons_succ, Option.bind_some, List.setIfInBounds_toArray, List.set_cons_zero, List.set_cons_succ]
      obtain ⟨A, c, e_5, h0, h1, hops⟩ := r5
      rw [e_5]
      have hops := Lib.hid hops
      go_wp2_with fail
      refine (build_three w1 A c h0 h1 g0 hops.out).mono ?_
      rintro e w2 ⟨A, c, rfl, hb2⟩
      go_wp2
      exact ⟨rfl, hb2, A, c, rfl⟩
    · intro vals w1 hx hd ha
      have r6 : (fun v w1 => ∃ A c, v = .tuple #[.agg #[.int .i64 0, .slice A 0 c], .int .i64 200]) (vals 6) w1 := hd 6 (by decide)
      dsimp only at r6
      refine plain1 (fun _ => rfl) ?_
      clear hd ha
      simp only [Lf, dstAt, Act.put, List.getElem?_toArray, List.getElem?_cons_zero, List.getElem?_cons_succ, Option.bind_some, List.setIfInBounds_toArray, List.set_cons_zero, List.set_cons_succ]
      obtain ⟨A, c, e_6⟩ := r6
      rw [e_6]
      go_wp2
      exact ⟨rfl, Ext.refl _, A, c, rfl⟩
    · intro vals w1 hx hd ha
      have r7 : (fun v w1 => ∃ A c, v = .tuple #[.agg #[.int .i64 0, .slice A 0 c], .int .i64 200]) (vals 7) w1 := hd 7 (by decide)
      dsimp only at r7
      refine plain1 (fun _ => rfl) ?_
      clear hd ha
      simp only [Lf, dstAt, Act.put, List.getElem?_toArray, List.getElem?_cons_zero, List.getElem?_cons_succ, Option.bind_some, List.setIfInBounds_toArray, List.set_cons_zero, List.set_cons_succ]
      obtain ⟨A, c, e_7⟩ := r7
      rw [e_7]
      go_wp2
      exact ⟨rfl, Ext.refl _, A, c, rfl⟩
    · intro vals w1 hx hd ha
      have r7 : (fun v w1 => ∃ A c, v = .tuple #[.agg #[.int .i64 0, .slice A 0 c], .int .i64 200]) (vals 7) w1 := hd 7 (by decide)
      dsimp only at r7
      refine plain1 (fun _ => rfl) ?_
      clear hd ha
      simp only [Lf, dstAt, Act.put, List.getElem?_toArray, List.getElem?_cons_zero, List.getElem?_cons_succ, Option.bind_some, List.setIfInBounds_toArray, List.set_cons_zero, List.set_cons_succ]
      obtain ⟨A, c, e_7⟩ := r7
      rw [e_7]
      go_wp2
      exact ⟨rfl, Ext.refl _, rfl⟩
    · intro vals w1 hx hd ha
      refine plain1 (fun _ => rfl) ?_
      clear hd ha
      simp only [Lf, dstAt, Act.put, List.getElem?_toArray, List.getElem?_cons_zero, List.getElem?_cons_succ, Option.bind_some, List.setIfInBounds_toArray, List.set_cons_zero, List.set_cons_succ]
      have hz9 := Below.size hx.undrew
      go_wp2
      exact ⟨rfl, (by repeat (first | exact Below.refl _ _ | assumption | refine Below.drew ?_ | refine below_drewN ?_ _ | refine bl_alloc ?_ _ | refine Below.setCell ?_ (by first | (simp; done) | omega | (simp; omega)) _ | refine bl_then ?_ (by assumption))), _, rfl, Blk.new _ _ _, hz9⟩
  intro vals W9 hy hf _
  obtain ⟨A8, c8, v8⟩ : ∃ A c, vals 8 = .agg #[.int .i64 0, .slice A 0 c] := hf 8 (by omega)
  have v9 : vals 9 = .int .i64 200 := hf 9 (by omega)
  obtain ⟨g9, v10, jf, hg9⟩ : ∃ g, vals 10 = .pointer (some ⟨g, 0, none⟩) ∧ Blk W9 g 33 #[.int .i64 0, .slice none 0 0] ∧ W8.heap.size ≤ g := hf 10 (by omega)
  have hy := hy.undrew
  have hxr := ((One.refl g9 W9).row #[.int .i64 0, .slice A8 0 c8]).ext hy hg9
  have HJF := Lib.hid jf
  clear hf hy jf q0 q1 q2 q3 q4 q5 q6 q7 q8
  simp only [Lf, dstAt, Act.put, List.getElem?_toArray, List.getElem?_cons_zero, List.getElem?_cons_succ, Option.bind_some, List.setIfInBounds_toArray, List.set_cons_zero, List.set_cons_succ]
  rw [v8, v9, v10]
  clear v8 v9 v10
  refine wpList_store_row rfl _ _ _ rfl g9 #[.int .i64 0, .slice A8 0 c8] rfl rfl 33 _ HJF.out tre_size rfl (by simp [Value.oneCell']) ?_
  go_wp2_with fail
  refine Qn_of ?_
  refine tail1 12 _ (by kernel_rfl) (by kernel_rfl) rfl ?_
  generalize W9.setRow g9 #[.int .i64 0, .slice A8 0 c8] = W10 at hxr ⊢
  clear HJF
  have hx10 := Ext.trans hx8 hxr
  have h310 := Ext.trans h38 hxr
  have h710 := Ext.trans h78 hxr
  go_upto_region 12 with (fail)
  go_upto_region 14 with (fail)
  obtain ⟨hxe, jb0, jb1, jb2, jb3⟩ := four W10 cT #[.int .i64 3, .slice (some ⟨W10.heap.size, 0, none⟩) 4 4] cP #[.int .i64 0, .slice (some ⟨W10.heap.size + 1 + 1, 0, none⟩) 1 1] 30 33 30 33
  unfold cT cP at hxe jb0 jb1 jb2 jb3
  generalize (((W10.alloc _).alloc _).alloc _).alloc _ = W11 at hxe jb0 jb1 jb2 jb3 ⊢
  generalize W10.heap.size = gq at jb0 jb1 jb2 jb3 ⊢
  have hx11 := Ext.trans hx10 hxe
  have h311 := Ext.trans h310 hxe
  have h711 := Ext.trans h710 hxe
  have HB0 := Lib.hid jb0
  have HB1 := Lib.hid jb1
  have HB2 := Lib.hid jb2
  have HB3 := Lib.hid jb3
  clear jb0 jb1 jb2 jb3 hxe hx10 h310 h710 hx8 h38 h78 hx7 h37 hx3 hxr hg9
  have HCL : Hid (∀ W, Ext W11 W → W.cell? ⟨gT, 0, none⟩ = some (.int .i64 3) ∧ W.cell? ⟨gT, 1, none⟩ = some (.slice TA 4 tc) ∧ W.cell? ⟨gP, 0, none⟩ = some (.int .i64 0) ∧ W.cell? ⟨gP, 1, none⟩ = some (.slice RA_ 1 rc) ∧ W.cell? ⟨gq + 1, 0, none⟩ = some (.int .i64 3) ∧ W.cell? ⟨gq + 1, 1, none⟩ = some (.slice (some ⟨gq, 0, none⟩) 4 4) ∧ W.cell? ⟨gq + 1 + 1 + 1, 0, none⟩ = some (.int .i64 0) ∧ W.cell? ⟨gq + 1 + 1 + 1, 1, none⟩ = some (.slice (some ⟨gq + 1 + 1, 0, none⟩) 1 1)) := Lib.hid (fun W hx =>
    have a := HJB.out.ext (Ext.trans hx11 hx)
    have b := HJP.out.ext (Ext.trans h711 hx)
    ⟨a.cell 0, a.cell 1, b.cell 0, b.cell 1, (HB1.out.ext hx).cell 0, (HB1.out.ext hx).cell 1, (HB3.out.ext hx).cell 0, (HB3.out.ext hx).cell 1⟩)
  have HS1 : Hid (Calls Try.prog 15 #[.agg #[.int .i64 3, .slice TA 4 tc], .agg #[.int .i64 3, .slice (some ⟨gq, 0, none⟩) 4 4]] W11 fun e w' => e = .returned (.bool true) ∧ Ext W11 w') := Lib.hid (by
    have h := rsame_any 3 3 TA (some ⟨gq, 0, none⟩) 4 4 tc 4 exT exT W11 (ra_ext HT2.out hx11) (blk_ra HB0.out exT 4 rfl rfl rfl (by omega))
    rw [ev_same] at h
    exact h)
  have HS2 : Hid (∀ W, Ext W11 W → Calls Try.prog 15 #[.agg #[.int .i64 0, .slice RA_ 1 rc], .agg #[.int .i64 0, .slice (some ⟨gq + 1 + 1, 0, none⟩) 1 1]] W fun e w' => e = .returned (.bool true) ∧ Ext W w') := Lib.hid (fun W hx => by
    have h := rsame_any 0 0 RA_ (some ⟨gq + 1 + 1, 0, none⟩) 1 1 rc 1 exP exP W (ra_ext HRT.out (Ext.trans h711 hx)) (blk_ra (HB2.out.ext hx) exP 1 rfl rfl rfl (by omega))
    rw [ev_same2] at h
    exact h)
  have HS3 : Hid (∀ W, Ext W11 W → Calls Try.prog 18 #[.agg #[.int .i64 3, .slice TA 4 tc], .slice (some ⟨g2, 0, none⟩) 2 2] W fun e w' => e = .returned (.bool true) ∧ Ext W w') := Lib.hid (fun W hx => by
    have h := valid_any exT TA 4 tc 3 (exO g0 g1) (some ⟨g2, 0, none⟩) 2 2 W (ra_ext HT2.out (Ext.trans hx11 hx)) (HEX2.out.ext (Ext.trans hx11 hx)).ops
    rw [exO_ops, ev_valid] at h
    exact h)
  have HS4 : Hid (∀ W, Ext W11 W → Calls Try.prog 18 #[.agg #[.int .i64 0, .slice none 0 0], .slice (some ⟨g2, 0, none⟩) 2 2] W fun e w' => e = .returned (.bool false) ∧ Ext W w') := Lib.hid (fun W hx => by
    have h := valid_any [] none 0 0 0 (exO g0 g1) (some ⟨g2, 0, none⟩) 2 2 W ra_nil (HEX2.out.ext (Ext.trans hx11 hx)).ops
    rw [exO_ops, ev_valid0] at h
    exact h)
  have HS5 : Hid (∀ W, Ext W11 W → Calls Try.prog 20 #[.agg #[.int .i64 3, .slice TA 4 tc], .agg #[.int .i64 3, .slice (some ⟨gq, 0, none⟩) 4 4]] W fun e w' => e = .returned (.bool true) ∧ Ext W w') := Lib.hid (fun W hx => by
    have h := same_any 3 3 TA (some ⟨gq, 0, none⟩) 4 4 tc 4 exT exT W (ra_ext HT2.out (Ext.trans hx11 hx)) (blk_ra (HB0.out.ext hx) exT 4 rfl rfl rfl (by omega))
    rw [ev_same] at h
    exact h)
  have HS6 : Hid (∀ W, Ext W11 W → Calls Try.prog 20 #[.agg #[.int .i64 3, .slice TA 4 tc], .agg #[.int .i64 0, .slice RA_ 1 rc]] W fun e w' => e = .returned (.bool false) ∧ Ext W w') := Lib.hid (fun W hx => by
    have h := same_any 3 0 TA RA_ 4 1 tc rc exT exP W (ra_ext HT2.out (Ext.trans hx11 hx)) (ra_ext HRT.out (Ext.trans h711 hx))
    rw [ev_diff] at h
    exact h)
  have HS7 : Hid (∀ W g, Ext W11 W → Blk W g 60 #[.int .i64 0, .int .i64 0, .bool false, .int .i64 1, .int .i64 0, .bool false, .int .i64 0, .int .i64 1, .bool true] → Calls Try.prog 27 #[.slice QA 3 qc, .slice (some ⟨g, 0, none⟩) 3 3] W fun e w' => e = .returned (.bool true) ∧ Ext W w') := Lib.hid (fun W g hx hg => by
    have h := rsameA_any QA (some ⟨g, 0, none⟩) 3 3 qc 3 exA exA W (ra_ext HQ.out (Ext.trans h311 hx)) (blk_ra hg exA 3 rfl rfl rfl (by omega))
    rw [decide_eq_true rfl] at h
    exact h)
  clear HT2 HRT HQ HEX2 HJB HJP HB0 HB1 HB2 HB3 h711 h311
  obtain ⟨t0, t1, p0, p1, u0, u1, v0, v1⟩ := HCL.out W11 (Ext.refl _)
  go_wp2_with fail
  refine (HS1.out).mono ?_
  rintro e W12 ⟨rfl, hy⟩
  have hzW12 := Ext.trans (Ext.refl _) hy
  clear hy t0 t1 p0 p1 u0 u1 v0 v1
  obtain ⟨t0, t1, p0, p1, u0, u1, v0, v1⟩ := HCL.out _ hzW12
  go_wp2_with fail
  refine (HS2.out _ hzW12).mono ?_
  rintro e W13 ⟨rfl, hy⟩
  have hzW13 := Ext.trans hzW12 hy
  clear hy t0 t1 p0 p1 u0 u1 v0 v1
  obtain ⟨t0, t1, p0, p1, u0, u1, v0, v1⟩ := HCL.out _ hzW13
  go_wp2_with fail
  refine (HS3.out _ hzW13).mono ?_
  rintro e W14 ⟨rfl, hy⟩
  have hzW14 := Ext.trans hzW13 hy
  clear hy t0 t1 p0 p1 u0 u1 v0 v1
  obtain ⟨t0, t1, p0, p1, u0, u1, v0, v1⟩ := HCL.out _ hzW14
  go_wp2_with fail
  refine (HS4.out _ hzW14).mono ?_
  rintro e W15 ⟨rfl, hy⟩
  have hzW15 := Ext.trans hzW14 hy
  clear hy t0 t1 p0 p1 u0 u1 v0 v1
  obtain ⟨t0, t1, p0, p1, u0, u1, v0, v1⟩ := HCL.out _ hzW15
  go_wp2_with fail
  refine (HS5.out _ hzW15).mono ?_
  rintro e W16 ⟨rfl, hy⟩
  have hzW16 := Ext.trans hzW15 hy
  clear hy t0 t1 p0 p1 u0 u1 v0 v1
  obtain ⟨t0, t1, p0, p1, u0, u1, v0, v1⟩ := HCL.out _ hzW16
  go_wp2_with fail
  refine (HS6.out _ hzW16).mono ?_
  rintro e W17 ⟨rfl, hy⟩
  have hzW17 := Ext.trans hzW16 hy
  clear hy t0 t1 p0 p1 u0 u1 v0 v1
  clear HS1 HS2 HS3 HS4 HS5 HS6
  go_wp2_with fail
  have hxa : Ext W11 (W17.alloc (.cells #[.int .i64 0, .int .i64 0, .bool false, .int .i64 1, .int .i64 0, .bool false, .int .i64 0, .int .i64 1, .bool true] 60)) := bl_alloc hzW17 _
  refine (HS7.out _ _ hxa (Blk.new _ _ _)).mono ?_
  rintro e W18 ⟨rfl, hy⟩
  have hz18 := Ext.trans hxa hy
  clear hxa hy
  obtain ⟨t0, t1, p0, p1, u0, u1, v0, v1⟩ := HCL.out _ hz18
  go_wp2_with fail
  refine (units_any 3 TA 4 tc _ (by omega)).mono ?_
  rintro e W19 ⟨rfl, hy⟩
  have hz19 := Ext.trans hz18 hy
  go_wp2
  go_ret
  exact ⟨rfl, Ext.trans hxw (Ext.trans hx11 hz19)⟩
end Go.Proofs.Ytikphbgfcpamgaa
namespace Go.Proofs.Ytikphbgfcpamgaa
open Go.RowKit

structure TP (N0 : Nat) (G : List Value) (mx : Nat) (w w' : World) : Prop where
  low : Below N0 w w'
  new : ∀ (b : Nat) (cs : Array Value) (t : TypeId), w.heap[b]? = some (Obj.cells cs t (0, 0)) → ∃ cs' : Array Value, w'.heap[b]? = some (Obj.cells cs' t (0, 0)) ∧ cs'.size = cs.size ∧ (cs' = cs ∨ (mx < cs.size ∧ cs'.toList.take G.length = G))
section
variable {N0 mx : Nat} {G : List Value} {w w' w'' : World}
theorem TP.refl (w : World) : TP N0 G mx w w := ⟨Below.refl _ _, fun _ cs _ h => ⟨cs, h, rfl, .inl rfl⟩⟩
theorem TP.trans (h : TP N0 G mx w w') (k : TP N0 G mx w' w'') : TP N0 G mx w w'' :=
  ⟨Below.trans h.low k.low, fun b cs t hb => by
    obtain ⟨c1, h1, h2, h3⟩ := h.new b cs t hb
    obtain ⟨c2, k1, k2, k3⟩ := k.new b c1 t h1
    refine ⟨c2, k1, k2.trans h2, ?_⟩
    rcases k3 with rfl | ⟨k3, k4⟩
    · exact h3
    · exact .inr ⟨by omega, k4⟩⟩
theorem tp_tr (N0 : Nat) (G : List Value) (mx : Nat) : RB.Tr (TP N0 G mx) := ⟨TP.refl, TP.trans⟩
theorem TP.ext (h : Ext w w') (h0 : N0 ≤ w.heap.size) : TP N0 G mx w w' := ⟨h.mono h0, fun b cs _ hb => ⟨cs, (h.block b (Array.getElem?_eq_some_iff.1 hb).1).trans hb, rfl, .inl rfl⟩⟩
theorem TP.undrew (h : TP N0 G mx w.drew w') : TP N0 G mx w w' := ⟨⟨h.low.os, h.low.tape, h.low.output, h.low.size, h.low.block⟩, h.new⟩
theorem TP.size (h : TP N0 G mx w w') : w.heap.size ≤ w'.heap.size := h.low.size
theorem TP.cell (h : TP N0 G mx w w') {p : Addr} {v : Value} (hc : w.cell? p = some v) (hp : p.block < N0) : w'.cell? p = some v := (World.cell?_of_block (h.low.block p.block hp)).trans hc
theorem TP.blk (h : TP N0 G mx w w') {g : Nat} {t : TypeId} {cs : Array Value} (hb : Blk w g t cs) (hs : cs.size ≤ mx) : Blk w' g t cs := by
  obtain ⟨c1, h1, _, h3⟩ := h.new g cs t hb
  rcases h3 with rfl | ⟨h3, _⟩
  · exact h1
  · omega
theorem TP.own (h : TP N0 G mx w w') {b : Nat} {e : TypeId} {s n : Nat} {v : Value} {xs : List Value} (ho : w.ownsRow b e s v n xs) (hm : xs <+: G) : w'.ownsRow b e s v n xs := by
  refine ⟨ho.1, ?_⟩
  rcases ho.2 with hn | ⟨g, cap, cur, rfl, hb, hg, h1, h2, h3, h4⟩
  · exact .inl hn
  · obtain ⟨c1, k1, k2, k3⟩ := h.new g cur e hg
    refine .inr ⟨g, cap, c1, rfl, hb, k1, h1, h2, k2.trans h3, ?_⟩
    rcases k3 with rfl | ⟨_, k4⟩
    · exact h4
    · obtain ⟨r, hr⟩ := hm
      have hx := congrArg (List.take (n * s)) k4
      rw [List.take_take, Nat.min_eq_left (by rw [← hr, List.length_append, ho.1]; omega), ← hr, List.take_append_of_le_length (by rw [ho.1]; exact Nat.le_refl _)] at hx
      exact hx.trans (List.take_of_length_le (by rw [ho.1]; exact Nat.le_refl _))
end
theorem append_none {P : Program} (w : World) (t ty e : TypeId) (i : TypeInfo) (ht : P.underlying t = some (.slice e)) (hi : P.info? e = some i) (b : Addr) (n c : Nat) (hn : n ≤ c) (A : Option Addr) (c' : Nat) :
    (Builtin.append_ #[t, t] ty #[.slice (some b) n c, .slice A 0 c']).run P w = .ok (.slice (some b) n c) w := by
  cases A <;> simp [Builtin.append_, run_underlying ht, sizeOf, typeInfo, hi, Builtin.lenOf, Builtin.firstCells, hn, storeCells, loadCells, loadCellsFrom]
section
variable {P : Program} {w : World} {α : Type} {cells : α → List Value} {s bytes : Nat} {T E : TypeId} {i : TypeInfo} {z : Value}
theorem copy_row (hs0 : 0 < s) (hu : P.underlying T = some (.slice E)) (hi : P.info? E = some i) (hz : i.zero = some z) (hsz : i.size = s) (hby : i.bytes = bytes) (hzs : z.cells.size = s) (hb9 : bytes ≤ 1000)
    (ty : TypeId) (xs : List α) (b gx n c : Nat) (A : Option Addr) (B0 : Nat) (jx : Blk w gx E #[]) (hg : B0 ≤ gx) (hn : n ≤ 2000) (hx : RA cells s w b A n c xs) :
    ∃ g k w', (Builtin.append_ #[T, T] ty #[.slice (some ⟨gx, 0, none⟩) 0 0, .slice A n c]).run P w = .ok (.slice (some ⟨g, 0, none⟩) n k) w' ∧ Ext w w' ∧ B0 ≤ g ∧ (n = 0 → k = 0) ∧ w'.ownsRow B0 E s (.slice (some ⟨g, 0, none⟩) n k) n (xs.flatMap cells) := by
  have hl := hx.len
  have hlt := jx.lt
  rcases Nat.eq_zero_or_pos n with h0 | h0
  · subst h0
    obtain rfl : xs = [] := List.eq_nil_of_length_eq_zero hl
    exact ⟨_, _, _, append_none w _ _ _ i hu hi ⟨gx, 0, none⟩ 0 0 (Nat.le_refl _) A c, Ext.refl _, hg, fun _ => rfl, by simp, .inr ⟨gx, 0, #[], rfl, hg, jx, Nat.le_refl _, by unfold maxLen; omega, by simp, by simp⟩⟩
  · obtain ⟨b', o, rfl, hb, hc⟩ := hx.rd.2 h0
    have hbb : n * bytes ≤ 2000 * 1000 := Nat.mul_le_mul hn hb9
    obtain ⟨v', w', h1, h2, h3⟩ := run_append_arg_grows (P := P) (w := w) T ty E i z s bytes hu hi hz hsz hby hzs hs0 ⟨gx, 0, none⟩ 0 0 [] (by simp) (fun j u hu => by simp at hu) ⟨b', o, none⟩ n c _ hx.rd.1 (fun j u hu => by rw [Addr.add_lit]; exact hc j u hu) (by omega) (by unfold maxLen; omega) (by rw [Nat.zero_add]; omega)
    rw [Nat.zero_add, List.nil_append] at h2
    have h4 := own_base h2 (by omega : B0 ≤ w.heap.size)
    rcases h4.2 with ⟨hv, hz0⟩ | ⟨g, k, cur, rfl, hbg, hr⟩
    · omega
    · exact ⟨g, k, w', h1, ⟨h3.os, h3.tape, h3.output, h3.size, fun k hk => h3.block k hk (by simp)⟩, hbg, fun e => by omega, h4⟩
theorem join_row (hs0 : 0 < s) (hu : P.underlying T = some (.slice E)) (hi : P.info? E = some i) (hz : i.zero = some z) (hsz : i.size = s) (hby : i.bytes = bytes) (hzs : z.cells.size = s) (hb9 : bytes ≤ 1000)
    (ty : TypeId) {N0 g n k : Nat} {xs news : List Value} (ho : w.ownsRow N0 E s (.slice (some ⟨g, 0, none⟩) n k) n xs) (h0 : n = 0 → k = 0) (hn : n ≤ 2000) (hN : N0 ≤ w.heap.size)
    (A : Option Addr) (m c : Nat) (hm : m ≤ 2000) (hl : news.length = m * s) (hnews : 0 < m → ∃ a : Addr, A = some a ∧ ∀ j u, news[j]? = some u → w.cell? (a.add j) = some u) (h1 : ∀ u ∈ news, u.oneCell' = true) :
    ∃ g' k' w', (Builtin.append_ #[T, T] ty #[.slice (some ⟨g, 0, none⟩) n k, .slice A m c]).run P w = .ok (.slice (some ⟨g', 0, none⟩) (n + m) k') w' ∧ w'.ownsRow N0 E s (.slice (some ⟨g', 0, none⟩) (n + m) k') (n + m) (xs ++ news) ∧ TP N0 (xs ++ news) s w w' := by
  have hgn : N0 ≤ g := (World.ownsRow.lt ho g rfl).1
  have hnk : n ≤ k := by
    rcases ho.2 with ⟨hv, _⟩ | ⟨g1, cap, cur, hv, _, _, h, _⟩
    · cases hv
    · injection hv with _ _ e; omega
  rcases Nat.eq_zero_or_pos m with hm0 | hm0
  · subst hm0
    have hnil : news = [] := List.eq_nil_of_length_eq_zero (by simpa using hl)
    subst hnil
    exact ⟨g, k, w, append_none w _ _ _ i hu hi ⟨g, 0, none⟩ n k hnk A c, by simpa using ho, TP.refl _⟩
  · obtain ⟨a, rfl, hc⟩ := hnews hm0
    by_cases hroom : n + m ≤ k
    · obtain ⟨w', h2, h3, h4⟩ := run_append_fits (P := P) (w := w) N0 T ty E i s hu hi hsz g n k xs ho a m c news hl hc h1 hroom
      refine ⟨g, k, w', h2, h3, ⟨⟨h4.os, h4.tape, h4.output, h4.size, fun j hj => h4.block j (by omega) (fun e => by injection e with e; omega)⟩, fun b cs t hb => ?_⟩⟩
      by_cases hbg : b = g
      · subst hbg
        rcases ho.2 with ⟨hv, _⟩ | ⟨g1, cap, cur, hv, _, hg1, _, _, hcs, htk⟩
        · cases hv
        · injection hv with e1 _ e3
          injection e1 with e1
          injection e1 with e1
          subst e1 e3
          rw [hb] at hg1
          injection hg1 with hg1
          injection hg1 with q1 q2
          subst q1 q2
          rcases h3.2 with ⟨hv, _⟩ | ⟨g2, cap2, cur2, hv, _, hg2, _, _, hcs2, htk2⟩
          · cases hv
          · injection hv with e1 _ e3
            injection e1 with e1
            injection e1 with e1
            subst e1 e3
            refine ⟨cur2, hg2, by rw [hcs, hcs2], .inr ⟨?_, ?_⟩⟩
            · have hn1 : 0 < n := by
                rcases Nat.eq_zero_or_pos n with h | h
                · have := h0 h; omega
                · exact h
              have := Nat.mul_le_mul_right s (show 2 ≤ k by omega)
              omega
            · rw [List.length_append, ho.1, hl, ← Nat.add_mul]
              exact htk2
      · exact ⟨cs, (h4.block b (Array.getElem?_eq_some_iff.1 hb).1 (fun e => hbg (by injection e))).trans hb, rfl, .inl rfl⟩
    · have hbb : (n + m) * bytes ≤ 4000 * 1000 := Nat.mul_le_mul (by omega) hb9
      obtain ⟨v', w', h2, h3, h4⟩ := run_append_arg_grows (P := P) (w := w) T ty E i z s bytes hu hi hz hsz hby hzs hs0 ⟨g, 0, none⟩ n k xs ho.1 (fun j u hu => ho.cells (g := g) rfl j u hu) a m c news hl hc (by omega) (by unfold maxLen; omega) (by omega)
      have h5 := own_base h3 hN
      rcases h5.2 with ⟨hv, hz0⟩ | ⟨g2, k2, cur, rfl, hbg, hr⟩
      · omega
      · exact ⟨g2, k2, w', h2, h5, ⟨⟨h4.os, h4.tape, h4.output, h4.size, fun j hj => h4.block j (by omega) (by simp)⟩, fun b cs t hb => ⟨cs, (h4.block b (Array.getElem?_eq_some_iff.1 hb).1 (by simp)).trans hb, rfl, .inl rfl⟩⟩⟩
end
end Go.Proofs.Ytikphbgfcpamgaa
namespace Go.Proofs.Ytikphbgfcpamgaa
open Go.RowKit

theorem slt_set {w : World} {b g n c : Nat} {l : List Slt} (h : OwnS w b (.slice (some ⟨g, 0, none⟩) n c) l) {k : Nat} (hk : k < l.length) (p : Int) :
    OwnS (w.setCell ⟨g, k * 3, none⟩ (.int .i64 p)) b (.slice (some ⟨g, 0, none⟩) n c) (l.set k ⟨p, l[k].fr, l[k].tt⟩) ∧ w.grownBy (w.setCell ⟨g, k * 3, none⟩ (.int .i64 p)) (some g) := by
  obtain ⟨_, _, hv, _, _⟩ := own_slice h
  injection hv with _ e _
  subst e
  obtain ⟨h1, h2⟩ := World.ownsRow.stored h (k * 3) (.int .i64 p)
  refine ⟨?_, h2⟩
  unfold OwnS
  rw [List.length_set]
  rw [flat_set slt_len l k hk]
  have hf := flat_len slt_len l
  have h3 : k * 3 + 3 ≤ (l.flatMap sltCells).length := by rw [hf]; omega
  have e0 := flat_at slt_len l k hk 0 (by omega)
  have e1 := flat_at slt_len l k hk 1 (by omega)
  have e2 := flat_at slt_len l k hk 2 (by omega)
  have hset : (l.flatMap sltCells).set (k * 3) (.int .i64 p) = (l.flatMap sltCells).take (k * 3) ++ sltCells ⟨p, l[k].fr, l[k].tt⟩ ++ (l.flatMap sltCells).drop (k * 3 + 3) := by
    generalize l.flatMap sltCells = L at h3 e1 e2
    have d1 : L.drop (k * 3) = L[k * 3]'(by omega) :: L[k * 3 + 1]'(by omega) :: L[k * 3 + 2]'(by omega) :: L.drop (k * 3 + 3) := by
      rw [List.drop_eq_getElem_cons (by omega), List.drop_eq_getElem_cons (by omega), List.drop_eq_getElem_cons (by omega)]
    have q1 : L[k * 3 + 1]'(by omega) = .int .i64 l[k].fr := by rw [List.getElem?_eq_getElem (by omega)] at e1; injection e1
    have q2 : L[k * 3 + 2]'(by omega) = .int .i64 l[k].tt := by rw [List.getElem?_eq_getElem (by omega)] at e2; injection e2
    have hsplit := (List.take_append_drop (k * 3) L).symm
    rw [d1, q1, q2] at hsplit
    have hl : (L.take (k * 3)).length = k * 3 := by rw [List.length_take]; omega
    conv => lhs; rw [hsplit, List.set_append_right _ _ (by omega)]
    rw [hl, Nat.sub_self, List.set_cons_zero]
    simp [sltCells]
  rw [← hset]
  exact h1
theorem psO_take (x : Six) (l : List Slt) : ∀ (j k : Nat) (h : k < l.length), (psO x j l).take (k + 1) = (psO x j l).take k ++ [⟨pickP (x.a1.tdiv (1 + 3 * ((j + k : Nat) : Int))) 4, l[k].fr, l[k].tt⟩] := by
  induction l with
  | nil => intro j k h; simp at h
  | cons s r ih =>
    intro j k h
    cases k with
    | zero => simp [psO]
    | succ k =>
      have := ih (j + 1) k (by simpa using h)
      simp only [psO, List.take_succ_cons, List.cons_append, List.getElem_cons_succ]
      rw [this, show j + 1 + k = j + (k + 1) by omega]
def mixS (x : Six) (l : List Slt) (k : Nat) : List Slt := (psO x 0 l).take k ++ l.drop k
theorem mixS_zero (x : Six) (l : List Slt) : mixS x l 0 = l := by simp [mixS]
theorem mixS_all (x : Six) (l : List Slt) : mixS x l l.length = psO x 0 l := by
  unfold mixS
  rw [List.drop_length, List.append_nil, List.take_of_length_le (by rw [psO_len]; exact Nat.le_refl _)]
theorem mixS_len (x : Six) (l : List Slt) {k : Nat} (hk : k ≤ l.length) : (mixS x l k).length = l.length := by
  unfold mixS
  rw [List.length_append, List.length_take, List.length_drop, psO_len]
  omega
theorem mixS_step (x : Six) (l : List Slt) {k : Nat} (hk : k < l.length) : ∃ h : k < (mixS x l k).length, (mixS x l k)[k] = l[k] ∧ (mixS x l k).set k ⟨pickP (x.a1.tdiv (1 + 3 * (k : Int))) 4, l[k].fr, l[k].tt⟩ = mixS x l (k + 1) := by
  have hl := mixS_len x l (Nat.le_of_lt hk)
  have ht : ((psO x 0 l).take k).length = k := by rw [List.length_take, psO_len]; omega
  refine ⟨by omega, ?_, ?_⟩
  · unfold mixS
    rw [List.getElem_append_right (by omega)]
    simp [ht]
  · unfold mixS
    rw [List.set_append_right _ _ (by omega), ht, Nat.sub_self, List.drop_eq_getElem_cons hk, List.set_cons_zero, psO_take x l 0 k hk, Nat.zero_add]
    simp
end Go.Proofs.Ytikphbgfcpamgaa
