/- QuotaLimits: the walk (printed by quota_laws.py). -/
import Derived.Test.YtpddnkefggaigaaU1
namespace Go.Proofs.Ytpddnkefggaigaa
open Go.RowKit

set_option maxHeartbeats 4000000 in
set_option maxRecDepth 100000 in
theorem limits_walk (hsane : ∀ w, Calls Try.prog 10 #[] w (Tru w)) (A : Option Addr) (n c : Nat) (has : List Int) (A2 : Option Addr) (n2 c2 : Nat) (xs : List Quad) (x1 : Int) (x2 : Int) (x3 : Int) (w : World) (h : RW_ w w.heap.size ⟨A, n, c⟩ has) (hi : okI has) (h2 : RQ w w.heap.size ⟨A2, n2, c2⟩ xs) (hq : ∀ x ∈ xs, x.ok) (b1 : I64ok x1) (b2 : I64ok x2) (b3 : I64ok x3) :
    Calls Try.prog 6 #[.slice A n c, .slice A2 n2 c2, .int .i64 x1, .int .i64 x2, .int .i64 x3] w (Tru w) := by
  have HS := Lib.hid hsane
  have HM := Lib.hid (made_any A n c has A2 n2 c2 xs)
  have HI := Lib.hid hi
  have HQ := Lib.hid hq
  have hsm := made_sm has xs
  generalize madeP has xs = p at HM hsm
  have HP := Lib.hid hsm
  have hB := Ext.refl w
  clear hsane hi hq hsm
  obtain ⟨b11, b12⟩ := b1
  obtain ⟨b21, b22⟩ := b2
  obtain ⟨b31, b32⟩ := b3
  go_enter Try.func6, Try.ntmps6
  go_wp2_with fail
  refine (HS.out w).mono ?_
  rintro e W1 ⟨rfl, hx⟩
  have hB := hB.ext hx
  clear hx
  go_wp2_with fail
  refine (HM.out W1 (h.to hB) HI.out (h2.to hB) HQ.out).mono ?_
  rintro e W2 ⟨⟨p1A, p1n, p1c⟩, ⟨p2A, p2n, p2c⟩, ⟨p3A, p3n, p3c⟩, ⟨p4A, p4n, p4c⟩, rfl, hx, hp⟩
  have hB := hB.ext hx
  clear hx
  have hp := hp.pool
  simp only [poolV, Sl.v]
  go_upto_region 4 with (fail)
  have vp := PV.new hp
  have hx : Ext W2 (W2.alloc _) := bl_alloc (Below.refl _ _) (.cells #[.slice p1A p1n p1c, .slice p2A p2n p2c, .slice p3A p3n p3c, .slice p4A p4n p4c] 26)
  have hgp : ∃ g, g = W2.heap.size := ⟨_, rfl⟩
  obtain ⟨gp, hg⟩ := hgp
  rw [← hg] at vp ⊢
  generalize W2.alloc _ = W3 at vp hx ⊢
  have hB := hB.ext hx
  clear hx hg hp
  have pa := pickI_bd x1 4 (by omega)
  have pb := pickI_bd x2 3 (by omega)
  have pu := pickI_bd x3 30 (by omega)
  go_upto_region 7 with (go_at_call 12; refine (lpick_any _ _ _ (by omega) (by omega) (by omega) (by omega)).mono ?_; rintro e w9 ⟨rfl, rfl⟩)
  generalize pickI x1 4 = a at pa ⊢
  generalize pickI x2 3 = b0 at pb ⊢
  generalize pickI x3 30 = u0 at pu ⊢
  obtain ⟨b, hb⟩ : ∃ b, b = (a + 1 + b0) % 4 := ⟨_, rfl⟩
  obtain ⟨u, hu⟩ : ∃ u, u = 1 + u0 := ⟨_, rfl⟩
  rw [← hb, ← hu]
  have hb2 : 0 ≤ b ∧ b ≤ 3 ∧ a ≠ b := by omega
  have hu2 : 1 ≤ u ∧ u ≤ 30 := by omega
  clear hb hu pb pu
  obtain ⟨an, rfl⟩ : ∃ k : Nat, a = (k : Int) := ⟨a.toNat, by omega⟩
  obtain ⟨pa1, pa2⟩ := pa
  have pan : an < 16 := by omega
  have L1 := lend_isSome HP.out (a := an) (b := b) (u := u) ⟨by omega, by omega⟩ ⟨hb2.1, hb2.2.1⟩ hb2.2.2 hu2
  have L2 := trade_isSome HP.out (a := an) (b := b) (u := u) ⟨by omega, by omega⟩ ⟨hb2.1, hb2.2.1⟩ hb2.2.2 hu2
  have L3 := use_isSome HP.out (a := an) (b := b) (u := u) ⟨by omega, by omega⟩ ⟨hb2.1, hb2.2.1⟩ hb2.2.2 hu2
  have L4 := free_isSome HP.out (a := an) (b := b) (u := u) ⟨by omega, by omega⟩ ⟨hb2.1, hb2.2.1⟩ hb2.2.2 hu2
  rw [← errI_zero, Int.toNat_natCast] at L1 L2 L3 L4
  have C0 := lend_any ⟨p1A, p1n, p1c⟩ ⟨p2A, p2n, p2c⟩ ⟨p3A, p3n, p3c⟩ ⟨p4A, p4n, p4c⟩ p an b u
  generalize lendP p an b u = r0 at L1 C0
  have HL0 := Lib.hid L1
  have HC0 := Lib.hid C0
  clear L1 C0
  have C1 := trade_any ⟨p1A, p1n, p1c⟩ ⟨p2A, p2n, p2c⟩ ⟨p3A, p3n, p3c⟩ ⟨p4A, p4n, p4c⟩ p an b u 5
  generalize tradeP p an b u 5 = r1 at L2 C1
  have HL1 := Lib.hid L2
  have HC1 := Lib.hid C1
  clear L2 C1
  have C2 := use_any ⟨p1A, p1n, p1c⟩ ⟨p2A, p2n, p2c⟩ ⟨p3A, p3n, p3c⟩ ⟨p4A, p4n, p4c⟩ p an u
  generalize useP p an u = r2 at L3 C2
  have HL2 := Lib.hid L3
  have HC2 := Lib.hid C2
  clear L3 C2
  have C3 := free_any ⟨p1A, p1n, p1c⟩ ⟨p2A, p2n, p2c⟩ ⟨p3A, p3n, p3c⟩ ⟨p4A, p4n, p4c⟩ p an u
  generalize freeP p an u = r3 at L4 C3
  have HL3 := Lib.hid L4
  have HC3 := Lib.hid C3
  clear L4 C3
  have pc0 : W3.cell? ⟨gp, 0, none⟩ = some (.slice p1A p1n p1c) := vp.blk.cell 0
  have pc1 : W3.cell? ⟨gp, 1, none⟩ = some (.slice p2A p2n p2c) := vp.blk.cell 1
  have pc2 : W3.cell? ⟨gp, 2, none⟩ = some (.slice p3A p3n p3c) := vp.blk.cell 2
  have pc3 : W3.cell? ⟨gp, 3, none⟩ = some (.slice p4A p4n p4c) := vp.blk.cell 3
  go_wp2_with fail
  refine (HC0.out W3 vp.pool).mono ?_
  rintro e W4 ⟨_, rfl, hx, hgot⟩
  obtain ⟨⟨a1A, a1n, a1c⟩, ⟨a2A, a2n, a2c⟩, ⟨a3A, a3n, a3c⟩, ⟨a4A, a4n, a4c⟩, rfl, hp⟩ := hgot.uni
  have hB := hB.ext hx
  have vp := vp.ext hx
  clear hx hgot
  simp only [poolV, Sl.v]
  go_upto_region 8 with (fail)
  have va := PV.new hp
  have hx : Ext W4 (W4.alloc _) := bl_alloc (Below.refl _ _) (.cells #[.slice a1A a1n a1c, .slice a2A a2n a2c, .slice a3A a3n a3c, .slice a4A a4n a4c] 26)
  have hga : ∃ g, g = W4.heap.size := ⟨_, rfl⟩
  obtain ⟨ga, hg⟩ := hga
  rw [← hg] at va ⊢
  generalize W4.alloc _ = W5 at va hx ⊢
  have hB := hB.ext hx
  have vp := vp.ext hx
  clear hx hg hp
  skip
  have pc0 : W5.cell? ⟨gp, 0, none⟩ = some (.slice p1A p1n p1c) := vp.blk.cell 0
  have pc1 : W5.cell? ⟨gp, 1, none⟩ = some (.slice p2A p2n p2c) := vp.blk.cell 1
  have pc2 : W5.cell? ⟨gp, 2, none⟩ = some (.slice p3A p3n p3c) := vp.blk.cell 2
  have pc3 : W5.cell? ⟨gp, 3, none⟩ = some (.slice p4A p4n p4c) := vp.blk.cell 3
  go_wp2_with fail
  refine (HC1.out W5 vp.pool).mono ?_
  rintro e W6 ⟨_, rfl, hx, hgot⟩
  obtain ⟨⟨b1A, b1n, b1c⟩, ⟨b2A, b2n, b2c⟩, ⟨b3A, b3n, b3c⟩, ⟨b4A, b4n, b4c⟩, rfl, hp⟩ := hgot.uni
  have hB := hB.ext hx
  have vp := vp.ext hx
  have va := va.ext hx
  clear hx hgot
  simp only [poolV, Sl.v]
  go_upto_region 9 with (fail)
  have vb := PV.new hp
  have hx : Ext W6 (W6.alloc _) := bl_alloc (Below.refl _ _) (.cells #[.slice b1A b1n b1c, .slice b2A b2n b2c, .slice b3A b3n b3c, .slice b4A b4n b4c] 26)
  have hgb : ∃ g, g = W6.heap.size := ⟨_, rfl⟩
  obtain ⟨gb, hg⟩ := hgb
  rw [← hg] at vb ⊢
  generalize W6.alloc _ = W7 at vb hx ⊢
  have hB := hB.ext hx
  have vp := vp.ext hx
  have va := va.ext hx
  clear hx hg hp
  skip
  have pc0 : W7.cell? ⟨gp, 0, none⟩ = some (.slice p1A p1n p1c) := vp.blk.cell 0
  have pc1 : W7.cell? ⟨gp, 1, none⟩ = some (.slice p2A p2n p2c) := vp.blk.cell 1
  have pc2 : W7.cell? ⟨gp, 2, none⟩ = some (.slice p3A p3n p3c) := vp.blk.cell 2
  have pc3 : W7.cell? ⟨gp, 3, none⟩ = some (.slice p4A p4n p4c) := vp.blk.cell 3
  go_wp2_with fail
  refine (HC2.out W7 vp.pool).mono ?_
  rintro e W8 ⟨_, rfl, hx, hgot⟩
  obtain ⟨⟨c1A, c1n, c1c⟩, ⟨c2A, c2n, c2c⟩, ⟨c3A, c3n, c3c⟩, ⟨c4A, c4n, c4c⟩, rfl, hp⟩ := hgot.uni
  have hB := hB.ext hx
  have vp := vp.ext hx
  have va := va.ext hx
  have vb := vb.ext hx
  clear hx hgot
  simp only [poolV, Sl.v]
  go_upto_region 10 with (fail)
  have vc := PV.new hp
  have hx : Ext W8 (W8.alloc _) := bl_alloc (Below.refl _ _) (.cells #[.slice c1A c1n c1c, .slice c2A c2n c2c, .slice c3A c3n c3c, .slice c4A c4n c4c] 26)
  have hgc : ∃ g, g = W8.heap.size := ⟨_, rfl⟩
  obtain ⟨gc, hg⟩ := hgc
  rw [← hg] at vc ⊢
  generalize W8.alloc _ = W9 at vc hx ⊢
  have hB := hB.ext hx
  have vp := vp.ext hx
  have va := va.ext hx
  have vb := vb.ext hx
  clear hx hg hp
  skip
  have pc0 : W9.cell? ⟨gp, 0, none⟩ = some (.slice p1A p1n p1c) := vp.blk.cell 0
  have pc1 : W9.cell? ⟨gp, 1, none⟩ = some (.slice p2A p2n p2c) := vp.blk.cell 1
  have pc2 : W9.cell? ⟨gp, 2, none⟩ = some (.slice p3A p3n p3c) := vp.blk.cell 2
  have pc3 : W9.cell? ⟨gp, 3, none⟩ = some (.slice p4A p4n p4c) := vp.blk.cell 3
  go_wp2_with fail
  refine (HC3.out W9 vp.pool).mono ?_
  rintro e W10 ⟨_, rfl, hx, hgot⟩
  obtain ⟨⟨d1A, d1n, d1c⟩, ⟨d2A, d2n, d2c⟩, ⟨d3A, d3n, d3c⟩, ⟨d4A, d4n, d4c⟩, rfl, hp⟩ := hgot.uni
  have hB := hB.ext hx
  have vp := vp.ext hx
  have va := va.ext hx
  have vb := vb.ext hx
  have vc := vc.ext hx
  clear hx hgot
  simp only [poolV, Sl.v]
  go_upto_region 11 with (fail)
  have vd := PV.new hp
  have hx : Ext W10 (W10.alloc _) := bl_alloc (Below.refl _ _) (.cells #[.slice d1A d1n d1c, .slice d2A d2n d2c, .slice d3A d3n d3c, .slice d4A d4n d4c] 26)
  have hgd : ∃ g, g = W10.heap.size := ⟨_, rfl⟩
  obtain ⟨gd, hg⟩ := hgd
  rw [← hg] at vd ⊢
  generalize W10.alloc _ = W11 at vd hx ⊢
  have hB := hB.ext hx
  have vp := vp.ext hx
  have va := va.ext hx
  have vb := vb.ext hx
  have vc := vc.ext hx
  clear hx hg hp
  skip
  have pc0 : W11.cell? ⟨gp, 0, none⟩ = some (.slice p1A p1n p1c) := vp.blk.cell 0
  have pc1 : W11.cell? ⟨gp, 1, none⟩ = some (.slice p2A p2n p2c) := vp.blk.cell 1
  have pc2 : W11.cell? ⟨gp, 2, none⟩ = some (.slice p3A p3n p3c) := vp.blk.cell 2
  have pc3 : W11.cell? ⟨gp, 3, none⟩ = some (.slice p4A p4n p4c) := vp.blk.cell 3
  obtain ⟨hb_, ho_, e1, e2, k1⟩ := vp.has16 HP.out.v pan
  obtain ⟨ub, uo, e3, e4, k2⟩ := vp.used16 HP.out.v pan
  have e1 : p1A = some ⟨hb_, ho_, none⟩ := e1
  have e2 : p1n = 16 := e2
  have e3 : p2A = some ⟨ub, uo, none⟩ := e3
  have e4 : p2n = 16 := e4
  subst e1 e2 e3 e4
  have M1 := HL0.out
  have M2 := HL1.out
  have M3 := HL2.out
  have M4 := HL3.out
  generalize p.has.getD an 0 = hv at k1 M1 M2 M3
  generalize p.used.getD an 0 = uv at k2 M4
  have hli : (an : Int) < 16 := by omega
  clear HL0 HL1 HL2 HL3 va vb vc vd
  cases d1 : decide (u ≤ hv) <;> cases d2 : decide (u ≤ uv)
  all_goals
    rw [d1] at M1 M2 M3
    rw [d2] at M4
    go_wp2
    go_ret
    exact ⟨rfl, hB⟩

end Go.Proofs.Ytpddnkefggaigaa
