/- sane: the examples hold (printed by quota_sane.py). -/
import Derived.Test.YtpddnkefggaigaaU1
namespace Go.Proofs.Ytpddnkefggaigaa
open Go.RowKit

def exp : Pool := ⟨[0, 10, 5, 0, 0, 0, 0, 0, 0, 0, 0, 0, 0, 0, 0, 0], [0, 0, 0, 0, 0, 0, 0, 0, 0, 0, 0, 0, 0, 0, 0, 0], [], [0, 0, 0, 0, 0, 0, 0, 0, 0, 0, 0, 0, 0, 0, 0, 0]⟩
def exa : Pool := ⟨[0, 6, 9, 0, 0, 0, 0, 0, 0, 0, 0, 0, 0, 0, 0, 0], [0, 0, 0, 0, 0, 0, 0, 0, 0, 0, 0, 0, 0, 0, 0, 0], [⟨1, 2, 4⟩], [0, 0, 0, 0, 0, 0, 0, 0, 0, 0, 0, 0, 0, 0, 0, 0]⟩
def exb : Pool := ⟨[0, 9, 6, 0, 0, 0, 0, 0, 0, 0, 0, 0, 0, 0, 0, 0], [0, 0, 0, 0, 0, 0, 0, 0, 0, 0, 0, 0, 0, 0, 0, 0], [⟨1, 2, 1⟩], [0, 0, 0, 0, 0, 0, 0, 0, 0, 0, 0, 0, 0, 0, 0, 0]⟩
def exc : Pool := ⟨[0, 12, 3, 0, 0, 0, 0, 0, 0, 0, 0, 0, 0, 0, 0, 0], [0, 0, 0, 0, 0, 0, 0, 0, 0, 0, 0, 0, 0, 0, 0, 0], [], [0, -700, 700, 0, 0, 0, 0, 0, 0, 0, 0, 0, 0, 0, 0, 0]⟩
def exd : Pool := ⟨[0, 10, 0, 0, 0, 0, 0, 0, 0, 0, 0, 0, 0, 0, 0, 0], [0, 0, 5, 0, 0, 0, 0, 0, 0, 0, 0, 0, 0, 0, 0, 0], [], [0, 0, 0, 0, 0, 0, 0, 0, 0, 0, 0, 0, 0, 0, 0, 0]⟩
def exu : Pool := ⟨[0, 10, 2, 0, 0, 0, 0, 0, 0, 0, 0, 0, 0, 0, 0, 0], [0, 0, 3, 0, 0, 0, 0, 0, 0, 0, 0, 0, 0, 0, 0, 0], [], [0, 0, 0, 0, 0, 0, 0, 0, 0, 0, 0, 0, 0, 0, 0, 0]⟩
theorem exp_eq : newP unitsL = some exp := by kernel_rfl
theorem exa_eq : lendP exp 1 2 4 = some exa := by kernel_rfl
theorem exb_eq : returnP exa 2 1 3 = some exb := by kernel_rfl
theorem exc_eq : tradeP exp 2 1 2 700 = some exc := by kernel_rfl
theorem exx_eq : useP exp 2 6 = none := by kernel_rfl
theorem exd_eq : useP exp 2 5 = some exd := by kernel_rfl
theorem exu_eq : freeP exd 2 2 = some exu := by kernel_rfl
theorem exn_eq : netP exa 1 = some 10 := by kernel_rfl
theorem exp_ok : validB exp = true ∧ totalP exp = 15 := ⟨by kernel_rfl, by kernel_rfl⟩
theorem exa_ok : validB exa = true ∧ totalP exa = 15 := ⟨by kernel_rfl, by kernel_rfl⟩
theorem exb_ok : validB exb = true ∧ totalP exb = 15 := ⟨by kernel_rfl, by kernel_rfl⟩
theorem exc_ok : validB exc = true ∧ totalP exc = 15 := ⟨by kernel_rfl, by kernel_rfl⟩
theorem exu_ok : validB exu = true ∧ totalP exu = 15 := ⟨by kernel_rfl, by kernel_rfl⟩
theorem exnil : validB nilP = false := by kernel_rfl
theorem exsame : sameB exp exp = true ∧ sameB exp exa = false := ⟨by kernel_rfl, by kernel_rfl⟩
def ArrAt (W : World) (g k : Nat) : Prop := ∃ s1 s2 s3 s4 q, W.cell? ⟨g, k * 4, none⟩ = some (Sl.v s1) ∧ W.cell? ⟨g, k * 4 + 1, none⟩ = some (Sl.v s2) ∧ W.cell? ⟨g, k * 4 + 2, none⟩ = some (Sl.v s3) ∧ W.cell? ⟨g, k * 4 + 3, none⟩ = some (Sl.v s4) ∧ PoolR W W.heap.size s1 s2 s3 s4 q ∧ validB q = true ∧ totalP q = 15
set_option maxHeartbeats 4000000 in
set_option maxRecDepth 100000 in
theorem sane_any (w : World) : Calls Try.prog 10 #[] w (Tru w) := by
  have hB := Ext.refl w
  go_enter Try.func10, Try.ntmps10
  go_wp2_with fail
  refine (units_any w).mono ?_
  rintro e W1 ⟨⟨UA, un, uc⟩, rfl, hx, hu⟩
  have hB := hB.ext hx
  clear hx
  have hcx := new_any UA un uc unitsL W1 hu
  rw [exp_eq] at hcx
  have HCX := Lib.hid hcx
  clear hcx
  go_wp2_with fail
  refine (HCX.out).mono ?_
  clear HCX
  rintro e W2 ⟨_, rfl, hx, hgot⟩
  obtain ⟨⟨p1A, p1n, p1c⟩, ⟨p2A, p2n, p2c⟩, ⟨p3A, p3n, p3c⟩, ⟨p4A, p4n, p4c⟩, rfl, hp⟩ := hgot.uniS
  have hB := hB.ext hx
  clear hx hgot
  simp only [poolV, Sl.v]
  go_upto_region 2 with (fail)
  have vp := PV.new hp
  have hx : Ext W2 (W2.alloc _) := bl_alloc (Below.refl _ _) (.cells #[.slice p1A p1n p1c, .slice p2A p2n p2c, .slice p3A p3n p3c, .slice p4A p4n p4c] 26)
  have hgp : ∃ g, g = W2.heap.size := ⟨_, rfl⟩
  obtain ⟨gp, hg⟩ := hgp
  rw [← hg] at vp ⊢
  generalize W2.alloc _ = W3 at vp hx ⊢
  have hB := hB.ext hx
  clear hx hg hp
  clear hu
  have pc0 : W3.cell? ⟨gp, 0, none⟩ = some (.slice p1A p1n p1c) := vp.blk.cell 0
  have pc1 : W3.cell? ⟨gp, 1, none⟩ = some (.slice p2A p2n p2c) := vp.blk.cell 1
  have pc2 : W3.cell? ⟨gp, 2, none⟩ = some (.slice p3A p3n p3c) := vp.blk.cell 2
  have pc3 : W3.cell? ⟨gp, 3, none⟩ = some (.slice p4A p4n p4c) := vp.blk.cell 3
  have hcx := lend_any ⟨p1A, p1n, p1c⟩ ⟨p2A, p2n, p2c⟩ ⟨p3A, p3n, p3c⟩ ⟨p4A, p4n, p4c⟩ exp 1 2 4 W3 vp.pool
  rw [exa_eq] at hcx
  have HCX := Lib.hid hcx
  clear hcx
  go_wp2_with fail
  refine (HCX.out).mono ?_
  clear HCX
  rintro e W4 ⟨_, rfl, hx, hgot⟩
  obtain ⟨⟨a1A, a1n, a1c⟩, ⟨a2A, a2n, a2c⟩, ⟨a3A, a3n, a3c⟩, ⟨a4A, a4n, a4c⟩, rfl, hp⟩ := hgot.uniS
  have hB := hB.ext hx
  have vp := vp.ext hx
  clear hx hgot
  simp only [poolV, Sl.v]
  go_upto_region 3 with (fail)
  have va := PV.new hp
  have hx : Ext W4 (W4.alloc _) := bl_alloc (Below.refl _ _) (.cells #[.slice a1A a1n a1c, .slice a2A a2n a2c, .slice a3A a3n a3c, .slice a4A a4n a4c] 26)
  have hga : ∃ g, g = W4.heap.size := ⟨_, rfl⟩
  obtain ⟨ga, hg⟩ := hga
  rw [← hg] at va ⊢
  generalize W4.alloc _ = W5 at va hx ⊢
  have hB := hB.ext hx
  have vp := vp.ext hx
  clear hx hg hp
  clear pc0 pc1 pc2 pc3
  have ac0 : W5.cell? ⟨ga, 0, none⟩ = some (.slice a1A a1n a1c) := va.blk.cell 0
  have ac1 : W5.cell? ⟨ga, 1, none⟩ = some (.slice a2A a2n a2c) := va.blk.cell 1
  have ac2 : W5.cell? ⟨ga, 2, none⟩ = some (.slice a3A a3n a3c) := va.blk.cell 2
  have ac3 : W5.cell? ⟨ga, 3, none⟩ = some (.slice a4A a4n a4c) := va.blk.cell 3
  have hcx := net_any ⟨a1A, a1n, a1c⟩ ⟨a2A, a2n, a2c⟩ ⟨a3A, a3n, a3c⟩ ⟨a4A, a4n, a4c⟩ exa 1 W5 va.pool
  rw [exn_eq] at hcx
  have HCX := Lib.hid hcx
  clear hcx
  go_wp2_with fail
  refine (HCX.out).mono ?_
  clear HCX
  rintro e W6 ⟨rfl, hx⟩
  simp only [netV]
  clear ac0 ac1 ac2 ac3
  have hB := hB.ext hx
  have vp := vp.ext hx
  have va := va.ext hx
  clear hx
  go_upto_region 4 with (fail)
  have ac0 : W6.cell? ⟨ga, 0, none⟩ = some (.slice a1A a1n a1c) := va.blk.cell 0
  have ac1 : W6.cell? ⟨ga, 1, none⟩ = some (.slice a2A a2n a2c) := va.blk.cell 1
  have ac2 : W6.cell? ⟨ga, 2, none⟩ = some (.slice a3A a3n a3c) := va.blk.cell 2
  have ac3 : W6.cell? ⟨ga, 3, none⟩ = some (.slice a4A a4n a4c) := va.blk.cell 3
  have hcx := return_any ⟨a1A, a1n, a1c⟩ ⟨a2A, a2n, a2c⟩ ⟨a3A, a3n, a3c⟩ ⟨a4A, a4n, a4c⟩ exa 2 1 3 W6 va.pool
  rw [exb_eq] at hcx
  have HCX := Lib.hid hcx
  clear hcx
  go_wp2_with fail
  refine (HCX.out).mono ?_
  clear HCX
  rintro e W7 ⟨_, rfl, hx, hgot⟩
  obtain ⟨⟨b1A, b1n, b1c⟩, ⟨b2A, b2n, b2c⟩, ⟨b3A, b3n, b3c⟩, ⟨b4A, b4n, b4c⟩, rfl, hp⟩ := hgot.uniS
  have hB := hB.ext hx
  have vp := vp.ext hx
  have va := va.ext hx
  clear hx hgot
  simp only [poolV, Sl.v]
  go_upto_region 5 with (fail)
  have vb := PV.new hp
  have hx : Ext W7 (W7.alloc _) := bl_alloc (Below.refl _ _) (.cells #[.slice b1A b1n b1c, .slice b2A b2n b2c, .slice b3A b3n b3c, .slice b4A b4n b4c] 26)
  have hgb : ∃ g, g = W7.heap.size := ⟨_, rfl⟩
  obtain ⟨gb, hg⟩ := hgb
  rw [← hg] at vb ⊢
  generalize W7.alloc _ = W8 at vb hx ⊢
  have hB := hB.ext hx
  have vp := vp.ext hx
  have va := va.ext hx
  clear hx hg hp
  clear ac0 ac1 ac2 ac3
  have pc0 : W8.cell? ⟨gp, 0, none⟩ = some (.slice p1A p1n p1c) := vp.blk.cell 0
  have pc1 : W8.cell? ⟨gp, 1, none⟩ = some (.slice p2A p2n p2c) := vp.blk.cell 1
  have pc2 : W8.cell? ⟨gp, 2, none⟩ = some (.slice p3A p3n p3c) := vp.blk.cell 2
  have pc3 : W8.cell? ⟨gp, 3, none⟩ = some (.slice p4A p4n p4c) := vp.blk.cell 3
  have hcx := trade_any ⟨p1A, p1n, p1c⟩ ⟨p2A, p2n, p2c⟩ ⟨p3A, p3n, p3c⟩ ⟨p4A, p4n, p4c⟩ exp 2 1 2 700 W8 vp.pool
  rw [exc_eq] at hcx
  have HCX := Lib.hid hcx
  clear hcx
  go_wp2_with fail
  refine (HCX.out).mono ?_
  clear HCX
  rintro e W9 ⟨_, rfl, hx, hgot⟩
  obtain ⟨⟨c1A, c1n, c1c⟩, ⟨c2A, c2n, c2c⟩, ⟨c3A, c3n, c3c⟩, ⟨c4A, c4n, c4c⟩, rfl, hp⟩ := hgot.uniS
  have hB := hB.ext hx
  have vp := vp.ext hx
  have va := va.ext hx
  have vb := vb.ext hx
  clear hx hgot
  simp only [poolV, Sl.v]
  go_upto_region 6 with (fail)
  have vc := PV.new hp
  have hx : Ext W9 (W9.alloc _) := bl_alloc (Below.refl _ _) (.cells #[.slice c1A c1n c1c, .slice c2A c2n c2c, .slice c3A c3n c3c, .slice c4A c4n c4c] 26)
  have hgc : ∃ g, g = W9.heap.size := ⟨_, rfl⟩
  obtain ⟨gc, hg⟩ := hgc
  rw [← hg] at vc ⊢
  generalize W9.alloc _ = W10 at vc hx ⊢
  have hB := hB.ext hx
  have vp := vp.ext hx
  have va := va.ext hx
  have vb := vb.ext hx
  clear hx hg hp
  clear pc0 pc1 pc2 pc3
  have pc0 : W10.cell? ⟨gp, 0, none⟩ = some (.slice p1A p1n p1c) := vp.blk.cell 0
  have pc1 : W10.cell? ⟨gp, 1, none⟩ = some (.slice p2A p2n p2c) := vp.blk.cell 1
  have pc2 : W10.cell? ⟨gp, 2, none⟩ = some (.slice p3A p3n p3c) := vp.blk.cell 2
  have pc3 : W10.cell? ⟨gp, 3, none⟩ = some (.slice p4A p4n p4c) := vp.blk.cell 3
  have hcx := use_any ⟨p1A, p1n, p1c⟩ ⟨p2A, p2n, p2c⟩ ⟨p3A, p3n, p3c⟩ ⟨p4A, p4n, p4c⟩ exp 2 6 W10 vp.pool
  rw [exx_eq] at hcx
  have HCX := Lib.hid hcx
  clear hcx
  go_wp2_with fail
  refine (HCX.out).mono ?_
  clear HCX
  rintro e W11 ⟨_, rfl, hx, hgot⟩
  obtain ⟨⟨x1A, x1n, x1c⟩, ⟨x2A, x2n, x2c⟩, ⟨x3A, x3n, x3c⟩, ⟨x4A, x4n, x4c⟩, rfl, hp⟩ := hgot.uniN
  have hB := hB.ext hx
  have vp := vp.ext hx
  have va := va.ext hx
  have vb := vb.ext hx
  have vc := vc.ext hx
  clear hx hgot
  simp only [poolV, Sl.v]
  go_upto_region 7 with (fail)
  have vx := PV.new hp
  have hx : Ext W11 (W11.alloc _) := bl_alloc (Below.refl _ _) (.cells #[.slice x1A x1n x1c, .slice x2A x2n x2c, .slice x3A x3n x3c, .slice x4A x4n x4c] 26)
  have hgx : ∃ g, g = W11.heap.size := ⟨_, rfl⟩
  obtain ⟨gx, hg⟩ := hgx
  rw [← hg] at vx ⊢
  generalize W11.alloc _ = W12 at vx hx ⊢
  have hB := hB.ext hx
  have vp := vp.ext hx
  have va := va.ext hx
  have vb := vb.ext hx
  have vc := vc.ext hx
  clear hx hg hp
  clear pc0 pc1 pc2 pc3
  have pc0 : W12.cell? ⟨gp, 0, none⟩ = some (.slice p1A p1n p1c) := vp.blk.cell 0
  have pc1 : W12.cell? ⟨gp, 1, none⟩ = some (.slice p2A p2n p2c) := vp.blk.cell 1
  have pc2 : W12.cell? ⟨gp, 2, none⟩ = some (.slice p3A p3n p3c) := vp.blk.cell 2
  have pc3 : W12.cell? ⟨gp, 3, none⟩ = some (.slice p4A p4n p4c) := vp.blk.cell 3
  have hcx := use_any ⟨p1A, p1n, p1c⟩ ⟨p2A, p2n, p2c⟩ ⟨p3A, p3n, p3c⟩ ⟨p4A, p4n, p4c⟩ exp 2 5 W12 vp.pool
  rw [exd_eq] at hcx
  have HCX := Lib.hid hcx
  clear hcx
  go_wp2_with fail
  refine (HCX.out).mono ?_
  clear HCX
  rintro e W13 ⟨_, rfl, hx, hgot⟩
  obtain ⟨⟨d1A, d1n, d1c⟩, ⟨d2A, d2n, d2c⟩, ⟨d3A, d3n, d3c⟩, ⟨d4A, d4n, d4c⟩, rfl, hp⟩ := hgot.uniS
  have hB := hB.ext hx
  have vp := vp.ext hx
  have va := va.ext hx
  have vb := vb.ext hx
  have vc := vc.ext hx
  have vx := vx.ext hx
  clear hx hgot
  simp only [poolV, Sl.v]
  go_upto_region 8 with (fail)
  have vd := PV.new hp
  have hx : Ext W13 (W13.alloc _) := bl_alloc (Below.refl _ _) (.cells #[.slice d1A d1n d1c, .slice d2A d2n d2c, .slice d3A d3n d3c, .slice d4A d4n d4c] 26)
  have hgd : ∃ g, g = W13.heap.size := ⟨_, rfl⟩
  obtain ⟨gd, hg⟩ := hgd
  rw [← hg] at vd ⊢
  generalize W13.alloc _ = W14 at vd hx ⊢
  have hB := hB.ext hx
  have vp := vp.ext hx
  have va := va.ext hx
  have vb := vb.ext hx
  have vc := vc.ext hx
  have vx := vx.ext hx
  clear hx hg hp
  clear pc0 pc1 pc2 pc3
  have dc0 : W14.cell? ⟨gd, 0, none⟩ = some (.slice d1A d1n d1c) := vd.blk.cell 0
  have dc1 : W14.cell? ⟨gd, 1, none⟩ = some (.slice d2A d2n d2c) := vd.blk.cell 1
  have dc2 : W14.cell? ⟨gd, 2, none⟩ = some (.slice d3A d3n d3c) := vd.blk.cell 2
  have dc3 : W14.cell? ⟨gd, 3, none⟩ = some (.slice d4A d4n d4c) := vd.blk.cell 3
  have hcx := free_any ⟨d1A, d1n, d1c⟩ ⟨d2A, d2n, d2c⟩ ⟨d3A, d3n, d3c⟩ ⟨d4A, d4n, d4c⟩ exd 2 2 W14 vd.pool
  rw [exu_eq] at hcx
  have HCX := Lib.hid hcx
  clear hcx
  go_wp2_with fail
  refine (HCX.out).mono ?_
  clear HCX
  rintro e W15 ⟨_, rfl, hx, hgot⟩
  obtain ⟨⟨u1A, u1n, u1c⟩, ⟨u2A, u2n, u2c⟩, ⟨u3A, u3n, u3c⟩, ⟨u4A, u4n, u4c⟩, rfl, hp⟩ := hgot.uniS
  have hB := hB.ext hx
  have vp := vp.ext hx
  have va := va.ext hx
  have vb := vb.ext hx
  have vc := vc.ext hx
  have vx := vx.ext hx
  have vd := vd.ext hx
  clear hx hgot
  simp only [poolV, Sl.v]
  go_upto_region 11 with (fail)
  have vu := PV.new hp
  have hx : Ext W15 (W15.alloc _) := bl_alloc (Below.refl _ _) (.cells #[.slice u1A u1n u1c, .slice u2A u2n u2c, .slice u3A u3n u3c, .slice u4A u4n u4c] 26)
  have hgu : ∃ g, g = W15.heap.size := ⟨_, rfl⟩
  obtain ⟨gu, hg⟩ := hgu
  rw [← hg] at vu ⊢
  generalize W15.alloc _ = W16 at vu hx ⊢
  have hB := hB.ext hx
  have vp := vp.ext hx
  have va := va.ext hx
  have vb := vb.ext hx
  have vc := vc.ext hx
  have vx := vx.ext hx
  have vd := vd.ext hx
  clear hx hg hp
  clear dc0 dc1 dc2 dc3
  clear vd vx
  have pc0 : W16.cell? ⟨gp, 0, none⟩ = some (.slice p1A p1n p1c) := vp.blk.cell 0
  have pc1 : W16.cell? ⟨gp, 1, none⟩ = some (.slice p2A p2n p2c) := vp.blk.cell 1
  have pc2 : W16.cell? ⟨gp, 2, none⟩ = some (.slice p3A p3n p3c) := vp.blk.cell 2
  have pc3 : W16.cell? ⟨gp, 3, none⟩ = some (.slice p4A p4n p4c) := vp.blk.cell 3
  have ac0 : W16.cell? ⟨ga, 0, none⟩ = some (.slice a1A a1n a1c) := va.blk.cell 0
  have ac1 : W16.cell? ⟨ga, 1, none⟩ = some (.slice a2A a2n a2c) := va.blk.cell 1
  have ac2 : W16.cell? ⟨ga, 2, none⟩ = some (.slice a3A a3n a3c) := va.blk.cell 2
  have ac3 : W16.cell? ⟨ga, 3, none⟩ = some (.slice a4A a4n a4c) := va.blk.cell 3
  have bc0 : W16.cell? ⟨gb, 0, none⟩ = some (.slice b1A b1n b1c) := vb.blk.cell 0
  have bc1 : W16.cell? ⟨gb, 1, none⟩ = some (.slice b2A b2n b2c) := vb.blk.cell 1
  have bc2 : W16.cell? ⟨gb, 2, none⟩ = some (.slice b3A b3n b3c) := vb.blk.cell 2
  have bc3 : W16.cell? ⟨gb, 3, none⟩ = some (.slice b4A b4n b4c) := vb.blk.cell 3
  have cc0 : W16.cell? ⟨gc, 0, none⟩ = some (.slice c1A c1n c1c) := vc.blk.cell 0
  have cc1 : W16.cell? ⟨gc, 1, none⟩ = some (.slice c2A c2n c2c) := vc.blk.cell 1
  have cc2 : W16.cell? ⟨gc, 2, none⟩ = some (.slice c3A c3n c3c) := vc.blk.cell 2
  have cc3 : W16.cell? ⟨gc, 3, none⟩ = some (.slice c4A c4n c4c) := vc.blk.cell 3
  have uc0 : W16.cell? ⟨gu, 0, none⟩ = some (.slice u1A u1n u1c) := vu.blk.cell 0
  have uc1 : W16.cell? ⟨gu, 1, none⟩ = some (.slice u2A u2n u2c) := vu.blk.cell 1
  have uc2 : W16.cell? ⟨gu, 2, none⟩ = some (.slice u3A u3n u3c) := vu.blk.cell 2
  have uc3 : W16.cell? ⟨gu, 3, none⟩ = some (.slice u4A u4n u4c) := vu.blk.cell 3
  go_wp2_with fail
  clear pc0 pc1 pc2 pc3
  clear ac0 ac1 ac2 ac3
  clear bc0 bc1 bc2 bc3
  clear cc0 cc1 cc2 cc3
  clear uc0 uc1 uc2 uc3
  obtain ⟨gA, hgA⟩ : ∃ g, g = W16.heap.size := ⟨_, rfl⟩
  rw [← hgA]
  have jA : Blk (W16.alloc (.cells #[.slice p1A p1n p1c, .slice p2A p2n p2c, .slice p3A p3n p3c, .slice p4A p4n p4c, .slice a1A a1n a1c, .slice a2A a2n a2c, .slice a3A a3n a3c, .slice a4A a4n a4c, .slice b1A b1n b1c, .slice b2A b2n b2c, .slice b3A b3n b3c, .slice b4A b4n b4c, .slice c1A c1n c1c, .slice c2A c2n c2c, .slice c3A c3n c3c, .slice c4A c4n c4c, .slice u1A u1n u1c, .slice u2A u2n u2c, .slice u3A u3n u3c, .slice u4A u4n u4c] 26)) gA 26 #[.slice p1A p1n p1c, .slice p2A p2n p2c, .slice p3A p3n p3c, .slice p4A p4n p4c, .slice a1A a1n a1c, .slice a2A a2n a2c, .slice a3A a3n a3c, .slice a4A a4n a4c, .slice b1A b1n b1c, .slice b2A b2n b2c, .slice b3A b3n b3c, .slice b4A b4n b4c, .slice c1A c1n c1c, .slice c2A c2n c2c, .slice c3A c3n c3c, .slice c4A c4n c4c, .slice u1A u1n u1c, .slice u2A u2n u2c, .slice u3A u3n u3c, .slice u4A u4n u4c] := Blk.new_at _ _ hgA.symm
  have hx : Ext W16 (W16.alloc (.cells #[.slice p1A p1n p1c, .slice p2A p2n p2c, .slice p3A p3n p3c, .slice p4A p4n p4c, .slice a1A a1n a1c, .slice a2A a2n a2c, .slice a3A a3n a3c, .slice a4A a4n a4c, .slice b1A b1n b1c, .slice b2A b2n b2c, .slice b3A b3n b3c, .slice b4A b4n b4c, .slice c1A c1n c1c, .slice c2A c2n c2c, .slice c3A c3n c3c, .slice c4A c4n c4c, .slice u1A u1n u1c, .slice u2A u2n u2c, .slice u3A u3n u3c, .slice u4A u4n u4c] 26)) := bl_alloc (Below.refl _ _) _
  generalize W16.alloc _ = WA at jA hx ⊢
  have hB := hB.ext hx
  have vp := vp.ext hx
  have va := va.ext hx
  have vb := vb.ext hx
  have vc := vc.ext hx
  have vu := vu.ext hx
  clear hx hgA
  have hall : ∀ k, k < 5 → ArrAt WA gA k := by
    intro k hk
    match k, hk with
    | 0, _ => exact ⟨⟨p1A, p1n, p1c⟩, ⟨p2A, p2n, p2c⟩, ⟨p3A, p3n, p3c⟩, ⟨p4A, p4n, p4c⟩, exp, jA.cell 0, jA.cell 1, jA.cell 2, jA.cell 3, vp.pool, exp_ok.1, exp_ok.2⟩
    | 1, _ => exact ⟨⟨a1A, a1n, a1c⟩, ⟨a2A, a2n, a2c⟩, ⟨a3A, a3n, a3c⟩, ⟨a4A, a4n, a4c⟩, exa, jA.cell 4, jA.cell 5, jA.cell 6, jA.cell 7, va.pool, exa_ok.1, exa_ok.2⟩
    | 2, _ => exact ⟨⟨b1A, b1n, b1c⟩, ⟨b2A, b2n, b2c⟩, ⟨b3A, b3n, b3c⟩, ⟨b4A, b4n, b4c⟩, exb, jA.cell 8, jA.cell 9, jA.cell 10, jA.cell 11, vb.pool, exb_ok.1, exb_ok.2⟩
    | 3, _ => exact ⟨⟨c1A, c1n, c1c⟩, ⟨c2A, c2n, c2c⟩, ⟨c3A, c3n, c3c⟩, ⟨c4A, c4n, c4c⟩, exc, jA.cell 12, jA.cell 13, jA.cell 14, jA.cell 15, vc.pool, exc_ok.1, exc_ok.2⟩
    | 4, _ => exact ⟨⟨u1A, u1n, u1c⟩, ⟨u2A, u2n, u2c⟩, ⟨u3A, u3n, u3c⟩, ⟨u4A, u4n, u4c⟩, exu, jA.cell 16, jA.cell 17, jA.cell 18, jA.cell 19, vu.pool, exu_ok.1, exu_ok.2⟩
  have HA := Lib.hid hall
  clear hall jA
  go_loopw [98] (fun i wr => ∃ k : Nat, k ≤ 5 ∧ i = .int .i64 k ∧ Ext WA wr) (fun i _ => 5 - (intOf i).toNat)
  case atStart => exact ⟨0, by omega, rfl, Ext.refl _⟩
  case round =>
    obtain ⟨k, hk, rfl, hxr⟩ := hrel
    by_cases hlt : k < 5
    · obtain ⟨⟨q1A, q1n, q1c⟩, ⟨q2A, q2n, q2c⟩, ⟨q3A, q3n, q3c⟩, ⟨q4A, q4n, q4c⟩, q, c0, c1, c2, c3, hp, hv, ht⟩ := HA.out k hlt
      have c0 : wr.cell? ⟨gA, k * 4, none⟩ = some (.slice q1A q1n q1c) := ext_cell hxr c0
      have c1 : wr.cell? ⟨gA, k * 4 + 1, none⟩ = some (.slice q2A q2n q2c) := ext_cell hxr c1
      have c2 : wr.cell? ⟨gA, k * 4 + 2, none⟩ = some (.slice q3A q3n q3c) := ext_cell hxr c2
      have c3 : wr.cell? ⟨gA, k * 4 + 3, none⟩ = some (.slice q4A q4n q4c) := ext_cell hxr c3
      have hp := hp.next hxr
      have hvd := (vd_iff q).1 hv
      obtain rfl : q1n = 16 := by have h1 : q.has.length = q1n := hp.1.len; have := hvd.lh; omega
      obtain rfl : q2n = 16 := by have h1 : q.used.length = q2n := hp.2.1.len; have := hvd.lu; omega
      obtain rfl : q4n = 16 := by have h1 : q.cents.length = q4n := hp.2.2.2.len; have := hvd.lc; omega
      have HV := Lib.hid hv
      have HT := Lib.hid ht
      clear hv ht hvd vp va vb vc vu
      have hli : (k : Int) < 5 := by omega
      go_upto_region 14 with (fail)
      have vq := PV.new hp
      have hx : Ext wr (wr.alloc _) := bl_alloc (Below.refl _ _) (.cells #[.slice q1A 16 q1c, .slice q2A 16 q2c, .slice q3A q3n q3c, .slice q4A 16 q4c] 26)
      obtain ⟨gq, hg⟩ : ∃ g, g = wr.heap.size := ⟨_, rfl⟩
      rw [← hg] at vq ⊢
      generalize wr.alloc _ = WQ at vq hx ⊢
      have hxr := hxr.ext hx
      clear hx hg hp c0 c1 c2 c3
      have d0 : WQ.cell? ⟨gq, 0, none⟩ = some (.slice q1A 16 q1c) := vq.blk.cell 0
      have d1 : WQ.cell? ⟨gq, 1, none⟩ = some (.slice q2A 16 q2c) := vq.blk.cell 1
      have d2 : WQ.cell? ⟨gq, 2, none⟩ = some (.slice q3A q3n q3c) := vq.blk.cell 2
      have d3 : WQ.cell? ⟨gq, 3, none⟩ = some (.slice q4A 16 q4c) := vq.blk.cell 3
      have hcv := valid_any _ _ _ _ _ WQ vq.pool
      rw [HV.out] at hcv
      have HCV := Lib.hid hcv
      clear hcv
      go_wp2_with fail
      refine HCV.out.mono ?_
      rintro e W8 ⟨rfl, hx⟩
      have vq := vq.ext hx
      have hxr := hxr.ext hx
      clear hx HCV d0 d1 d2 d3
      have d0 : W8.cell? ⟨gq, 0, none⟩ = some (.slice q1A 16 q1c) := vq.blk.cell 0
      have d1 : W8.cell? ⟨gq, 1, none⟩ = some (.slice q2A 16 q2c) := vq.blk.cell 1
      have d2 : W8.cell? ⟨gq, 2, none⟩ = some (.slice q3A q3n q3c) := vq.blk.cell 2
      have d3 : W8.cell? ⟨gq, 3, none⟩ = some (.slice q4A 16 q4c) := vq.blk.cell 3
      have hct := total_any _ _ _ _ _ W8 vq.pool
      rw [HT.out] at hct
      have HCT := Lib.hid hct
      clear hct
      go_wp2_with fail
      refine HCT.out.mono ?_
      rintro e W9 ⟨rfl, hx⟩
      have hxr := hxr.ext hx
      clear hx HCT d0 d1 d2 d3
      go_wp2
      go_roundw
      case rel => exact ⟨k + 1, by omega, by go_num, hxr⟩
      case measure => simp [intOf]; omega
    · obtain rfl : k = 5 := by omega
      have hB := hB.ext hxr
      have vp := vp.ext hxr
      have va := va.ext hxr
      have vb := vb.ext hxr
      have vc := vc.ext hxr
      have vu := vu.ext hxr
      clear HA
      obtain rfl : a3n = 1 := by have h1 : exa.loans.length = a3n := va.pool.2.2.1.len; have h2 : exa.loans.length = 1 := rfl; omega
      obtain rfl : b3n = 1 := by have h1 : exb.loans.length = b3n := vb.pool.2.2.1.len; have h2 : exb.loans.length = 1 := rfl; omega
      obtain rfl : c3n = 0 := by have h1 : exc.loans.length = c3n := vc.pool.2.2.1.len; have h2 : exc.loans.length = 0 := rfl; omega
      have wp := (vd_iff _).1 exp_ok.1
      have wa := (vd_iff _).1 exa_ok.1
      have wb := (vd_iff _).1 exb_ok.1
      have wc := (vd_iff _).1 exc_ok.1
      have wu := (vd_iff _).1 exu_ok.1
      obtain ⟨ab1, ao1, e1, e2, hka1⟩ := va.hasAll wa
      have e1 : a1A = some ⟨ab1, ao1, none⟩ := e1
      have e2 : a1n = 16 := e2
      subst e1 e2
      have ra11 : wr.cell? ⟨ab1, ao1 + 1, none⟩ = some (.int .i64 6) := hka1 1 (by omega)
      have ra12 : wr.cell? ⟨ab1, ao1 + 2, none⟩ = some (.int .i64 9) := hka1 2 (by omega)
      clear hka1
      obtain ⟨bb1, bo1, e1, e2, hkb1⟩ := vb.hasAll wb
      have e1 : b1A = some ⟨bb1, bo1, none⟩ := e1
      have e2 : b1n = 16 := e2
      subst e1 e2
      have rb11 : wr.cell? ⟨bb1, bo1 + 1, none⟩ = some (.int .i64 9) := hkb1 1 (by omega)
      have rb12 : wr.cell? ⟨bb1, bo1 + 2, none⟩ = some (.int .i64 6) := hkb1 2 (by omega)
      clear hkb1
      obtain ⟨cb1, co1, e1, e2, hkc1⟩ := vc.hasAll wc
      have e1 : c1A = some ⟨cb1, co1, none⟩ := e1
      have e2 : c1n = 16 := e2
      subst e1 e2
      have rc11 : wr.cell? ⟨cb1, co1 + 1, none⟩ = some (.int .i64 12) := hkc1 1 (by omega)
      have rc12 : wr.cell? ⟨cb1, co1 + 2, none⟩ = some (.int .i64 3) := hkc1 2 (by omega)
      clear hkc1
      obtain ⟨cb4, co4, e1, e2, hkc4⟩ := vc.centsAll wc
      have e1 : c4A = some ⟨cb4, co4, none⟩ := e1
      have e2 : c4n = 16 := e2
      subst e1 e2
      have rc41 : wr.cell? ⟨cb4, co4 + 1, none⟩ = some (.int .i64 (-700)) := hkc4 1 (by omega)
      have rc42 : wr.cell? ⟨cb4, co4 + 2, none⟩ = some (.int .i64 700) := hkc4 2 (by omega)
      clear hkc4
      obtain ⟨ub1, uo1, e1, e2, hku1⟩ := vu.hasAll wu
      have e1 : u1A = some ⟨ub1, uo1, none⟩ := e1
      have e2 : u1n = 16 := e2
      subst e1 e2
      have ru12 : wr.cell? ⟨ub1, uo1 + 2, none⟩ = some (.int .i64 2) := hku1 2 (by omega)
      clear hku1
      obtain ⟨ub2, uo2, e1, e2, hku2⟩ := vu.usedAll wu
      have e1 : u2A = some ⟨ub2, uo2, none⟩ := e1
      have e2 : u2n = 16 := e2
      subst e1 e2
      have ru22 : wr.cell? ⟨ub2, uo2 + 2, none⟩ = some (.int .i64 3) := hku2 2 (by omega)
      clear hku2
      obtain ⟨alb, alo, hza, e1, _, l0, l1, l2⟩ := va.pool.2.2.1.at_ (k := 0) (by show 0 < 1; omega)
      have e1 : a3A = some ⟨alb, alo, none⟩ := e1
      subst e1
      have al0 : wr.cell? ⟨alb, alo, none⟩ = some (.int .i64 1) := l0
      have al1 : wr.cell? ⟨alb, alo + 1, none⟩ = some (.int .i64 2) := l1
      have al2 : wr.cell? ⟨alb, alo + 2, none⟩ = some (.int .i64 4) := l2
      clear l0 l1 l2
      obtain ⟨blb, blo, hzb, e1, _, l0, l1, l2⟩ := vb.pool.2.2.1.at_ (k := 0) (by show 0 < 1; omega)
      have e1 : b3A = some ⟨blb, blo, none⟩ := e1
      subst e1
      have bl0 : wr.cell? ⟨blb, blo, none⟩ = some (.int .i64 1) := l0
      have bl1 : wr.cell? ⟨blb, blo + 1, none⟩ = some (.int .i64 2) := l1
      have bl2 : wr.cell? ⟨blb, blo + 2, none⟩ = some (.int .i64 1) := l2
      clear l0 l1 l2
      have pc0 : wr.cell? ⟨gp, 0, none⟩ = some (.slice p1A p1n p1c) := vp.blk.cell 0
      have pc1 : wr.cell? ⟨gp, 1, none⟩ = some (.slice p2A p2n p2c) := vp.blk.cell 1
      have pc2 : wr.cell? ⟨gp, 2, none⟩ = some (.slice p3A p3n p3c) := vp.blk.cell 2
      have pc3 : wr.cell? ⟨gp, 3, none⟩ = some (.slice p4A p4n p4c) := vp.blk.cell 3
      have ac0 : wr.cell? ⟨ga, 0, none⟩ = some (.slice (some ⟨ab1, ao1, none⟩) 16 a1c) := va.blk.cell 0
      have ac1 : wr.cell? ⟨ga, 1, none⟩ = some (.slice a2A a2n a2c) := va.blk.cell 1
      have ac2 : wr.cell? ⟨ga, 2, none⟩ = some (.slice (some ⟨alb, alo, none⟩) 1 a3c) := va.blk.cell 2
      have ac3 : wr.cell? ⟨ga, 3, none⟩ = some (.slice a4A a4n a4c) := va.blk.cell 3
      have bc0 : wr.cell? ⟨gb, 0, none⟩ = some (.slice (some ⟨bb1, bo1, none⟩) 16 b1c) := vb.blk.cell 0
      have bc1 : wr.cell? ⟨gb, 1, none⟩ = some (.slice b2A b2n b2c) := vb.blk.cell 1
      have bc2 : wr.cell? ⟨gb, 2, none⟩ = some (.slice (some ⟨blb, blo, none⟩) 1 b3c) := vb.blk.cell 2
      have bc3 : wr.cell? ⟨gb, 3, none⟩ = some (.slice b4A b4n b4c) := vb.blk.cell 3
      have cc0 : wr.cell? ⟨gc, 0, none⟩ = some (.slice (some ⟨cb1, co1, none⟩) 16 c1c) := vc.blk.cell 0
      have cc1 : wr.cell? ⟨gc, 1, none⟩ = some (.slice c2A c2n c2c) := vc.blk.cell 1
      have cc2 : wr.cell? ⟨gc, 2, none⟩ = some (.slice c3A 0 c3c) := vc.blk.cell 2
      have cc3 : wr.cell? ⟨gc, 3, none⟩ = some (.slice (some ⟨cb4, co4, none⟩) 16 c4c) := vc.blk.cell 3
      have uc0 : wr.cell? ⟨gu, 0, none⟩ = some (.slice (some ⟨ub1, uo1, none⟩) 16 u1c) := vu.blk.cell 0
      have uc1 : wr.cell? ⟨gu, 1, none⟩ = some (.slice (some ⟨ub2, uo2, none⟩) 16 u2c) := vu.blk.cell 1
      have uc2 : wr.cell? ⟨gu, 2, none⟩ = some (.slice u3A u3n u3c) := vu.blk.cell 2
      have uc3 : wr.cell? ⟨gu, 3, none⟩ = some (.slice u4A u4n u4c) := vu.blk.cell 3
      clear wp wa wb wc wu
      have hcv := valid_any _ _ _ _ _ wr (nil_pool wr)
      rw [exnil] at hcv
      have HCV := Lib.hid hcv
      clear hcv
      go_wp2_with fail
      refine HCV.out.mono ?_
      clear HCV
      rintro e W8 ⟨rfl, hx⟩
      clear pc0 pc1 pc2 pc3
      clear ac0 ac1 ac2 ac3
      clear bc0 bc1 bc2 bc3
      clear cc0 cc1 cc2 cc3
      clear uc0 uc1 uc2 uc3
      have hB := hB.ext hx
      have vp := vp.ext hx
      have va := va.ext hx
      clear hx vb vc vu
      have pc0 : W8.cell? ⟨gp, 0, none⟩ = some (.slice p1A p1n p1c) := vp.blk.cell 0
      have pc1 : W8.cell? ⟨gp, 1, none⟩ = some (.slice p2A p2n p2c) := vp.blk.cell 1
      have pc2 : W8.cell? ⟨gp, 2, none⟩ = some (.slice p3A p3n p3c) := vp.blk.cell 2
      have pc3 : W8.cell? ⟨gp, 3, none⟩ = some (.slice p4A p4n p4c) := vp.blk.cell 3
      have ac0 : W8.cell? ⟨ga, 0, none⟩ = some (.slice (some ⟨ab1, ao1, none⟩) 16 a1c) := va.blk.cell 0
      have ac1 : W8.cell? ⟨ga, 1, none⟩ = some (.slice a2A a2n a2c) := va.blk.cell 1
      have ac2 : W8.cell? ⟨ga, 2, none⟩ = some (.slice (some ⟨alb, alo, none⟩) 1 a3c) := va.blk.cell 2
      have ac3 : W8.cell? ⟨ga, 3, none⟩ = some (.slice a4A a4n a4c) := va.blk.cell 3
      have hcs := same_any _ _ _ _ _ _ _ _ _ _ W8 vp.pool vp.pool
      rw [exsame.1] at hcs
      have HCS := Lib.hid hcs
      clear hcs
      go_wp2_with fail
      refine HCS.out.mono ?_
      clear HCS
      rintro e W9 ⟨rfl, hx⟩
      clear pc0 pc1 pc2 pc3
      clear ac0 ac1 ac2 ac3
      have hB := hB.ext hx
      have vp := vp.ext hx
      have va := va.ext hx
      clear hx
      have pc0 : W9.cell? ⟨gp, 0, none⟩ = some (.slice p1A p1n p1c) := vp.blk.cell 0
      have pc1 : W9.cell? ⟨gp, 1, none⟩ = some (.slice p2A p2n p2c) := vp.blk.cell 1
      have pc2 : W9.cell? ⟨gp, 2, none⟩ = some (.slice p3A p3n p3c) := vp.blk.cell 2
      have pc3 : W9.cell? ⟨gp, 3, none⟩ = some (.slice p4A p4n p4c) := vp.blk.cell 3
      have ac0 : W9.cell? ⟨ga, 0, none⟩ = some (.slice (some ⟨ab1, ao1, none⟩) 16 a1c) := va.blk.cell 0
      have ac1 : W9.cell? ⟨ga, 1, none⟩ = some (.slice a2A a2n a2c) := va.blk.cell 1
      have ac2 : W9.cell? ⟨ga, 2, none⟩ = some (.slice (some ⟨alb, alo, none⟩) 1 a3c) := va.blk.cell 2
      have ac3 : W9.cell? ⟨ga, 3, none⟩ = some (.slice a4A a4n a4c) := va.blk.cell 3
      have hcs := same_any _ _ _ _ _ _ _ _ _ _ W9 vp.pool va.pool
      rw [exsame.2] at hcs
      have HCS := Lib.hid hcs
      clear hcs
      go_wp2_with fail
      refine HCS.out.mono ?_
      clear HCS
      rintro e W10 ⟨rfl, hx⟩
      clear pc0 pc1 pc2 pc3
      clear ac0 ac1 ac2 ac3
      have hB := hB.ext hx
      have vp := vp.ext hx
      have va := va.ext hx
      clear hx
      go_wp2
      go_ret
      exact ⟨rfl, hB⟩

end Go.Proofs.Ytpddnkefggaigaa
