/- QuotaParts: the walk (printed by quota_laws.py). -/
import Derived.Test.YtpddnkefggaigaaU1
namespace Go.Proofs.Ytpddnkefggaigaa
open Go.RowKit

set_option maxHeartbeats 4000000 in
set_option maxRecDepth 100000 in
theorem parts_walk (hsane : ∀ w, Calls Try.prog 10 #[] w (Tru w)) (A : Option Addr) (n c : Nat) (has : List Int) (A2 : Option Addr) (n2 c2 : Nat) (xs : List Quad) (z1 : Quad) (x1 : Int) (x2 : Int) (w : World) (h : RW_ w w.heap.size ⟨A, n, c⟩ has) (hi : okI has) (h2 : RQ w w.heap.size ⟨A2, n2, c2⟩ xs) (hq : ∀ x ∈ xs, x.ok) (o1 : z1.ok) (b1 : I64ok x1) (b2 : I64ok x2) :
    Calls Try.prog 8 #[.slice A n c, .slice A2 n2 c2, quadV z1, .int .i64 x1, .int .i64 x2] w (Tru w) := by
  have HS := Lib.hid hsane
  have HM := Lib.hid (made_any A n c has A2 n2 c2 xs)
  have HI := Lib.hid hi
  have HQ := Lib.hid hq
  have hsm := made_sm has xs
  generalize madeP has xs = p at HM hsm
  have HP := Lib.hid hsm
  have hB := Ext.refl w
  clear hsane hi hq hsm
  obtain ⟨b11, b12⟩ := b1
  obtain ⟨b21, b22⟩ := b2
  obtain ⟨y1, y2, y3, y4⟩ := z1
  have HZ1 := Lib.hid o1
  clear o1
  show Calls Try.prog 8 #[.slice A n c, .slice A2 n2 c2, .agg #[.int .i64 y1, .int .i64 y2, .int .i64 y3, .int .i64 y4], .int .i64 x1, .int .i64 x2] w _
  go_enter Try.func8, Try.ntmps8
  go_upto_region 1 with (fail)
  generalize hW : w.alloc _ = W0
  have j1 : Blk W0 w.heap.size 53 #[.int .i64 y1, .int .i64 y2, .int .i64 y3, .int .i64 y4] := by subst hW; exact Blk.new_at _ _ rfl
  have hB : Ext w W0 := by subst hW; exact (by repeat (first | exact Below.refl _ _ | assumption | refine Below.drew ?_ | refine below_drewN ?_ _ | refine bl_alloc ?_ _ | refine Below.setCell ?_ (by first | (simp; done) | omega | (simp; omega)) _ | refine bl_then ?_ (by assumption)))
  clear hW
  generalize hg2 : w.heap.size = g1 at j1 ⊢
  clear hg2
  go_wp2_with fail
  refine (HS.out W0).mono ?_
  rintro e W1 ⟨rfl, hx⟩
  have hB := hB.ext hx
  have j1 := j1.ext hx
  clear hx
  go_wp2_with fail
  refine (HM.out W1 (h.to hB) HI.out (h2.to hB) HQ.out).mono ?_
  rintro e W2 ⟨⟨p1A, p1n, p1c⟩, ⟨p2A, p2n, p2c⟩, ⟨p3A, p3n, p3c⟩, ⟨p4A, p4n, p4c⟩, rfl, hx, hp⟩
  have hB := hB.ext hx
  have j1 := j1.ext hx
  clear hx
  have hp := hp.pool
  simp only [poolV, Sl.v]
  go_upto_region 4 with (fail)
  have vp := PV.new hp
  have hx : Ext W2 (W2.alloc _) := bl_alloc (Below.refl _ _) (.cells #[.slice p1A p1n p1c, .slice p2A p2n p2c, .slice p3A p3n p3c, .slice p4A p4n p4c] 26)
  have hgp : ∃ g, g = W2.heap.size := ⟨_, rfl⟩
  obtain ⟨gp, hg⟩ := hgp
  rw [← hg] at vp ⊢
  generalize W2.alloc _ = W3 at vp hx ⊢
  have hB := hB.ext hx
  have j1 := j1.ext hx
  clear hx hg hp
  have k0 := j1.cell 0
  have k1 := j1.cell 1
  have k2 := j1.cell 2
  have k3 := j1.cell 3
  go_wp2_with fail
  have jb : Blk (W3.alloc (.cells #[.int .i64 y1, .int .i64 y2, .int .i64 y3, .int .i64 y4] 53)) W3.heap.size 53 #[.int .i64 y1, .int .i64 y2, .int .i64 y3, .int .i64 y4] := Blk.new_at _ _ rfl
  have hx : Ext W3 (W3.alloc (.cells #[.int .i64 y1, .int .i64 y2, .int .i64 y3, .int .i64 y4] 53)) := bl_alloc (Below.refl _ _) _
  obtain ⟨gx, hgx⟩ : ∃ g, g = W3.heap.size := ⟨_, rfl⟩
  rw [← hgx] at jb ⊢
  generalize W3.alloc _ = W4 at jb hx ⊢
  clear hgx
  have hB := hB.ext hx
  have j1 := j1.ext hx
  have vp := vp.ext hx
  have hrq : RQ W4 W4.heap.size ⟨some ⟨gx, 0, none⟩, 1, 1⟩ [⟨y1, y2, y3, y4⟩] := RQ_of_blk jb rfl rfl (by omega)
  refine (deeds_any (some ⟨gx, 0, none⟩) 1 1 [⟨y1, y2, y3, y4⟩] W4 hrq (by intro x hx; rcases List.mem_cons.1 hx with rfl | hx; exact HZ1.out; cases hx)).mono ?_
  rintro e W5 ⟨v, rfl, hx2, hrow⟩
  clear hx hrq jb
  have hB := hB.ext hx2
  have j1 := j1.ext hx2
  have vp := vp.ext hx2
  have hrow : DeedRow W5 0 v [deedOf ⟨y1, y2, y3, y4⟩] := own_base hrow (Nat.zero_le _)
  clear hx2
  have dbd := deedOf_db ⟨y1, y2, y3, y4⟩
  have dsd := deedOf_small ⟨y1, y2, y3, y4⟩
  generalize deedOf ⟨y1, y2, y3, y4⟩ = d_d at hrow dbd dsd
  obtain ⟨d0, d1, d2, d3, d4⟩ := d_d
  have DBd := Lib.hid dbd
  have DSd := Lib.hid dsd
  clear dbd dsd
  obtain ⟨gl, cl, hv⟩ := hrow.form5 (n := 1) rfl (by omega)
  subst hv
  have q0 : W5.cell? ⟨gl, 0, none⟩ = some (.int .i64 d0) := (hrow.cell5 0 (by simp)).1
  have q1 : W5.cell? ⟨gl, 1, none⟩ = some (.int .i64 d1) := (hrow.cell5 0 (by simp)).2.1
  have q2 : W5.cell? ⟨gl, 2, none⟩ = some (.int .i64 d2) := (hrow.cell5 0 (by simp)).2.2.1
  have q3 : W5.cell? ⟨gl, 3, none⟩ = some (.int .i64 d3) := (hrow.cell5 0 (by simp)).2.2.2.1
  have q4 : W5.cell? ⟨gl, 4, none⟩ = some (.int .i64 d4) := (hrow.cell5 0 (by simp)).2.2.2.2
  go_upto_region 5 with (fail)
  have jd : Blk (W5.alloc (.cells #[.int .i64 (d0), .int .i64 (d1), .int .i64 (d2), .int .i64 (d3), .int .i64 (d4)] 30)) W5.heap.size 30 #[.int .i64 (d0), .int .i64 (d1), .int .i64 (d2), .int .i64 (d3), .int .i64 (d4)] := Blk.new_at _ _ rfl
  have hx : Ext W5 (W5.alloc (.cells #[.int .i64 (d0), .int .i64 (d1), .int .i64 (d2), .int .i64 (d3), .int .i64 (d4)] 30)) := bl_alloc (Below.refl _ _) _
  obtain ⟨gd, hgx⟩ : ∃ g, g = W5.heap.size := ⟨_, rfl⟩
  rw [← hgx] at jd ⊢
  generalize W5.alloc _ = W6 at jd hx ⊢
  have hB := hB.ext hx
  have j1 := j1.ext hx
  have vp := vp.ext hx
  have hrow := hrow.ext hx
  clear hgx hx
  clear q0 q1 q2 q3 q4 j1 hrow k0 k1 k2 k3
  have hdb := DBd.out
  obtain ⟨dk1, dk2⟩ := hdb.k
  obtain ⟨df1, df2⟩ := hdb.f
  obtain ⟨dt1, dt2⟩ := hdb.t
  obtain ⟨du1, du2⟩ := hdb.u
  obtain ⟨dc1, dc2⟩ := hdb.c
  clear hdb
  dsimp only at dk1 dk2 df1 df2 dt1 dt2 du1 du2 dc1 dc2
  have pu := pickI_bd x1 12 (by omega)
  have pc := pickI_bd x2 500 (by omega)
  have dq0 := jd.cell 0
  have dq1 := jd.cell 1
  have dq2 := jd.cell 2
  have dq3 := jd.cell 3
  have dq4 := jd.cell 4
  go_upto_region 8 with (go_at_call 12; refine (lpick_any _ _ _ (by omega) (by omega) (by omega) (by omega)).mono ?_; rintro e w9 ⟨rfl, rfl⟩)
  generalize pickI x1 12 = u0 at pu ⊢
  generalize pickI x2 500 = c0 at pc ⊢
  obtain ⟨u, hu⟩ : ∃ u, u = 1 + u0 := ⟨_, rfl⟩
  rw [← hu]
  have hu1 : 1 ≤ u := by omega
  have hu2 : u ≤ 12 := by omega
  obtain ⟨pc1, pc2⟩ := pc
  clear hu pu
  clear dq0 dq1 dq2 dq3 dq4
  have jm : Blk (W6.alloc (.cells #[.int .i64 (d0), .int .i64 (d1), .int .i64 (d2), .int .i64 (u), .int .i64 (c0)] 30)) W6.heap.size 30 #[.int .i64 (d0), .int .i64 (d1), .int .i64 (d2), .int .i64 (u), .int .i64 (c0)] := Blk.new_at _ _ rfl
  have hx : Ext W6 (W6.alloc (.cells #[.int .i64 (d0), .int .i64 (d1), .int .i64 (d2), .int .i64 (u), .int .i64 (c0)] 30)) := bl_alloc (Below.refl _ _) _
  obtain ⟨gm, hgx⟩ : ∃ g, g = W6.heap.size := ⟨_, rfl⟩
  rw [← hgx] at jm ⊢
  generalize W6.alloc _ = W7 at jm hx ⊢
  have hB := hB.ext hx
  have vp := vp.ext hx
  have jd := jd.ext hx
  clear hgx hx
  have dq0 := jd.cell 0
  have dq1 := jd.cell 1
  have dq2 := jd.cell 2
  have dq3 := jd.cell 3
  have dq4 := jd.cell 4
  have mq0 := jm.cell 0
  have mq1 := jm.cell 1
  have mq2 := jm.cell 2
  have mq3 := jm.cell 3
  have mq4 := jm.cell 4
  have ld := jd.lt
  have lm := jm.lt
  go_upto_region 11 with (fail)
  clear ld lm
  clear dq0 dq1 dq2 dq3 dq4
  clear mq0 mq1 mq2 mq3 mq4
  have jh : Blk (W7.alloc (.cells #[.int .i64 (d0), .int .i64 (d1), .int .i64 (d2), .int .i64 (d3 + u), .int .i64 (d4 + c0)] 30)) W7.heap.size 30 #[.int .i64 (d0), .int .i64 (d1), .int .i64 (d2), .int .i64 (d3 + u), .int .i64 (d4 + c0)] := Blk.new_at _ _ rfl
  have hx : Ext W7 (W7.alloc (.cells #[.int .i64 (d0), .int .i64 (d1), .int .i64 (d2), .int .i64 (d3 + u), .int .i64 (d4 + c0)] 30)) := bl_alloc (Below.refl _ _) _
  obtain ⟨gh, hgx⟩ : ∃ g, g = W7.heap.size := ⟨_, rfl⟩
  rw [← hgx] at jh ⊢
  generalize W7.alloc _ = W8 at jh hx ⊢
  have hB := hB.ext hx
  have vp := vp.ext hx
  have jd := jd.ext hx
  have jm := jm.ext hx
  clear hgx hx
  obtain ⟨r1, Hr1⟩ : ∃ r, r = doP p ⟨d0, d1, d2, d3, d4⟩ := ⟨_, rfl⟩
  have hdo := do_any ⟨p1A, p1n, p1c⟩ ⟨p2A, p2n, p2c⟩ ⟨p3A, p3n, p3c⟩ ⟨p4A, p4n, p4c⟩ p ⟨d0, d1, d2, d3, d4⟩
  rw [← Hr1] at hdo
  have HD := Lib.hid hdo
  have Kr1 := Lib.hid Hr1
  clear hdo Hr1
  have pc0 : W8.cell? ⟨gp, 0, none⟩ = some (.slice p1A p1n p1c) := vp.blk.cell 0
  have pc1 : W8.cell? ⟨gp, 1, none⟩ = some (.slice p2A p2n p2c) := vp.blk.cell 1
  have pc2 : W8.cell? ⟨gp, 2, none⟩ = some (.slice p3A p3n p3c) := vp.blk.cell 2
  have pc3 : W8.cell? ⟨gp, 3, none⟩ = some (.slice p4A p4n p4c) := vp.blk.cell 3
  have dq0 := jd.cell 0
  have dq1 := jd.cell 1
  have dq2 := jd.cell 2
  have dq3 := jd.cell 3
  have dq4 := jd.cell 4
  go_wp2_with fail
  refine (HD.out W8 vp.pool).mono ?_
  rintro e W9 ⟨_, rfl, hx, hgot⟩
  obtain ⟨⟨a1A, a1n, a1c⟩, ⟨a2A, a2n, a2c⟩, ⟨a3A, a3n, a3c⟩, ⟨a4A, a4n, a4c⟩, rfl, hp⟩ := hgot.uni
  have hB := hB.ext hx
  have vp := vp.ext hx
  have jd := jd.ext hx
  have jm := jm.ext hx
  have jh := jh.ext hx
  clear hx hgot
  simp only [poolV, Sl.v]
  go_upto_region 12 with (fail)
  have va := PV.new hp
  have hx : Ext W9 (W9.alloc _) := bl_alloc (Below.refl _ _) (.cells #[.slice a1A a1n a1c, .slice a2A a2n a2c, .slice a3A a3n a3c, .slice a4A a4n a4c] 26)
  have hga : ∃ g, g = W9.heap.size := ⟨_, rfl⟩
  obtain ⟨ga, hg⟩ := hga
  rw [← hg] at va ⊢
  generalize W9.alloc _ = W10 at va hx ⊢
  have hB := hB.ext hx
  have vp := vp.ext hx
  have jd := jd.ext hx
  have jm := jm.ext hx
  have jh := jh.ext hx
  clear hx hg hp
  clear HD
  clear pc0 pc1 pc2 pc3
  clear dq0 dq1 dq2 dq3 dq4
  obtain ⟨r2, Hr2⟩ : ∃ r, r = doP (orNil r1) ⟨d0, d1, d2, u, c0⟩ := ⟨_, rfl⟩
  have hdo := do_any ⟨a1A, a1n, a1c⟩ ⟨a2A, a2n, a2c⟩ ⟨a3A, a3n, a3c⟩ ⟨a4A, a4n, a4c⟩ (orNil r1) ⟨d0, d1, d2, u, c0⟩
  rw [← Hr2] at hdo
  have HD := Lib.hid hdo
  have Kr2 := Lib.hid Hr2
  clear hdo Hr2
  have ac0 : W10.cell? ⟨ga, 0, none⟩ = some (.slice a1A a1n a1c) := va.blk.cell 0
  have ac1 : W10.cell? ⟨ga, 1, none⟩ = some (.slice a2A a2n a2c) := va.blk.cell 1
  have ac2 : W10.cell? ⟨ga, 2, none⟩ = some (.slice a3A a3n a3c) := va.blk.cell 2
  have ac3 : W10.cell? ⟨ga, 3, none⟩ = some (.slice a4A a4n a4c) := va.blk.cell 3
  have mq0 := jm.cell 0
  have mq1 := jm.cell 1
  have mq2 := jm.cell 2
  have mq3 := jm.cell 3
  have mq4 := jm.cell 4
  go_wp2_with fail
  refine (HD.out W10 va.pool).mono ?_
  rintro e W11 ⟨_, rfl, hx, hgot⟩
  obtain ⟨⟨b1A, b1n, b1c⟩, ⟨b2A, b2n, b2c⟩, ⟨b3A, b3n, b3c⟩, ⟨b4A, b4n, b4c⟩, rfl, hp⟩ := hgot.uni
  have hB := hB.ext hx
  have vp := vp.ext hx
  have jd := jd.ext hx
  have jm := jm.ext hx
  have jh := jh.ext hx
  have va := va.ext hx
  clear hx hgot
  simp only [poolV, Sl.v]
  go_upto_region 13 with (fail)
  have vb := PV.new hp
  have hx : Ext W11 (W11.alloc _) := bl_alloc (Below.refl _ _) (.cells #[.slice b1A b1n b1c, .slice b2A b2n b2c, .slice b3A b3n b3c, .slice b4A b4n b4c] 26)
  have hgb : ∃ g, g = W11.heap.size := ⟨_, rfl⟩
  obtain ⟨gb, hg⟩ := hgb
  rw [← hg] at vb ⊢
  generalize W11.alloc _ = W12 at vb hx ⊢
  have hB := hB.ext hx
  have vp := vp.ext hx
  have jd := jd.ext hx
  have jm := jm.ext hx
  have jh := jh.ext hx
  have va := va.ext hx
  clear hx hg hp
  clear HD
  clear ac0 ac1 ac2 ac3
  clear mq0 mq1 mq2 mq3 mq4
  obtain ⟨r3, Hr3⟩ : ∃ r, r = doP p ⟨d0, d1, d2, d3 + u, d4 + c0⟩ := ⟨_, rfl⟩
  have hdo := do_any ⟨p1A, p1n, p1c⟩ ⟨p2A, p2n, p2c⟩ ⟨p3A, p3n, p3c⟩ ⟨p4A, p4n, p4c⟩ p ⟨d0, d1, d2, d3 + u, d4 + c0⟩
  rw [← Hr3] at hdo
  have HD := Lib.hid hdo
  have Kr3 := Lib.hid Hr3
  clear hdo Hr3
  have pc0 : W12.cell? ⟨gp, 0, none⟩ = some (.slice p1A p1n p1c) := vp.blk.cell 0
  have pc1 : W12.cell? ⟨gp, 1, none⟩ = some (.slice p2A p2n p2c) := vp.blk.cell 1
  have pc2 : W12.cell? ⟨gp, 2, none⟩ = some (.slice p3A p3n p3c) := vp.blk.cell 2
  have pc3 : W12.cell? ⟨gp, 3, none⟩ = some (.slice p4A p4n p4c) := vp.blk.cell 3
  have hq0 := jh.cell 0
  have hq1 := jh.cell 1
  have hq2 := jh.cell 2
  have hq3 := jh.cell 3
  have hq4 := jh.cell 4
  go_wp2_with fail
  refine (HD.out W12 vp.pool).mono ?_
  rintro e W13 ⟨_, rfl, hx, hgot⟩
  obtain ⟨⟨c1A, c1n, c1c⟩, ⟨c2A, c2n, c2c⟩, ⟨c3A, c3n, c3c⟩, ⟨c4A, c4n, c4c⟩, rfl, hp⟩ := hgot.uni
  have hB := hB.ext hx
  have vp := vp.ext hx
  have jd := jd.ext hx
  have jm := jm.ext hx
  have jh := jh.ext hx
  have va := va.ext hx
  have vb := vb.ext hx
  clear hx hgot
  simp only [poolV, Sl.v]
  go_upto_region 14 with (fail)
  have vc := PV.new hp
  have hx : Ext W13 (W13.alloc _) := bl_alloc (Below.refl _ _) (.cells #[.slice c1A c1n c1c, .slice c2A c2n c2c, .slice c3A c3n c3c, .slice c4A c4n c4c] 26)
  have hgc : ∃ g, g = W13.heap.size := ⟨_, rfl⟩
  obtain ⟨gc, hg⟩ := hgc
  rw [← hg] at vc ⊢
  generalize W13.alloc _ = W14 at vc hx ⊢
  have hB := hB.ext hx
  have vp := vp.ext hx
  have jd := jd.ext hx
  have jm := jm.ext hx
  have jh := jh.ext hx
  have va := va.ext hx
  have vb := vb.ext hx
  clear hx hg hp
  clear HD
  clear pc0 pc1 pc2 pc3
  clear hq0 hq1 hq2 hq3 hq4
  have hpr := parts_refused HP.out DBd.out ⟨hu1, hu2⟩ (c := c0) ⟨by omega, by omega⟩
  dsimp only at hpr
  rw [← Kr1.out, ← Kr2.out, ← Kr3.out] at hpr
  have HPR := Lib.hid hpr
  clear hpr jd jm jh
  cases r1 with
  | none =>
    have hn : r2 = none := Kr2.out.trans (do_nil _)
    subst hn
    have e3 := HPR.out (by first | rfl | exact hn)
    subst e3
    go_wp2
    go_ret
    exact ⟨rfl, hB⟩
  | some qa =>
    cases r2 with
    | none =>
      have e3 := HPR.out (by first | rfl | exact hn)
      subst e3
      go_wp2
      go_ret
      exact ⟨rfl, hB⟩
    | some qb =>
      have hps := parts_same HP.out DBd.out ⟨hu1, hu2⟩ (c := c0) ⟨by omega, by omega⟩ Kr1.out.symm Kr2.out.symm
      have e3 : r3 = some qb := Kr3.out.trans hps
      subst e3
      clear hps HPR
      have bc0 : W14.cell? ⟨gb, 0, none⟩ = some (.slice b1A b1n b1c) := vb.blk.cell 0
      have bc1 : W14.cell? ⟨gb, 1, none⟩ = some (.slice b2A b2n b2c) := vb.blk.cell 1
      have bc2 : W14.cell? ⟨gb, 2, none⟩ = some (.slice b3A b3n b3c) := vb.blk.cell 2
      have bc3 : W14.cell? ⟨gb, 3, none⟩ = some (.slice b4A b4n b4c) := vb.blk.cell 3
      have cc0 : W14.cell? ⟨gc, 0, none⟩ = some (.slice c1A c1n c1c) := vc.blk.cell 0
      have cc1 : W14.cell? ⟨gc, 1, none⟩ = some (.slice c2A c2n c2c) := vc.blk.cell 1
      have cc2 : W14.cell? ⟨gc, 2, none⟩ = some (.slice c3A c3n c3c) := vc.blk.cell 2
      have cc3 : W14.cell? ⟨gc, 3, none⟩ = some (.slice c4A c4n c4c) := vc.blk.cell 3
      have hcs := rsame_any ⟨b1A, b1n, b1c⟩ ⟨b2A, b2n, b2c⟩ ⟨b3A, b3n, b3c⟩ ⟨b4A, b4n, b4c⟩ ⟨c1A, c1n, c1c⟩ ⟨c2A, c2n, c2c⟩ ⟨c3A, c3n, c3c⟩ ⟨c4A, c4n, c4c⟩ (orNil (some qb)) (orNil (some qb)) W14 vb.pool vc.pool
      rw [sameB_refl] at hcs
      have HCS := Lib.hid hcs
      clear hcs
      go_wp2_with fail
      refine HCS.out.mono ?_
      rintro e W99 ⟨rfl, hx⟩
      have hB := hB.ext hx
      go_wp2
      go_ret
      exact ⟨rfl, hB⟩

end Go.Proofs.Ytpddnkefggaigaa
