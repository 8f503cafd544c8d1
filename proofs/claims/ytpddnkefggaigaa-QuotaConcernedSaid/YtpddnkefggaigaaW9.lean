/- QuotaConcerned: the walk (printed by quota_laws.py). -/
import Derived.Test.YtpddnkefggaigaaU1
namespace Go.Proofs.Ytpddnkefggaigaa
open Go.RowKit

set_option maxHeartbeats 4000000 in
set_option maxRecDepth 100000 in
theorem concerned_walk (hsane : ∀ w, Calls Try.prog 10 #[] w (Tru w)) (A : Option Addr) (n c : Nat) (has : List Int) (A2 : Option Addr) (n2 c2 : Nat) (xs : List Quad) (z1 : Quad) (w : World) (h : RW_ w w.heap.size ⟨A, n, c⟩ has) (hi : okI has) (h2 : RQ w w.heap.size ⟨A2, n2, c2⟩ xs) (hq : ∀ x ∈ xs, x.ok) (o1 : z1.ok) :
    Calls Try.prog 9 #[.slice A n c, .slice A2 n2 c2, quadV z1] w (Tru w) := by
  have HS := Lib.hid hsane
  have HM := Lib.hid (made_any A n c has A2 n2 c2 xs)
  have HI := Lib.hid hi
  have HQ := Lib.hid hq
  have hsm := made_sm has xs
  generalize madeP has xs = p at HM hsm
  have HP := Lib.hid hsm
  have hB := Ext.refl w
  clear hsane hi hq hsm
  obtain ⟨y1, y2, y3, y4⟩ := z1
  have HZ1 := Lib.hid o1
  clear o1
  show Calls Try.prog 9 #[.slice A n c, .slice A2 n2 c2, .agg #[.int .i64 y1, .int .i64 y2, .int .i64 y3, .int .i64 y4]] w _
  go_enter Try.func9, Try.ntmps9
  go_upto_region 1 with (fail)
  generalize hW : w.alloc _ = W0
  have j1 : Blk W0 w.heap.size 53 #[.int .i64 y1, .int .i64 y2, .int .i64 y3, .int .i64 y4] := by subst hW; exact Blk.new_at _ _ rfl
  have hB : Ext w W0 := by subst hW; exact (by repeat (first | exact Below.refl _ _ | assumption | refine Below.drew ?_ | refine below_drewN ?_ _ | refine bl_alloc ?_ _ | refine Below.setCell ?_ (by first | (simp; done) | omega | (simp; omega)) _ | refine bl_then ?_ (by assumption)))
  clear hW
  generalize hg2 : w.heap.size = g1 at j1 ⊢
  clear hg2
  go_wp2_with fail
  refine (HS.out W0).mono ?_
  rintro e W1 ⟨rfl, hx⟩
  have hB := hB.ext hx
  have j1 := j1.ext hx
  clear hx
  go_wp2_with fail
  refine (HM.out W1 (h.to hB) HI.out (h2.to hB) HQ.out).mono ?_
  rintro e W2 ⟨⟨p1A, p1n, p1c⟩, ⟨p2A, p2n, p2c⟩, ⟨p3A, p3n, p3c⟩, ⟨p4A, p4n, p4c⟩, rfl, hx, hp⟩
  have hB := hB.ext hx
  have j1 := j1.ext hx
  clear hx
  have hp := hp.pool
  simp only [poolV, Sl.v]
  go_upto_region 4 with (fail)
  have vp := PV.new hp
  have hx : Ext W2 (W2.alloc _) := bl_alloc (Below.refl _ _) (.cells #[.slice p1A p1n p1c, .slice p2A p2n p2c, .slice p3A p3n p3c, .slice p4A p4n p4c] 26)
  have hgp : ∃ g, g = W2.heap.size := ⟨_, rfl⟩
  obtain ⟨gp, hg⟩ := hgp
  rw [← hg] at vp ⊢
  generalize W2.alloc _ = W3 at vp hx ⊢
  have hB := hB.ext hx
  have j1 := j1.ext hx
  clear hx hg hp
  have k0 := j1.cell 0
  have k1 := j1.cell 1
  have k2 := j1.cell 2
  have k3 := j1.cell 3
  go_wp2_with fail
  have jb : Blk (W3.alloc (.cells #[.int .i64 y1, .int .i64 y2, .int .i64 y3, .int .i64 y4] 53)) W3.heap.size 53 #[.int .i64 y1, .int .i64 y2, .int .i64 y3, .int .i64 y4] := Blk.new_at _ _ rfl
  have hx : Ext W3 (W3.alloc (.cells #[.int .i64 y1, .int .i64 y2, .int .i64 y3, .int .i64 y4] 53)) := bl_alloc (Below.refl _ _) _
  obtain ⟨gx, hgx⟩ : ∃ g, g = W3.heap.size := ⟨_, rfl⟩
  rw [← hgx] at jb ⊢
  generalize W3.alloc _ = W4 at jb hx ⊢
  clear hgx
  have hB := hB.ext hx
  have j1 := j1.ext hx
  have vp := vp.ext hx
  have hrq : RQ W4 W4.heap.size ⟨some ⟨gx, 0, none⟩, 1, 1⟩ [⟨y1, y2, y3, y4⟩] := RQ_of_blk jb rfl rfl (by omega)
  refine (deeds_any (some ⟨gx, 0, none⟩) 1 1 [⟨y1, y2, y3, y4⟩] W4 hrq (by intro x hx; rcases List.mem_cons.1 hx with rfl | hx; exact HZ1.out; cases hx)).mono ?_
  rintro e W5 ⟨v, rfl, hx2, hrow⟩
  clear hx hrq jb
  have hB := hB.ext hx2
  have j1 := j1.ext hx2
  have vp := vp.ext hx2
  have hrow : DeedRow W5 0 v [deedOf ⟨y1, y2, y3, y4⟩] := own_base hrow (Nat.zero_le _)
  clear hx2
  have dbd := deedOf_db ⟨y1, y2, y3, y4⟩
  have dsd := deedOf_small ⟨y1, y2, y3, y4⟩
  generalize deedOf ⟨y1, y2, y3, y4⟩ = d_d at hrow dbd dsd
  obtain ⟨d0, d1, d2, d3, d4⟩ := d_d
  have DBd := Lib.hid dbd
  have DSd := Lib.hid dsd
  clear dbd dsd
  obtain ⟨gl, cl, hv⟩ := hrow.form5 (n := 1) rfl (by omega)
  subst hv
  have q0 : W5.cell? ⟨gl, 0, none⟩ = some (.int .i64 d0) := (hrow.cell5 0 (by simp)).1
  have q1 : W5.cell? ⟨gl, 1, none⟩ = some (.int .i64 d1) := (hrow.cell5 0 (by simp)).2.1
  have q2 : W5.cell? ⟨gl, 2, none⟩ = some (.int .i64 d2) := (hrow.cell5 0 (by simp)).2.2.1
  have q3 : W5.cell? ⟨gl, 3, none⟩ = some (.int .i64 d3) := (hrow.cell5 0 (by simp)).2.2.2.1
  have q4 : W5.cell? ⟨gl, 4, none⟩ = some (.int .i64 d4) := (hrow.cell5 0 (by simp)).2.2.2.2
  go_upto_region 5 with (fail)
  have jd : Blk (W5.alloc (.cells #[.int .i64 (d0), .int .i64 (d1), .int .i64 (d2), .int .i64 (d3), .int .i64 (d4)] 30)) W5.heap.size 30 #[.int .i64 (d0), .int .i64 (d1), .int .i64 (d2), .int .i64 (d3), .int .i64 (d4)] := Blk.new_at _ _ rfl
  have hx : Ext W5 (W5.alloc (.cells #[.int .i64 (d0), .int .i64 (d1), .int .i64 (d2), .int .i64 (d3), .int .i64 (d4)] 30)) := bl_alloc (Below.refl _ _) _
  obtain ⟨gd, hgx⟩ : ∃ g, g = W5.heap.size := ⟨_, rfl⟩
  rw [← hgx] at jd ⊢
  generalize W5.alloc _ = W6 at jd hx ⊢
  have hB := hB.ext hx
  have j1 := j1.ext hx
  have vp := vp.ext hx
  have hrow := hrow.ext hx
  clear hgx hx
  clear q0 q1 q2 q3 q4 j1 hrow k0 k1 k2 k3
  have hdb := DBd.out
  obtain ⟨dk1, dk2⟩ := hdb.k
  obtain ⟨df1, df2⟩ := hdb.f
  obtain ⟨dt1, dt2⟩ := hdb.t
  obtain ⟨du1, du2⟩ := hdb.u
  obtain ⟨dc1, dc2⟩ := hdb.c
  clear hdb
  dsimp only at dk1 dk2 df1 df2 dt1 dt2 du1 du2 dc1 dc2
  obtain ⟨r1, Hr1⟩ : ∃ r, r = doP p ⟨d0, d1, d2, d3, d4⟩ := ⟨_, rfl⟩
  have hdo := do_any ⟨p1A, p1n, p1c⟩ ⟨p2A, p2n, p2c⟩ ⟨p3A, p3n, p3c⟩ ⟨p4A, p4n, p4c⟩ p ⟨d0, d1, d2, d3, d4⟩
  rw [← Hr1] at hdo
  have HD := Lib.hid hdo
  have Kr1 := Lib.hid Hr1
  clear hdo Hr1
  have pc0 : W6.cell? ⟨gp, 0, none⟩ = some (.slice p1A p1n p1c) := vp.blk.cell 0
  have pc1 : W6.cell? ⟨gp, 1, none⟩ = some (.slice p2A p2n p2c) := vp.blk.cell 1
  have pc2 : W6.cell? ⟨gp, 2, none⟩ = some (.slice p3A p3n p3c) := vp.blk.cell 2
  have pc3 : W6.cell? ⟨gp, 3, none⟩ = some (.slice p4A p4n p4c) := vp.blk.cell 3
  have dq0 := jd.cell 0
  have dq1 := jd.cell 1
  have dq2 := jd.cell 2
  have dq3 := jd.cell 3
  have dq4 := jd.cell 4
  go_wp2_with fail
  refine (HD.out W6 vp.pool).mono ?_
  rintro e W7 ⟨_, rfl, hx, hgot⟩
  obtain ⟨⟨a1A, a1n, a1c⟩, ⟨a2A, a2n, a2c⟩, ⟨a3A, a3n, a3c⟩, ⟨a4A, a4n, a4c⟩, rfl, hp⟩ := hgot.uni
  have hB := hB.ext hx
  have vp := vp.ext hx
  have jd := jd.ext hx
  clear hx hgot
  simp only [poolV, Sl.v]
  go_upto_region 6 with (fail)
  have va := PV.new hp
  have hx : Ext W7 (W7.alloc _) := bl_alloc (Below.refl _ _) (.cells #[.slice a1A a1n a1c, .slice a2A a2n a2c, .slice a3A a3n a3c, .slice a4A a4n a4c] 26)
  have hga : ∃ g, g = W7.heap.size := ⟨_, rfl⟩
  obtain ⟨ga, hg⟩ := hga
  rw [← hg] at va ⊢
  generalize W7.alloc _ = W8 at va hx ⊢
  have hB := hB.ext hx
  have vp := vp.ext hx
  have jd := jd.ext hx
  clear hx hg hp
  clear HD
  clear pc0 pc1 pc2 pc3
  clear dq0 dq1 dq2 dq3 dq4
  cases r1 with
  | none => go_wp2; go_ret; exact ⟨rfl, hB⟩
  | some qa =>
    have hcon := fun (o : Nat) => concerned (o := o) DBd.out Kr1.out.symm
    have htr := traded DBd.out Kr1.out.symm
    have hvq := (do_some Kr1.out.symm).2.2.1
    have HV := Lib.hid hvq
    have HCON := Lib.hid hcon
    have HTR := Lib.hid htr
    clear hcon htr hvq
    have va : PV W8 ga ⟨a1A, a1n, a1c⟩ ⟨a2A, a2n, a2c⟩ ⟨a3A, a3n, a3c⟩ ⟨a4A, a4n, a4c⟩ qa := va
    obtain ⟨pb1, po1, e1, e2, hk⟩ := vp.hasAll HP.out.v
    have e1 : p1A = some ⟨pb1, po1, none⟩ := e1
    have e2 : p1n = 16 := e2
    subst e1 e2
    have Kp1 := Lib.hid hk
    clear hk
    obtain ⟨pb2, po2, e1, e2, hk⟩ := vp.usedAll HP.out.v
    have e1 : p2A = some ⟨pb2, po2, none⟩ := e1
    have e2 : p2n = 16 := e2
    subst e1 e2
    have Kp2 := Lib.hid hk
    clear hk
    obtain ⟨pb4, po4, e1, e2, hk⟩ := vp.centsAll HP.out.v
    have e1 : p4A = some ⟨pb4, po4, none⟩ := e1
    have e2 : p4n = 16 := e2
    subst e1 e2
    have Kp4 := Lib.hid hk
    clear hk
    obtain ⟨ab1, ao1, e1, e2, hk⟩ := va.hasAll HV.out
    have e1 : a1A = some ⟨ab1, ao1, none⟩ := e1
    have e2 : a1n = 16 := e2
    subst e1 e2
    have Ka1 := Lib.hid hk
    clear hk
    obtain ⟨ab2, ao2, e1, e2, hk⟩ := va.usedAll HV.out
    have e1 : a2A = some ⟨ab2, ao2, none⟩ := e1
    have e2 : a2n = 16 := e2
    subst e1 e2
    have Ka2 := Lib.hid hk
    clear hk
    obtain ⟨ab4, ao4, e1, e2, hk⟩ := va.centsAll HV.out
    have e1 : a4A = some ⟨ab4, ao4, none⟩ := e1
    have e2 : a4n = 16 := e2
    subst e1 e2
    have Ka4 := Lib.hid hk
    clear hk
    have ac0 : W8.cell? ⟨ga, 0, none⟩ = some (.slice (some ⟨ab1, ao1, none⟩) 16 a1c) := va.blk.cell 0
    have ac1 : W8.cell? ⟨ga, 1, none⟩ = some (.slice (some ⟨ab2, ao2, none⟩) 16 a2c) := va.blk.cell 1
    have ac2 : W8.cell? ⟨ga, 2, none⟩ = some (.slice a3A a3n a3c) := va.blk.cell 2
    have ac3 : W8.cell? ⟨ga, 3, none⟩ = some (.slice (some ⟨ab4, ao4, none⟩) 16 a4c) := va.blk.cell 3
    go_wp2_with fail
    clear ac0 ac1 ac2 ac3
    go_loopw [11] (fun i wr => ∃ k : Nat, k ≤ 16 ∧ i = .int .i64 k ∧ Ext W8 wr) (fun i _ => 16 - (intOf i).toNat)
    case atStart => exact ⟨0, by omega, rfl, Ext.refl _⟩
    case round =>
      obtain ⟨k, hk, rfl, hxr⟩ := hrel
      by_cases hlt : k < 16
      · have vp := vp.ext hxr
        have va := va.ext hxr
        have jd := jd.ext hxr
        have hli : (k : Int) < 16 := by omega
        have hcnp := net_any ⟨some ⟨pb1, po1, none⟩, 16, p1c⟩ ⟨some ⟨pb2, po2, none⟩, 16, p2c⟩ ⟨p3A, p3n, p3c⟩ ⟨some ⟨pb4, po4, none⟩, 16, p4c⟩ p k
        rw [netP_some HP.out.v hlt] at hcnp
        have pv1 := Kp1.out k hlt
        have pv2 := Kp2.out k hlt
        have pv4 := Kp4.out k hlt
        have hcna := net_any ⟨some ⟨ab1, ao1, none⟩, 16, a1c⟩ ⟨some ⟨ab2, ao2, none⟩, 16, a2c⟩ ⟨a3A, a3n, a3c⟩ ⟨some ⟨ab4, ao4, none⟩, 16, a4c⟩ qa k
        rw [netP_some HV.out hlt] at hcna
        have av1 := Ka1.out k hlt
        have av2 := Ka2.out k hlt
        have av4 := Ka4.out k hlt
        have hc := HCON.out k
        generalize qa.has.getD k 0 = z1 at hc av1 hcna
        generalize qa.used.getD k 0 = z2 at hc av2
        generalize qa.cents.getD k 0 = z4 at hc av4
        generalize netL qa.loans (k : Int) = z5 at hc hcna
        generalize p.has.getD k 0 = t1 at hc pv1 hcnp
        generalize p.used.getD k 0 = t2 at hc pv2
        generalize p.cents.getD k 0 = t4 at hc pv4
        generalize netL p.loans (k : Int) = t5 at hc hcnp
        have HC := Lib.hid hc
        have HCNp := Lib.hid hcnp
        have HCNa := Lib.hid hcna
        clear hc hcnp hcna
        have pv1 := ext_cell hxr pv1
        have pv2 := ext_cell hxr pv2
        have pv4 := ext_cell hxr pv4
        have av1 := ext_cell hxr av1
        have av2 := ext_cell hxr av2
        have av4 := ext_cell hxr av4
        have pc0 : wr.cell? ⟨gp, 0, none⟩ = some (.slice (some ⟨pb1, po1, none⟩) 16 p1c) := vp.blk.cell 0
        have pc1 : wr.cell? ⟨gp, 1, none⟩ = some (.slice (some ⟨pb2, po2, none⟩) 16 p2c) := vp.blk.cell 1
        have pc2 : wr.cell? ⟨gp, 2, none⟩ = some (.slice p3A p3n p3c) := vp.blk.cell 2
        have pc3 : wr.cell? ⟨gp, 3, none⟩ = some (.slice (some ⟨pb4, po4, none⟩) 16 p4c) := vp.blk.cell 3
        go_wp2_with fail
        refine (HCNp.out wr vp.pool).mono ?_
        rintro e W91 ⟨rfl, hx⟩
        simp only [netV]
        have vp := vp.ext hx
        have va := va.ext hx
        have jd := jd.ext hx
        have hxr := hxr.ext hx
        have pv1 := ext_cell hx pv1
        have pv2 := ext_cell hx pv2
        have pv4 := ext_cell hx pv4
        have av1 := ext_cell hx av1
        have av2 := ext_cell hx av2
        have av4 := ext_cell hx av4
        clear hx HCNp
        clear pc0 pc1 pc2 pc3
        have ac0 : W91.cell? ⟨ga, 0, none⟩ = some (.slice (some ⟨ab1, ao1, none⟩) 16 a1c) := va.blk.cell 0
        have ac1 : W91.cell? ⟨ga, 1, none⟩ = some (.slice (some ⟨ab2, ao2, none⟩) 16 a2c) := va.blk.cell 1
        have ac2 : W91.cell? ⟨ga, 2, none⟩ = some (.slice a3A a3n a3c) := va.blk.cell 2
        have ac3 : W91.cell? ⟨ga, 3, none⟩ = some (.slice (some ⟨ab4, ao4, none⟩) 16 a4c) := va.blk.cell 3
        go_wp2_with fail
        refine (HCNa.out W91 va.pool).mono ?_
        rintro e W92 ⟨rfl, hx⟩
        simp only [netV]
        have vp := vp.ext hx
        have va := va.ext hx
        have jd := jd.ext hx
        have hxr := hxr.ext hx
        have pv1 := ext_cell hx pv1
        have pv2 := ext_cell hx pv2
        have pv4 := ext_cell hx pv4
        have av1 := ext_cell hx av1
        have av2 := ext_cell hx av2
        have av4 := ext_cell hx av4
        clear hx HCNa
        clear ac0 ac1 ac2 ac3
        have pc0 : W92.cell? ⟨gp, 0, none⟩ = some (.slice (some ⟨pb1, po1, none⟩) 16 p1c) := vp.blk.cell 0
        have pc1 : W92.cell? ⟨gp, 1, none⟩ = some (.slice (some ⟨pb2, po2, none⟩) 16 p2c) := vp.blk.cell 1
        have pc2 : W92.cell? ⟨gp, 2, none⟩ = some (.slice p3A p3n p3c) := vp.blk.cell 2
        have pc3 : W92.cell? ⟨gp, 3, none⟩ = some (.slice (some ⟨pb4, po4, none⟩) 16 p4c) := vp.blk.cell 3
        have ac0 : W92.cell? ⟨ga, 0, none⟩ = some (.slice (some ⟨ab1, ao1, none⟩) 16 a1c) := va.blk.cell 0
        have ac1 : W92.cell? ⟨ga, 1, none⟩ = some (.slice (some ⟨ab2, ao2, none⟩) 16 a2c) := va.blk.cell 1
        have ac2 : W92.cell? ⟨ga, 2, none⟩ = some (.slice a3A a3n a3c) := va.blk.cell 2
        have ac3 : W92.cell? ⟨ga, 3, none⟩ = some (.slice (some ⟨ab4, ao4, none⟩) 16 a4c) := va.blk.cell 3
        have dq0 := jd.cell 0
        have dq1 := jd.cell 1
        have dq2 := jd.cell 2
        have dq3 := jd.cell 3
        have dq4 := jd.cell 4
        go_upto_region 17 with (fail)
        have hc := HC.out
        clear HCON HTR
        cases b1 : ((k : Int) != d1)
        · clear hc
          go_quiet (fail)
          go_wp2
          exact ⟨⟨k + 1, by omega, by go_num, hxr.drewN _⟩, by simp [intOf]; omega⟩
        · cases b2 : decide (3 ≤ d0)
          · cases b3 : ((k : Int) != d2)
            · clear hc
              go_quiet (fail)
              go_wp2
              exact ⟨⟨k + 1, by omega, by go_num, hxr.drewN _⟩, by simp [intOf]; omega⟩
            · have hq := hc (by simpa using b1) (.inr (by simpa using b3))
              obtain ⟨e1, e2, e4, e5⟩ := hq
              subst e1 e2 e4 e5
              clear hc
              go_quiet (fail)
              go_wp2
              exact ⟨⟨k + 1, by omega, by go_num, hxr.drewN _⟩, by simp [intOf]; omega⟩
          · have hq := hc (by simpa using b1) (.inl (by simpa using b2))
            obtain ⟨e1, e2, e4, e5⟩ := hq
            subst e1 e2 e4 e5
            clear hc
            go_quiet (fail)
            go_wp2
            exact ⟨⟨k + 1, by omega, by go_num, hxr.drewN _⟩, by simp [intOf]; omega⟩
      · have vp := vp.ext hxr
        have va := va.ext hxr
        have jd := jd.ext hxr
        have hB := hB.ext hxr
        obtain ⟨fn, rfl⟩ : ∃ n : Nat, d1 = (n : Int) := ⟨d1.toNat, by omega⟩
        obtain ⟨tn, rfl⟩ : ∃ n : Nat, d2 = (n : Int) := ⟨d2.toNat, by omega⟩
        have lf : fn < 16 := by omega
        have lt : tn < 16 := by omega
        have lfi : (fn : Int) < 16 := by omega
        have lti : (tn : Int) < 16 := by omega
        have pc0 : wr.cell? ⟨gp, 0, none⟩ = some (.slice (some ⟨pb1, po1, none⟩) 16 p1c) := vp.blk.cell 0
        have pc1 : wr.cell? ⟨gp, 1, none⟩ = some (.slice (some ⟨pb2, po2, none⟩) 16 p2c) := vp.blk.cell 1
        have pc2 : wr.cell? ⟨gp, 2, none⟩ = some (.slice p3A p3n p3c) := vp.blk.cell 2
        have pc3 : wr.cell? ⟨gp, 3, none⟩ = some (.slice (some ⟨pb4, po4, none⟩) 16 p4c) := vp.blk.cell 3
        have ac0 : wr.cell? ⟨ga, 0, none⟩ = some (.slice (some ⟨ab1, ao1, none⟩) 16 a1c) := va.blk.cell 0
        have ac1 : wr.cell? ⟨ga, 1, none⟩ = some (.slice (some ⟨ab2, ao2, none⟩) 16 a2c) := va.blk.cell 1
        have ac2 : wr.cell? ⟨ga, 2, none⟩ = some (.slice a3A a3n a3c) := va.blk.cell 2
        have ac3 : wr.cell? ⟨ga, 3, none⟩ = some (.slice (some ⟨ab4, ao4, none⟩) 16 a4c) := va.blk.cell 3
        have dq0 := jd.cell 0
        have dq1 := jd.cell 1
        have dq2 := jd.cell 2
        have dq3 := jd.cell 3
        have dq4 := jd.cell 4
        have pf1 := ext_cell hxr (Kp1.out fn lf)
        have pt1 := ext_cell hxr (Kp1.out tn lt)
        have af1 := ext_cell hxr (Ka1.out fn lf)
        have at1 := ext_cell hxr (Ka1.out tn lt)
        have pf4 := ext_cell hxr (Kp4.out fn lf)
        have pt4 := ext_cell hxr (Kp4.out tn lt)
        have af4 := ext_cell hxr (Ka4.out fn lf)
        have at4 := ext_cell hxr (Ka4.out tn lt)
        have htr := HTR.out
        simp only [Int.toNat_natCast] at htr
        have bs1 := HP.out.v.h fn lf
        generalize p.has.getD fn 0 = s1 at htr bs1 pf1
        have bs2 := HP.out.v.h tn lt
        generalize p.has.getD tn 0 = s2 at htr bs2 pt1
        have bs3 := HV.out.h fn lf
        generalize qa.has.getD fn 0 = s3 at htr bs3 af1
        have bs4 := HV.out.h tn lt
        generalize qa.has.getD tn 0 = s4 at htr bs4 at1
        have bs5 := HP.out.v.c fn lf
        generalize p.cents.getD fn 0 = s5 at htr bs5 pf4
        have bs6 := HP.out.v.c tn lt
        generalize p.cents.getD tn 0 = s6 at htr bs6 pt4
        have bs7 := HV.out.c fn lf
        generalize qa.cents.getD fn 0 = s7 at htr bs7 af4
        have bs8 := HV.out.c tn lt
        generalize qa.cents.getD tn 0 = s8 at htr bs8 at4
        clear HCON HTR Kr1 DBd DSd
        by_cases b2 : d0 = 2
        · obtain ⟨e1, e2, e3, e4⟩ := htr b2
          have e1 : (s4 - s2 == d3) = true := by simpa using e1
          have e2 : (s1 - s3 == d3) = true := by simpa using e2
          have e3 : (s7 - s5 == d4) = true := by simpa using e3
          have e4 : (s6 - s8 == d4) = true := by simpa using e4
          subst b2
          clear htr
          go_wp2
          refine wp_region_quiet_lit (by kernel_rfl) (by kernel_rfl) ?_
          simp only [List.append]
          repeat (go_big_quiet_step (fail))
          refine wpQuiet_nil ?_
          intro _ hw'
          obtain ⟨nq, hw''⟩ := hw'
          subst hw''
          go_wp2
          go_ret
          exact ⟨rfl, hB.drewN _⟩
        · clear htr
          have b3 : (d0 == 2) = false := by simpa using b2
          clear b2
          go_wp2
          go_ret
          exact ⟨rfl, hB⟩

end Go.Proofs.Ytpddnkefggaigaa
