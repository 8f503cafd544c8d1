/- QuotaOrder: the walk (printed by quota_laws.py). -/
import Derived.Test.YtpddnkefggaigaaU1
namespace Go.Proofs.Ytpddnkefggaigaa
open Go.RowKit

set_option maxHeartbeats 4000000 in
set_option maxRecDepth 100000 in
theorem order_walk (hsane : ∀ w, Calls Try.prog 10 #[] w (Tru w)) (A : Option Addr) (n c : Nat) (has : List Int) (A2 : Option Addr) (n2 c2 : Nat) (xs : List Quad) (z1 z2 : Quad) (w : World) (h : RW_ w w.heap.size ⟨A, n, c⟩ has) (hi : okI has) (h2 : RQ w w.heap.size ⟨A2, n2, c2⟩ xs) (hq : ∀ x ∈ xs, x.ok) (o1 : z1.ok) (o2 : z2.ok) :
    Calls Try.prog 7 #[.slice A n c, .slice A2 n2 c2, quadV z1, quadV z2] w (Tru w) := by
  have HS := Lib.hid hsane
  have HM := Lib.hid (made_any A n c has A2 n2 c2 xs)
  have HI := Lib.hid hi
  have HQ := Lib.hid hq
  have hsm := made_sm has xs
  generalize madeP has xs = p at HM hsm
  have HP := Lib.hid hsm
  have hB := Ext.refl w
  clear hsane hi hq hsm
  obtain ⟨y1, y2, y3, y4⟩ := z1
  obtain ⟨x1, x2, x3, x4⟩ := z2
  have HZ1 := Lib.hid o1
  have HZ2 := Lib.hid o2
  clear o1 o2
  show Calls Try.prog 7 #[.slice A n c, .slice A2 n2 c2, .agg #[.int .i64 y1, .int .i64 y2, .int .i64 y3, .int .i64 y4], .agg #[.int .i64 x1, .int .i64 x2, .int .i64 x3, .int .i64 x4]] w _
  go_enter Try.func7, Try.ntmps7
  go_upto_region 1 with (fail)
  generalize hW : ((w.alloc _).alloc _) = W0
  have j1 : Blk W0 w.heap.size 53 #[.int .i64 y1, .int .i64 y2, .int .i64 y3, .int .i64 y4] := by subst hW; exact (Blk.new_at _ _ rfl).alloc _
  have j2 : Blk W0 (w.heap.size + 1) 53 #[.int .i64 x1, .int .i64 x2, .int .i64 x3, .int .i64 x4] := by subst hW; exact Blk.new_at _ _ (by simp)
  have hB : Ext w W0 := by subst hW; exact (by repeat (first | exact Below.refl _ _ | assumption | refine Below.drew ?_ | refine below_drewN ?_ _ | refine bl_alloc ?_ _ | refine Below.setCell ?_ (by first | (simp; done) | omega | (simp; omega)) _ | refine bl_then ?_ (by assumption)))
  clear hW
  generalize hg1 : w.heap.size + 1 = g2 at j2 ⊢
  generalize hg2 : w.heap.size = g1 at j1 ⊢
  clear hg1 hg2
  go_wp2_with fail
  refine (HS.out W0).mono ?_
  rintro e W1 ⟨rfl, hx⟩
  have hB := hB.ext hx
  have j1 := j1.ext hx
  have j2 := j2.ext hx
  clear hx
  go_wp2_with fail
  refine (HM.out W1 (h.to hB) HI.out (h2.to hB) HQ.out).mono ?_
  rintro e W2 ⟨⟨p1A, p1n, p1c⟩, ⟨p2A, p2n, p2c⟩, ⟨p3A, p3n, p3c⟩, ⟨p4A, p4n, p4c⟩, rfl, hx, hp⟩
  have hB := hB.ext hx
  have j1 := j1.ext hx
  have j2 := j2.ext hx
  clear hx
  have hp := hp.pool
  simp only [poolV, Sl.v]
  go_upto_region 4 with (fail)
  have vp := PV.new hp
  have hx : Ext W2 (W2.alloc _) := bl_alloc (Below.refl _ _) (.cells #[.slice p1A p1n p1c, .slice p2A p2n p2c, .slice p3A p3n p3c, .slice p4A p4n p4c] 26)
  have hgp : ∃ g, g = W2.heap.size := ⟨_, rfl⟩
  obtain ⟨gp, hg⟩ := hgp
  rw [← hg] at vp ⊢
  generalize W2.alloc _ = W3 at vp hx ⊢
  have hB := hB.ext hx
  have j1 := j1.ext hx
  have j2 := j2.ext hx
  clear hx hg hp
  have k0 := j1.cell 0
  have k1 := j1.cell 1
  have k2 := j1.cell 2
  have k3 := j1.cell 3
  have l0 := j2.cell 0
  have l1 := j2.cell 1
  have l2 := j2.cell 2
  have l3 := j2.cell 3
  go_wp2_with fail
  have jb : Blk (W3.alloc (.cells #[.int .i64 y1, .int .i64 y2, .int .i64 y3, .int .i64 y4, .int .i64 x1, .int .i64 x2, .int .i64 x3, .int .i64 x4] 53)) W3.heap.size 53 #[.int .i64 y1, .int .i64 y2, .int .i64 y3, .int .i64 y4, .int .i64 x1, .int .i64 x2, .int .i64 x3, .int .i64 x4] := Blk.new_at _ _ rfl
  have hx : Ext W3 (W3.alloc (.cells #[.int .i64 y1, .int .i64 y2, .int .i64 y3, .int .i64 y4, .int .i64 x1, .int .i64 x2, .int .i64 x3, .int .i64 x4] 53)) := bl_alloc (Below.refl _ _) _
  obtain ⟨gx, hgx⟩ : ∃ g, g = W3.heap.size := ⟨_, rfl⟩
  rw [← hgx] at jb ⊢
  generalize W3.alloc _ = W4 at jb hx ⊢
  clear hgx
  have hB := hB.ext hx
  have j1 := j1.ext hx
  have j2 := j2.ext hx
  have vp := vp.ext hx
  have hrq : RQ W4 W4.heap.size ⟨some ⟨gx, 0, none⟩, 2, 2⟩ [⟨y1, y2, y3, y4⟩, ⟨x1, x2, x3, x4⟩] := RQ_of_blk jb rfl rfl (by omega)
  refine (deeds_any (some ⟨gx, 0, none⟩) 2 2 [⟨y1, y2, y3, y4⟩, ⟨x1, x2, x3, x4⟩] W4 hrq (by intro x hx; rcases List.mem_cons.1 hx with rfl | hx; exact HZ1.out; rcases List.mem_cons.1 hx with rfl | hx; exact HZ2.out; cases hx)).mono ?_
  rintro e W5 ⟨v, rfl, hx2, hrow⟩
  clear hx hrq jb
  have hB := hB.ext hx2
  have j1 := j1.ext hx2
  have j2 := j2.ext hx2
  have vp := vp.ext hx2
  have hrow : DeedRow W5 0 v [deedOf ⟨y1, y2, y3, y4⟩, deedOf ⟨x1, x2, x3, x4⟩] := own_base hrow (Nat.zero_le _)
  clear hx2
  have dbd := deedOf_db ⟨y1, y2, y3, y4⟩
  have dsd := deedOf_small ⟨y1, y2, y3, y4⟩
  generalize deedOf ⟨y1, y2, y3, y4⟩ = d_d at hrow dbd dsd
  obtain ⟨d0, d1, d2, d3, d4⟩ := d_d
  have DBd := Lib.hid dbd
  have DSd := Lib.hid dsd
  clear dbd dsd
  have dbm := deedOf_db ⟨x1, x2, x3, x4⟩
  have dsm := deedOf_small ⟨x1, x2, x3, x4⟩
  generalize deedOf ⟨x1, x2, x3, x4⟩ = d_m at hrow dbm dsm
  obtain ⟨m0, m1, m2, m3, m4⟩ := d_m
  have DBm := Lib.hid dbm
  have DSm := Lib.hid dsm
  clear dbm dsm
  obtain ⟨gl, cl, hv⟩ := hrow.form5 (n := 2) rfl (by omega)
  subst hv
  go_upto_region 5 with (fail)
  obtain ⟨r1, Hr1⟩ : ∃ r, r = doP p ⟨d0, d1, d2, d3, d4⟩ := ⟨_, rfl⟩
  have hdo := do_any ⟨p1A, p1n, p1c⟩ ⟨p2A, p2n, p2c⟩ ⟨p3A, p3n, p3c⟩ ⟨p4A, p4n, p4c⟩ p ⟨d0, d1, d2, d3, d4⟩
  rw [← Hr1] at hdo
  have HD := Lib.hid hdo
  have Kr1 := Lib.hid Hr1
  clear hdo Hr1
  have pc0 : W5.cell? ⟨gp, 0, none⟩ = some (.slice p1A p1n p1c) := vp.blk.cell 0
  have pc1 : W5.cell? ⟨gp, 1, none⟩ = some (.slice p2A p2n p2c) := vp.blk.cell 1
  have pc2 : W5.cell? ⟨gp, 2, none⟩ = some (.slice p3A p3n p3c) := vp.blk.cell 2
  have pc3 : W5.cell? ⟨gp, 3, none⟩ = some (.slice p4A p4n p4c) := vp.blk.cell 3
  have q0 : W5.cell? ⟨gl, 0, none⟩ = some (.int .i64 d0) := (hrow.cell5 0 (by simp)).1
  have q1 : W5.cell? ⟨gl, 1, none⟩ = some (.int .i64 d1) := (hrow.cell5 0 (by simp)).2.1
  have q2 : W5.cell? ⟨gl, 2, none⟩ = some (.int .i64 d2) := (hrow.cell5 0 (by simp)).2.2.1
  have q3 : W5.cell? ⟨gl, 3, none⟩ = some (.int .i64 d3) := (hrow.cell5 0 (by simp)).2.2.2.1
  have q4 : W5.cell? ⟨gl, 4, none⟩ = some (.int .i64 d4) := (hrow.cell5 0 (by simp)).2.2.2.2
  refine wp_region_late 9 7 (fun ix vals v w1 => match ix with | 0 => v = .agg #[.slice p1A p1n p1c, .slice p2A p2n p2c, .slice p3A p3n p3c, .slice p4A p4n p4c] | 1 => v = .slice (some ⟨gl, 0, none⟩) 2 cl | 2 => v = .pointer (some ⟨gl, 0, none⟩) | 3 => v = .agg #[.int .i64 d0, .int .i64 d1, .int .i64 d2, .int .i64 d3, .int .i64 d4] | 4 => PoolGot r1 W5.heap.size v w1 | 5 => v = vals 4 ∧ PoolGot r1 W5.heap.size v w1 | 6 => ∃ z, vals 5 = .tuple #[v, z] | 7 => ∃ z, vals 5 = .tuple #[z, v] | _ => ∃ g, v = .pointer (some ⟨g, 0, none⟩) ∧ W5.heap.size ≤ g ∧ Blk w1 g 26 nil4) (fun _ _ => none) (by kernel_rfl) (by kernel_rfl) (by kernel_rfl) (by kernel_rfl) _ rfl ?_ ?_ ?_ ?_ ?_
  · intro ix vals v w1 hi hr k hk
    match ix, hr, hk with
    | 0, _, hk => cases hk
    | 1, _, hk => cases hk
    | 2, _, hk => cases hk
    | 3, _, hk => cases hk
    | 4, _, hk => cases hk
    | 5, _, hk => cases hk
    | 6, _, hk => cases hk
    | 7, _, hk => cases hk
    | (kx + 8), _, hk => cases hk
  · intro ix vals v w1 w2 hi hr hx
    match ix, hr with
    | 0, hr => exact hr
    | 1, hr => exact hr
    | 2, hr => exact hr
    | 3, hr => exact hr
    | 4, hr => exact hr.ext hx
    | 5, hr => exact ⟨hr.1, hr.2.ext hx⟩
    | 6, hr => exact hr
    | 7, hr => exact hr
    | (kx + 8), hr => obtain ⟨g, h1, h2, h3⟩ := hr; exact ⟨g, h1, h2, h3.ext hx⟩
  · intro ix vals vals_ v w1 hi hv hr
    match ix, hi, hv, hr with
    | 0, _, _, hr => exact hr
    | 1, _, _, hr => exact hr
    | 2, _, _, hr => exact hr
    | 3, _, _, hr => exact hr
    | 4, _, _, hr => exact hr
    | 5, _, hv, hr => have e4 := hv 4 (by kernel_rfl); rw [← e4]; exact hr
    | 6, _, hv, hr => have e5 := hv 5 (by kernel_rfl); rw [← e5]; exact hr
    | 7, _, hv, hr => have e5 := hv 5 (by kernel_rfl); rw [← e5]; exact hr
    | (kx + 8), _, _, hr => exact hr
  · refine ⟨?_, ?_, ?_, ?_, ?_, ?_, ?_, ?_, ?_, trivial⟩
    · intro vals w1 hx hd ha
      refine plain1 (fun _ => rfl) ?_
      clear hd ha
      simp only [Lf]
      have pc0 := ext_cell hx pc0
      have pc1 := ext_cell hx pc1
      have pc2 := ext_cell hx pc2
      have pc3 := ext_cell hx pc3
      have q0 := ext_cell hx q0
      have q1 := ext_cell hx q1
      have q2 := ext_cell hx q2
      have q3 := ext_cell hx q3
      have q4 := ext_cell hx q4
      go_wp2
      exact ⟨rfl, Ext.refl _, rfl⟩
    · intro vals w1 hx hd ha
      refine plain1 (fun _ => rfl) ?_
      clear hd ha
      simp only [Lf, dstAt, Act.put, List.getElem?_toArray, List.getElem?_cons_zero, Option.bind_some, List.setIfInBounds_toArray, List.set_cons_zero, List.set_cons_succ]
      have pc0 := ext_cell hx pc0
      have pc1 := ext_cell hx pc1
      have pc2 := ext_cell hx pc2
      have pc3 := ext_cell hx pc3
      have q0 := ext_cell hx q0
      have q1 := ext_cell hx q1
      have q2 := ext_cell hx q2
      have q3 := ext_cell hx q3
      have q4 := ext_cell hx q4
      go_wp2
      exact ⟨rfl, Ext.refl _, rfl⟩
    · intro vals w1 hx hd ha
      have e1 : vals 1 = .slice (some ⟨gl, 0, none⟩) 2 cl := hd 1 (by decide)
      refine plain1 (fun _ => rfl) ?_
      clear hd ha
      simp only [Lf, dstAt, Act.put, List.getElem?_toArray, List.getElem?_cons_zero, List.getElem?_cons_succ, Option.bind_some, List.setIfInBounds_toArray, List.set_cons_zero, List.set_cons_succ]
      simp only [e1]
      clear e1
      have pc0 := ext_cell hx pc0
      have pc1 := ext_cell hx pc1
      have pc2 := ext_cell hx pc2
      have pc3 := ext_cell hx pc3
      have q0 := ext_cell hx q0
      have q1 := ext_cell hx q1
      have q2 := ext_cell hx q2
      have q3 := ext_cell hx q3
      have q4 := ext_cell hx q4
      go_wp2
      exact ⟨rfl, Ext.refl _, rfl⟩
    · intro vals w1 hx hd ha
      have e2 : vals 2 = .pointer (some ⟨gl, 0, none⟩) := hd 2 (by decide)
      refine plain1 (fun _ => rfl) ?_
      clear hd ha
      simp only [Lf, dstAt, Act.put, List.getElem?_toArray, List.getElem?_cons_zero, List.getElem?_cons_succ, Option.bind_some, List.setIfInBounds_toArray, List.set_cons_zero, List.set_cons_succ]
      simp only [e2]
      clear e2
      have pc0 := ext_cell hx pc0
      have pc1 := ext_cell hx pc1
      have pc2 := ext_cell hx pc2
      have pc3 := ext_cell hx pc3
      have q0 := ext_cell hx q0
      have q1 := ext_cell hx q1
      have q2 := ext_cell hx q2
      have q3 := ext_cell hx q3
      have q4 := ext_cell hx q4
      go_wp2
      exact ⟨rfl, Ext.refl _, rfl⟩
    · intro vals w1 hx hd ha
      have e0 : vals 0 = .agg #[.slice p1A p1n p1c, .slice p2A p2n p2c, .slice p3A p3n p3c, .slice p4A p4n p4c] := hd 0 (by decide)
      have e3 : vals 3 = .agg #[.int .i64 d0, .int .i64 d1, .int .i64 d2, .int .i64 d3, .int .i64 d4] := hd 3 (by decide)
      refine plain1 (fun _ => rfl) ?_
      clear hd ha
      simp only [Lf, dstAt, Act.put, List.getElem?_toArray, List.getElem?_cons_zero, List.getElem?_cons_succ, Option.bind_some, List.setIfInBounds_toArray, List.set_cons_zero, List.set_cons_succ]
      have pc0 := ext_cell hx pc0
      have pc1 := ext_cell hx pc1
      have pc2 := ext_cell hx pc2
      have pc3 := ext_cell hx pc3
      have q0 := ext_cell hx q0
      have q1 := ext_cell hx q1
      have q2 := ext_cell hx q2
      have q3 := ext_cell hx q3
      have q4 := ext_cell hx q4
      simp only [e0]
      simp only [e3]
      clear e0 e3
      have hz := Below.size hx.undrew
      go_wp2_with fail
      refine (HD.out w1 ((vp.ext hx.undrew).pool)).mono ?_
      rintro e w2 ⟨v, rfl, hb, hgot⟩
      go_wp2
      exact ⟨rfl, hb, hgot.down (by omega)⟩
    · intro vals w1 hx hd ha
      have r4 : (fun v w1 => PoolGot r1 W5.heap.size v w1) (vals 4) w1 := hd 4 (by decide)
      dsimp only at r4
      refine plain1 (fun _ => rfl) ?_
      clear hd ha
      simp only [Lf, dstAt, Act.put, List.getElem?_toArray, List.getElem?_cons_zero, List.getElem?_cons_succ, Option.bind_some, List.setIfInBounds_toArray, List.set_cons_zero, List.set_cons_succ]
      have pc0 := ext_cell hx pc0
      have pc1 := ext_cell hx pc1
      have pc2 := ext_cell hx pc2
      have pc3 := ext_cell hx pc3
      have q0 := ext_cell hx q0
      have q1 := ext_cell hx q1
      have q2 := ext_cell hx q2
      have q3 := ext_cell hx q3
      have q4 := ext_cell hx q4
      go_wp2
      exact ⟨rfl, Ext.refl _, rfl, r4⟩
    · intro vals w1 hx hd ha
      have r5 : (fun v w1 => v = vals 4 ∧ PoolGot r1 W5.heap.size v w1) (vals 5) w1 := hd 5 (by decide)
      dsimp only at r5
      refine plain1 (fun _ => rfl) ?_
      clear hd ha
      simp only [Lf, dstAt, Act.put, List.getElem?_toArray, List.getElem?_cons_zero, List.getElem?_cons_succ, Option.bind_some, List.setIfInBounds_toArray, List.set_cons_zero, List.set_cons_succ]
      have pc0 := ext_cell hx pc0
      have pc1 := ext_cell hx pc1
      have pc2 := ext_cell hx pc2
      have pc3 := ext_cell hx pc3
      have q0 := ext_cell hx q0
      have q1 := ext_cell hx q1
      have q2 := ext_cell hx q2
      have q3 := ext_cell hx q3
      have q4 := ext_cell hx q4
      rcases r5.2 with ⟨_, e1⟩ | ⟨q, t1, t2, t3, t4, _, e1, _⟩
      · rw [e1]; go_wp2; exact ⟨rfl, Ext.refl _, _, rfl⟩
      · rw [e1]; go_wp2; exact ⟨rfl, Ext.refl _, _, rfl⟩
    · intro vals w1 hx hd ha
      have r5 : (fun v w1 => v = vals 4 ∧ PoolGot r1 W5.heap.size v w1) (vals 5) w1 := hd 5 (by decide)
      dsimp only at r5
      refine plain1 (fun _ => rfl) ?_
      clear hd ha
      simp only [Lf, dstAt, Act.put, List.getElem?_toArray, List.getElem?_cons_zero, List.getElem?_cons_succ, Option.bind_some, List.setIfInBounds_toArray, List.set_cons_zero, List.set_cons_succ]
      have pc0 := ext_cell hx pc0
      have pc1 := ext_cell hx pc1
      have pc2 := ext_cell hx pc2
      have pc3 := ext_cell hx pc3
      have q0 := ext_cell hx q0
      have q1 := ext_cell hx q1
      have q2 := ext_cell hx q2
      have q3 := ext_cell hx q3
      have q4 := ext_cell hx q4
      rcases r5.2 with ⟨_, e1⟩ | ⟨q, t1, t2, t3, t4, _, e1, _⟩
      · rw [e1]; go_wp2; exact ⟨rfl, Ext.refl _, _, rfl⟩
      · rw [e1]; go_wp2; exact ⟨rfl, Ext.refl _, _, rfl⟩
    · intro vals w1 hx hd ha
      refine plain1 (fun _ => rfl) ?_
      clear hd ha
      simp only [Lf, dstAt, Act.put, List.getElem?_toArray, List.getElem?_cons_zero, List.getElem?_cons_succ, Option.bind_some, List.setIfInBounds_toArray, List.set_cons_zero, List.set_cons_succ]
      have pc0 := ext_cell hx pc0
      have pc1 := ext_cell hx pc1
      have pc2 := ext_cell hx pc2
      have pc3 := ext_cell hx pc3
      have q0 := ext_cell hx q0
      have q1 := ext_cell hx q1
      have q2 := ext_cell hx q2
      have q3 := ext_cell hx q3
      have q4 := ext_cell hx q4
      have hz := Below.size hx.undrew
      go_wp2
      exact ⟨rfl, (by repeat (first | exact Below.refl _ _ | assumption | refine Below.drew ?_ | refine below_drewN ?_ _ | refine bl_alloc ?_ _ | refine Below.setCell ?_ (by first | (simp; done) | omega | (simp; omega)) _ | refine bl_then ?_ (by assumption))), _, rfl, by omega, Blk.new _ _ _⟩
  intro vals W6 hx hf _
  have hgot : PoolGot r1 W5.heap.size (vals 5) W6 := (hf 5 (by omega)).2
  have h11 : ∃ z, vals 5 = .tuple #[vals 6, z] := hf 6 (by omega)
  have h12 : ∃ z, vals 5 = .tuple #[z, vals 7] := hf 7 (by omega)
  obtain ⟨ga, e9, hgn, jn⟩ : ∃ g, vals 8 = .pointer (some ⟨g, 0, none⟩) ∧ W5.heap.size ≤ g ∧ Blk W6 g 26 nil4 := hf 8 (by omega)
  clear hf pc0 pc1 pc2 pc3 q0 q1 q2 q3 q4
  have hx := hx.undrew
  obtain ⟨⟨a1A, a1n, a1c⟩, ⟨a2A, a2n, a2c⟩, ⟨a3A, a3n, a3c⟩, ⟨a4A, a4n, a4c⟩, e10, hpr⟩ := hgot.uniR
  simp only [Lf, dstAt, Act.put, List.getElem?_toArray, List.getElem?_cons_zero, List.getElem?_cons_succ, Option.bind_some, List.setIfInBounds_toArray, List.set_cons_zero, List.set_cons_succ]
  rw [e9, tup0 e10 h11, tup1 e10 h12]
  have HG := Lib.hid hgot
  have HPR := Lib.hid hpr
  clear e9 e10 h11 h12 hgot hpr
  have n0 := jn.cell 0
  have f0 := jn.frozen 0
  have n1 := jn.cell 1
  have f1 := jn.frozen 1
  have n2 := jn.cell 2
  have f2 := jn.frozen 2
  have n3 := jn.cell 3
  have f3 := jn.frozen 3
  simp only [poolV, Sl.v]
  go_wp2_with fail
  refine Qn_of ?_
  refine tail1 10 _ (by kernel_rfl) (by kernel_rfl) rfl ?_
  generalize hW7 : ((((W6.setCell ⟨ga, 0, none⟩ _).setCell ⟨ga, 1, none⟩ _).setCell ⟨ga, 2, none⟩ _).setCell ⟨ga, 3, none⟩ _) = W7
  have va : PV W7 ga ⟨a1A, a1n, a1c⟩ ⟨a2A, a2n, a2c⟩ ⟨a3A, a3n, a3c⟩ ⟨a4A, a4n, a4c⟩ (orNil r1) := by subst hW7; exact ⟨jn.set4 _ _ _ _, HPR.out _ (HG.out.set4 jn _ _ _ _)⟩
  have hx : Ext W5 W7 := by subst hW7; exact below_set4 hx hgn _ _ _ _
  clear hW7 jn hgn HG HPR n0 n1 n2 n3 f0 f1 f2 f3
  have hB := hB.ext hx
  have j1 := j1.ext hx
  have j2 := j2.ext hx
  have vp := vp.ext hx
  have hrow := hrow.ext hx
  clear hx
  go_upto_region 6 with (fail)
  clear HD
  obtain ⟨r2, Hr2⟩ : ∃ r, r = doP (orNil r1) ⟨m0, m1, m2, m3, m4⟩ := ⟨_, rfl⟩
  have hdo := do_any ⟨a1A, a1n, a1c⟩ ⟨a2A, a2n, a2c⟩ ⟨a3A, a3n, a3c⟩ ⟨a4A, a4n, a4c⟩ (orNil r1) ⟨m0, m1, m2, m3, m4⟩
  rw [← Hr2] at hdo
  have HD := Lib.hid hdo
  have Kr2 := Lib.hid Hr2
  clear hdo Hr2
  have ac0 : W7.cell? ⟨ga, 0, none⟩ = some (.slice a1A a1n a1c) := va.blk.cell 0
  have ac1 : W7.cell? ⟨ga, 1, none⟩ = some (.slice a2A a2n a2c) := va.blk.cell 1
  have ac2 : W7.cell? ⟨ga, 2, none⟩ = some (.slice a3A a3n a3c) := va.blk.cell 2
  have ac3 : W7.cell? ⟨ga, 3, none⟩ = some (.slice a4A a4n a4c) := va.blk.cell 3
  have q0 : W7.cell? ⟨gl, 5, none⟩ = some (.int .i64 m0) := (hrow.cell5 1 (by simp)).1
  have q1 : W7.cell? ⟨gl, 6, none⟩ = some (.int .i64 m1) := (hrow.cell5 1 (by simp)).2.1
  have q2 : W7.cell? ⟨gl, 7, none⟩ = some (.int .i64 m2) := (hrow.cell5 1 (by simp)).2.2.1
  have q3 : W7.cell? ⟨gl, 8, none⟩ = some (.int .i64 m3) := (hrow.cell5 1 (by simp)).2.2.2.1
  have q4 : W7.cell? ⟨gl, 9, none⟩ = some (.int .i64 m4) := (hrow.cell5 1 (by simp)).2.2.2.2
  refine wp_region_late 9 7 (fun ix vals v w1 => match ix with | 0 => v = .agg #[.slice a1A a1n a1c, .slice a2A a2n a2c, .slice a3A a3n a3c, .slice a4A a4n a4c] | 1 => v = .slice (some ⟨gl, 0, none⟩) 2 cl | 2 => v = .pointer (some ⟨gl, 5, none⟩) | 3 => v = .agg #[.int .i64 m0, .int .i64 m1, .int .i64 m2, .int .i64 m3, .int .i64 m4] | 4 => PoolGot r2 W7.heap.size v w1 | 5 => v = vals 4 ∧ PoolGot r2 W7.heap.size v w1 | 6 => ∃ z, vals 5 = .tuple #[v, z] | 7 => ∃ z, vals 5 = .tuple #[z, v] | _ => ∃ g, v = .pointer (some ⟨g, 0, none⟩) ∧ W7.heap.size ≤ g ∧ Blk w1 g 26 nil4) (fun _ _ => none) (by kernel_rfl) (by kernel_rfl) (by kernel_rfl) (by kernel_rfl) _ rfl ?_ ?_ ?_ ?_ ?_
  · intro ix vals v w1 hi hr k hk
    match ix, hr, hk with
    | 0, _, hk => cases hk
    | 1, _, hk => cases hk
    | 2, _, hk => cases hk
    | 3, _, hk => cases hk
    | 4, _, hk => cases hk
    | 5, _, hk => cases hk
    | 6, _, hk => cases hk
    | 7, _, hk => cases hk
    | (kx + 8), _, hk => cases hk
  · intro ix vals v w1 w2 hi hr hx
    match ix, hr with
    | 0, hr => exact hr
    | 1, hr => exact hr
    | 2, hr => exact hr
    | 3, hr => exact hr
    | 4, hr => exact hr.ext hx
    | 5, hr => exact ⟨hr.1, hr.2.ext hx⟩
    | 6, hr => exact hr
    | 7, hr => exact hr
    | (kx + 8), hr => obtain ⟨g, h1, h2, h3⟩ := hr; exact ⟨g, h1, h2, h3.ext hx⟩
  · intro ix vals vals_ v w1 hi hv hr
    match ix, hi, hv, hr with
    | 0, _, _, hr => exact hr
    | 1, _, _, hr => exact hr
    | 2, _, _, hr => exact hr
    | 3, _, _, hr => exact hr
    | 4, _, _, hr => exact hr
    | 5, _, hv, hr => have e4 := hv 4 (by kernel_rfl); rw [← e4]; exact hr
    | 6, _, hv, hr => have e5 := hv 5 (by kernel_rfl); rw [← e5]; exact hr
    | 7, _, hv, hr => have e5 := hv 5 (by kernel_rfl); rw [← e5]; exact hr
    | (kx + 8), _, _, hr => exact hr
  · refine ⟨?_, ?_, ?_, ?_, ?_, ?_, ?_, ?_, ?_, trivial⟩
    · intro vals w1 hx hd ha
      refine plain1 (fun _ => rfl) ?_
      clear hd ha
      simp only [Lf]
      have ac0 := ext_cell hx ac0
      have ac1 := ext_cell hx ac1
      have ac2 := ext_cell hx ac2
      have ac3 := ext_cell hx ac3
      have q0 := ext_cell hx q0
      have q1 := ext_cell hx q1
      have q2 := ext_cell hx q2
      have q3 := ext_cell hx q3
      have q4 := ext_cell hx q4
      go_wp2
      exact ⟨rfl, Ext.refl _, rfl⟩
    · intro vals w1 hx hd ha
      refine plain1 (fun _ => rfl) ?_
      clear hd ha
      simp only [Lf, dstAt, Act.put, List.getElem?_toArray, List.getElem?_cons_zero, Option.bind_some, List.setIfInBounds_toArray, List.set_cons_zero, List.set_cons_succ]
      have ac0 := ext_cell hx ac0
      have ac1 := ext_cell hx ac1
      have ac2 := ext_cell hx ac2
      have ac3 := ext_cell hx ac3
      have q0 := ext_cell hx q0
      have q1 := ext_cell hx q1
      have q2 := ext_cell hx q2
      have q3 := ext_cell hx q3
      have q4 := ext_cell hx q4
      go_wp2
      exact ⟨rfl, Ext.refl _, rfl⟩
    · intro vals w1 hx hd ha
      have e1 : vals 1 = .slice (some ⟨gl, 0, none⟩) 2 cl := hd 1 (by decide)
      refine plain1 (fun _ => rfl) ?_
      clear hd ha
      simp only [Lf, dstAt, Act.put, List.getElem?_toArray, List.getElem?_cons_zero, List.getElem?_cons_succ, Option.bind_some, List.setIfInBounds_toArray, List.set_cons_zero, List.set_cons_succ]
      simp only [e1]
      clear e1
      have ac0 := ext_cell hx ac0
      have ac1 := ext_cell hx ac1
      have ac2 := ext_cell hx ac2
      have ac3 := ext_cell hx ac3
      have q0 := ext_cell hx q0
      have q1 := ext_cell hx q1
      have q2 := ext_cell hx q2
      have q3 := ext_cell hx q3
      have q4 := ext_cell hx q4
      go_wp2
      exact ⟨rfl, Ext.refl _, rfl⟩
    · intro vals w1 hx hd ha
      have e2 : vals 2 = .pointer (some ⟨gl, 5, none⟩) := hd 2 (by decide)
      refine plain1 (fun _ => rfl) ?_
      clear hd ha
      simp only [Lf, dstAt, Act.put, List.getElem?_toArray, List.getElem?_cons_zero, List.getElem?_cons_succ, Option.bind_some, List.setIfInBounds_toArray, List.set_cons_zero, List.set_cons_succ]
      simp only [e2]
      clear e2
      have ac0 := ext_cell hx ac0
      have ac1 := ext_cell hx ac1
      have ac2 := ext_cell hx ac2
      have ac3 := ext_cell hx ac3
      have q0 := ext_cell hx q0
      have q1 := ext_cell hx q1
      have q2 := ext_cell hx q2
      have q3 := ext_cell hx q3
      have q4 := ext_cell hx q4
      go_wp2
      exact ⟨rfl, Ext.refl _, rfl⟩
    · intro vals w1 hx hd ha
      have e0 : vals 0 = .agg #[.slice a1A a1n a1c, .slice a2A a2n a2c, .slice a3A a3n a3c, .slice a4A a4n a4c] := hd 0 (by decide)
      have e3 : vals 3 = .agg #[.int .i64 m0, .int .i64 m1, .int .i64 m2, .int .i64 m3, .int .i64 m4] := hd 3 (by decide)
      refine plain1 (fun _ => rfl) ?_
      clear hd ha
      simp only [Lf, dstAt, Act.put, List.getElem?_toArray, List.getElem?_cons_zero, List.getElem?_cons_succ, Option.bind_some, List.setIfInBounds_toArray, List.set_cons_zero, List.set_cons_succ]
      have ac0 := ext_cell hx ac0
      have ac1 := ext_cell hx ac1
      have ac2 := ext_cell hx ac2
      have ac3 := ext_cell hx ac3
      have q0 := ext_cell hx q0
      have q1 := ext_cell hx q1
      have q2 := ext_cell hx q2
      have q3 := ext_cell hx q3
      have q4 := ext_cell hx q4
      simp only [e0]
      simp only [e3]
      clear e0 e3
      have hz := Below.size hx.undrew
      go_wp2_with fail
      refine (HD.out w1 ((va.ext hx.undrew).pool)).mono ?_
      rintro e w2 ⟨v, rfl, hb, hgot⟩
      go_wp2
      exact ⟨rfl, hb, hgot.down (by omega)⟩
    · intro vals w1 hx hd ha
      have r4 : (fun v w1 => PoolGot r2 W7.heap.size v w1) (vals 4) w1 := hd 4 (by decide)
      dsimp only at r4
      refine plain1 (fun _ => rfl) ?_
      clear hd ha
      simp only [Lf, dstAt, Act.put, List.getElem?_toArray, List.getElem?_cons_zero, List.getElem?_cons_succ, Option.bind_some, List.setIfInBounds_toArray, List.set_cons_zero, List.set_cons_succ]
      have ac0 := ext_cell hx ac0
      have ac1 := ext_cell hx ac1
      have ac2 := ext_cell hx ac2
      have ac3 := ext_cell hx ac3
      have q0 := ext_cell hx q0
      have q1 := ext_cell hx q1
      have q2 := ext_cell hx q2
      have q3 := ext_cell hx q3
      have q4 := ext_cell hx q4
      go_wp2
      exact ⟨rfl, Ext.refl _, rfl, r4⟩
    · intro vals w1 hx hd ha
      have r5 : (fun v w1 => v = vals 4 ∧ PoolGot r2 W7.heap.size v w1) (vals 5) w1 := hd 5 (by decide)
      dsimp only at r5
      refine plain1 (fun _ => rfl) ?_
      clear hd ha
      simp only [Lf, dstAt, Act.put, List.getElem?_toArray, List.getElem?_cons_zero, List.getElem?_cons_succ, Option.bind_some, List.setIfInBounds_toArray, List.set_cons_zero, List.set_cons_succ]
      have ac0 := ext_cell hx ac0
      have ac1 := ext_cell hx ac1
      have ac2 := ext_cell hx ac2
      have ac3 := ext_cell hx ac3
      have q0 := ext_cell hx q0
      have q1 := ext_cell hx q1
      have q2 := ext_cell hx q2
      have q3 := ext_cell hx q3
      have q4 := ext_cell hx q4
      rcases r5.2 with ⟨_, e1⟩ | ⟨q, t1, t2, t3, t4, _, e1, _⟩
      · rw [e1]; go_wp2; exact ⟨rfl, Ext.refl _, _, rfl⟩
      · rw [e1]; go_wp2; exact ⟨rfl, Ext.refl _, _, rfl⟩
    · intro vals w1 hx hd ha
      have r5 : (fun v w1 => v = vals 4 ∧ PoolGot r2 W7.heap.size v w1) (vals 5) w1 := hd 5 (by decide)
      dsimp only at r5
      refine plain1 (fun _ => rfl) ?_
      clear hd ha
      simp only [Lf, dstAt, Act.put, List.getElem?_toArray, List.getElem?_cons_zero, List.getElem?_cons_succ, Option.bind_some, List.setIfInBounds_toArray, List.set_cons_zero, List.set_cons_succ]
      have ac0 := ext_cell hx ac0
      have ac1 := ext_cell hx ac1
      have ac2 := ext_cell hx ac2
      have ac3 := ext_cell hx ac3
      have q0 := ext_cell hx q0
      have q1 := ext_cell hx q1
      have q2 := ext_cell hx q2
      have q3 := ext_cell hx q3
      have q4 := ext_cell hx q4
      rcases r5.2 with ⟨_, e1⟩ | ⟨q, t1, t2, t3, t4, _, e1, _⟩
      · rw [e1]; go_wp2; exact ⟨rfl, Ext.refl _, _, rfl⟩
      · rw [e1]; go_wp2; exact ⟨rfl, Ext.refl _, _, rfl⟩
    · intro vals w1 hx hd ha
      refine plain1 (fun _ => rfl) ?_
      clear hd ha
      simp only [Lf, dstAt, Act.put, List.getElem?_toArray, List.getElem?_cons_zero, List.getElem?_cons_succ, Option.bind_some, List.setIfInBounds_toArray, List.set_cons_zero, List.set_cons_succ]
      have ac0 := ext_cell hx ac0
      have ac1 := ext_cell hx ac1
      have ac2 := ext_cell hx ac2
      have ac3 := ext_cell hx ac3
      have q0 := ext_cell hx q0
      have q1 := ext_cell hx q1
      have q2 := ext_cell hx q2
      have q3 := ext_cell hx q3
      have q4 := ext_cell hx q4
      have hz := Below.size hx.undrew
      go_wp2
      exact ⟨rfl, (by repeat (first | exact Below.refl _ _ | assumption | refine Below.drew ?_ | refine below_drewN ?_ _ | refine bl_alloc ?_ _ | refine Below.setCell ?_ (by first | (simp; done) | omega | (simp; omega)) _ | refine bl_then ?_ (by assumption))), _, rfl, by omega, Blk.new _ _ _⟩
  intro vals W8 hx hf _
  have hgot : PoolGot r2 W7.heap.size (vals 5) W8 := (hf 5 (by omega)).2
  have h11 : ∃ z, vals 5 = .tuple #[vals 6, z] := hf 6 (by omega)
  have h12 : ∃ z, vals 5 = .tuple #[z, vals 7] := hf 7 (by omega)
  obtain ⟨gb, e9, hgn, jn⟩ : ∃ g, vals 8 = .pointer (some ⟨g, 0, none⟩) ∧ W7.heap.size ≤ g ∧ Blk W8 g 26 nil4 := hf 8 (by omega)
  clear hf ac0 ac1 ac2 ac3 q0 q1 q2 q3 q4
  have hx := hx.undrew
  obtain ⟨⟨b1A, b1n, b1c⟩, ⟨b2A, b2n, b2c⟩, ⟨b3A, b3n, b3c⟩, ⟨b4A, b4n, b4c⟩, e10, hpr⟩ := hgot.uniR
  simp only [Lf, dstAt, Act.put, List.getElem?_toArray, List.getElem?_cons_zero, List.getElem?_cons_succ, Option.bind_some, List.setIfInBounds_toArray, List.set_cons_zero, List.set_cons_succ]
  rw [e9, tup0 e10 h11, tup1 e10 h12]
  have HG := Lib.hid hgot
  have HPR := Lib.hid hpr
  clear e9 e10 h11 h12 hgot hpr
  have n0 := jn.cell 0
  have f0 := jn.frozen 0
  have n1 := jn.cell 1
  have f1 := jn.frozen 1
  have n2 := jn.cell 2
  have f2 := jn.frozen 2
  have n3 := jn.cell 3
  have f3 := jn.frozen 3
  simp only [poolV, Sl.v]
  go_wp2_with fail
  refine Qn_of ?_
  refine tail1 10 _ (by kernel_rfl) (by kernel_rfl) rfl ?_
  generalize hW7 : ((((W8.setCell ⟨gb, 0, none⟩ _).setCell ⟨gb, 1, none⟩ _).setCell ⟨gb, 2, none⟩ _).setCell ⟨gb, 3, none⟩ _) = W9
  have vb : PV W9 gb ⟨b1A, b1n, b1c⟩ ⟨b2A, b2n, b2c⟩ ⟨b3A, b3n, b3c⟩ ⟨b4A, b4n, b4c⟩ (orNil r2) := by subst hW7; exact ⟨jn.set4 _ _ _ _, HPR.out _ (HG.out.set4 jn _ _ _ _)⟩
  have hx : Ext W7 W9 := by subst hW7; exact below_set4 hx hgn _ _ _ _
  clear hW7 jn hgn HG HPR n0 n1 n2 n3 f0 f1 f2 f3
  have hB := hB.ext hx
  have j1 := j1.ext hx
  have j2 := j2.ext hx
  have vp := vp.ext hx
  have hrow := hrow.ext hx
  have va := va.ext hx
  clear hx
  go_upto_region 7 with (fail)
  clear HD
  obtain ⟨r3, Hr3⟩ : ∃ r, r = doP p ⟨m0, m1, m2, m3, m4⟩ := ⟨_, rfl⟩
  have hdo := do_any ⟨p1A, p1n, p1c⟩ ⟨p2A, p2n, p2c⟩ ⟨p3A, p3n, p3c⟩ ⟨p4A, p4n, p4c⟩ p ⟨m0, m1, m2, m3, m4⟩
  rw [← Hr3] at hdo
  have HD := Lib.hid hdo
  have Kr3 := Lib.hid Hr3
  clear hdo Hr3
  have pc0 : W9.cell? ⟨gp, 0, none⟩ = some (.slice p1A p1n p1c) := vp.blk.cell 0
  have pc1 : W9.cell? ⟨gp, 1, none⟩ = some (.slice p2A p2n p2c) := vp.blk.cell 1
  have pc2 : W9.cell? ⟨gp, 2, none⟩ = some (.slice p3A p3n p3c) := vp.blk.cell 2
  have pc3 : W9.cell? ⟨gp, 3, none⟩ = some (.slice p4A p4n p4c) := vp.blk.cell 3
  have q0 : W9.cell? ⟨gl, 5, none⟩ = some (.int .i64 m0) := (hrow.cell5 1 (by simp)).1
  have q1 : W9.cell? ⟨gl, 6, none⟩ = some (.int .i64 m1) := (hrow.cell5 1 (by simp)).2.1
  have q2 : W9.cell? ⟨gl, 7, none⟩ = some (.int .i64 m2) := (hrow.cell5 1 (by simp)).2.2.1
  have q3 : W9.cell? ⟨gl, 8, none⟩ = some (.int .i64 m3) := (hrow.cell5 1 (by simp)).2.2.2.1
  have q4 : W9.cell? ⟨gl, 9, none⟩ = some (.int .i64 m4) := (hrow.cell5 1 (by simp)).2.2.2.2
  refine wp_region_late 9 7 (fun ix vals v w1 => match ix with | 0 => v = .agg #[.slice p1A p1n p1c, .slice p2A p2n p2c, .slice p3A p3n p3c, .slice p4A p4n p4c] | 1 => v = .slice (some ⟨gl, 0, none⟩) 2 cl | 2 => v = .pointer (some ⟨gl, 5, none⟩) | 3 => v = .agg #[.int .i64 m0, .int .i64 m1, .int .i64 m2, .int .i64 m3, .int .i64 m4] | 4 => PoolGot r3 W9.heap.size v w1 | 5 => v = vals 4 ∧ PoolGot r3 W9.heap.size v w1 | 6 => ∃ z, vals 5 = .tuple #[v, z] | 7 => ∃ z, vals 5 = .tuple #[z, v] | _ => ∃ g, v = .pointer (some ⟨g, 0, none⟩) ∧ W9.heap.size ≤ g ∧ Blk w1 g 26 nil4) (fun _ _ => none) (by kernel_rfl) (by kernel_rfl) (by kernel_rfl) (by kernel_rfl) _ rfl ?_ ?_ ?_ ?_ ?_
  · intro ix vals v w1 hi hr k hk
    match ix, hr, hk with
    | 0, _, hk => cases hk
    | 1, _, hk => cases hk
    | 2, _, hk => cases hk
    | 3, _, hk => cases hk
    | 4, _, hk => cases hk
    | 5, _, hk => cases hk
    | 6, _, hk => cases hk
    | 7, _, hk => cases hk
    | (kx + 8), _, hk => cases hk
  · intro ix vals v w1 w2 hi hr hx
    match ix, hr with
    | 0, hr => exact hr
    | 1, hr => exact hr
    | 2, hr => exact hr
    | 3, hr => exact hr
    | 4, hr => exact hr.ext hx
    | 5, hr => exact ⟨hr.1, hr.2.ext hx⟩
    | 6, hr => exact hr
    | 7, hr => exact hr
    | (kx + 8), hr => obtain ⟨g, h1, h2, h3⟩ := hr; exact ⟨g, h1, h2, h3.ext hx⟩
  · intro ix vals vals_ v w1 hi hv hr
    match ix, hi, hv, hr with
    | 0, _, _, hr => exact hr
    | 1, _, _, hr => exact hr
    | 2, _, _, hr => exact hr
    | 3, _, _, hr => exact hr
    | 4, _, _, hr => exact hr
    | 5, _, hv, hr => have e4 := hv 4 (by kernel_rfl); rw [← e4]; exact hr
    | 6, _, hv, hr => have e5 := hv 5 (by kernel_rfl); rw [← e5]; exact hr
    | 7, _, hv, hr => have e5 := hv 5 (by kernel_rfl); rw [← e5]; exact hr
    | (kx + 8), _, _, hr => exact hr
  · refine ⟨?_, ?_, ?_, ?_, ?_, ?_, ?_, ?_, ?_, trivial⟩
    · intro vals w1 hx hd ha
      refine plain1 (fun _ => rfl) ?_
      clear hd ha
      simp only [Lf]
      have pc0 := ext_cell hx pc0
      have pc1 := ext_cell hx pc1
      have pc2 := ext_cell hx pc2
      have pc3 := ext_cell hx pc3
      have q0 := ext_cell hx q0
      have q1 := ext_cell hx q1
      have q2 := ext_cell hx q2
      have q3 := ext_cell hx q3
      have q4 := ext_cell hx q4
      go_wp2
      exact ⟨rfl, Ext.refl _, rfl⟩
    · intro vals w1 hx hd ha
      refine plain1 (fun _ => rfl) ?_
      clear hd ha
      simp only [Lf, dstAt, Act.put, List.getElem?_toArray, List.getElem?_cons_zero, Option.bind_some, List.setIfInBounds_toArray, List.set_cons_zero, List.set_cons_succ]
      have pc0 := ext_cell hx pc0
      have pc1 := ext_cell hx pc1
      have pc2 := ext_cell hx pc2
      have pc3 := ext_cell hx pc3
      have q0 := ext_cell hx q0
      have q1 := ext_cell hx q1
      have q2 := ext_cell hx q2
      have q3 := ext_cell hx q3
      have q4 := ext_cell hx q4
      go_wp2
      exact ⟨rfl, Ext.refl _, rfl⟩
    · intro vals w1 hx hd ha
      have e1 : vals 1 = .slice (some ⟨gl, 0, none⟩) 2 cl := hd 1 (by decide)
      refine plain1 (fun _ => rfl) ?_
      clear hd ha
      simp only [Lf, dstAt, Act.put, List.getElem?_toArray, List.getElem?_cons_zero, List.getElem?_cons_succ, Option.bind_some, List.setIfInBounds_toArray, List.set_cons_zero, List.set_cons_succ]
      simp only [e1]
      clear e1
      have pc0 := ext_cell hx pc0
      have pc1 := ext_cell hx pc1
      have pc2 := ext_cell hx pc2
      have pc3 := ext_cell hx pc3
      have q0 := ext_cell hx q0
      have q1 := ext_cell hx q1
      have q2 := ext_cell hx q2
      have q3 := ext_cell hx q3
      have q4 := ext_cell hx q4
      go_wp2
      exact ⟨rfl, Ext.refl _, rfl⟩
    · intro vals w1 hx hd ha
      have e2 : vals 2 = .pointer (some ⟨gl, 5, none⟩) := hd 2 (by decide)
      refine plain1 (fun _ => rfl) ?_
      clear hd ha
      simp only [Lf, dstAt, Act.put, List.getElem?_toArray, List.getElem?_cons_zero, List.getElem?_cons_succ, Option.bind_some, List.setIfInBounds_toArray, List.set_cons_zero, List.set_cons_succ]
      simp only [e2]
      clear e2
      have pc0 := ext_cell hx pc0
      have pc1 := ext_cell hx pc1
      have pc2 := ext_cell hx pc2
      have pc3 := ext_cell hx pc3
      have q0 := ext_cell hx q0
      have q1 := ext_cell hx q1
      have q2 := ext_cell hx q2
      have q3 := ext_cell hx q3
      have q4 := ext_cell hx q4
      go_wp2
      exact ⟨rfl, Ext.refl _, rfl⟩
    · intro vals w1 hx hd ha
      have e0 : vals 0 = .agg #[.slice p1A p1n p1c, .slice p2A p2n p2c, .slice p3A p3n p3c, .slice p4A p4n p4c] := hd 0 (by decide)
      have e3 : vals 3 = .agg #[.int .i64 m0, .int .i64 m1, .int .i64 m2, .int .i64 m3, .int .i64 m4] := hd 3 (by decide)
      refine plain1 (fun _ => rfl) ?_
      clear hd ha
      simp only [Lf, dstAt, Act.put, List.getElem?_toArray, List.getElem?_cons_zero, List.getElem?_cons_succ, Option.bind_some, List.setIfInBounds_toArray, List.set_cons_zero, List.set_cons_succ]
      have pc0 := ext_cell hx pc0
      have pc1 := ext_cell hx pc1
      have pc2 := ext_cell hx pc2
      have pc3 := ext_cell hx pc3
      have q0 := ext_cell hx q0
      have q1 := ext_cell hx q1
      have q2 := ext_cell hx q2
      have q3 := ext_cell hx q3
      have q4 := ext_cell hx q4
      simp only [e0]
      simp only [e3]
      clear e0 e3
      have hz := Below.size hx.undrew
      go_wp2_with fail
      refine (HD.out w1 ((vp.ext hx.undrew).pool)).mono ?_
      rintro e w2 ⟨v, rfl, hb, hgot⟩
      go_wp2
      exact ⟨rfl, hb, hgot.down (by omega)⟩
    · intro vals w1 hx hd ha
      have r4 : (fun v w1 => PoolGot r3 W9.heap.size v w1) (vals 4) w1 := hd 4 (by decide)
      dsimp only at r4
      refine plain1 (fun _ => rfl) ?_
      clear hd ha
      simp only [Lf, dstAt, Act.put, List.getElem?_toArray, List.getElem?_cons_zero, List.getElem?_cons_succ, Option.bind_some, List.setIfInBounds_toArray, List.set_cons_zero, List.set_cons_succ]
      have pc0 := ext_cell hx pc0
      have pc1 := ext_cell hx pc1
      have pc2 := ext_cell hx pc2
      have pc3 := ext_cell hx pc3
      have q0 := ext_cell hx q0
      have q1 := ext_cell hx q1
      have q2 := ext_cell hx q2
      have q3 := ext_cell hx q3
      have q4 := ext_cell hx q4
      go_wp2
      exact ⟨rfl, Ext.refl _, rfl, r4⟩
    · intro vals w1 hx hd ha
      have r5 : (fun v w1 => v = vals 4 ∧ PoolGot r3 W9.heap.size v w1) (vals 5) w1 := hd 5 (by decide)
      dsimp only at r5
      refine plain1 (fun _ => rfl) ?_
      clear hd ha
      simp only [Lf, dstAt, Act.put, List.getElem?_toArray, List.getElem?_cons_zero, List.getElem?_cons_succ, Option.bind_some, List.setIfInBounds_toArray, List.set_cons_zero, List.set_cons_succ]
      have pc0 := ext_cell hx pc0
      have pc1 := ext_cell hx pc1
      have pc2 := ext_cell hx pc2
      have pc3 := ext_cell hx pc3
      have q0 := ext_cell hx q0
      have q1 := ext_cell hx q1
      have q2 := ext_cell hx q2
      have q3 := ext_cell hx q3
      have q4 := ext_cell hx q4
      rcases r5.2 with ⟨_, e1⟩ | ⟨q, t1, t2, t3, t4, _, e1, _⟩
      · rw [e1]; go_wp2; exact ⟨rfl, Ext.refl _, _, rfl⟩
      · rw [e1]; go_wp2; exact ⟨rfl, Ext.refl _, _, rfl⟩
    · intro vals w1 hx hd ha
      have r5 : (fun v w1 => v = vals 4 ∧ PoolGot r3 W9.heap.size v w1) (vals 5) w1 := hd 5 (by decide)
      dsimp only at r5
      refine plain1 (fun _ => rfl) ?_
      clear hd ha
      simp only [Lf, dstAt, Act.put, List.getElem?_toArray, List.getElem?_cons_zero, List.getElem?_cons_succ, Option.bind_some, List.setIfInBounds_toArray, List.set_cons_zero, List.set_cons_succ]
      have pc0 := ext_cell hx pc0
      have pc1 := ext_cell hx pc1
      have pc2 := ext_cell hx pc2
      have pc3 := ext_cell hx pc3
      have q0 := ext_cell hx q0
      have q1 := ext_cell hx q1
      have q2 := ext_cell hx q2
      have q3 := ext_cell hx q3
      have q4 := ext_cell hx q4
      rcases r5.2 with ⟨_, e1⟩ | ⟨q, t1, t2, t3, t4, _, e1, _⟩
      · rw [e1]; go_wp2; exact ⟨rfl, Ext.refl _, _, rfl⟩
      · rw [e1]; go_wp2; exact ⟨rfl, Ext.refl _, _, rfl⟩
    · intro vals w1 hx hd ha
      refine plain1 (fun _ => rfl) ?_
      clear hd ha
      simp only [Lf, dstAt, Act.put, List.getElem?_toArray, List.getElem?_cons_zero, List.getElem?_cons_succ, Option.bind_some, List.setIfInBounds_toArray, List.set_cons_zero, List.set_cons_succ]
      have pc0 := ext_cell hx pc0
      have pc1 := ext_cell hx pc1
      have pc2 := ext_cell hx pc2
      have pc3 := ext_cell hx pc3
      have q0 := ext_cell hx q0
      have q1 := ext_cell hx q1
      have q2 := ext_cell hx q2
      have q3 := ext_cell hx q3
      have q4 := ext_cell hx q4
      have hz := Below.size hx.undrew
      go_wp2
      exact ⟨rfl, (by repeat (first | exact Below.refl _ _ | assumption | refine Below.drew ?_ | refine below_drewN ?_ _ | refine bl_alloc ?_ _ | refine Below.setCell ?_ (by first | (simp; done) | omega | (simp; omega)) _ | refine bl_then ?_ (by assumption))), _, rfl, by omega, Blk.new _ _ _⟩
  intro vals W10 hx hf _
  have hgot : PoolGot r3 W9.heap.size (vals 5) W10 := (hf 5 (by omega)).2
  have h11 : ∃ z, vals 5 = .tuple #[vals 6, z] := hf 6 (by omega)
  have h12 : ∃ z, vals 5 = .tuple #[z, vals 7] := hf 7 (by omega)
  obtain ⟨gc, e9, hgn, jn⟩ : ∃ g, vals 8 = .pointer (some ⟨g, 0, none⟩) ∧ W9.heap.size ≤ g ∧ Blk W10 g 26 nil4 := hf 8 (by omega)
  clear hf pc0 pc1 pc2 pc3 q0 q1 q2 q3 q4
  have hx := hx.undrew
  obtain ⟨⟨c1A, c1n, c1c⟩, ⟨c2A, c2n, c2c⟩, ⟨c3A, c3n, c3c⟩, ⟨c4A, c4n, c4c⟩, e10, hpr⟩ := hgot.uniR
  simp only [Lf, dstAt, Act.put, List.getElem?_toArray, List.getElem?_cons_zero, List.getElem?_cons_succ, Option.bind_some, List.setIfInBounds_toArray, List.set_cons_zero, List.set_cons_succ]
  rw [e9, tup0 e10 h11, tup1 e10 h12]
  have HG := Lib.hid hgot
  have HPR := Lib.hid hpr
  clear e9 e10 h11 h12 hgot hpr
  have n0 := jn.cell 0
  have f0 := jn.frozen 0
  have n1 := jn.cell 1
  have f1 := jn.frozen 1
  have n2 := jn.cell 2
  have f2 := jn.frozen 2
  have n3 := jn.cell 3
  have f3 := jn.frozen 3
  simp only [poolV, Sl.v]
  go_wp2_with fail
  refine Qn_of ?_
  refine tail1 10 _ (by kernel_rfl) (by kernel_rfl) rfl ?_
  generalize hW7 : ((((W10.setCell ⟨gc, 0, none⟩ _).setCell ⟨gc, 1, none⟩ _).setCell ⟨gc, 2, none⟩ _).setCell ⟨gc, 3, none⟩ _) = W11
  have vc : PV W11 gc ⟨c1A, c1n, c1c⟩ ⟨c2A, c2n, c2c⟩ ⟨c3A, c3n, c3c⟩ ⟨c4A, c4n, c4c⟩ (orNil r3) := by subst hW7; exact ⟨jn.set4 _ _ _ _, HPR.out _ (HG.out.set4 jn _ _ _ _)⟩
  have hx : Ext W9 W11 := by subst hW7; exact below_set4 hx hgn _ _ _ _
  clear hW7 jn hgn HG HPR n0 n1 n2 n3 f0 f1 f2 f3
  have hB := hB.ext hx
  have j1 := j1.ext hx
  have j2 := j2.ext hx
  have vp := vp.ext hx
  have hrow := hrow.ext hx
  have va := va.ext hx
  have vb := vb.ext hx
  clear hx
  go_upto_region 8 with (fail)
  clear HD
  obtain ⟨r4, Hr4⟩ : ∃ r, r = doP (orNil r3) ⟨d0, d1, d2, d3, d4⟩ := ⟨_, rfl⟩
  have hdo := do_any ⟨c1A, c1n, c1c⟩ ⟨c2A, c2n, c2c⟩ ⟨c3A, c3n, c3c⟩ ⟨c4A, c4n, c4c⟩ (orNil r3) ⟨d0, d1, d2, d3, d4⟩
  rw [← Hr4] at hdo
  have HD := Lib.hid hdo
  have Kr4 := Lib.hid Hr4
  clear hdo Hr4
  have cc0 : W11.cell? ⟨gc, 0, none⟩ = some (.slice c1A c1n c1c) := vc.blk.cell 0
  have cc1 : W11.cell? ⟨gc, 1, none⟩ = some (.slice c2A c2n c2c) := vc.blk.cell 1
  have cc2 : W11.cell? ⟨gc, 2, none⟩ = some (.slice c3A c3n c3c) := vc.blk.cell 2
  have cc3 : W11.cell? ⟨gc, 3, none⟩ = some (.slice c4A c4n c4c) := vc.blk.cell 3
  have q0 : W11.cell? ⟨gl, 0, none⟩ = some (.int .i64 d0) := (hrow.cell5 0 (by simp)).1
  have q1 : W11.cell? ⟨gl, 1, none⟩ = some (.int .i64 d1) := (hrow.cell5 0 (by simp)).2.1
  have q2 : W11.cell? ⟨gl, 2, none⟩ = some (.int .i64 d2) := (hrow.cell5 0 (by simp)).2.2.1
  have q3 : W11.cell? ⟨gl, 3, none⟩ = some (.int .i64 d3) := (hrow.cell5 0 (by simp)).2.2.2.1
  have q4 : W11.cell? ⟨gl, 4, none⟩ = some (.int .i64 d4) := (hrow.cell5 0 (by simp)).2.2.2.2
  refine wp_region_late 9 7 (fun ix vals v w1 => match ix with | 0 => v = .agg #[.slice c1A c1n c1c, .slice c2A c2n c2c, .slice c3A c3n c3c, .slice c4A c4n c4c] | 1 => v = .slice (some ⟨gl, 0, none⟩) 2 cl | 2 => v = .pointer (some ⟨gl, 0, none⟩) | 3 => v = .agg #[.int .i64 d0, .int .i64 d1, .int .i64 d2, .int .i64 d3, .int .i64 d4] | 4 => PoolGot r4 W11.heap.size v w1 | 5 => v = vals 4 ∧ PoolGot r4 W11.heap.size v w1 | 6 => ∃ z, vals 5 = .tuple #[v, z] | 7 => ∃ z, vals 5 = .tuple #[z, v] | _ => ∃ g, v = .pointer (some ⟨g, 0, none⟩) ∧ W11.heap.size ≤ g ∧ Blk w1 g 26 nil4) (fun _ _ => none) (by kernel_rfl) (by kernel_rfl) (by kernel_rfl) (by kernel_rfl) _ rfl ?_ ?_ ?_ ?_ ?_
  · intro ix vals v w1 hi hr k hk
    match ix, hr, hk with
    | 0, _, hk => cases hk
    | 1, _, hk => cases hk
    | 2, _, hk => cases hk
    | 3, _, hk => cases hk
    | 4, _, hk => cases hk
    | 5, _, hk => cases hk
    | 6, _, hk => cases hk
    | 7, _, hk => cases hk
    | (kx + 8), _, hk => cases hk
  · intro ix vals v w1 w2 hi hr hx
    match ix, hr with
    | 0, hr => exact hr
    | 1, hr => exact hr
    | 2, hr => exact hr
    | 3, hr => exact hr
    | 4, hr => exact hr.ext hx
    | 5, hr => exact ⟨hr.1, hr.2.ext hx⟩
    | 6, hr => exact hr
    | 7, hr => exact hr
    | (kx + 8), hr => obtain ⟨g, h1, h2, h3⟩ := hr; exact ⟨g, h1, h2, h3.ext hx⟩
  · intro ix vals vals_ v w1 hi hv hr
    match ix, hi, hv, hr with
    | 0, _, _, hr => exact hr
    | 1, _, _, hr => exact hr
    | 2, _, _, hr => exact hr
    | 3, _, _, hr => exact hr
    | 4, _, _, hr => exact hr
    | 5, _, hv, hr => have e4 := hv 4 (by kernel_rfl); rw [← e4]; exact hr
    | 6, _, hv, hr => have e5 := hv 5 (by kernel_rfl); rw [← e5]; exact hr
    | 7, _, hv, hr => have e5 := hv 5 (by kernel_rfl); rw [← e5]; exact hr
    | (kx + 8), _, _, hr => exact hr
  · refine ⟨?_, ?_, ?_, ?_, ?_, ?_, ?_, ?_, ?_, trivial⟩
    · intro vals w1 hx hd ha
      refine plain1 (fun _ => rfl) ?_
      clear hd ha
      simp only [Lf]
      have cc0 := ext_cell hx cc0
      have cc1 := ext_cell hx cc1
      have cc2 := ext_cell hx cc2
      have cc3 := ext_cell hx cc3
      have q0 := ext_cell hx q0
      have q1 := ext_cell hx q1
      have q2 := ext_cell hx q2
      have q3 := ext_cell hx q3
      have q4 := ext_cell hx q4
      go_wp2
      exact ⟨rfl, Ext.refl _, rfl⟩
    · intro vals w1 hx hd ha
      refine plain1 (fun _ => rfl) ?_
      clear hd ha
      simp only [Lf, dstAt, Act.put, List.getElem?_toArray, List.getElem?_cons_zero, Option.bind_some, List.setIfInBounds_toArray, List.set_cons_zero, List.set_cons_succ]
      have cc0 := ext_cell hx cc0
      have cc1 := ext_cell hx cc1
      have cc2 := ext_cell hx cc2
      have cc3 := ext_cell hx cc3
      have q0 := ext_cell hx q0
      have q1 := ext_cell hx q1
      have q2 := ext_cell hx q2
      have q3 := ext_cell hx q3
      have q4 := ext_cell hx q4
      go_wp2
      exact ⟨rfl, Ext.refl _, rfl⟩
    · intro vals w1 hx hd ha
      have e1 : vals 1 = .slice (some ⟨gl, 0, none⟩) 2 cl := hd 1 (by decide)
      refine plain1 (fun _ => rfl) ?_
      clear hd ha
      simp only [Lf, dstAt, Act.put, List.getElem?_toArray, List.getElem?_cons_zero, List.getElem?_cons_succ, Option.bind_some, List.setIfInBounds_toArray, List.set_cons_zero, List.set_cons_succ]
      simp only [e1]
      clear e1
      have cc0 := ext_cell hx cc0
      have cc1 := ext_cell hx cc1
      have cc2 := ext_cell hx cc2
      have cc3 := ext_cell hx cc3
      have q0 := ext_cell hx q0
      have q1 := ext_cell hx q1
      have q2 := ext_cell hx q2
      have q3 := ext_cell hx q3
      have q4 := ext_cell hx q4
      go_wp2
      exact ⟨rfl, Ext.refl _, rfl⟩
    · intro vals w1 hx hd ha
      have e2 : vals 2 = .pointer (some ⟨gl, 0, none⟩) := hd 2 (by decide)
      refine plain1 (fun _ => rfl) ?_
      clear hd ha
      simp only [Lf, dstAt, Act.put, List.getElem?_toArray, List.getElem?_cons_zero, List.getElem?_cons_succ, Option.bind_some, List.setIfInBounds_toArray, List.set_cons_zero, List.set_cons_succ]
      simp only [e2]
      clear e2
      have cc0 := ext_cell hx cc0
      have cc1 := ext_cell hx cc1
      have cc2 := ext_cell hx cc2
      have cc3 := ext_cell hx cc3
      have q0 := ext_cell hx q0
      have q1 := ext_cell hx q1
      have q2 := ext_cell hx q2
      have q3 := ext_cell hx q3
      have q4 := ext_cell hx q4
      go_wp2
      exact ⟨rfl, Ext.refl _, rfl⟩
    · intro vals w1 hx hd ha
      have e0 : vals 0 = .agg #[.slice c1A c1n c1c, .slice c2A c2n c2c, .slice c3A c3n c3c, .slice c4A c4n c4c] := hd 0 (by decide)
      have e3 : vals 3 = .agg #[.int .i64 d0, .int .i64 d1, .int .i64 d2, .int .i64 d3, .int .i64 d4] := hd 3 (by decide)
      refine plain1 (fun _ => rfl) ?_
      clear hd ha
      simp only [Lf, dstAt, Act.put, List.getElem?_toArray, List.getElem?_cons_zero, List.getElem?_cons_succ, Option.bind_some, List.setIfInBounds_toArray, List.set_cons_zero, List.set_cons_succ]
      have cc0 := ext_cell hx cc0
      have cc1 := ext_cell hx cc1
      have cc2 := ext_cell hx cc2
      have cc3 := ext_cell hx cc3
      have q0 := ext_cell hx q0
      have q1 := ext_cell hx q1
      have q2 := ext_cell hx q2
      have q3 := ext_cell hx q3
      have q4 := ext_cell hx q4
      simp only [e0]
      simp only [e3]
      clear e0 e3
      have hz := Below.size hx.undrew
      go_wp2_with fail
      refine (HD.out w1 ((vc.ext hx.undrew).pool)).mono ?_
      rintro e w2 ⟨v, rfl, hb, hgot⟩
      go_wp2
      exact ⟨rfl, hb, hgot.down (by omega)⟩
    · intro vals w1 hx hd ha
      have r4 : (fun v w1 => PoolGot r4 W11.heap.size v w1) (vals 4) w1 := hd 4 (by decide)
      dsimp only at r4
      refine plain1 (fun _ => rfl) ?_
      clear hd ha
      simp only [Lf, dstAt, Act.put, List.getElem?_toArray, List.getElem?_cons_zero, List.getElem?_cons_succ, Option.bind_some, List.setIfInBounds_toArray, List.set_cons_zero, List.set_cons_succ]
      have cc0 := ext_cell hx cc0
      have cc1 := ext_cell hx cc1
      have cc2 := ext_cell hx cc2
      have cc3 := ext_cell hx cc3
      have q0 := ext_cell hx q0
      have q1 := ext_cell hx q1
      have q2 := ext_cell hx q2
      have q3 := ext_cell hx q3
      have q4 := ext_cell hx q4
      go_wp2
      exact ⟨rfl, Ext.refl _, rfl, r4⟩
    · intro vals w1 hx hd ha
      have r5 : (fun v w1 => v = vals 4 ∧ PoolGot r4 W11.heap.size v w1) (vals 5) w1 := hd 5 (by decide)
      dsimp only at r5
      refine plain1 (fun _ => rfl) ?_
      clear hd ha
      simp only [Lf, dstAt, Act.put, List.getElem?_toArray, List.getElem?_cons_zero, List.getElem?_cons_succ, Option.bind_some, List.setIfInBounds_toArray, List.set_cons_zero, List.set_cons_succ]
      have cc0 := ext_cell hx cc0
      have cc1 := ext_cell hx cc1
      have cc2 := ext_cell hx cc2
      have cc3 := ext_cell hx cc3
      have q0 := ext_cell hx q0
      have q1 := ext_cell hx q1
      have q2 := ext_cell hx q2
      have q3 := ext_cell hx q3
      have q4 := ext_cell hx q4
      rcases r5.2 with ⟨_, e1⟩ | ⟨q, t1, t2, t3, t4, _, e1, _⟩
      · rw [e1]; go_wp2; exact ⟨rfl, Ext.refl _, _, rfl⟩
      · rw [e1]; go_wp2; exact ⟨rfl, Ext.refl _, _, rfl⟩
    · intro vals w1 hx hd ha
      have r5 : (fun v w1 => v = vals 4 ∧ PoolGot r4 W11.heap.size v w1) (vals 5) w1 := hd 5 (by decide)
      dsimp only at r5
      refine plain1 (fun _ => rfl) ?_
      clear hd ha
      simp only [Lf, dstAt, Act.put, List.getElem?_toArray, List.getElem?_cons_zero, List.getElem?_cons_succ, Option.bind_some, List.setIfInBounds_toArray, List.set_cons_zero, List.set_cons_succ]
      have cc0 := ext_cell hx cc0
      have cc1 := ext_cell hx cc1
      have cc2 := ext_cell hx cc2
      have cc3 := ext_cell hx cc3
      have q0 := ext_cell hx q0
      have q1 := ext_cell hx q1
      have q2 := ext_cell hx q2
      have q3 := ext_cell hx q3
      have q4 := ext_cell hx q4
      rcases r5.2 with ⟨_, e1⟩ | ⟨q, t1, t2, t3, t4, _, e1, _⟩
      · rw [e1]; go_wp2; exact ⟨rfl, Ext.refl _, _, rfl⟩
      · rw [e1]; go_wp2; exact ⟨rfl, Ext.refl _, _, rfl⟩
    · intro vals w1 hx hd ha
      refine plain1 (fun _ => rfl) ?_
      clear hd ha
      simp only [Lf, dstAt, Act.put, List.getElem?_toArray, List.getElem?_cons_zero, List.getElem?_cons_succ, Option.bind_some, List.setIfInBounds_toArray, List.set_cons_zero, List.set_cons_succ]
      have cc0 := ext_cell hx cc0
      have cc1 := ext_cell hx cc1
      have cc2 := ext_cell hx cc2
      have cc3 := ext_cell hx cc3
      have q0 := ext_cell hx q0
      have q1 := ext_cell hx q1
      have q2 := ext_cell hx q2
      have q3 := ext_cell hx q3
      have q4 := ext_cell hx q4
      have hz := Below.size hx.undrew
      go_wp2
      exact ⟨rfl, (by repeat (first | exact Below.refl _ _ | assumption | refine Below.drew ?_ | refine below_drewN ?_ _ | refine bl_alloc ?_ _ | refine Below.setCell ?_ (by first | (simp; done) | omega | (simp; omega)) _ | refine bl_then ?_ (by assumption))), _, rfl, by omega, Blk.new _ _ _⟩
  intro vals W12 hx hf _
  have hgot : PoolGot r4 W11.heap.size (vals 5) W12 := (hf 5 (by omega)).2
  have h11 : ∃ z, vals 5 = .tuple #[vals 6, z] := hf 6 (by omega)
  have h12 : ∃ z, vals 5 = .tuple #[z, vals 7] := hf 7 (by omega)
  obtain ⟨gf, e9, hgn, jn⟩ : ∃ g, vals 8 = .pointer (some ⟨g, 0, none⟩) ∧ W11.heap.size ≤ g ∧ Blk W12 g 26 nil4 := hf 8 (by omega)
  clear hf cc0 cc1 cc2 cc3 q0 q1 q2 q3 q4
  have hx := hx.undrew
  obtain ⟨⟨f1A, f1n, f1c⟩, ⟨f2A, f2n, f2c⟩, ⟨f3A, f3n, f3c⟩, ⟨f4A, f4n, f4c⟩, e10, hpr⟩ := hgot.uniR
  simp only [Lf, dstAt, Act.put, List.getElem?_toArray, List.getElem?_cons_zero, List.getElem?_cons_succ, Option.bind_some, List.setIfInBounds_toArray, List.set_cons_zero, List.set_cons_succ]
  rw [e9, tup0 e10 h11, tup1 e10 h12]
  have HG := Lib.hid hgot
  have HPR := Lib.hid hpr
  clear e9 e10 h11 h12 hgot hpr
  have n0 := jn.cell 0
  have f0 := jn.frozen 0
  have n1 := jn.cell 1
  have f1 := jn.frozen 1
  have n2 := jn.cell 2
  have f2 := jn.frozen 2
  have n3 := jn.cell 3
  have f3 := jn.frozen 3
  simp only [poolV, Sl.v]
  go_wp2_with fail
  refine Qn_of ?_
  refine tail1 10 _ (by kernel_rfl) (by kernel_rfl) rfl ?_
  generalize hW7 : ((((W12.setCell ⟨gf, 0, none⟩ _).setCell ⟨gf, 1, none⟩ _).setCell ⟨gf, 2, none⟩ _).setCell ⟨gf, 3, none⟩ _) = W13
  have vf : PV W13 gf ⟨f1A, f1n, f1c⟩ ⟨f2A, f2n, f2c⟩ ⟨f3A, f3n, f3c⟩ ⟨f4A, f4n, f4c⟩ (orNil r4) := by subst hW7; exact ⟨jn.set4 _ _ _ _, HPR.out _ (HG.out.set4 jn _ _ _ _)⟩
  have hx : Ext W11 W13 := by subst hW7; exact below_set4 hx hgn _ _ _ _
  clear hW7 jn hgn HG HPR n0 n1 n2 n3 f0 f1 f2 f3
  have hB := hB.ext hx
  have j1 := j1.ext hx
  have j2 := j2.ext hx
  have vp := vp.ext hx
  have hrow := hrow.ext hx
  have va := va.ext hx
  have vb := vb.ext hx
  have vc := vc.ext hx
  clear hx
  go_upto_region 9 with (fail)
  clear HD
  cases r1 with
  | none => go_wp2; go_ret; exact ⟨rfl, hB⟩
  | some q1 =>
    cases r2 with
    | none => go_wp2; go_ret; exact ⟨rfl, hB⟩
    | some q2 =>
      cases r3 with
      | none => go_wp2; go_ret; exact ⟨rfl, hB⟩
      | some q3 =>
        cases r4 with
        | none => go_wp2; go_ret; exact ⟨rfl, hB⟩
        | some q4 =>
          have he : q2 = q4 := order_same Kr1.out.symm Kr2.out.symm Kr3.out.symm Kr4.out.symm
          have bc0 : W13.cell? ⟨gb, 0, none⟩ = some (.slice b1A b1n b1c) := vb.blk.cell 0
          have bc1 : W13.cell? ⟨gb, 1, none⟩ = some (.slice b2A b2n b2c) := vb.blk.cell 1
          have bc2 : W13.cell? ⟨gb, 2, none⟩ = some (.slice b3A b3n b3c) := vb.blk.cell 2
          have bc3 : W13.cell? ⟨gb, 3, none⟩ = some (.slice b4A b4n b4c) := vb.blk.cell 3
          have fc0 : W13.cell? ⟨gf, 0, none⟩ = some (.slice f1A f1n f1c) := vf.blk.cell 0
          have fc1 : W13.cell? ⟨gf, 1, none⟩ = some (.slice f2A f2n f2c) := vf.blk.cell 1
          have fc2 : W13.cell? ⟨gf, 2, none⟩ = some (.slice f3A f3n f3c) := vf.blk.cell 2
          have fc3 : W13.cell? ⟨gf, 3, none⟩ = some (.slice f4A f4n f4c) := vf.blk.cell 3
          have hcs := rsame_any ⟨b1A, b1n, b1c⟩ ⟨b2A, b2n, b2c⟩ ⟨b3A, b3n, b3c⟩ ⟨b4A, b4n, b4c⟩ ⟨f1A, f1n, f1c⟩ ⟨f2A, f2n, f2c⟩ ⟨f3A, f3n, f3c⟩ ⟨f4A, f4n, f4c⟩ (orNil (some q2)) (orNil (some q4)) W13 vb.pool vf.pool
          have hsb : sameB (orNil (some q2)) (orNil (some q4)) = true := sameB_iff.2 he
          rw [hsb] at hcs
          have HCS := Lib.hid hcs
          clear hcs hsb he
          go_wp2_with fail
          refine HCS.out.mono ?_
          rintro e W99 ⟨rfl, hx⟩
          have hB := hB.ext hx
          go_wp2
          go_ret
          exact ⟨rfl, hB⟩

end Go.Proofs.Ytpddnkefggaigaa
