/- QuotaNothingLost: the walk (printed by quota_laws.py). -/
import Derived.Test.YtpddnkefggaigaaU1
namespace Go.Proofs.Ytpddnkefggaigaa
open Go.RowKit

theorem nil_quads (W : World) : RQ W W.heap.size ⟨none, 0, 0⟩ [] := ⟨Reads.none_, Nat.le_refl _, Nat.zero_le _, Nat.zero_le _⟩
theorem cents_mem {q : Pool} (h : Vd q) : ∀ x ∈ q.cents, -1000000000000 ≤ x ∧ x ≤ 1000000000000 := by
  intro x hx
  obtain ⟨i, hi, rfl⟩ := List.mem_iff_getElem.1 hx
  have := h.c i (by have := h.lc; omega)
  rwa [getD_of_lt hi] at this
theorem PoolGot.poolAt {q : Pool} {base : Nat} {s1 s2 s3 s4 : Sl} {e : Value} {W : World} (h : PoolGot (some q) base (.tuple #[poolV s1 s2 s3 s4, e]) W) : PoolR W W.heap.size s1 s2 s3 s4 q := by
  obtain ⟨t1, t2, t3, t4, e2, hp⟩ := h.uniS
  injection e2 with e2
  simp [Sl.v] at e2
  obtain ⟨⟨⟨a1, a2, a3⟩, ⟨b1, b2, b3⟩, ⟨c1, c2, c3⟩, d1, d2, d3⟩, _⟩ := e2
  cases s1; cases s2; cases s3; cases s4; cases t1; cases t2; cases t3; cases t4
  simp at a1 a2 a3 b1 b2 b3 c1 c2 c3 d1 d2 d3
  subst a1 a2 a3 b1 b2 b3 c1 c2 c3 d1 d2 d3
  exact hp
/-- What holds at the head of each round. -/
structure NL (w W : World) (g : Nat) (s1 s2 s3 s4 : Sl) (p : Pool) (T : Int) (v : Value) (ds : List Deed) : Prop where
  pv : PV W g s1 s2 s3 s4 p
  vd : Vd p
  tot : totalP p = T
  row : DeedRow W 0 v ds
  ext : Ext w W

set_option maxHeartbeats 4000000 in
set_option maxRecDepth 100000 in
theorem nothing_walk (hsane : ∀ w, Calls Try.prog 10 #[] w (Tru w)) (A : Option Addr) (n c : Nat) (has : List Int) (A2 : Option Addr) (n2 c2 : Nat) (xs : List Quad) (w : World) (h : RW_ w w.heap.size ⟨A, n, c⟩ has) (hi : okI has) (h2 : RQ w w.heap.size ⟨A2, n2, c2⟩ xs) (hq : ∀ x ∈ xs, x.ok) :
    Calls Try.prog 4 #[.slice A n c, .slice A2 n2 c2] w (Tru w) := by
  have HS := Lib.hid hsane
  have HM := Lib.hid (made_any A n c has none 0 0 [])
  have HI := Lib.hid hi
  have HQ := Lib.hid hq
  have hsm := made_sm has []
  generalize madeP has [] = p at HM hsm
  have HP := Lib.hid hsm
  have HDE := Lib.hid (deeds_any A2 n2 c2 xs)
  have hB := Ext.refl w
  clear hsane hi hq hsm
  go_enter Try.func4, Try.ntmps4
  go_wp2_with fail
  refine (HS.out w).mono ?_
  rintro e W1 ⟨rfl, hx⟩
  have hB := hB.ext hx
  clear hx
  go_wp2_with fail
  refine (HM.out W1 (h.to hB) HI.out (nil_quads W1) (fun x hx => by cases hx)).mono ?_
  rintro e W2 ⟨⟨p1A, p1n, p1c⟩, ⟨p2A, p2n, p2c⟩, ⟨p3A, p3n, p3c⟩, ⟨p4A, p4n, p4c⟩, rfl, hx, hp⟩
  have hB := hB.ext hx
  clear hx
  have hp := hp.pool
  simp only [poolV, Sl.v]
  go_upto_region 4 with (fail)
  have vp := PV.new hp
  have hx : Ext W2 (W2.alloc _) := bl_alloc (Below.refl _ _) (.cells #[.slice p1A p1n p1c, .slice p2A p2n p2c, .slice p3A p3n p3c, .slice p4A p4n p4c] 26)
  have hgp : ∃ g, g = W2.heap.size := ⟨_, rfl⟩
  obtain ⟨gp, hg⟩ := hgp
  rw [← hg] at vp ⊢
  have lgp : w.heap.size ≤ gp := by rw [hg]; exact Below.size hB
  generalize W2.alloc _ = W3 at vp hx ⊢
  have hB := hB.ext hx
  clear hx hg hp
  have pc0 : W3.cell? ⟨gp, 0, none⟩ = some (.slice p1A p1n p1c) := vp.blk.cell 0
  have pc1 : W3.cell? ⟨gp, 1, none⟩ = some (.slice p2A p2n p2c) := vp.blk.cell 1
  have pc2 : W3.cell? ⟨gp, 2, none⟩ = some (.slice p3A p3n p3c) := vp.blk.cell 2
  have pc3 : W3.cell? ⟨gp, 3, none⟩ = some (.slice p4A p4n p4c) := vp.blk.cell 3
  have hct := total_any ⟨p1A, p1n, p1c⟩ ⟨p2A, p2n, p2c⟩ ⟨p3A, p3n, p3c⟩ ⟨p4A, p4n, p4c⟩ p W3 vp.pool
  obtain ⟨T, hT⟩ : ∃ T, T = totalP p := ⟨_, rfl⟩
  rw [← hT] at hct
  have HCT := Lib.hid hct
  have HT := Lib.hid hT
  clear hct hT
  go_wp2_with fail
  refine HCT.out.mono ?_
  rintro e W4 ⟨rfl, hx⟩
  clear pc0 pc1 pc2 pc3
  have hB := hB.ext hx
  have vp := vp.ext hx
  clear hx HCT
  go_wp2_with fail
  refine (HDE.out W4 (h2.to hB) HQ.out).mono ?_
  rintro e W5 ⟨v, rfl, hx, hrow⟩
  obtain ⟨A', c', hv, hc1', hc2'⟩ := own_slice hrow
  subst hv
  have hB := hB.ext hx
  have vp := vp.ext hx
  have hrow : DeedRow W5 0 _ _ := own_base hrow (Nat.zero_le _)
  clear hx HDE
  have hdb := deeds_db xs
  have hlen : (deedsOf xs).length ≤ 16 := by simp [deedsOf]; omega
  generalize deedsOf xs = ds at hrow hdb hlen ⊢
  have HDB := Lib.hid hdb
  obtain ⟨m, hmm⟩ : ∃ m, m = ds.length := ⟨_, rfl⟩
  rw [← hmm] at hlen hrow ⊢
  have HMM := Lib.hid hmm
  clear hdb hmm hc1' hc2'
  have hrel0 : NL w W5 gp ⟨p1A, p1n, p1c⟩ ⟨p2A, p2n, p2c⟩ ⟨p3A, p3n, p3c⟩ ⟨p4A, p4n, p4c⟩ p T (.slice A' m c') ds := ⟨vp, HP.out.v, HT.out.symm, hrow, hB⟩
  have HREL := Lib.hid hrel0
  clear hrel0 vp hrow hB HP HT HM HS HI HQ h h2
  go_wp2_with fail
  go_loopw [8] (fun i wr => ∃ (k : Nat) (s1 s2 s3 s4 : Sl) (pk : Pool), k ≤ m ∧ i = .int .i64 k ∧ NL w wr gp s1 s2 s3 s4 pk T (.slice A' m c') ds) (fun i _ => m - (intOf i).toNat)
  case atStart => exact ⟨0, _, _, _, _, _, Nat.zero_le _, rfl, HREL.out⟩
  case round =>
    clear HREL
    obtain ⟨k, ⟨p1A, p1n, p1c⟩, ⟨p2A, p2n, p2c⟩, ⟨p3A, p3n, p3c⟩, ⟨p4A, p4n, p4c⟩, pk, hk, rfl, vp, hvp, hTp, hrow, hB⟩ := hrel
    obtain ⟨wo, hwo⟩ : ∃ wo : World, wo = wr := ⟨_, rfl⟩
    rw [← hwo] at vp hrow hB ⊢
    clear hwo
    have HV := Lib.hid hvp
    have HTP := Lib.hid hTp
    clear hvp hTp
    by_cases hlt : k < m
    · have hkd : k < ds.length := by have := HMM.out; omega
      obtain ⟨g, hA', hg1, hg2, hml, q0, q1, q2, q3, q4⟩ := hrow.at_ hkd
      subst hA'
      generalize ds[k] = d at q0 q1 q2 q3 q4
      obtain ⟨kd, fr, tt, un, ce⟩ := d
      dsimp only at q0 q1 q2 q3 q4
      obtain ⟨r1, Hr1⟩ : ∃ r, r = doP pk ⟨kd, fr, tt, un, ce⟩ := ⟨_, rfl⟩
      have hdo := do_any ⟨p1A, p1n, p1c⟩ ⟨p2A, p2n, p2c⟩ ⟨p3A, p3n, p3c⟩ ⟨p4A, p4n, p4c⟩ pk ⟨kd, fr, tt, un, ce⟩
      rw [← Hr1] at hdo
      have HD := Lib.hid hdo
      have Kr1 := Lib.hid Hr1
      clear hdo Hr1 hml hg1 hg2
      have lip : (k : Int) < (m : Int) := by omega
      have pc0 : wo.cell? ⟨gp, 0, none⟩ = some (.slice p1A p1n p1c) := vp.blk.cell 0
      have pc1 : wo.cell? ⟨gp, 1, none⟩ = some (.slice p2A p2n p2c) := vp.blk.cell 1
      have pc2 : wo.cell? ⟨gp, 2, none⟩ = some (.slice p3A p3n p3c) := vp.blk.cell 2
      have pc3 : wo.cell? ⟨gp, 3, none⟩ = some (.slice p4A p4n p4c) := vp.blk.cell 3
      go_wp2_with fail
      refine wp_region_late 10 8 (fun ix vals v w1 => match ix with | 0 => v = .agg #[.slice p1A p1n p1c, .slice p2A p2n p2c, .slice p3A p3n p3c, .slice p4A p4n p4c] | 1 => v = .slice (some ⟨g, 0, none⟩) m c' | 2 => v = .int .i64 (k : Int) | 3 => v = .pointer (some ⟨g, k * 5, none⟩) | 4 => v = .agg #[.int .i64 kd, .int .i64 fr, .int .i64 tt, .int .i64 un, .int .i64 ce] | 5 => PoolGot r1 wo.heap.size v w1 | 6 => v = vals 5 ∧ PoolGot r1 wo.heap.size v w1 | 7 => ∃ z, vals 6 = .tuple #[v, z] | 8 => ∃ z, vals 6 = .tuple #[z, v] | _ => ∃ g, v = .pointer (some ⟨g, 0, none⟩) ∧ wo.heap.size ≤ g ∧ Blk w1 g 26 nil4) (fun _ _ => none) (by kernel_rfl) (by kernel_rfl) (by kernel_rfl) (by kernel_rfl) _ rfl ?_ ?_ ?_ ?_ ?_
      · intro ix vals v w1 hi hr k hk
        match ix, hr, hk with
        | 0, _, hk => cases hk
        | 1, _, hk => cases hk
        | 2, _, hk => cases hk
        | 3, _, hk => cases hk
        | 4, _, hk => cases hk
        | 5, _, hk => cases hk
        | 6, _, hk => cases hk
        | 7, _, hk => cases hk
        | 8, _, hk => cases hk
        | (kx + 9), _, hk => cases hk
      · intro ix vals v w1 w2 hi hr hx
        match ix, hr with
        | 0, hr => exact hr
        | 1, hr => exact hr
        | 2, hr => exact hr
        | 3, hr => exact hr
        | 4, hr => exact hr
        | 5, hr => exact hr.ext hx
        | 6, hr => exact ⟨hr.1, hr.2.ext hx⟩
        | 7, hr => exact hr
        | 8, hr => exact hr
        | (kx + 9), hr => obtain ⟨g, h1, h2, h3⟩ := hr; exact ⟨g, h1, h2, h3.ext hx⟩
      · intro ix vals vals_ v w1 hi hv hr
        match ix, hi, hv, hr with
        | 0, _, _, hr => exact hr
        | 1, _, _, hr => exact hr
        | 2, _, _, hr => exact hr
        | 3, _, _, hr => exact hr
        | 4, _, _, hr => exact hr
        | 5, _, _, hr => exact hr
        | 6, _, hv, hr => have e5 := hv 5 (by kernel_rfl); rw [← e5]; exact hr
        | 7, _, hv, hr => have e6 := hv 6 (by kernel_rfl); rw [← e6]; exact hr
        | 8, _, hv, hr => have e6 := hv 6 (by kernel_rfl); rw [← e6]; exact hr
        | (kx + 9), _, _, hr => exact hr
      · refine ⟨?_, ?_, ?_, ?_, ?_, ?_, ?_, ?_, ?_, ?_, trivial⟩
        · intro vals w1 hx hd ha
          refine plain1 (fun _ => rfl) ?_
          clear hd ha
          simp only [Lf]
          have pc0 := ext_cell hx pc0
          have pc1 := ext_cell hx pc1
          have pc2 := ext_cell hx pc2
          have pc3 := ext_cell hx pc3
          have q0 := ext_cell hx q0
          have q1 := ext_cell hx q1
          have q2 := ext_cell hx q2
          have q3 := ext_cell hx q3
          have q4 := ext_cell hx q4
          go_wp2
          exact ⟨rfl, Ext.refl _, rfl⟩
        · intro vals w1 hx hd ha
          refine plain1 (fun _ => rfl) ?_
          clear hd ha
          simp only [Lf, dstAt, Act.put, List.getElem?_toArray, List.getElem?_cons_zero, Option.bind_some, List.setIfInBounds_toArray, List.set_cons_zero, List.set_cons_succ]
          have pc0 := ext_cell hx pc0
          have pc1 := ext_cell hx pc1
          have pc2 := ext_cell hx pc2
          have pc3 := ext_cell hx pc3
          have q0 := ext_cell hx q0
          have q1 := ext_cell hx q1
          have q2 := ext_cell hx q2
          have q3 := ext_cell hx q3
          have q4 := ext_cell hx q4
          go_wp2
          exact ⟨rfl, Ext.refl _, rfl⟩
        · intro vals w1 hx hd ha
          refine plain1 (fun _ => rfl) ?_
          clear hd ha
          simp only [Lf, dstAt, Act.put, List.getElem?_toArray, List.getElem?_cons_zero, List.getElem?_cons_succ, Option.bind_some, List.setIfInBounds_toArray, List.set_cons_zero, List.set_cons_succ]
          have pc0 := ext_cell hx pc0
          have pc1 := ext_cell hx pc1
          have pc2 := ext_cell hx pc2
          have pc3 := ext_cell hx pc3
          have q0 := ext_cell hx q0
          have q1 := ext_cell hx q1
          have q2 := ext_cell hx q2
          have q3 := ext_cell hx q3
          have q4 := ext_cell hx q4
          go_wp2
          exact ⟨rfl, Ext.refl _, rfl⟩
        · intro vals w1 hx hd ha
          have e1 : vals 1 = .slice (some ⟨g, 0, none⟩) m c' := hd 1 (by decide)
          have e2 : vals 2 = .int .i64 (k : Int) := hd 2 (by decide)
          refine plain1 (fun _ => rfl) ?_
          clear hd ha
          simp only [Lf, dstAt, Act.put, List.getElem?_toArray, List.getElem?_cons_zero, List.getElem?_cons_succ, Option.bind_some, List.setIfInBounds_toArray, List.set_cons_zero, List.set_cons_succ]
          simp only [e1, e2]
          clear e1 e2
          have pc0 := ext_cell hx pc0
          have pc1 := ext_cell hx pc1
          have pc2 := ext_cell hx pc2
          have pc3 := ext_cell hx pc3
          have q0 := ext_cell hx q0
          have q1 := ext_cell hx q1
          have q2 := ext_cell hx q2
          have q3 := ext_cell hx q3
          have q4 := ext_cell hx q4
          go_wp2
          exact ⟨rfl, Ext.refl _, rfl⟩
        · intro vals w1 hx hd ha
          have e3 : vals 3 = .pointer (some ⟨g, k * 5, none⟩) := hd 3 (by decide)
          refine plain1 (fun _ => rfl) ?_
          clear hd ha
          simp only [Lf, dstAt, Act.put, List.getElem?_toArray, List.getElem?_cons_zero, List.getElem?_cons_succ, Option.bind_some, List.setIfInBounds_toArray, List.set_cons_zero, List.set_cons_succ]
          simp only [e3]
          clear e3
          have pc0 := ext_cell hx pc0
          have pc1 := ext_cell hx pc1
          have pc2 := ext_cell hx pc2
          have pc3 := ext_cell hx pc3
          have q0 := ext_cell hx q0
          have q1 := ext_cell hx q1
          have q2 := ext_cell hx q2
          have q3 := ext_cell hx q3
          have q4 := ext_cell hx q4
          go_wp2
          exact ⟨rfl, Ext.refl _, rfl⟩
        · intro vals w1 hx hd ha
          have e0 : vals 0 = .agg #[.slice p1A p1n p1c, .slice p2A p2n p2c, .slice p3A p3n p3c, .slice p4A p4n p4c] := hd 0 (by decide)
          have e4 : vals 4 = .agg #[.int .i64 kd, .int .i64 fr, .int .i64 tt, .int .i64 un, .int .i64 ce] := hd 4 (by decide)
          refine plain1 (fun _ => rfl) ?_
          clear hd ha
          simp only [Lf, dstAt, Act.put, List.getElem?_toArray, List.getElem?_cons_zero, List.getElem?_cons_succ, Option.bind_some, List.setIfInBounds_toArray, List.set_cons_zero, List.set_cons_succ]
          have pc0 := ext_cell hx pc0
          have pc1 := ext_cell hx pc1
          have pc2 := ext_cell hx pc2
          have pc3 := ext_cell hx pc3
          have q0 := ext_cell hx q0
          have q1 := ext_cell hx q1
          have q2 := ext_cell hx q2
          have q3 := ext_cell hx q3
          have q4 := ext_cell hx q4
          simp only [e0]
          simp only [e4]
          clear e0 e4
          have hz := Below.size hx.undrew
          go_wp2_with fail
          refine (HD.out w1 ((vp.ext hx.undrew).pool)).mono ?_
          rintro e w2 ⟨v, rfl, hb, hgot⟩
          go_wp2
          exact ⟨rfl, hb, hgot.down (by omega)⟩
        · intro vals w1 hx hd ha
          have r5 : (fun v w1 => PoolGot r1 wo.heap.size v w1) (vals 5) w1 := hd 5 (by decide)
          dsimp only at r5
          refine plain1 (fun _ => rfl) ?_
          clear hd ha
          simp only [Lf, dstAt, Act.put, List.getElem?_toArray, List.getElem?_cons_zero, List.getElem?_cons_succ, Option.bind_some, List.setIfInBounds_toArray, List.set_cons_zero, List.set_cons_succ]
          have pc0 := ext_cell hx pc0
          have pc1 := ext_cell hx pc1
          have pc2 := ext_cell hx pc2
          have pc3 := ext_cell hx pc3
          have q0 := ext_cell hx q0
          have q1 := ext_cell hx q1
          have q2 := ext_cell hx q2
          have q3 := ext_cell hx q3
          have q4 := ext_cell hx q4
          go_wp2
          exact ⟨rfl, Ext.refl _, rfl, r5⟩
        · intro vals w1 hx hd ha
          have r6 : (fun v w1 => v = vals 5 ∧ PoolGot r1 wo.heap.size v w1) (vals 6) w1 := hd 6 (by decide)
          dsimp only at r6
          refine plain1 (fun _ => rfl) ?_
          clear hd ha
          simp only [Lf, dstAt, Act.put, List.getElem?_toArray, List.getElem?_cons_zero, List.getElem?_cons_succ, Option.bind_some, List.setIfInBounds_toArray, List.set_cons_zero, List.set_cons_succ]
          have pc0 := ext_cell hx pc0
          have pc1 := ext_cell hx pc1
          have pc2 := ext_cell hx pc2
          have pc3 := ext_cell hx pc3
          have q0 := ext_cell hx q0
          have q1 := ext_cell hx q1
          have q2 := ext_cell hx q2
          have q3 := ext_cell hx q3
          have q4 := ext_cell hx q4
          rcases r6.2 with ⟨_, e1⟩ | ⟨q, t1, t2, t3, t4, _, e1, _⟩
          · rw [e1]; go_wp2; exact ⟨rfl, Ext.refl _, _, rfl⟩
          · rw [e1]; go_wp2; exact ⟨rfl, Ext.refl _, _, rfl⟩
        · intro vals w1 hx hd ha
          have r6 : (fun v w1 => v = vals 5 ∧ PoolGot r1 wo.heap.size v w1) (vals 6) w1 := hd 6 (by decide)
          dsimp only at r6
          refine plain1 (fun _ => rfl) ?_
          clear hd ha
          simp only [Lf, dstAt, Act.put, List.getElem?_toArray, List.getElem?_cons_zero, List.getElem?_cons_succ, Option.bind_some, List.setIfInBounds_toArray, List.set_cons_zero, List.set_cons_succ]
          have pc0 := ext_cell hx pc0
          have pc1 := ext_cell hx pc1
          have pc2 := ext_cell hx pc2
          have pc3 := ext_cell hx pc3
          have q0 := ext_cell hx q0
          have q1 := ext_cell hx q1
          have q2 := ext_cell hx q2
          have q3 := ext_cell hx q3
          have q4 := ext_cell hx q4
          rcases r6.2 with ⟨_, e1⟩ | ⟨q, t1, t2, t3, t4, _, e1, _⟩
          · rw [e1]; go_wp2; exact ⟨rfl, Ext.refl _, _, rfl⟩
          · rw [e1]; go_wp2; exact ⟨rfl, Ext.refl _, _, rfl⟩
        · intro vals w1 hx hd ha
          refine plain1 (fun _ => rfl) ?_
          clear hd ha
          simp only [Lf, dstAt, Act.put, List.getElem?_toArray, List.getElem?_cons_zero, List.getElem?_cons_succ, Option.bind_some, List.setIfInBounds_toArray, List.set_cons_zero, List.set_cons_succ]
          have pc0 := ext_cell hx pc0
          have pc1 := ext_cell hx pc1
          have pc2 := ext_cell hx pc2
          have pc3 := ext_cell hx pc3
          have q0 := ext_cell hx q0
          have q1 := ext_cell hx q1
          have q2 := ext_cell hx q2
          have q3 := ext_cell hx q3
          have q4 := ext_cell hx q4
          have hz := Below.size hx.undrew
          go_wp2
          exact ⟨rfl, (by repeat (first | exact Below.refl _ _ | assumption | refine Below.drew ?_ | refine below_drewN ?_ _ | refine bl_alloc ?_ _ | refine Below.setCell ?_ (by first | (simp; done) | omega | (simp; omega)) _ | refine bl_then ?_ (by assumption))), _, rfl, by omega, Blk.new _ _ _⟩
      intro vals W6 hx hf _
      have hgot : PoolGot r1 wo.heap.size (vals 6) W6 := (hf 6 (by omega)).2
      have h11 : ∃ z, vals 6 = .tuple #[vals 7, z] := hf 7 (by omega)
      have h12 : ∃ z, vals 6 = .tuple #[z, vals 8] := hf 8 (by omega)
      obtain ⟨gq, e9, hgn, jn⟩ : ∃ g, vals 9 = .pointer (some ⟨g, 0, none⟩) ∧ wo.heap.size ≤ g ∧ Blk W6 g 26 nil4 := hf 9 (by omega)
      clear hf pc0 pc1 pc2 pc3 q0 q1 q2 q3 q4
      have hx := hx.undrew
      obtain ⟨⟨q1A, q1n, q1c⟩, ⟨q2A, q2n, q2c⟩, ⟨q3A, q3n, q3c⟩, ⟨q4A, q4n, q4c⟩, e10, hpr⟩ := hgot.uniR
      simp only [Lf, dstAt, Act.put, List.getElem?_toArray, List.getElem?_cons_zero, List.getElem?_cons_succ, Option.bind_some, List.setIfInBounds_toArray, List.set_cons_zero, List.set_cons_succ]
      rw [e9, tup0 e10 h11, tup1 e10 h12]
      rw [e10] at hgot hpr
      have HG := Lib.hid hgot
      have HPR := Lib.hid hpr
      clear e9 e10 h11 h12 hgot hpr
      have n0 := jn.cell 0
      have f0 := jn.frozen 0
      have n1 := jn.cell 1
      have f1 := jn.frozen 1
      have n2 := jn.cell 2
      have f2 := jn.frozen 2
      have n3 := jn.cell 3
      have f3 := jn.frozen 3
      simp only [poolV, Sl.v]
      go_wp2_with fail
      refine Qn_of ?_
      refine tail1 11 _ (by kernel_rfl) (by kernel_rfl) rfl ?_
      generalize hW7 : ((((W6.setCell ⟨gq, 0, none⟩ _).setCell ⟨gq, 1, none⟩ _).setCell ⟨gq, 2, none⟩ _).setCell ⟨gq, 3, none⟩ _) = W7
      have vq : PV W7 gq ⟨q1A, q1n, q1c⟩ ⟨q2A, q2n, q2c⟩ ⟨q3A, q3n, q3c⟩ ⟨q4A, q4n, q4c⟩ (orNil r1) := by subst hW7; exact ⟨jn.set4 _ _ _ _, HPR.out _ (HG.out.set4 jn _ _ _ _)⟩
      have nepq : gp ≠ gq := by have := vp.blk.lt; omega
      have hx : Ext wo W7 := by subst hW7; exact below_set4 hx hgn _ _ _ _
      have hgotq : PoolGot r1 wo.heap.size (.tuple #[poolV ⟨q1A, q1n, q1c⟩ ⟨q2A, q2n, q2c⟩ ⟨q3A, q3n, q3c⟩ ⟨q4A, q4n, q4c⟩, .int .i64 (errI r1)]) W7 := by subst hW7; exact HG.out.set4 jn _ _ _ _
      clear hW7 jn hgn HG HPR n0 n1 n2 n3 f0 f1 f2 f3
      have hB := hB.ext hx
      have vp := vp.ext hx
      have hrow := hrow.ext hx
      clear hx
      go_upto_region 10 with (fail)
      clear HD
      cases r1 with
      | none =>
        obtain rfl : q1n = 0 := by have h1 : ([] : List Int).length = q1n := vq.pool.1.len; exact h1.symm
        obtain rfl : q2n = 0 := by have h1 : ([] : List Int).length = q2n := vq.pool.2.1.len; exact h1.symm
        obtain rfl : q3n = 0 := by have h1 : ([] : List Loan).length = q3n := vq.pool.2.2.1.len; exact h1.symm
        obtain rfl : q4n = 0 := by have h1 : ([] : List Int).length = q4n := vq.pool.2.2.2.len; exact h1.symm
        have qc0 : W7.cell? ⟨gq, 0, none⟩ = some (.slice q1A 0 q1c) := vq.blk.cell 0
        have qc1 : W7.cell? ⟨gq, 1, none⟩ = some (.slice q2A 0 q2c) := vq.blk.cell 1
        have qc2 : W7.cell? ⟨gq, 2, none⟩ = some (.slice q3A 0 q3c) := vq.blk.cell 2
        have qc3 : W7.cell? ⟨gq, 3, none⟩ = some (.slice q4A 0 q4c) := vq.blk.cell 3
        have HREL := Lib.hid (⟨vp, HV.out, HTP.out, hrow, hB⟩ : NL w W7 gp ⟨p1A, p1n, p1c⟩ ⟨p2A, p2n, p2c⟩ ⟨p3A, p3n, p3c⟩ ⟨p4A, p4n, p4c⟩ pk T _ ds)
        clear vp hrow hB vq hgotq
        go_wp2
        go_roundw
        case rel => exact ⟨k + 1, _, _, _, _, _, by omega, by go_num, HREL.out⟩
        case measure => simp [intOf]; omega
      | some qq =>
        have hvq := (do_some Kr1.out.symm).2.2.1
        have hTq : totalP qq = T := (total_some Kr1.out.symm).trans HTP.out
        have vq : PV W7 gq ⟨q1A, q1n, q1c⟩ ⟨q2A, q2n, q2c⟩ ⟨q3A, q3n, q3c⟩ ⟨q4A, q4n, q4c⟩ qq := vq
        obtain ⟨qb1, qo1, e1, e2, hk⟩ := vq.hasAll hvq
        have e1 : q1A = some ⟨qb1, qo1, none⟩ := e1
        have e2 : q1n = 16 := e2
        subst e1 e2
        have Kq1 := Lib.hid hk
        clear hk
        obtain ⟨qb2, qo2, e1, e2, hk⟩ := vq.usedAll hvq
        have e1 : q2A = some ⟨qb2, qo2, none⟩ := e1
        have e2 : q2n = 16 := e2
        subst e1 e2
        have Kq2 := Lib.hid hk
        clear hk
        obtain ⟨qb4, qo4, e1, e2, hk⟩ := vq.centsAll hvq
        have e1 : q4A = some ⟨qb4, qo4, none⟩ := e1
        have e2 : q4n = 16 := e2
        subst e1 e2
        have Kq4 := Lib.hid hk
        clear hk
        have HVQ := Lib.hid hvq
        have HTQ := Lib.hid hTq
        clear hvq hTq
        have qc0 : W7.cell? ⟨gq, 0, none⟩ = some (.slice (some ⟨qb1, qo1, none⟩) 16 q1c) := vq.blk.cell 0
        have qc1 : W7.cell? ⟨gq, 1, none⟩ = some (.slice (some ⟨qb2, qo2, none⟩) 16 q2c) := vq.blk.cell 1
        have qc2 : W7.cell? ⟨gq, 2, none⟩ = some (.slice q3A q3n q3c) := vq.blk.cell 2
        have qc3 : W7.cell? ⟨gq, 3, none⟩ = some (.slice (some ⟨qb4, qo4, none⟩) 16 q4c) := vq.blk.cell 3
        have hcv := valid_any _ _ _ _ _ W7 vq.pool
        rw [(vd_iff qq).2 HVQ.out] at hcv
        have HCV := Lib.hid hcv
        clear hcv
        go_wp2_with fail
        refine HCV.out.mono ?_
        rintro e W95 ⟨rfl, hx⟩
        clear HCV qc0 qc1 qc2 qc3
        have hB := hB.ext hx
        have vp := vp.ext hx
        have hrow := hrow.ext hx
        have vq := vq.ext hx
        have hgotq := hgotq.ext hx
        have hkk := fun k hk => ext_cell hx (Kq1.out k hk)
        have Kq1 := Lib.hid hkk
        clear hkk
        have hkk := fun k hk => ext_cell hx (Kq2.out k hk)
        have Kq2 := Lib.hid hkk
        clear hkk
        have hkk := fun k hk => ext_cell hx (Kq4.out k hk)
        have Kq4 := Lib.hid hkk
        clear hkk
        clear hx
        have qc0 : W95.cell? ⟨gq, 0, none⟩ = some (.slice (some ⟨qb1, qo1, none⟩) 16 q1c) := vq.blk.cell 0
        have qc1 : W95.cell? ⟨gq, 1, none⟩ = some (.slice (some ⟨qb2, qo2, none⟩) 16 q2c) := vq.blk.cell 1
        have qc2 : W95.cell? ⟨gq, 2, none⟩ = some (.slice q3A q3n q3c) := vq.blk.cell 2
        have qc3 : W95.cell? ⟨gq, 3, none⟩ = some (.slice (some ⟨qb4, qo4, none⟩) 16 q4c) := vq.blk.cell 3
        have hct := total_any _ _ _ _ _ W95 vq.pool
        rw [HTQ.out] at hct
        have HCT := Lib.hid hct
        clear hct
        go_wp2_with fail
        refine HCT.out.mono ?_
        rintro e W96 ⟨rfl, hx⟩
        clear HCT qc0 qc1 qc2 qc3
        have hB := hB.ext hx
        have vp := vp.ext hx
        have hrow := hrow.ext hx
        have vq := vq.ext hx
        have hgotq := hgotq.ext hx
        have hkk := fun k hk => ext_cell hx (Kq1.out k hk)
        have Kq1 := Lib.hid hkk
        clear hkk
        have hkk := fun k hk => ext_cell hx (Kq2.out k hk)
        have Kq2 := Lib.hid hkk
        clear hkk
        have hkk := fun k hk => ext_cell hx (Kq4.out k hk)
        have Kq4 := Lib.hid hkk
        clear hkk
        clear hx
        have qc0 : W96.cell? ⟨gq, 0, none⟩ = some (.slice (some ⟨qb1, qo1, none⟩) 16 q1c) := vq.blk.cell 0
        have qc1 : W96.cell? ⟨gq, 1, none⟩ = some (.slice (some ⟨qb2, qo2, none⟩) 16 q2c) := vq.blk.cell 1
        have qc2 : W96.cell? ⟨gq, 2, none⟩ = some (.slice q3A q3n q3c) := vq.blk.cell 2
        have qc3 : W96.cell? ⟨gq, 3, none⟩ = some (.slice (some ⟨qb4, qo4, none⟩) 16 q4c) := vq.blk.cell 3
        go_wp2_with fail
        go_loop [11, 12] (fun s i => ∃ j : Nat, j ≤ 16 ∧ i = .int .i64 j ∧ s = .int .i64 ((qq.cents.take j).sum)) (fun _ i => 16 - (intOf i).toNat)
        case atStart => exact ⟨0, by omega, rfl, rfl⟩
        case round =>
          obtain ⟨j, hj, rfl, rfl⟩ := hrel
          have hsb := sum_take_bd qq.cents 1000000000000 (cents_mem HVQ.out) j (by rw [HVQ.out.lc]; omega)
          have hjb : 1000000000000 * (j : Int) ≤ 16000000000000 := by omega
          by_cases hjl : j < 16
          · have hss := sum_take_succ qq.cents j (by rw [HVQ.out.lc]; omega)
            have hgd : qq.cents.getD j 0 = qq.cents[j]'(by rw [HVQ.out.lc]; omega) := getD_of_lt _
            rw [← hgd] at hss
            have bh := HVQ.out.h j hjl
            have bu := HVQ.out.u j hjl
            have bc := HVQ.out.c j hjl
            have r1 := Kq1.out j hjl
            have r2 := Kq2.out j hjl
            have r4 := Kq4.out j hjl
            generalize qq.has.getD j 0 = y1 at r1 bh
            generalize qq.used.getD j 0 = y2 at r2 bu
            generalize qq.cents.getD j 0 = y4 at r4 bc hss
            have HSS := Lib.hid hss
            clear hss hgd
            generalize (qq.cents.take j).sum = sj at hsb HSS ⊢
            obtain ⟨sb1, sb2⟩ := hsb
            obtain ⟨bh1, bh2⟩ := bh
            obtain ⟨bu1, bu2⟩ := bu
            obtain ⟨bc1, bc2⟩ := bc
            have hji : (j : Int) < 16 := by omega
            have n1 : ¬ y1 < 0 := by omega
            have n2 : ¬ y2 < 0 := by omega
            go_wp2
            go_round
            case rel => exact ⟨j + 1, by omega, by go_num, by rw [HSS.out]⟩
            case measure => simp [intOf]; omega
          · have hs0 : (qq.cents.take j).sum = 0 := by rw [List.take_of_length_le (by rw [HVQ.out.lc]; omega)]; exact HVQ.out.sum
            rw [hs0]
            clear hsb hs0 hjb
            have pc0 : W96.cell? ⟨gp, 0, none⟩ = some (.slice p1A p1n p1c) := vp.blk.cell 0
            have pc1 : W96.cell? ⟨gp, 1, none⟩ = some (.slice p2A p2n p2c) := vp.blk.cell 1
            have pc2 : W96.cell? ⟨gp, 2, none⟩ = some (.slice p3A p3n p3c) := vp.blk.cell 2
            have pc3 : W96.cell? ⟨gp, 3, none⟩ = some (.slice p4A p4n p4c) := vp.blk.cell 3
            have pf0 := vp.blk.frozen 0
            have pf1 := vp.blk.frozen 1
            have pf2 := vp.blk.frozen 2
            have pf3 := vp.blk.frozen 3
            have nepq2 : gq ≠ gp := fun e => nepq e.symm
            have HVP := Lib.hid vp
            have HRW := Lib.hid hrow
            have HGQ := Lib.hid hgotq
            clear vp hrow hgotq vq Kq1 Kq2 Kq4
            go_wp2
            generalize hW7 : ((((W96.setCell ⟨gp, 0, none⟩ _).setCell ⟨gp, 1, none⟩ _).setCell ⟨gp, 2, none⟩ _).setCell ⟨gp, 3, none⟩ _) = W97
            have hnl : NL w W97 gp ⟨some ⟨qb1, qo1, none⟩, 16, q1c⟩ ⟨some ⟨qb2, qo2, none⟩, 16, q2c⟩ ⟨q3A, q3n, q3c⟩ ⟨some ⟨qb4, qo4, none⟩, 16, q4c⟩ qq T (.slice (some ⟨g, 0, none⟩) m c') ds := by
              subst hW7
              exact ⟨⟨HVP.out.blk.set4 _ _ _ _, (HGQ.out.set4 HVP.out.blk _ _ _ _).poolAt⟩, HVQ.out, HTQ.out, HRW.out.set4 HVP.out.blk _ _ _ _, below_set4 hB lgp _ _ _ _⟩
            have HNL := Lib.hid hnl
            clear hW7 hnl
            go_roundw
            case rel => exact ⟨k + 1, _, _, _, _, _, by omega, by go_num, HNL.out⟩
            case measure => simp [intOf]; omega
    · have hct := total_any ⟨p1A, p1n, p1c⟩ ⟨p2A, p2n, p2c⟩ ⟨p3A, p3n, p3c⟩ ⟨p4A, p4n, p4c⟩ pk wo vp.pool
      rw [HTP.out] at hct
      have HCT := Lib.hid hct
      clear hct
      have pc0 : wo.cell? ⟨gp, 0, none⟩ = some (.slice p1A p1n p1c) := vp.blk.cell 0
      have pc1 : wo.cell? ⟨gp, 1, none⟩ = some (.slice p2A p2n p2c) := vp.blk.cell 1
      have pc2 : wo.cell? ⟨gp, 2, none⟩ = some (.slice p3A p3n p3c) := vp.blk.cell 2
      have pc3 : wo.cell? ⟨gp, 3, none⟩ = some (.slice p4A p4n p4c) := vp.blk.cell 3
      go_wp2_with fail
      refine HCT.out.mono ?_
      rintro e W95 ⟨rfl, hx⟩
      have hB := hB.ext hx
      go_wp2
      go_ret
      exact ⟨rfl, hB⟩

end Go.Proofs.Ytpddnkefggaigaa
