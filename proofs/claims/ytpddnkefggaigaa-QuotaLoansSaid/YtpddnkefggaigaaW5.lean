/- QuotaLoans: the walk (printed by quota_laws.py). -/
import Derived.Test.YtpddnkefggaigaaU1
namespace Go.Proofs.Ytpddnkefggaigaa
open Go.RowKit

def netF (p : Pool) (k : Nat) : Int := p.has.getD k 0 + netL p.loans (k : Int)
def sumF (p : Pool) (k : Nat) : Int := sumN (fun o => netF p o + p.used.getD o 0) k
theorem netF_bd {p : Pool} (h : Sm p 9000) (k : Nat) (hk : k < 16) : -10000000000 ≤ netF p k ∧ netF p k ≤ 10000000000 := by
  have h1 := netL_bd p.loans (k : Int) (fun x hx => by have := h.v.ok x hx; omega) p.loans.length (Nat.le_refl _)
  rw [List.take_length] at h1
  have h2 := h.v.h k hk
  have h3 := h.h k hk
  have h4 := h.len
  unfold netF
  omega
theorem sumF_succ (p : Pool) (k : Nat) : sumF p (k + 1) = sumF p k + (netF p k + p.used.getD k 0) := rfl
theorem sumF_bd {p : Pool} (h : Sm p 9000) (k : Nat) (hk : k ≤ 16) : -320000000000 ≤ sumF p k ∧ sumF p k ≤ 320000000000 := by
  have : -(20000000000 * (k : Int)) ≤ sumF p k ∧ sumF p k ≤ 20000000000 * k := by
    induction k with
    | zero => simp [sumF, sumN]
    | succ k ih =>
      have h1 := ih (by omega)
      have h2 := netF_bd h k (by omega)
      have h3 := h.u k (by omega)
      have h4 := h.v.u k (by omega)
      rw [sumF_succ]
      omega
  omega
theorem sumF_end {p : Pool} (h : Vd p) : sumF p 16 = totalP p := by
  unfold totalP
  rw [if_pos ((vd_iff p).2 h), ← sumN_total h]
  rfl
theorem back_vd {q p : Pool} {b a u : Int} (h : returnP q b a u = some p) : Vd q := by
  rw [return_do] at h
  exact (do_some h).2.1

set_option maxHeartbeats 4000000 in
set_option maxRecDepth 100000 in
theorem loans_walk (hsane : ∀ w, Calls Try.prog 10 #[] w (Tru w)) (A : Option Addr) (n c : Nat) (has : List Int) (A2 : Option Addr) (n2 c2 : Nat) (xs : List Quad) (x1 : Int) (x2 : Int) (x3 : Int) (w : World) (h : RW_ w w.heap.size ⟨A, n, c⟩ has) (hi : okI has) (h2 : RQ w w.heap.size ⟨A2, n2, c2⟩ xs) (hq : ∀ x ∈ xs, x.ok) (b1 : I64ok x1) (b2 : I64ok x2) (b3 : I64ok x3) :
    Calls Try.prog 5 #[.slice A n c, .slice A2 n2 c2, .int .i64 x1, .int .i64 x2, .int .i64 x3] w (Tru w) := by
  have HS := Lib.hid hsane
  have HM := Lib.hid (made_any A n c has A2 n2 c2 xs)
  have HI := Lib.hid hi
  have HQ := Lib.hid hq
  have hsm := made_sm has xs
  generalize madeP has xs = p at HM hsm
  have HP := Lib.hid hsm
  have hB := Ext.refl w
  clear hsane hi hq hsm
  obtain ⟨b11, b12⟩ := b1
  obtain ⟨b21, b22⟩ := b2
  obtain ⟨b31, b32⟩ := b3
  go_enter Try.func5, Try.ntmps5
  go_wp2_with fail
  refine (HS.out w).mono ?_
  rintro e W1 ⟨rfl, hx⟩
  have hB := hB.ext hx
  clear hx
  go_wp2_with fail
  refine (HM.out W1 (h.to hB) HI.out (h2.to hB) HQ.out).mono ?_
  rintro e W2 ⟨⟨p1A, p1n, p1c⟩, ⟨p2A, p2n, p2c⟩, ⟨p3A, p3n, p3c⟩, ⟨p4A, p4n, p4c⟩, rfl, hx, hp⟩
  have hB := hB.ext hx
  clear hx
  have hp := hp.pool
  simp only [poolV, Sl.v]
  go_upto_region 4 with (fail)
  have vp := PV.new hp
  have hx : Ext W2 (W2.alloc _) := bl_alloc (Below.refl _ _) (.cells #[.slice p1A p1n p1c, .slice p2A p2n p2c, .slice p3A p3n p3c, .slice p4A p4n p4c] 26)
  have hgp : ∃ g, g = W2.heap.size := ⟨_, rfl⟩
  obtain ⟨gp, hg⟩ := hgp
  rw [← hg] at vp ⊢
  generalize W2.alloc _ = W3 at vp hx ⊢
  have hB := hB.ext hx
  clear hx hg hp
  have pa := pickI_bd x1 4 (by omega)
  have pb := pickI_bd x2 3 (by omega)
  have pu := pickI_bd x3 12 (by omega)
  go_upto_region 7 with (go_at_call 12; refine (lpick_any _ _ _ (by omega) (by omega) (by omega) (by omega)).mono ?_; rintro e w9 ⟨rfl, rfl⟩)
  generalize pickI x1 4 = a at pa ⊢
  generalize pickI x2 3 = b0 at pb ⊢
  generalize pickI x3 12 = u0 at pu ⊢
  obtain ⟨b, hb⟩ : ∃ b, b = (a + 1 + b0) % 4 := ⟨_, rfl⟩
  obtain ⟨u, hu⟩ : ∃ u, u = 1 + u0 := ⟨_, rfl⟩
  rw [← hb, ← hu]
  have hb2 : 0 ≤ b ∧ b ≤ 3 ∧ a ≠ b := by omega
  have hu2 : 1 ≤ u ∧ u ≤ 30 := by omega
  clear hb hu pb pu
  obtain ⟨an, rfl⟩ : ∃ k : Nat, a = (k : Int) := ⟨a.toNat, by omega⟩
  obtain ⟨pa1, pa2⟩ := pa
  have pan : an < 16 := by omega
  have L1 := lend_isSome HP.out (a := an) (b := b) (u := u) ⟨by omega, by omega⟩ ⟨hb2.1, hb2.2.1⟩ hb2.2.2 hu2
  rw [← errI_zero, Int.toNat_natCast] at L1
  have hbk := fun q (hq : lendP p an b u = some q) => lend_back HP.out ⟨by omega, by omega⟩ ⟨hb2.1, hb2.2.1⟩ hb2.2.2 hu2 hq
  have hns := fun q (hq : lendP p an b u = some q) => net_same hq
  have C1 := lend_any ⟨p1A, p1n, p1c⟩ ⟨p2A, p2n, p2c⟩ ⟨p3A, p3n, p3c⟩ ⟨p4A, p4n, p4c⟩ p an b u
  generalize lendP p an b u = r1 at L1 C1 hbk hns
  have HL := Lib.hid L1
  have HC := Lib.hid C1
  have HBK := Lib.hid hbk
  have HNS := Lib.hid hns
  clear L1 C1 hbk hns
  have pc0 : W3.cell? ⟨gp, 0, none⟩ = some (.slice p1A p1n p1c) := vp.blk.cell 0
  have pc1 : W3.cell? ⟨gp, 1, none⟩ = some (.slice p2A p2n p2c) := vp.blk.cell 1
  have pc2 : W3.cell? ⟨gp, 2, none⟩ = some (.slice p3A p3n p3c) := vp.blk.cell 2
  have pc3 : W3.cell? ⟨gp, 3, none⟩ = some (.slice p4A p4n p4c) := vp.blk.cell 3
  go_wp2_with fail
  refine (HC.out W3 vp.pool).mono ?_
  rintro e W4 ⟨_, rfl, hx, hgot⟩
  obtain ⟨⟨a1A, a1n, a1c⟩, ⟨a2A, a2n, a2c⟩, ⟨a3A, a3n, a3c⟩, ⟨a4A, a4n, a4c⟩, rfl, hp⟩ := hgot.uni
  have hB := hB.ext hx
  have vp := vp.ext hx
  clear hx hgot
  simp only [poolV, Sl.v]
  go_upto_region 8 with (fail)
  have va := PV.new hp
  have hx : Ext W4 (W4.alloc _) := bl_alloc (Below.refl _ _) (.cells #[.slice a1A a1n a1c, .slice a2A a2n a2c, .slice a3A a3n a3c, .slice a4A a4n a4c] 26)
  have hga : ∃ g, g = W4.heap.size := ⟨_, rfl⟩
  obtain ⟨ga, hg⟩ := hga
  rw [← hg] at va ⊢
  generalize W4.alloc _ = W5 at va hx ⊢
  have hB := hB.ext hx
  have vp := vp.ext hx
  clear hx hg hp
  clear HC
  clear pc0 pc1 pc2 pc3
  obtain ⟨pb1, po1, e1, e2, hk⟩ := vp.hasAll HP.out.v
  have e1 : p1A = some ⟨pb1, po1, none⟩ := e1
  have e2 : p1n = 16 := e2
  subst e1 e2
  have Kp1 := Lib.hid hk
  clear hk
  obtain ⟨pb2, po2, e1, e2, hk⟩ := vp.usedAll HP.out.v
  have e1 : p2A = some ⟨pb2, po2, none⟩ := e1
  have e2 : p2n = 16 := e2
  subst e1 e2
  have Kp2 := Lib.hid hk
  clear hk
  have hn3 : p.loans.length = p3n := vp.pool.2.2.1.len
  have HN3 := Lib.hid hn3
  have hle3 : p3n ≤ 9000 := by have := HP.out.len; omega
  clear hn3
  have hli : (an : Int) < 16 := by omega
  have pc0 : W5.cell? ⟨gp, 0, none⟩ = some (.slice (some ⟨pb1, po1, none⟩) 16 p1c) := vp.blk.cell 0
  have pc1 : W5.cell? ⟨gp, 1, none⟩ = some (.slice (some ⟨pb2, po2, none⟩) 16 p2c) := vp.blk.cell 1
  have pc2 : W5.cell? ⟨gp, 2, none⟩ = some (.slice p3A p3n p3c) := vp.blk.cell 2
  have pc3 : W5.cell? ⟨gp, 3, none⟩ = some (.slice p4A p4n p4c) := vp.blk.cell 3
  have pv := Kp1.out an pan
  have hl := HL.out
  generalize p.has.getD an 0 = hv at pv hl
  cases r1 with
  | none =>
    have hd : decide (u ≤ hv) = false := by rw [← hl]; rfl
    have e0 : errI none = 250 := rfl
    simp only [e0]
    clear hl e0 va HBK HNS
    go_wp2_with fail
    clear pc0 pc1 pc2 pc3 pv
    go_loopw [17, 18] (fun s i wr => ∃ k : Nat, k ≤ 16 ∧ i = .int .i64 k ∧ s = .int .i64 (sumF p k) ∧ Ext W5 wr) (fun _ i _ => 16 - (intOf i).toNat)
    case atStart => exact ⟨0, by omega, rfl, rfl, Ext.refl _⟩
    case round =>
      obtain ⟨k, hk, rfl, rfl, hxr⟩ := hrel
      have hsb := sumF_bd HP.out k hk
      by_cases hlt : k < 16
      · have vp := vp.ext hxr
        have hss := sumF_succ p k
        have hnb := netF_bd HP.out k hlt
        have hub := HP.out.u k hlt
        have hub2 := HP.out.v.u k hlt
        have hcp := net_any ⟨some ⟨pb1, po1, none⟩, 16, p1c⟩ ⟨some ⟨pb2, po2, none⟩, 16, p2c⟩ ⟨p3A, p3n, p3c⟩ ⟨p4A, p4n, p4c⟩ p k
        rw [netP_some HP.out.v hlt] at hcp
        have uv := ext_cell hxr (Kp2.out k hlt)
        have hnf : p.has.getD k 0 + netL p.loans (k : Int) = netF p k := rfl
        rw [hnf] at hcp
        clear hnf
        generalize netF p k = nf at hss hnb hcp
        generalize p.used.getD k 0 = uu at hss hub hub2 uv
        have HSS := Lib.hid hss
        generalize sumF p k = sk at hsb HSS ⊢
        have HCP := Lib.hid hcp
        clear hss hcp
        obtain ⟨sb1, sb2⟩ := hsb
        obtain ⟨nb1, nb2⟩ := hnb
        obtain ⟨ub1, ub2⟩ := hub2
        have hki : (k : Int) < 16 := by omega
        clear hub
        have pc0 : wr.cell? ⟨gp, 0, none⟩ = some (.slice (some ⟨pb1, po1, none⟩) 16 p1c) := vp.blk.cell 0
        have pc1 : wr.cell? ⟨gp, 1, none⟩ = some (.slice (some ⟨pb2, po2, none⟩) 16 p2c) := vp.blk.cell 1
        have pc2 : wr.cell? ⟨gp, 2, none⟩ = some (.slice p3A p3n p3c) := vp.blk.cell 2
        have pc3 : wr.cell? ⟨gp, 3, none⟩ = some (.slice p4A p4n p4c) := vp.blk.cell 3
        go_wp2_with fail
        refine (HCP.out wr vp.pool).mono ?_
        rintro e W91 ⟨rfl, hx⟩
        simp only [netV]
        have vp := vp.ext hx
        have uv := ext_cell hx uv
        have hxr := hxr.ext hx
        clear hx HCP pc0 pc1 pc2 pc3
        have pc0 : W91.cell? ⟨gp, 0, none⟩ = some (.slice (some ⟨pb1, po1, none⟩) 16 p1c) := vp.blk.cell 0
        have pc1 : W91.cell? ⟨gp, 1, none⟩ = some (.slice (some ⟨pb2, po2, none⟩) 16 p2c) := vp.blk.cell 1
        have pc2 : W91.cell? ⟨gp, 2, none⟩ = some (.slice p3A p3n p3c) := vp.blk.cell 2
        have pc3 : W91.cell? ⟨gp, 3, none⟩ = some (.slice p4A p4n p4c) := vp.blk.cell 3
        go_wp2
        go_roundw
        case rel => exact ⟨k + 1, by omega, by go_num, by rw [HSS.out, Int.add_assoc], hxr⟩
        case measure => simp [intOf]; omega
      · obtain rfl : k = 16 := by omega
        clear hsb
        have hB := hB.ext hxr
        have vp := vp.ext hxr
        have hct := total_any ⟨some ⟨pb1, po1, none⟩, 16, p1c⟩ ⟨some ⟨pb2, po2, none⟩, 16, p2c⟩ ⟨p3A, p3n, p3c⟩ ⟨p4A, p4n, p4c⟩ p wr vp.pool
        rw [← sumF_end HP.out.v] at hct
        have HCT := Lib.hid hct
        clear hct
        have pc0 : wr.cell? ⟨gp, 0, none⟩ = some (.slice (some ⟨pb1, po1, none⟩) 16 p1c) := vp.blk.cell 0
        have pc1 : wr.cell? ⟨gp, 1, none⟩ = some (.slice (some ⟨pb2, po2, none⟩) 16 p2c) := vp.blk.cell 1
        have pc2 : wr.cell? ⟨gp, 2, none⟩ = some (.slice p3A p3n p3c) := vp.blk.cell 2
        have pc3 : wr.cell? ⟨gp, 3, none⟩ = some (.slice p4A p4n p4c) := vp.blk.cell 3
        generalize sumF p 16 = s16 at HCT ⊢
        go_wp2_with fail
        refine HCT.out.mono ?_
        rintro e W93 ⟨rfl, hx⟩
        have hB := hB.ext hx
        have vp := vp.ext hx
        have hxr := hxr.ext hx
        clear hx HCT pc0 pc1 pc2 pc3
        go_wp2
        go_ret
        exact ⟨rfl, hB⟩
  | some qa =>
    have hd : decide (u ≤ hv) = true := by rw [← hl]; rfl
    have e0 : errI (some qa) = 0 := rfl
    simp only [e0]
    clear hl e0
    have va : PV W5 ga ⟨a1A, a1n, a1c⟩ ⟨a2A, a2n, a2c⟩ ⟨a3A, a3n, a3c⟩ ⟨a4A, a4n, a4c⟩ qa := va
    have hbk := HBK.out qa rfl
    have hns := HNS.out qa rfl
    have HNS := Lib.hid hns
    have HVQ := Lib.hid (back_vd hbk)
    clear hns
    go_wp2_with fail
    clear pc0 pc1 pc2 pc3 pv
    have hcr := return_any ⟨a1A, a1n, a1c⟩ ⟨a2A, a2n, a2c⟩ ⟨a3A, a3n, a3c⟩ ⟨a4A, a4n, a4c⟩ qa b an u
    rw [hbk] at hcr
    have HCR := Lib.hid hcr
    clear hcr hbk HBK
    go_loopw [17, 18] (fun s i wr => ∃ k : Nat, k ≤ 16 ∧ i = .int .i64 k ∧ s = .int .i64 (sumF p k) ∧ Ext W5 wr) (fun _ i _ => 16 - (intOf i).toNat)
    case atStart => exact ⟨0, by omega, rfl, rfl, Ext.refl _⟩
    case round =>
      obtain ⟨k, hk, rfl, rfl, hxr⟩ := hrel
      have hsb := sumF_bd HP.out k hk
      by_cases hlt : k < 16
      · have vp := vp.ext hxr
        have va := va.ext hxr
        have hss := sumF_succ p k
        have hnb := netF_bd HP.out k hlt
        have hub := HP.out.u k hlt
        have hub2 := HP.out.v.u k hlt
        have hcp := net_any ⟨some ⟨pb1, po1, none⟩, 16, p1c⟩ ⟨some ⟨pb2, po2, none⟩, 16, p2c⟩ ⟨p3A, p3n, p3c⟩ ⟨p4A, p4n, p4c⟩ p k
        rw [netP_some HP.out.v hlt] at hcp
        have uv := ext_cell hxr (Kp2.out k hlt)
        have hnf : p.has.getD k 0 + netL p.loans (k : Int) = netF p k := rfl
        rw [hnf] at hcp
        have hca := net_any ⟨a1A, a1n, a1c⟩ ⟨a2A, a2n, a2c⟩ ⟨a3A, a3n, a3c⟩ ⟨a4A, a4n, a4c⟩ qa k
        rw [netP_some HVQ.out hlt, HNS.out k hlt, hnf] at hca
        clear hnf
        generalize netF p k = nf at hss hnb hcp hca
        generalize p.used.getD k 0 = uu at hss hub hub2 uv
        have HSS := Lib.hid hss
        generalize sumF p k = sk at hsb HSS ⊢
        have HCP := Lib.hid hcp
        clear hss hcp
        have HCA := Lib.hid hca
        clear hca
        obtain ⟨sb1, sb2⟩ := hsb
        obtain ⟨nb1, nb2⟩ := hnb
        obtain ⟨ub1, ub2⟩ := hub2
        have hki : (k : Int) < 16 := by omega
        clear hub
        have pc0 : wr.cell? ⟨gp, 0, none⟩ = some (.slice (some ⟨pb1, po1, none⟩) 16 p1c) := vp.blk.cell 0
        have pc1 : wr.cell? ⟨gp, 1, none⟩ = some (.slice (some ⟨pb2, po2, none⟩) 16 p2c) := vp.blk.cell 1
        have pc2 : wr.cell? ⟨gp, 2, none⟩ = some (.slice p3A p3n p3c) := vp.blk.cell 2
        have pc3 : wr.cell? ⟨gp, 3, none⟩ = some (.slice p4A p4n p4c) := vp.blk.cell 3
        go_wp2_with fail
        refine (HCP.out wr vp.pool).mono ?_
        rintro e W91 ⟨rfl, hx⟩
        simp only [netV]
        have vp := vp.ext hx
        have uv := ext_cell hx uv
        have hxr := hxr.ext hx
        have va := va.ext hx
        clear hx HCP pc0 pc1 pc2 pc3
        have pc0 : W91.cell? ⟨gp, 0, none⟩ = some (.slice (some ⟨pb1, po1, none⟩) 16 p1c) := vp.blk.cell 0
        have pc1 : W91.cell? ⟨gp, 1, none⟩ = some (.slice (some ⟨pb2, po2, none⟩) 16 p2c) := vp.blk.cell 1
        have pc2 : W91.cell? ⟨gp, 2, none⟩ = some (.slice p3A p3n p3c) := vp.blk.cell 2
        have pc3 : W91.cell? ⟨gp, 3, none⟩ = some (.slice p4A p4n p4c) := vp.blk.cell 3
        have ac0 : W91.cell? ⟨ga, 0, none⟩ = some (.slice a1A a1n a1c) := va.blk.cell 0
        have ac1 : W91.cell? ⟨ga, 1, none⟩ = some (.slice a2A a2n a2c) := va.blk.cell 1
        have ac2 : W91.cell? ⟨ga, 2, none⟩ = some (.slice a3A a3n a3c) := va.blk.cell 2
        have ac3 : W91.cell? ⟨ga, 3, none⟩ = some (.slice a4A a4n a4c) := va.blk.cell 3
        go_wp2_with fail
        refine (HCA.out W91 va.pool).mono ?_
        rintro e W92 ⟨rfl, hx⟩
        simp only [netV]
        have hxr := hxr.ext hx
        clear hx HCA pc0 pc1 pc2 pc3 ac0 ac1 ac2 ac3
        go_wp2
        go_roundw
        case rel => exact ⟨k + 1, by omega, by go_num, by rw [HSS.out, Int.add_assoc], hxr⟩
        case measure => simp [intOf]; omega
      · obtain rfl : k = 16 := by omega
        clear hsb
        have hB := hB.ext hxr
        have vp := vp.ext hxr
        have va := va.ext hxr
        have hct := total_any ⟨some ⟨pb1, po1, none⟩, 16, p1c⟩ ⟨some ⟨pb2, po2, none⟩, 16, p2c⟩ ⟨p3A, p3n, p3c⟩ ⟨p4A, p4n, p4c⟩ p wr vp.pool
        rw [← sumF_end HP.out.v] at hct
        have HCT := Lib.hid hct
        clear hct
        have pc0 : wr.cell? ⟨gp, 0, none⟩ = some (.slice (some ⟨pb1, po1, none⟩) 16 p1c) := vp.blk.cell 0
        have pc1 : wr.cell? ⟨gp, 1, none⟩ = some (.slice (some ⟨pb2, po2, none⟩) 16 p2c) := vp.blk.cell 1
        have pc2 : wr.cell? ⟨gp, 2, none⟩ = some (.slice p3A p3n p3c) := vp.blk.cell 2
        have pc3 : wr.cell? ⟨gp, 3, none⟩ = some (.slice p4A p4n p4c) := vp.blk.cell 3
        generalize sumF p 16 = s16 at HCT ⊢
        go_wp2_with fail
        refine HCT.out.mono ?_
        rintro e W93 ⟨rfl, hx⟩
        have hB := hB.ext hx
        have vp := vp.ext hx
        have va := va.ext hx
        have hxr := hxr.ext hx
        clear hx HCT pc0 pc1 pc2 pc3
        have ac0 : W93.cell? ⟨ga, 0, none⟩ = some (.slice a1A a1n a1c) := va.blk.cell 0
        have ac1 : W93.cell? ⟨ga, 1, none⟩ = some (.slice a2A a2n a2c) := va.blk.cell 1
        have ac2 : W93.cell? ⟨ga, 2, none⟩ = some (.slice a3A a3n a3c) := va.blk.cell 2
        have ac3 : W93.cell? ⟨ga, 3, none⟩ = some (.slice a4A a4n a4c) := va.blk.cell 3
        go_wp2_with fail
        refine (HCR.out W93 va.pool).mono ?_
        rintro e W6 ⟨_, rfl, hx, hgot⟩
        obtain ⟨⟨k1A, k1n, k1c⟩, ⟨k2A, k2n, k2c⟩, ⟨k3A, k3n, k3c⟩, ⟨k4A, k4n, k4c⟩, rfl, hp⟩ := hgot.uniS
        have hB := hB.ext hx
        have vp := vp.ext hx
        have va := va.ext hx
        have hxr := hxr.ext hx
        clear hx hgot HCR
        clear ac0 ac1 ac2 ac3
        simp only [poolV, Sl.v]
        go_upto_region 27 with (fail)
        have vk := PV.new hp
        have hx : Ext W6 (W6.alloc _) := bl_alloc (Below.refl _ _) (.cells #[.slice k1A k1n k1c, .slice k2A k2n k2c, .slice k3A k3n k3c, .slice k4A k4n k4c] 26)
        have hgk : ∃ g, g = W6.heap.size := ⟨_, rfl⟩
        obtain ⟨gk, hg⟩ := hgk
        rw [← hg] at vk ⊢
        generalize W6.alloc _ = W7 at vk hx ⊢
        have hB := hB.ext hx
        have vp := vp.ext hx
        have va := va.ext hx
        have hxr := hxr.ext hx
        clear hx hg hp
        have hcs := rsame_any ⟨k1A, k1n, k1c⟩ ⟨k2A, k2n, k2c⟩ ⟨k3A, k3n, k3c⟩ ⟨k4A, k4n, k4c⟩ ⟨some ⟨pb1, po1, none⟩, 16, p1c⟩ ⟨some ⟨pb2, po2, none⟩, 16, p2c⟩ ⟨p3A, p3n, p3c⟩ ⟨p4A, p4n, p4c⟩ p p W7 vk.pool vp.pool
        rw [sameB_refl] at hcs
        have HCS := Lib.hid hcs
        clear hcs
        have kc0 : W7.cell? ⟨gk, 0, none⟩ = some (.slice k1A k1n k1c) := vk.blk.cell 0
        have kc1 : W7.cell? ⟨gk, 1, none⟩ = some (.slice k2A k2n k2c) := vk.blk.cell 1
        have kc2 : W7.cell? ⟨gk, 2, none⟩ = some (.slice k3A k3n k3c) := vk.blk.cell 2
        have kc3 : W7.cell? ⟨gk, 3, none⟩ = some (.slice k4A k4n k4c) := vk.blk.cell 3
        have pc0 : W7.cell? ⟨gp, 0, none⟩ = some (.slice (some ⟨pb1, po1, none⟩) 16 p1c) := vp.blk.cell 0
        have pc1 : W7.cell? ⟨gp, 1, none⟩ = some (.slice (some ⟨pb2, po2, none⟩) 16 p2c) := vp.blk.cell 1
        have pc2 : W7.cell? ⟨gp, 2, none⟩ = some (.slice p3A p3n p3c) := vp.blk.cell 2
        have pc3 : W7.cell? ⟨gp, 3, none⟩ = some (.slice p4A p4n p4c) := vp.blk.cell 3
        go_wp2_with fail
        refine HCS.out.mono ?_
        rintro e W94 ⟨rfl, hx⟩
        have hB := hB.ext hx
        have vp := vp.ext hx
        have va := va.ext hx
        have hxr := hxr.ext hx
        have vk := vk.ext hx
        clear hx HCS pc0 pc1 pc2 pc3 va vk
        clear kc0 kc1 kc2 kc3
        have pc0 : W94.cell? ⟨gp, 0, none⟩ = some (.slice (some ⟨pb1, po1, none⟩) 16 p1c) := vp.blk.cell 0
        have pc1 : W94.cell? ⟨gp, 1, none⟩ = some (.slice (some ⟨pb2, po2, none⟩) 16 p2c) := vp.blk.cell 1
        have pc2 : W94.cell? ⟨gp, 2, none⟩ = some (.slice p3A p3n p3c) := vp.blk.cell 2
        have pc3 : W94.cell? ⟨gp, 3, none⟩ = some (.slice p4A p4n p4c) := vp.blk.cell 3
        go_wp2_with fail
        clear pc0 pc1 pc2 pc3
        go_loopw [25] (fun i wr => ∃ k : Nat, k ≤ p3n ∧ i = .int .i64 k ∧ Ext W94 wr) (fun i _ => p3n - (intOf i).toNat)
        case atStart => exact ⟨0, by omega, rfl, Ext.refl _⟩
        case round =>
          obtain ⟨k, hk, rfl, hxs⟩ := hrel
          have vp := vp.ext hxs
          have hB := hB.ext hxs
          have hxr := hxr.ext hxs
          have hxs := hxs
          by_cases hlt : k < p3n
          · obtain ⟨lb, lo, hz, e3, _, l0, l1, l2⟩ := vp.pool.2.2.1.at_ (k := k) hlt
            have e3 : p3A = some ⟨lb, lo, none⟩ := e3
            subst e3
            have hmem : p.loans[k] ∈ p.loans := List.getElem_mem _
            have hun := loan_units HP.out hmem
            have hok := HP.out.v.ok _ hmem
            have t1 := home_isSome HP.out hmem
            have t2 := home_none HP.out hmem
            have t3 := fun q => home_len (q := q) HP.out hmem
            generalize p.loans[k] = y at l0 l1 l2 hun hok t1 t2 t3
            obtain ⟨yf, yt, yu⟩ := y
            dsimp only at l0 l1 l2 hun hok t1 t2 t3
            obtain ⟨tn, rfl⟩ : ∃ n : Nat, yt = (n : Int) := ⟨yt.toNat, by omega⟩
            have ltn : tn < 16 := by omega
            have lti : (tn : Int) < 16 := by omega
            rw [Int.toNat_natCast] at t1
            obtain ⟨hu1, hu2⟩ := hun
            have hp1 := ext_cell hxr (Kp1.out tn ltn)
            have hpb := HP.out.v.h tn ltn
            generalize p.has.getD tn 0 = ph at t1 hp1 hpb
            have c1 := return_any ⟨some ⟨pb1, po1, none⟩, 16, p1c⟩ ⟨some ⟨pb2, po2, none⟩, 16, p2c⟩ ⟨some ⟨lb, lo, none⟩, p3n, p3c⟩ ⟨p4A, p4n, p4c⟩ p tn yf yu
            have c2 := return_any ⟨some ⟨pb1, po1, none⟩, 16, p1c⟩ ⟨some ⟨pb2, po2, none⟩, 16, p2c⟩ ⟨some ⟨lb, lo, none⟩, p3n, p3c⟩ ⟨p4A, p4n, p4c⟩ p tn yf (yu + 1)
            rw [t2] at c2
            generalize returnP p tn yf yu = r3 at t1 t3 c1
            rw [← errI_zero] at t1
            have HT1 := Lib.hid t1
            have HT3 := Lib.hid t3
            have HC1 := Lib.hid c1
            have HC2 := Lib.hid c2
            clear t1 t2 t3 c1 c2 hok hmem
            have pc0 : wr.cell? ⟨gp, 0, none⟩ = some (.slice (some ⟨pb1, po1, none⟩) 16 p1c) := vp.blk.cell 0
            have pc1 : wr.cell? ⟨gp, 1, none⟩ = some (.slice (some ⟨pb2, po2, none⟩) 16 p2c) := vp.blk.cell 1
            have pc2 : wr.cell? ⟨gp, 2, none⟩ = some (.slice (some ⟨lb, lo, none⟩) p3n p3c) := vp.blk.cell 2
            have pc3 : wr.cell? ⟨gp, 3, none⟩ = some (.slice p4A p4n p4c) := vp.blk.cell 3
            have hki : (k : Int) < (p3n : Int) := by omega
            go_upto_region 33 with (fail)
            have jy : Blk (wr.alloc (.cells #[.int .i64 yf, .int .i64 (tn : Int), .int .i64 yu] 28)) wr.heap.size 28 #[.int .i64 yf, .int .i64 (tn : Int), .int .i64 yu] := Blk.new_at _ _ rfl
            have hx : Ext wr (wr.alloc (.cells #[.int .i64 yf, .int .i64 (tn : Int), .int .i64 yu] 28)) := bl_alloc (Below.refl _ _) _
            obtain ⟨gy, hgy⟩ : ∃ g, g = wr.heap.size := ⟨_, rfl⟩
            rw [← hgy] at jy ⊢
            generalize wr.alloc _ = W81 at jy hx ⊢
            clear hgy pc0 pc1 pc2 pc3 l0 l1 l2
            have hB := hB.ext hx
            have vp := vp.ext hx
            have hxs := hxs.ext hx
            have hp1 := ext_cell hx hp1
            clear hx
            have pc0 : W81.cell? ⟨gp, 0, none⟩ = some (.slice (some ⟨pb1, po1, none⟩) 16 p1c) := vp.blk.cell 0
            have pc1 : W81.cell? ⟨gp, 1, none⟩ = some (.slice (some ⟨pb2, po2, none⟩) 16 p2c) := vp.blk.cell 1
            have pc2 : W81.cell? ⟨gp, 2, none⟩ = some (.slice (some ⟨lb, lo, none⟩) p3n p3c) := vp.blk.cell 2
            have pc3 : W81.cell? ⟨gp, 3, none⟩ = some (.slice p4A p4n p4c) := vp.blk.cell 3
            have y0 := jy.cell 0
            have y1 := jy.cell 1
            have y2 := jy.cell 2
            go_wp2_with fail
            refine (HC1.out W81 vp.pool).mono ?_
            rintro e W8 ⟨_, rfl, hx, hgot⟩
            obtain ⟨⟨h1A, h1n, h1c⟩, ⟨h2A, h2n, h2c⟩, ⟨h3A, h3n, h3c⟩, ⟨h4A, h4n, h4c⟩, rfl, hp⟩ := hgot.uni
            have hB := hB.ext hx
            have vp := vp.ext hx
            have hxs := hxs.ext hx
            have jy := jy.ext hx
            have hp1 := ext_cell hx hp1
            clear hx hgot HC1 pc0 pc1 pc2 pc3 y0 y1 y2
            simp only [poolV, Sl.v]
            go_upto_region 34 with (fail)
            have vh := PV.new hp
            have hx : Ext W8 (W8.alloc _) := bl_alloc (Below.refl _ _) (.cells #[.slice h1A h1n h1c, .slice h2A h2n h2c, .slice h3A h3n h3c, .slice h4A h4n h4c] 26)
            have hgh : ∃ g, g = W8.heap.size := ⟨_, rfl⟩
            obtain ⟨gh, hg⟩ := hgh
            rw [← hg] at vh ⊢
            generalize W8.alloc _ = W9 at vh hx ⊢
            have hB := hB.ext hx
            have vp := vp.ext hx
            have hxs := hxs.ext hx
            have jy := jy.ext hx
            have hp1 := ext_cell hx hp1
            clear hx hg hp
            have pc0 : W9.cell? ⟨gp, 0, none⟩ = some (.slice (some ⟨pb1, po1, none⟩) 16 p1c) := vp.blk.cell 0
            have pc1 : W9.cell? ⟨gp, 1, none⟩ = some (.slice (some ⟨pb2, po2, none⟩) 16 p2c) := vp.blk.cell 1
            have pc2 : W9.cell? ⟨gp, 2, none⟩ = some (.slice (some ⟨lb, lo, none⟩) p3n p3c) := vp.blk.cell 2
            have pc3 : W9.cell? ⟨gp, 3, none⟩ = some (.slice p4A p4n p4c) := vp.blk.cell 3
            have y0 := jy.cell 0
            have y1 := jy.cell 1
            have y2 := jy.cell 2
            go_wp2_with fail
            refine (HC2.out W9 vp.pool).mono ?_
            rintro e W10 ⟨_, rfl, hx, hgot⟩
            obtain ⟨⟨j1A, j1n, j1c⟩, ⟨j2A, j2n, j2c⟩, ⟨j3A, j3n, j3c⟩, ⟨j4A, j4n, j4c⟩, rfl, hp⟩ := hgot.uniN
            have hB := hB.ext hx
            have vp := vp.ext hx
            have hxs := hxs.ext hx
            have jy := jy.ext hx
            have vh := vh.ext hx
            have hp1 := ext_cell hx hp1
            clear hx hgot HC2 pc0 pc1 pc2 pc3 y0 y1 y2
            simp only [poolV, Sl.v]
            go_upto_region 35 with (fail)
            have vj := PV.new hp
            have hx : Ext W10 (W10.alloc _) := bl_alloc (Below.refl _ _) (.cells #[.slice j1A j1n j1c, .slice j2A j2n j2c, .slice j3A j3n j3c, .slice j4A j4n j4c] 26)
            have hgj : ∃ g, g = W10.heap.size := ⟨_, rfl⟩
            obtain ⟨gj, hg⟩ := hgj
            rw [← hg] at vj ⊢
            generalize W10.alloc _ = W11 at vj hx ⊢
            have hB := hB.ext hx
            have vp := vp.ext hx
            have hxs := hxs.ext hx
            have jy := jy.ext hx
            have vh := vh.ext hx
            have hp1 := ext_cell hx hp1
            clear hx hg hp
            have pc0 : W11.cell? ⟨gp, 0, none⟩ = some (.slice (some ⟨pb1, po1, none⟩) 16 p1c) := vp.blk.cell 0
            have pc1 : W11.cell? ⟨gp, 1, none⟩ = some (.slice (some ⟨pb2, po2, none⟩) 16 p2c) := vp.blk.cell 1
            have pc2 : W11.cell? ⟨gp, 2, none⟩ = some (.slice (some ⟨lb, lo, none⟩) p3n p3c) := vp.blk.cell 2
            have pc3 : W11.cell? ⟨gp, 3, none⟩ = some (.slice p4A p4n p4c) := vp.blk.cell 3
            have y0 := jy.cell 0
            have y1 := jy.cell 1
            have y2 := jy.cell 2
            have t1 := HT1.out
            cases r3 with
            | none =>
              have hd3 : decide (yu ≤ ph) = false := by rw [← t1]; rfl
              have e0 : errI none = 250 := rfl
              simp only [e0]
              clear t1 e0 HT1 HT3
              go_quiet (fail)
              go_wp2
              first | (go_roundw; case rel => exact ⟨k + 1, by omega, by go_num, hxs.drewN _⟩; case measure => simp [intOf]; omega) | exact ⟨⟨k + 1, by omega, by go_num, hxs.drewN _⟩, by simp [intOf]; omega⟩
            | some qh =>
              have hd3 : decide (yu ≤ ph) = true := by rw [← t1]; rfl
              have e0 : errI (some qh) = 0 := rfl
              simp only [e0]
              have h3 := HT3.out qh rfl
              have hh : qh.loans.length = h3n := vh.pool.2.2.1.len
              have hn3 := HN3.out
              obtain rfl : p3n = h3n + 1 := by omega
              clear t1 e0 HT1 HT3 h3 hh hn3
              have hc0 : W11.cell? ⟨gh, 0, none⟩ = some (.slice h1A h1n h1c) := vh.blk.cell 0
              have hc1 : W11.cell? ⟨gh, 1, none⟩ = some (.slice h2A h2n h2c) := vh.blk.cell 1
              have hc2 : W11.cell? ⟨gh, 2, none⟩ = some (.slice h3A h3n h3c) := vh.blk.cell 2
              have hc3 : W11.cell? ⟨gh, 3, none⟩ = some (.slice h4A h4n h4c) := vh.blk.cell 3
              go_quiet (fail)
              go_wp2
              first | (go_roundw; case rel => exact ⟨k + 1, by omega, by go_num, hxs.drewN _⟩; case measure => simp [intOf]; omega) | exact ⟨⟨k + 1, by omega, by go_num, hxs.drewN _⟩, by simp [intOf]; omega⟩
          · have hnn : ¬ (k < p3n) := hlt
            have pc0 : wr.cell? ⟨gp, 0, none⟩ = some (.slice (some ⟨pb1, po1, none⟩) 16 p1c) := vp.blk.cell 0
            have pc1 : wr.cell? ⟨gp, 1, none⟩ = some (.slice (some ⟨pb2, po2, none⟩) 16 p2c) := vp.blk.cell 1
            have pc2 : wr.cell? ⟨gp, 2, none⟩ = some (.slice p3A p3n p3c) := vp.blk.cell 2
            have pc3 : wr.cell? ⟨gp, 3, none⟩ = some (.slice p4A p4n p4c) := vp.blk.cell 3
            go_wp2
            go_ret
            exact ⟨rfl, hB⟩

end Go.Proofs.Ytpddnkefggaigaa
