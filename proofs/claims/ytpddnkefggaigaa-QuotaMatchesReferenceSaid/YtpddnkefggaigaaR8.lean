/- The reference: Same. -/
import Derived.Test.YtpddnkefggaigaaR7
import Derived.Test.YtpddnkefggaigaaS5
import Derived.Test.YtpddnkefggaigaaC1
namespace Go.Proofs.Ytpddnkefggaigaa
open Go.RowKit

set_option maxHeartbeats 1000000 in
theorem rsame_any (s1 s2 s3 s4 t1 t2 t3 t4 : Sl) (p q : Pool) (w : World) (h : PoolR w w.heap.size s1 s2 s3 s4 p) (k : PoolR w w.heap.size t1 t2 t3 t4 q) :
    Calls Try.prog 18 #[poolV s1 s2 s3 s4, poolV t1 t2 t3 t4] w fun e w' => e = .returned (.bool (sameB p q)) ∧ Below w.heap.size w w' := by
  obtain ⟨A1, n1, c1⟩ := s1; obtain ⟨A2, n2, c2⟩ := s2; obtain ⟨A3, n3, c3⟩ := s3; obtain ⟨A4, n4, c4⟩ := s4
  obtain ⟨D1, m1, d1⟩ := t1; obtain ⟨D2, m2, d2⟩ := t2; obtain ⟨D3, m3, d3⟩ := t3; obtain ⟨D4, m4, d4⟩ := t4
  show Calls Try.prog 18 #[.agg #[.slice A1 n1 c1, .slice A2 n2 c2, .slice A3 n3 c3, .slice A4 n4 c4], .agg #[.slice D1 m1 d1, .slice D2 m2 d2, .slice D3 m3 d3, .slice D4 m4 d4]] w _
  have hv : sameB p q = (decide (p.has = q.has) && decide (p.used = q.used) && decide (p.cents = q.cents) && decide (p.loans = q.loans)) := by
    unfold sameB
    cases decide (p.has = q.has) <;> cases decide (p.used = q.used) <;> cases decide (p.cents = q.cents) <;> cases decide (p.loans = q.loans) <;> rfl
  rw [hv]
  clear hv
  have e1 := fun W (hb : Ext w W) => ints_any A1 D1 n1 m1 c1 d1 p.has q.has W ((h.1.below hb).more hb.size) ((k.1.below hb).more hb.size)
  have e2 := fun W (hb : Ext w W) => ints_any A2 D2 n2 m2 c2 d2 p.used q.used W ((h.2.1.below hb).more hb.size) ((k.2.1.below hb).more hb.size)
  have e4 := fun W (hb : Ext w W) => ints_any A4 D4 n4 m4 c4 d4 p.cents q.cents W ((h.2.2.2.below hb).more hb.size) ((k.2.2.2.below hb).more hb.size)
  have h3 := h.2.2.1
  have k3 := k.2.2.1
  have hn3 : n3 ≤ 1099511627776 := h3.le
  have hm3 : m3 ≤ 1099511627776 := k3.le
  have L1 : Hid (p.loans.length = n3) := h3.len
  have L2 : Hid (q.loans.length = m3) := k3.len
  clear h k
  generalize decide (p.has = q.has) = r1 at e1 ⊢
  generalize decide (p.used = q.used) = r2 at e2 ⊢
  generalize decide (p.cents = q.cents) = r4 at e4 ⊢
  generalize p.loans = xs at h3 L1 ⊢
  generalize q.loans = ys at k3 L2 ⊢
  have E1 := Lib.hid e1
  have E2 := Lib.hid e2
  have E4 := Lib.hid e4
  clear e1 e2 e4
  go_enter Try.func18, Try.ntmps18
  go_wp2_with fail
  generalize hW : ((w.alloc _).alloc _) = W
  have hBW : Below w.heap.size w W := by subst hW; exact (by repeat (first | exact Below.refl _ _ | assumption | refine Below.drew ?_ | refine below_drewN ?_ _ | refine bl_alloc ?_ _ | refine Below.setCell ?_ (by first | (simp; done) | omega | (simp; omega)) _ | refine bl_then ?_ (by assumption)))
  have hzW : w.heap.size + 2 ≤ W.heap.size := by subst hW; simp
  have jp : Blk W w.heap.size 26 #[.slice A1 n1 c1, .slice A2 n2 c2, .slice A3 n3 c3, .slice A4 n4 c4] := by subst hW; exact (Blk.new_at _ _ rfl).alloc _
  have jq : Blk W (w.heap.size + 1) 26 #[.slice D1 m1 d1, .slice D2 m2 d2, .slice D3 m3 d3, .slice D4 m4 d4] := by subst hW; exact Blk.new_at _ _ (by simp)
  clear hW
  refine (E1.out W hBW).mono ?_
  rintro e w1 ⟨rfl, hb1⟩
  have hB1 : Below w.heap.size w w1 := hBW.trans (hb1.mono (by omega))
  have jp1 := jp.ext hb1
  have jq1 := jq.ext hb1
  clear jp jq
  cases r1
  · go_wp2
    go_ret
    exact ⟨rfl, hB1⟩
  have p1 := jp1.cell 1
  have q1 := jq1.cell 1
  go_wp2_with fail
  refine (E2.out w1 hB1).mono ?_
  rintro e w2 ⟨rfl, hb2⟩
  have hB2 : Below w.heap.size w w2 := hB1.trans (hb2.mono hB1.size)
  have jp2 := jp1.ext hb2
  have jq2 := jq1.ext hb2
  clear jp1 jq1 p1 q1
  cases r2
  · go_wp2
    go_ret
    exact ⟨rfl, hB2⟩
  have p1 := jp2.cell 3
  have q1 := jq2.cell 3
  go_wp2_with fail
  refine (E4.out w2 hB2).mono ?_
  rintro e w4 ⟨rfl, hb4⟩
  have hB4 : Below w.heap.size w w4 := hB2.trans (hb4.mono hB2.size)
  have jp4 := jp2.ext hb4
  have jq4 := jq2.ext hb4
  clear jp2 jq2 p1 q1
  cases r4
  · go_wp2
    go_ret
    exact ⟨rfl, hB4⟩
  have hz4 : w.heap.size + 2 ≤ w4.heap.size := by have := hb1.size; have := hb2.size; have := hb4.size; omega
  clear E1 E2 E4 hb1 hb2 hb4 hB1 hB2 hBW hzW
  have p1 := jp4.cell 2
  have q1 := jq4.cell 2
  by_cases hne : n3 = m3
  · subst hne
    have hd : ((n3 : Int) != (n3 : Int)) = false := by simp
    have h4 := (h3.below hB4).more (show w.heap.size ≤ w4.heap.size by omega)
    have k4 := (k3.below hB4).more (show w.heap.size ≤ w4.heap.size by omega)
    go_wp2
    go_loopw [5] (fun i wr => ∃ k : Nat, k ≤ n3 ∧ i = .int .i64 k ∧ Hid (xs.take k = ys.take k) ∧ Below w4.heap.size w4 wr) (fun i _ => n3 - (intOf i).toNat)
    case atStart => exact ⟨0, Nat.zero_le _, rfl, rfl, Below.refl _ _⟩
    case round =>
      obtain ⟨k, hk, rfl, H, hB⟩ := hrel
      have hBw : Below w.heap.size w wr := hB4.trans (hB.mono (by omega))
      have p2 : wr.cell? ⟨w.heap.size, 2, none⟩ = some (.slice A3 n3 c3) := (jp4.ext hB).cell 2
      have q2 : wr.cell? ⟨w.heap.size + 1, 2, none⟩ = some (.slice D3 n3 d3) := (jq4.ext hB).cell 2
      by_cases hlt : k < n3
      · obtain ⟨b, o, hz, hA, hb, hc, hd1, hd2⟩ := (h4.below hB).at_ hlt
        obtain ⟨b', o', hz', hA', hb', hc', hd1', hd2'⟩ := (k4.below hB).at_ hlt
        have hA : A3 = some ⟨b, o, none⟩ := hA
        have hA' : D3 = some ⟨b', o', none⟩ := hA'
        subst hA hA'
        have hstep := take_succ_eq (k := k) H.out hz hz'
        have hstop := ne_of_get (k := k) hz hz'
        generalize xs[k] = x at hc hd1 hd2 hstep hstop
        generalize ys[k] = y at hc' hd1' hd2' hstep hstop
        by_cases hxy : x = y
        · have HS := Lib.hid (hstep hxy)
          clear hstep hstop
          subst hxy
          have he : (!decide (x = x)) = false := by simp
          have hnq := neq_loan
          go_wp2
          go_quiet (fail)
          go_wp2
          go_roundw
          case rel => exact ⟨k + 1, by omega, by go_num, HS.out, (by repeat (first | exact Below.refl _ _ | assumption | refine Below.drew ?_ | refine below_drewN ?_ _ | refine bl_alloc ?_ _ | refine Below.setCell ?_ (by first | (simp; done) | omega | (simp; omega)) _ | refine bl_then ?_ (by assumption)))⟩
          case measure => simp [intOf]; omega
        · have he : (!decide (x = y)) = true := by simp [hxy]
          have HX := Lib.hid (hstop hxy)
          clear hxy hstep hstop
          have hnq := neq_loan
          go_wp2
          go_quiet (fail)
          go_wp2
          go_ret
          exact ⟨by rw [decide_eq_false HX.out]; rfl, (by repeat (first | exact Below.refl _ _ | assumption | refine Below.drew ?_ | refine below_drewN ?_ _ | refine bl_alloc ?_ _ | refine Below.setCell ?_ (by first | (simp; done) | omega | (simp; omega)) _ | refine bl_then ?_ (by assumption)))⟩
      · go_wp2
        go_ret
        refine ⟨?_, (by repeat (first | exact Below.refl _ _ | assumption | refine Below.drew ?_ | refine below_drewN ?_ _ | refine bl_alloc ?_ _ | refine Below.setCell ?_ (by first | (simp; done) | omega | (simp; omega)) _ | refine bl_then ?_ (by assumption)))⟩
        have hxy : xs = ys := by
          have := H.out
          rwa [List.take_of_length_le (by rw [L1.out]; omega), List.take_of_length_le (by rw [L2.out]; omega)] at this
        rw [decide_eq_true hxy]
        rfl
  · have hd : ((n3 : Int) != (m3 : Int)) = true := by simp; omega
    have hxy : ¬ xs = ys := by
      rintro rfl
      exact hne (L1.out.symm.trans L2.out)
    have HX := Lib.hid hxy
    clear hxy hne
    go_wp2
    go_ret
    exact ⟨by rw [decide_eq_false HX.out]; rfl, hB4⟩

end Go.Proofs.Ytpddnkefggaigaa
