/- Total of the program and of the reference. -/
import Derived.Test.YtpddnkefggaigaaR6
namespace Go.Proofs.Ytpddnkefggaigaa
open Go.RowKit

def totalP (p : Pool) : Int := if validB p = true then p.has.sum + p.used.sum else 0

set_option maxHeartbeats 1000000 in
theorem total_any (s1 s2 s3 s4 : Sl) (p : Pool) (w : World) (h : PoolR w w.heap.size s1 s2 s3 s4 p) :
    Calls Try.prog 19 #[poolV s1 s2 s3 s4] w fun e w' => e = .returned (.int .i64 (totalP p)) ∧ Below w.heap.size w w' := by
  have hva := valid_any s1 s2 s3 s4 p
  obtain ⟨A1, n1, c1⟩ := s1; obtain ⟨A2, n2, c2⟩ := s2; obtain ⟨A3, n3, c3⟩ := s3; obtain ⟨A4, n4, c4⟩ := s4
  show Calls Try.prog 19 #[.agg #[.slice A1 n1 c1, .slice A2 n2 c2, .slice A3 n3 c3, .slice A4 n4 c4]] w _
  have HV := Lib.hid hva
  clear hva
  have ht : totalP p = if validB p = true then p.has.sum + p.used.sum else 0 := rfl
  generalize totalP p = tt at ht ⊢
  have HT := Lib.hid ht
  clear ht
  go_enter Try.func19, Try.ntmps19
  go_wp2_with fail
  generalize hW : w.alloc _ = W
  have hBW : Below w.heap.size w W := by subst hW; exact (by repeat (first | exact Below.refl _ _ | assumption | refine Below.drew ?_ | refine below_drewN ?_ _ | refine bl_alloc ?_ _ | refine Below.setCell ?_ (by first | (simp; done) | omega | (simp; omega)) _ | refine bl_then ?_ (by assumption)))
  have hzW : w.heap.size + 1 ≤ W.heap.size := by subst hW; simp
  have jp : Blk W w.heap.size 26 #[.slice A1 n1 c1, .slice A2 n2 c2, .slice A3 n3 c3, .slice A4 n4 c4] := by subst hW; exact Blk.new_at _ _ rfl
  clear hW
  refine (HV.out W ((h.below hBW).more (by omega))).mono ?_
  rintro e w1 ⟨rfl, hb1⟩
  have hB1 : Below w.heap.size w w1 := hBW.trans (hb1.mono (by omega))
  have hz1 : w.heap.size + 1 ≤ w1.heap.size := by have := hb1.size; omega
  have jp1 := jp.ext hb1
  have h1 := h.1.below hB1
  have h2 := h.2.1.below hB1
  clear jp hb1 hBW hzW h HV
  cases hv : validB p
  · rw [hv] at HT
    go_wp2
    go_ret
    exact ⟨by rw [HT.out]; rfl, hB1⟩
  have hp := valid_parts hv
  rw [hv] at HT
  have hm1 := within_mem hp.1
  have hm2 := within_mem hp.2.1
  have hl1 := within_len hp.1
  have hl2 := within_len hp.2.1
  have e1 : p.has.length = n1 := h1.len
  have e2 : p.used.length = n2 := h2.len
  obtain rfl : n1 = 16 := by omega
  obtain rfl : n2 = 16 := by omega
  clear hp e1 e2 hv
  have HM1 := Lib.hid hm1
  have HM2 := Lib.hid hm2
  have HL1 := Lib.hid hl1
  have HL2 := Lib.hid hl2
  clear hm1 hm2 hl1 hl2
  have p0 := jp1.cell 0
  have p1 := jp1.cell 1
  go_wp2
  go_loopw [3, 11] (fun t i wr => ∃ k : Nat, k ≤ 16 ∧ i = .int .i64 k ∧ t = .int .i64 ((p.has.take k).sum + (p.used.take k).sum) ∧ Below w1.heap.size w1 wr) (fun _ i _ => 16 - (intOf i).toNat)
  case atStart => exact ⟨0, Nat.zero_le _, rfl, rfl, Below.refl _ _⟩
  case round =>
    obtain ⟨k, hk, rfl, rfl, hB⟩ := hrel
    have hBw : Below w.heap.size w wr := hB1.trans (hB.mono (by omega))
    have p2 : wr.cell? ⟨w.heap.size, 0, none⟩ = some (.slice A1 16 c1) := (jp1.ext hB).cell 0
    have q2 : wr.cell? ⟨w.heap.size, 1, none⟩ = some (.slice A2 16 c2) := (jp1.ext hB).cell 1
    have hb1 := sum_take_bd p.has 1000000 (fun x hx => by have := HM1.out x hx; omega) k (by have := HL1.out; omega)
    have hb2 := sum_take_bd p.used 1000000 (fun x hx => by have := HM2.out x hx; omega) k (by have := HL2.out; omega)
    have hs1 : -16000000 ≤ (p.has.take k).sum := by omega
    have hs2 : (p.has.take k).sum ≤ 16000000 := by omega
    have hs3 : -16000000 ≤ (p.used.take k).sum := by omega
    have hs4 : (p.used.take k).sum ≤ 16000000 := by omega
    clear hb1 hb2
    by_cases hlt : k < 16
    · obtain ⟨b, o, hz, hA, hb, hc⟩ := (h1.below (hB.mono (by omega))).at_ hlt
      obtain ⟨b', o', hz', hA', hb', hc'⟩ := (h2.below (hB.mono (by omega))).at_ hlt
      have hA : A1 = some ⟨b, o, none⟩ := hA
      have hA' : A2 = some ⟨b', o', none⟩ := hA'
      subst hA hA'
      have hx := HM1.out p.has[k] (List.getElem_mem _)
      have hy := HM2.out p.used[k] (List.getElem_mem _)
      have st1 := sum_take_succ p.has k hz
      have st2 := sum_take_succ p.used k hz'
      generalize p.has[k] = x at hc hx st1
      generalize p.used[k] = y at hc' hy st2
      have S1 := Lib.hid st1
      have S2 := Lib.hid st2
      have x1 := hx.1
      have x2 := hx.2
      have y1 := hy.1
      have y2 := hy.2
      clear st1 st2 hx hy
      generalize (p.has.take k).sum = a at hs1 hs2 S1 ⊢
      generalize (p.used.take k).sum = c at hs3 hs4 S2 ⊢
      go_wp2
      go_quiet (fail)
      go_wp2
      go_roundw
      case rel => exact ⟨k + 1, by omega, by go_num, by rw [S1.out, S2.out]; congr 1; omega, (by repeat (first | exact Below.refl _ _ | assumption | refine Below.drew ?_ | refine below_drewN ?_ _ | refine bl_alloc ?_ _ | refine Below.setCell ?_ (by first | (simp; done) | omega | (simp; omega)) _ | refine bl_then ?_ (by assumption)))⟩
      case measure => simp [intOf]; omega
    · obtain rfl : k = 16 := by omega
      rw [List.take_of_length_le (by have := HL1.out; omega), List.take_of_length_le (by have := HL2.out; omega)]
      clear hs1 hs2 hs3 hs4
      go_wp2
      go_ret
      exact ⟨by rw [HT.out]; rfl, (by repeat (first | exact Below.refl _ _ | assumption | refine Below.drew ?_ | refine below_drewN ?_ _ | refine bl_alloc ?_ _ | refine Below.setCell ?_ (by first | (simp; done) | omega | (simp; omega)) _ | refine bl_then ?_ (by assumption)))⟩

set_option maxHeartbeats 1000000 in
theorem rtotal_any (s1 s2 s3 s4 : Sl) (p : Pool) (w : World) (h : PoolR w w.heap.size s1 s2 s3 s4 p) :
    Calls Try.prog 20 #[poolV s1 s2 s3 s4] w fun e w' => e = .returned (.int .i64 (totalP p)) ∧ Below w.heap.size w w' := by
  have hva := rvalid_any s1 s2 s3 s4 p
  obtain ⟨A1, n1, c1⟩ := s1; obtain ⟨A2, n2, c2⟩ := s2; obtain ⟨A3, n3, c3⟩ := s3; obtain ⟨A4, n4, c4⟩ := s4
  show Calls Try.prog 20 #[.agg #[.slice A1 n1 c1, .slice A2 n2 c2, .slice A3 n3 c3, .slice A4 n4 c4]] w _
  have HV := Lib.hid hva
  clear hva
  have ht : totalP p = if validB p = true then p.has.sum + p.used.sum else 0 := rfl
  generalize totalP p = tt at ht ⊢
  have HT := Lib.hid ht
  clear ht
  go_enter Try.func20, Try.ntmps20
  go_wp2_with fail
  generalize hW : w.alloc _ = W
  have hBW : Below w.heap.size w W := by subst hW; exact (by repeat (first | exact Below.refl _ _ | assumption | refine Below.drew ?_ | refine below_drewN ?_ _ | refine bl_alloc ?_ _ | refine Below.setCell ?_ (by first | (simp; done) | omega | (simp; omega)) _ | refine bl_then ?_ (by assumption)))
  have hzW : w.heap.size + 1 ≤ W.heap.size := by subst hW; simp
  have jp : Blk W w.heap.size 26 #[.slice A1 n1 c1, .slice A2 n2 c2, .slice A3 n3 c3, .slice A4 n4 c4] := by subst hW; exact Blk.new_at _ _ rfl
  clear hW
  refine (HV.out W ((h.below hBW).more (by omega))).mono ?_
  rintro e w1 ⟨rfl, hb1⟩
  have hB1 : Below w.heap.size w w1 := hBW.trans (hb1.mono (by omega))
  have hz1 : w.heap.size + 1 ≤ w1.heap.size := by have := hb1.size; omega
  have jp1 := jp.ext hb1
  have h1 := h.1.below hB1
  have h2 := h.2.1.below hB1
  clear jp hb1 hBW hzW h HV
  cases hv : validB p
  · rw [hv] at HT
    go_wp2
    go_ret
    exact ⟨by rw [HT.out]; rfl, hB1⟩
  have hp := valid_parts hv
  rw [hv] at HT
  have hm1 := within_mem hp.1
  have hm2 := within_mem hp.2.1
  have hl1 := within_len hp.1
  have hl2 := within_len hp.2.1
  have e1 : p.has.length = n1 := h1.len
  have e2 : p.used.length = n2 := h2.len
  obtain rfl : n1 = 16 := by omega
  obtain rfl : n2 = 16 := by omega
  clear hp e1 e2 hv
  have HM1 := Lib.hid hm1
  have HM2 := Lib.hid hm2
  have HL1 := Lib.hid hl1
  have HL2 := Lib.hid hl2
  clear hm1 hm2 hl1 hl2
  have p0 := jp1.cell 0
  have p1 := jp1.cell 1
  go_wp2
  go_loopw [3, 4] (fun t i wr => ∃ k : Nat, k ≤ 16 ∧ i = .int .i64 k ∧ t = .int .i64 ((p.has.take k).sum + (p.used.take k).sum) ∧ Below w1.heap.size w1 wr) (fun _ i _ => 16 - (intOf i).toNat)
  case atStart => exact ⟨0, Nat.zero_le _, rfl, rfl, Below.refl _ _⟩
  case round =>
    obtain ⟨k, hk, rfl, rfl, hB⟩ := hrel
    have hBw : Below w.heap.size w wr := hB1.trans (hB.mono (by omega))
    have p2 : wr.cell? ⟨w.heap.size, 0, none⟩ = some (.slice A1 16 c1) := (jp1.ext hB).cell 0
    have q2 : wr.cell? ⟨w.heap.size, 1, none⟩ = some (.slice A2 16 c2) := (jp1.ext hB).cell 1
    have hb1 := sum_take_bd p.has 1000000 (fun x hx => by have := HM1.out x hx; omega) k (by have := HL1.out; omega)
    have hb2 := sum_take_bd p.used 1000000 (fun x hx => by have := HM2.out x hx; omega) k (by have := HL2.out; omega)
    have hs1 : -16000000 ≤ (p.has.take k).sum := by omega
    have hs2 : (p.has.take k).sum ≤ 16000000 := by omega
    have hs3 : -16000000 ≤ (p.used.take k).sum := by omega
    have hs4 : (p.used.take k).sum ≤ 16000000 := by omega
    clear hb1 hb2
    by_cases hlt : k < 16
    · obtain ⟨b, o, hz, hA, hb, hc⟩ := (h1.below (hB.mono (by omega))).at_ hlt
      obtain ⟨b', o', hz', hA', hb', hc'⟩ := (h2.below (hB.mono (by omega))).at_ hlt
      have hA : A1 = some ⟨b, o, none⟩ := hA
      have hA' : A2 = some ⟨b', o', none⟩ := hA'
      subst hA hA'
      have hx := HM1.out p.has[k] (List.getElem_mem _)
      have hy := HM2.out p.used[k] (List.getElem_mem _)
      have st1 := sum_take_succ p.has k hz
      have st2 := sum_take_succ p.used k hz'
      generalize p.has[k] = x at hc hx st1
      generalize p.used[k] = y at hc' hy st2
      have S1 := Lib.hid st1
      have S2 := Lib.hid st2
      have x1 := hx.1
      have x2 := hx.2
      have y1 := hy.1
      have y2 := hy.2
      clear st1 st2 hx hy
      generalize (p.has.take k).sum = a at hs1 hs2 S1 ⊢
      generalize (p.used.take k).sum = c at hs3 hs4 S2 ⊢
      go_wp2
      go_quiet (fail)
      go_wp2
      go_roundw
      case rel => exact ⟨k + 1, by omega, by go_num, by rw [S1.out, S2.out]; congr 1; omega, (by repeat (first | exact Below.refl _ _ | assumption | refine Below.drew ?_ | refine below_drewN ?_ _ | refine bl_alloc ?_ _ | refine Below.setCell ?_ (by first | (simp; done) | omega | (simp; omega)) _ | refine bl_then ?_ (by assumption)))⟩
      case measure => simp [intOf]; omega
    · obtain rfl : k = 16 := by omega
      rw [List.take_of_length_le (by have := HL1.out; omega), List.take_of_length_le (by have := HL2.out; omega)]
      clear hs1 hs2 hs3 hs4
      go_wp2
      go_ret
      exact ⟨by rw [HT.out]; rfl, (by repeat (first | exact Below.refl _ _ | assumption | refine Below.drew ?_ | refine below_drewN ?_ _ | refine bl_alloc ?_ _ | refine Below.setCell ?_ (by first | (simp; done) | omega | (simp; omega)) _ | refine bl_then ?_ (by assumption)))⟩

end Go.Proofs.Ytpddnkefggaigaa
