/- quota.pair, single, Same. -/
import Derived.Test.YtpddnkefggaigaaS4
namespace Go.Proofs.Ytpddnkefggaigaa
open Go.RowKit

def pairB (f t u : Int) : Bool := ownerB f && ownerB t && f != t && inB u 1 1000000
def singleB (o u : Int) : Bool := ownerB o && inB u 1 1000000
def sameB (p q : Pool) : Bool := decide (p.has = q.has) && decide (p.used = q.used) && decide (p.loans = q.loans) && decide (p.cents = q.cents)


theorem pair_any (f t u : Int) (w : World) :
    Calls Try.prog 53 #[.int .i64 f, .int .i64 t, .int .i64 u] w fun e w' => e = .returned (.bool (pairB f t u)) ∧ w = w' := by
  cases o1 : ownerB f
  · have hp : pairB f t u = false := by simp [pairB, o1]
    rw [hp]
    clear hp
    go_enter Try.func53, Try.ntmps53
    go_wp2_with (first | (go_at_call 38; refine (owner_any _ _).mono ?_; rintro e w' ⟨rfl, rfl⟩) | (go_at_call 37; refine (in_any _ _ _ _).mono ?_; rintro e w' ⟨rfl, rfl⟩))
    go_ret
    exact ⟨rfl, rfl⟩
  cases o2 : ownerB t
  · have hp : pairB f t u = false := by simp [pairB, o2]
    rw [hp]
    clear hp
    go_enter Try.func53, Try.ntmps53
    go_wp2_with (first | (go_at_call 38; refine (owner_any _ _).mono ?_; rintro e w' ⟨rfl, rfl⟩) | (go_at_call 37; refine (in_any _ _ _ _).mono ?_; rintro e w' ⟨rfl, rfl⟩))
    go_ret
    exact ⟨rfl, rfl⟩
  cases o3 : (f != t)
  · have hp : pairB f t u = false := by simp [pairB, o3]
    rw [hp]
    clear hp
    go_enter Try.func53, Try.ntmps53
    go_wp2_with (first | (go_at_call 38; refine (owner_any _ _).mono ?_; rintro e w' ⟨rfl, rfl⟩) | (go_at_call 37; refine (in_any _ _ _ _).mono ?_; rintro e w' ⟨rfl, rfl⟩))
    go_ret
    exact ⟨rfl, rfl⟩
  have hp : pairB f t u = inB u 1 1000000 := by simp [pairB, o1, o2, o3]
  rw [hp]
  clear hp
  go_enter Try.func53, Try.ntmps53
  go_wp2_with (first | (go_at_call 38; refine (owner_any _ _).mono ?_; rintro e w' ⟨rfl, rfl⟩) | (go_at_call 37; refine (in_any _ _ _ _).mono ?_; rintro e w' ⟨rfl, rfl⟩))
  go_ret
  exact ⟨rfl, rfl⟩

theorem single_any (o u : Int) (w : World) :
    Calls Try.prog 58 #[.int .i64 o, .int .i64 u] w fun e w' => e = .returned (.bool (singleB o u)) ∧ w = w' := by
  cases o1 : ownerB o
  · have hp : singleB o u = false := by simp [singleB, o1]
    rw [hp]
    clear hp
    go_enter Try.func58, Try.ntmps58
    go_wp2_with (first | (go_at_call 38; refine (owner_any _ _).mono ?_; rintro e w' ⟨rfl, rfl⟩) | (go_at_call 37; refine (in_any _ _ _ _).mono ?_; rintro e w' ⟨rfl, rfl⟩))
    go_ret
    exact ⟨rfl, rfl⟩
  have hp : singleB o u = inB u 1 1000000 := by simp [singleB, o1]
  rw [hp]
  clear hp
  go_enter Try.func58, Try.ntmps58
  go_wp2_with (first | (go_at_call 38; refine (owner_any _ _).mono ?_; rintro e w' ⟨rfl, rfl⟩) | (go_at_call 37; refine (in_any _ _ _ _).mono ?_; rintro e w' ⟨rfl, rfl⟩))
  go_ret
  exact ⟨rfl, rfl⟩


theorem same_any (s1 s2 s3 s4 t1 t2 t3 t4 : Sl) (p q : Pool) (w : World) (h : PoolR w w.heap.size s1 s2 s3 s4 p) (k : PoolR w w.heap.size t1 t2 t3 t4 q) :
    Calls Try.prog 17 #[poolV s1 s2 s3 s4, poolV t1 t2 t3 t4] w fun e w' => e = .returned (.bool (sameB p q)) ∧ Below w.heap.size w w' := by
  obtain ⟨h1, h2, h3, h4⟩ := h
  obtain ⟨k1, k2, k3, k4⟩ := k
  obtain ⟨A1, n1, c1⟩ := s1; obtain ⟨A2, n2, c2⟩ := s2; obtain ⟨A3, n3, c3⟩ := s3; obtain ⟨A4, n4, c4⟩ := s4
  obtain ⟨D1, m1, d1⟩ := t1; obtain ⟨D2, m2, d2⟩ := t2; obtain ⟨D3, m3, d3⟩ := t3; obtain ⟨D4, m4, d4⟩ := t4
  show Calls Try.prog 17 #[(.agg #[.slice A1 n1 c1, .slice A2 n2 c2, .slice A3 n3 c3, .slice A4 n4 c4]), (.agg #[.slice D1 m1 d1, .slice D2 m2 d2, .slice D3 m3 d3, .slice D4 m4 d4])] w _
  generalize hW : (w.alloc (.cells #[.slice A1 n1 c1, .slice A2 n2 c2, .slice A3 n3 c3, .slice A4 n4 c4] 26)).alloc (.cells #[.slice D1 m1 d1, .slice D2 m2 d2, .slice D3 m3 d3, .slice D4 m4 d4] 26) = W
  have hbW : Below w.heap.size w W := by subst hW; exact (by repeat (first | exact Below.refl _ _ | assumption | refine Below.drew ?_ | refine below_drewN ?_ _ | refine bl_alloc ?_ _ | refine Below.setCell ?_ (by first | (simp; done) | omega | (simp; omega)) _ | refine bl_then ?_ (by assumption)))
  have hsW : W.heap.size = w.heap.size + 2 := by subst hW; simp
  have e1 : Calls Try.prog 42 #[.slice A1 n1 c1, .slice D1 m1 d1] W fun e w' => e = .returned (.bool (decide (p.has = q.has))) ∧ Below W.heap.size W w' := equal_int _ _ _ _ _ _ _ _ _ ((h1.below hbW).more hbW.size) ((k1.below hbW).more hbW.size)
  have e2 : ∀ W', Below W.heap.size W W' → Calls Try.prog 42 #[.slice A2 n2 c2, .slice D2 m2 d2] W' fun e w' => e = .returned (.bool (decide (p.used = q.used))) ∧ Below W'.heap.size W' w' := fun W' hb => equal_int _ _ _ _ _ _ _ _ _ ((((h2.below hbW).more hbW.size).below hb).more hb.size) ((((k2.below hbW).more hbW.size).below hb).more hb.size)
  have e3 : ∀ W', Below W.heap.size W W' → Calls Try.prog 43 #[.slice A3 n3 c3, .slice D3 m3 d3] W' fun e w' => e = .returned (.bool (decide (p.loans = q.loans))) ∧ Below W'.heap.size W' w' := fun W' hb => equal_loan _ _ _ _ _ _ _ _ _ ((((h3.below hbW).more hbW.size).below hb).more hb.size) ((((k3.below hbW).more hbW.size).below hb).more hb.size)
  have e4 : ∀ W', Below W.heap.size W W' → Calls Try.prog 42 #[.slice A4 n4 c4, .slice D4 m4 d4] W' fun e w' => e = .returned (.bool (decide (p.cents = q.cents))) ∧ Below W'.heap.size W' w' := fun W' hb => equal_int _ _ _ _ _ _ _ _ _ ((((h4.below hbW).more hbW.size).below hb).more hb.size) ((((k4.below hbW).more hbW.size).below hb).more hb.size)
  have hv : sameB p q = (decide (p.has = q.has) && decide (p.used = q.used) && decide (p.loans = q.loans) && decide (p.cents = q.cents)) := rfl
  rw [hv]
  clear hv h1 h2 h3 h4 k1 k2 k3 k4
  generalize decide (p.has = q.has) = r1 at e1 ⊢
  generalize decide (p.used = q.used) = r2 at e2 ⊢
  generalize decide (p.loans = q.loans) = r3 at e3 ⊢
  generalize decide (p.cents = q.cents) = r4 at e4 ⊢
  have E1 := Lib.hid e1
  have E2 := Lib.hid e2
  have E3 := Lib.hid e3
  have E4 := Lib.hid e4
  have HW := Lib.hid hW
  have HS := Lib.hid hsW
  have cW : ∀ o, W.cell? ⟨w.heap.size, o, none⟩ = (#[.slice A1 n1 c1, .slice A2 n2 c2, .slice A3 n3 c3, .slice A4 n4 c4] : Array Value)[o]? := fun o => by subst hW; go_simp
  have cV : ∀ o, W.cell? ⟨w.heap.size + 1, o, none⟩ = (#[.slice D1 m1 d1, .slice D2 m2 d2, .slice D3 m3 d3, .slice D4 m4 d4] : Array Value)[o]? := fun o => by subst hW; go_simp
  clear e1 e2 e3 e4 hW hsW
  go_enter Try.func17, Try.ntmps17
  go_wp2_with fail
  rw [HW.out]
  refine E1.out.mono ?_
  rintro e w1 ⟨rfl, hb1⟩
  have hs0 : w.heap.size < W.heap.size := by have := HS.out; omega
  have hs1 : w.heap.size + 1 < W.heap.size := by have := HS.out; omega
  have hB1 : Below w.heap.size w w1 := hbW.trans (hb1.mono (by omega))
  cases r1
  · go_wp2
    go_ret
    exact ⟨rfl, hB1⟩
  obtain ⟨hc1, hf1⟩ := bcell hb1
  go_wp2_with fail
  refine (E2.out w1 hb1).mono ?_
  rintro e w2 ⟨rfl, hb2⟩
  have hb2' : Below W.heap.size W w2 := hb1.trans (hb2.mono hb1.size)
  have hB2 : Below w.heap.size w w2 := hbW.trans (hb2'.mono (by omega))
  cases r2
  · go_wp2
    go_ret
    exact ⟨rfl, hB2⟩
  clear hc1 hf1
  obtain ⟨hc1, hf1⟩ := bcell hb2'
  go_wp2_with fail
  refine (E3.out w2 hb2').mono ?_
  rintro e w3 ⟨rfl, hb3⟩
  have hb3' : Below W.heap.size W w3 := hb2'.trans (hb3.mono hb2'.size)
  have hB3 : Below w.heap.size w w3 := hbW.trans (hb3'.mono (by omega))
  cases r3
  · go_wp2
    go_ret
    exact ⟨rfl, hB3⟩
  clear hc1 hf1
  obtain ⟨hc1, hf1⟩ := bcell hb3'
  go_wp2_with fail
  refine (E4.out w3 hb3').mono ?_
  rintro e w4 ⟨rfl, hb4⟩
  have hb4' : Below W.heap.size W w4 := hb3'.trans (hb4.mono hb3'.size)
  have hB4 : Below w.heap.size w w4 := hbW.trans (hb4'.mono (by omega))
  go_wp2
  go_ret
  exact ⟨rfl, hB4⟩

end Go.Proofs.Ytpddnkefggaigaa
