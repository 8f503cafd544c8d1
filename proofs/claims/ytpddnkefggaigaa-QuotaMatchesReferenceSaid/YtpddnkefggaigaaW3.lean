/- QuotaMatchesReference: the walk (printed by quota_match.py). -/
import Derived.Test.YtpddnkefggaigaaU1
import Derived.Deep.CutBlock
namespace Go.Proofs.Ytpddnkefggaigaa
open Go.RowKit

set_option maxHeartbeats 2000000 in
theorem few_walk (A1 A2 A3 A4 : Option Addr) (n1 c1 n2 c2 n3 c3 n4 c4 : Nat) (w : World) (h1 : n1 ≤ c1) (h2 : n2 ≤ c2) (h3 : n3 ≤ c3) (h4 : n4 ≤ c4) (m1_ : c1 ≤ maxLen) (m2_ : c2 ≤ maxLen) (m3_ : c3 ≤ maxLen) (m4_ : c4 ≤ maxLen) :
    Calls Try.prog 14 #[.agg #[.slice A1 n1 c1, .slice A2 n2 c2, .slice A3 n3 c3, .slice A4 n4 c4]] w fun e w' => e = .returned (.agg #[.slice A1 (min n1 17) c1, .slice A2 (min n2 17) c2, .slice A3 (min n3 8) c3, .slice A4 (min n4 17) c4]) ∧ Ext w w' := by
  have k1 : c1 ≤ 9223372036854775807 := m1_
  have k2 : c2 ≤ 9223372036854775807 := m2_
  have k3 : c3 ≤ 9223372036854775807 := m3_
  have k4 : c4 ≤ 9223372036854775807 := m4_
  go_enter Try.func14, Try.ntmps14
  go_wp2_with fail
  generalize hW : ((w.alloc _).alloc _) = W
  have hBW : Below w.heap.size w W := by subst hW; exact (by repeat (first | exact Below.refl _ _ | assumption | refine Below.drew ?_ | refine below_drewN ?_ _ | refine bl_alloc ?_ _ | refine Below.setCell ?_ (by first | (simp; done) | omega | (simp; omega)) _ | refine bl_then ?_ (by assumption)))
  have jp : Blk W w.heap.size 26 #[.slice A1 n1 c1, .slice A2 n2 c2, .slice A3 n3 c3, .slice A4 n4 c4] := by subst hW; exact (Blk.new_at _ _ rfl).alloc _
  have jr : Blk W (w.heap.size + 1) 26 nil4 := by subst hW; exact Blk.new_at _ _ (by simp)
  clear hW
  have p0 : W.cell? ⟨w.heap.size, 0, none⟩ = some (.slice A1 n1 c1) := jp.cell 0
  have p1 : W.cell? ⟨w.heap.size, 1, none⟩ = some (.slice A2 n2 c2) := jp.cell 1
  have p2 : W.cell? ⟨w.heap.size, 2, none⟩ = some (.slice A3 n3 c3) := jp.cell 2
  have p3 : W.cell? ⟨w.heap.size, 3, none⟩ = some (.slice A4 n4 c4) := jp.cell 3
  refine wp_region_obl 29 (fun ix vals v w1 => match ix with | 0 => v = .pointer (some ⟨w.heap.size, 0, none⟩) | 1 => v = .slice A1 n1 c1 | 2 => v = .pointer (some ⟨w.heap.size, 0, none⟩) | 3 => v = .slice A1 n1 c1 | 4 => v = .int .i64 (n1 : Int) | 5 => v = .int .i64 ((min n1 17 : Nat) : Int) | 6 => v = .slice A1 (min n1 17) c1 | 7 => v = .pointer (some ⟨w.heap.size, 1, none⟩) | 8 => v = .slice A2 n2 c2 | 9 => v = .pointer (some ⟨w.heap.size, 1, none⟩) | 10 => v = .slice A2 n2 c2 | 11 => v = .int .i64 (n2 : Int) | 12 => v = .int .i64 ((min n2 17 : Nat) : Int) | 13 => v = .slice A2 (min n2 17) c2 | 14 => v = .pointer (some ⟨w.heap.size, 2, none⟩) | 15 => v = .slice A3 n3 c3 | 16 => v = .pointer (some ⟨w.heap.size, 2, none⟩) | 17 => v = .slice A3 n3 c3 | 18 => v = .int .i64 (n3 : Int) | 19 => v = .int .i64 ((min n3 8 : Nat) : Int) | 20 => v = .slice A3 (min n3 8) c3 | 21 => v = .pointer (some ⟨w.heap.size, 3, none⟩) | 22 => v = .slice A4 n4 c4 | 23 => v = .pointer (some ⟨w.heap.size, 3, none⟩) | 24 => v = .slice A4 n4 c4 | 25 => v = .int .i64 (n4 : Int) | 26 => v = .int .i64 ((min n4 17 : Nat) : Int) | 27 => v = .slice A4 (min n4 17) c4 | _ => v = .agg #[.slice A1 (min n1 17) c1, .slice A2 (min n2 17) c2, .slice A3 (min n3 8) c3, .slice A4 (min n4 17) c4]) (by kernel_rfl) (by kernel_rfl) ?_ ?_ ?_ ?_
  · intro ix vals v w1 w2 hi hr hx
    match ix, hr with
    | 0, hr => exact hr
    | 1, hr => exact hr
    | 2, hr => exact hr
    | 3, hr => exact hr
    | 4, hr => exact hr
    | 5, hr => exact hr
    | 6, hr => exact hr
    | 7, hr => exact hr
    | 8, hr => exact hr
    | 9, hr => exact hr
    | 10, hr => exact hr
    | 11, hr => exact hr
    | 12, hr => exact hr
    | 13, hr => exact hr
    | 14, hr => exact hr
    | 15, hr => exact hr
    | 16, hr => exact hr
    | 17, hr => exact hr
    | 18, hr => exact hr
    | 19, hr => exact hr
    | 20, hr => exact hr
    | 21, hr => exact hr
    | 22, hr => exact hr
    | 23, hr => exact hr
    | 24, hr => exact hr
    | 25, hr => exact hr
    | 26, hr => exact hr
    | 27, hr => exact hr
    | (kx + 28), hr => exact hr
  · intro ix vals vals_ v w1 hi hv hr
    exact hr
  · refine ⟨?_, ?_, ?_, ?_, ?_, ?_, ?_, ?_, ?_, ?_, ?_, ?_, ?_, ?_, ?_, ?_, ?_, ?_, ?_, ?_, ?_, ?_, ?_, ?_, ?_, ?_, ?_, ?_, ?_, trivial⟩
    · intro vals w1 hx hd ha
      clear hd ha
      simp only [Lf]
      have p0 := ext_cell hx p0
      have p1 := ext_cell hx p1
      have p2 := ext_cell hx p2
      have p3 := ext_cell hx p3
      go_wp2
      exact ⟨rfl, Ext.refl _, rfl⟩
    · intro vals w1 hx hd ha
      have e0 : vals 0 = .pointer (some ⟨w.heap.size, 0, none⟩) := hd 0 (by decide)
      clear hd ha
      simp only [Lf, dstAt, Act.put, List.getElem?_toArray, List.getElem?_cons_zero, Option.bind_some, List.setIfInBounds_toArray, List.set_cons_zero, List.set_cons_succ]
      simp only [e0]
      clear e0
      have p0 := ext_cell hx p0
      have p1 := ext_cell hx p1
      have p2 := ext_cell hx p2
      have p3 := ext_cell hx p3
      go_wp2
      exact ⟨rfl, Ext.refl _, rfl⟩
    · intro vals w1 hx hd ha
      clear hd ha
      simp only [Lf, dstAt, Act.put, List.getElem?_toArray, List.getElem?_cons_zero, List.getElem?_cons_succ, Option.bind_some, List.setIfInBounds_toArray, List.set_cons_zero, List.set_cons_succ]
      have p0 := ext_cell hx p0
      have p1 := ext_cell hx p1
      have p2 := ext_cell hx p2
      have p3 := ext_cell hx p3
      go_wp2
      exact ⟨rfl, Ext.refl _, rfl⟩
    · intro vals w1 hx hd ha
      have e2 : vals 2 = .pointer (some ⟨w.heap.size, 0, none⟩) := hd 2 (by decide)
      clear hd ha
      simp only [Lf, dstAt, Act.put, List.getElem?_toArray, List.getElem?_cons_zero, List.getElem?_cons_succ, Option.bind_some, List.setIfInBounds_toArray, List.set_cons_zero, List.set_cons_succ]
      simp only [e2]
      clear e2
      have p0 := ext_cell hx p0
      have p1 := ext_cell hx p1
      have p2 := ext_cell hx p2
      have p3 := ext_cell hx p3
      go_wp2
      exact ⟨rfl, Ext.refl _, rfl⟩
    · intro vals w1 hx hd ha
      have e3 : vals 3 = .slice A1 n1 c1 := hd 3 (by decide)
      clear hd ha
      simp only [Lf, dstAt, Act.put, List.getElem?_toArray, List.getElem?_cons_zero, List.getElem?_cons_succ, Option.bind_some, List.setIfInBounds_toArray, List.set_cons_zero, List.set_cons_succ]
      simp only [e3]
      clear e3
      have p0 := ext_cell hx p0
      have p1 := ext_cell hx p1
      have p2 := ext_cell hx p2
      have p3 := ext_cell hx p3
      go_wp2
      exact ⟨rfl, Ext.refl _, rfl⟩
    · intro vals w1 hx hd ha
      have e4 : vals 4 = .int .i64 (n1 : Int) := hd 4 (by decide)
      clear hd ha
      simp only [Lf, dstAt, Act.put, List.getElem?_toArray, List.getElem?_cons_zero, List.getElem?_cons_succ, Option.bind_some, List.setIfInBounds_toArray, List.set_cons_zero, List.set_cons_succ]
      have p0 := ext_cell hx p0
      have p1 := ext_cell hx p1
      have p2 := ext_cell hx p2
      have p3 := ext_cell hx p3
      simp only [e4]
      clear e4
      rcases Nat.lt_or_ge n1 17 with hm | hm
      · rw [Nat.min_eq_left (Nat.le_of_lt hm)]; have hm2 : (n1 : Int) < 17 := (by omega); go_wp2; exact ⟨rfl, Ext.refl _, rfl⟩
      · rw [Nat.min_eq_right hm]; have hm2 : (17 : Int) ≤ n1 := (by omega); go_wp2; all_goals exact ⟨rfl, Ext.refl _, by first | rfl | (obtain rfl : n1 = 17 := (by omega); rfl)⟩
    · intro vals w1 hx hd ha
      have e1 : vals 1 = .slice A1 n1 c1 := hd 1 (by decide)
      have e5 : vals 5 = .int .i64 ((min n1 17 : Nat) : Int) := hd 5 (by decide)
      clear hd ha
      simp only [Lf, dstAt, Act.put, List.getElem?_toArray, List.getElem?_cons_zero, List.getElem?_cons_succ, Option.bind_some, List.setIfInBounds_toArray, List.set_cons_zero, List.set_cons_succ]
      simp only [e1, e5]
      clear e1 e5
      have p0 := ext_cell hx p0
      have p1 := ext_cell hx p1
      have p2 := ext_cell hx p2
      have p3 := ext_cell hx p3
      go_wp2
      exact ⟨rfl, Ext.refl _, rfl⟩
    · intro vals w1 hx hd ha
      clear hd ha
      simp only [Lf, dstAt, Act.put, List.getElem?_toArray, List.getElem?_cons_zero, List.getElem?_cons_succ, Option.bind_some, List.setIfInBounds_toArray, List.set_cons_zero, List.set_cons_succ]
      have p0 := ext_cell hx p0
      have p1 := ext_cell hx p1
      have p2 := ext_cell hx p2
      have p3 := ext_cell hx p3
      go_wp2
      exact ⟨rfl, Ext.refl _, rfl⟩
    · intro vals w1 hx hd ha
      have e7 : vals 7 = .pointer (some ⟨w.heap.size, 1, none⟩) := hd 7 (by decide)
      clear hd ha
      simp only [Lf, dstAt, Act.put, List.getElem?_toArray, List.getElem?_cons_zero, List.getElem?_cons_succ, Option.bind_some, List.setIfInBounds_toArray, List.set_cons_zero, List.set_cons_succ]
      simp only [e7]
      clear e7
      have p0 := ext_cell hx p0
      have p1 := ext_cell hx p1
      have p2 := ext_cell hx p2
      have p3 := ext_cell hx p3
      go_wp2
      exact ⟨rfl, Ext.refl _, rfl⟩
    · intro vals w1 hx hd ha
      clear hd ha
      simp only [Lf, dstAt, Act.put, List.getElem?_toArray, List.getElem?_cons_zero, List.getElem?_cons_succ, Option.bind_some, List.setIfInBounds_toArray, List.set_cons_zero, List.set_cons_succ]
      have p0 := ext_cell hx p0
      have p1 := ext_cell hx p1
      have p2 := ext_cell hx p2
      have p3 := ext_cell hx p3
      go_wp2
      exact ⟨rfl, Ext.refl _, rfl⟩
    · intro vals w1 hx hd ha
      have e9 : vals 9 = .pointer (some ⟨w.heap.size, 1, none⟩) := hd 9 (by decide)
      clear hd ha
      simp only [Lf, dstAt, Act.put, List.getElem?_toArray, List.getElem?_cons_zero, List.getElem?_cons_succ, Option.bind_some, List.setIfInBounds_toArray, List.set_cons_zero, List.set_cons_succ]
      simp only [e9]
      clear e9
      have p0 := ext_cell hx p0
      have p1 := ext_cell hx p1
      have p2 := ext_cell hx p2
      have p3 := ext_cell hx p3
      go_wp2
      exact ⟨rfl, Ext.refl _, rfl⟩
    · intro vals w1 hx hd ha
      have e10 : vals 10 = .slice A2 n2 c2 := hd 10 (by decide)
      clear hd ha
      simp only [Lf, dstAt, Act.put, List.getElem?_toArray, List.getElem?_cons_zero, List.getElem?_cons_succ, Option.bind_some, List.setIfInBounds_toArray, List.set_cons_zero, List.set_cons_succ]
      simp only [e10]
      clear e10
      have p0 := ext_cell hx p0
      have p1 := ext_cell hx p1
      have p2 := ext_cell hx p2
      have p3 := ext_cell hx p3
      go_wp2
      exact ⟨rfl, Ext.refl _, rfl⟩
    · intro vals w1 hx hd ha
      have e11 : vals 11 = .int .i64 (n2 : Int) := hd 11 (by decide)
      clear hd ha
      simp only [Lf, dstAt, Act.put, List.getElem?_toArray, List.getElem?_cons_zero, List.getElem?_cons_succ, Option.bind_some, List.setIfInBounds_toArray, List.set_cons_zero, List.set_cons_succ]
      have p0 := ext_cell hx p0
      have p1 := ext_cell hx p1
      have p2 := ext_cell hx p2
      have p3 := ext_cell hx p3
      simp only [e11]
      clear e11
      rcases Nat.lt_or_ge n2 17 with hm | hm
      · rw [Nat.min_eq_left (Nat.le_of_lt hm)]; have hm2 : (n2 : Int) < 17 := (by omega); go_wp2; exact ⟨rfl, Ext.refl _, rfl⟩
      · rw [Nat.min_eq_right hm]; have hm2 : (17 : Int) ≤ n2 := (by omega); go_wp2; all_goals exact ⟨rfl, Ext.refl _, by first | rfl | (obtain rfl : n2 = 17 := (by omega); rfl)⟩
    · intro vals w1 hx hd ha
      have e8 : vals 8 = .slice A2 n2 c2 := hd 8 (by decide)
      have e12 : vals 12 = .int .i64 ((min n2 17 : Nat) : Int) := hd 12 (by decide)
      clear hd ha
      simp only [Lf, dstAt, Act.put, List.getElem?_toArray, List.getElem?_cons_zero, List.getElem?_cons_succ, Option.bind_some, List.setIfInBounds_toArray, List.set_cons_zero, List.set_cons_succ]
      simp only [e8, e12]
      clear e8 e12
      have p0 := ext_cell hx p0
      have p1 := ext_cell hx p1
      have p2 := ext_cell hx p2
      have p3 := ext_cell hx p3
      go_wp2
      exact ⟨rfl, Ext.refl _, rfl⟩
    · intro vals w1 hx hd ha
      clear hd ha
      simp only [Lf, dstAt, Act.put, List.getElem?_toArray, List.getElem?_cons_zero, List.getElem?_cons_succ, Option.bind_some, List.setIfInBounds_toArray, List.set_cons_zero, List.set_cons_succ]
      have p0 := ext_cell hx p0
      have p1 := ext_cell hx p1
      have p2 := ext_cell hx p2
      have p3 := ext_cell hx p3
      go_wp2
      exact ⟨rfl, Ext.refl _, rfl⟩
    · intro vals w1 hx hd ha
      have e14 : vals 14 = .pointer (some ⟨w.heap.size, 2, none⟩) := hd 14 (by decide)
      clear hd ha
      simp only [Lf, dstAt, Act.put, List.getElem?_toArray, List.getElem?_cons_zero, List.getElem?_cons_succ, Option.bind_some, List.setIfInBounds_toArray, List.set_cons_zero, List.set_cons_succ]
      simp only [e14]
      clear e14
      have p0 := ext_cell hx p0
      have p1 := ext_cell hx p1
      have p2 := ext_cell hx p2
      have p3 := ext_cell hx p3
      go_wp2
      exact ⟨rfl, Ext.refl _, rfl⟩
    · intro vals w1 hx hd ha
      clear hd ha
      simp only [Lf, dstAt, Act.put, List.getElem?_toArray, List.getElem?_cons_zero, List.getElem?_cons_succ, Option.bind_some, List.setIfInBounds_toArray, List.set_cons_zero, List.set_cons_succ]
      have p0 := ext_cell hx p0
      have p1 := ext_cell hx p1
      have p2 := ext_cell hx p2
      have p3 := ext_cell hx p3
      go_wp2
      exact ⟨rfl, Ext.refl _, rfl⟩
    · intro vals w1 hx hd ha
      have e16 : vals 16 = .pointer (some ⟨w.heap.size, 2, none⟩) := hd 16 (by decide)
      clear hd ha
      simp only [Lf, dstAt, Act.put, List.getElem?_toArray, List.getElem?_cons_zero, List.getElem?_cons_succ, Option.bind_some, List.setIfInBounds_toArray, List.set_cons_zero, List.set_cons_succ]
      simp only [e16]
      clear e16
      have p0 := ext_cell hx p0
      have p1 := ext_cell hx p1
      have p2 := ext_cell hx p2
      have p3 := ext_cell hx p3
      go_wp2
      exact ⟨rfl, Ext.refl _, rfl⟩
    · intro vals w1 hx hd ha
      have e17 : vals 17 = .slice A3 n3 c3 := hd 17 (by decide)
      clear hd ha
      simp only [Lf, dstAt, Act.put, List.getElem?_toArray, List.getElem?_cons_zero, List.getElem?_cons_succ, Option.bind_some, List.setIfInBounds_toArray, List.set_cons_zero, List.set_cons_succ]
      simp only [e17]
      clear e17
      have p0 := ext_cell hx p0
      have p1 := ext_cell hx p1
      have p2 := ext_cell hx p2
      have p3 := ext_cell hx p3
      go_wp2
      exact ⟨rfl, Ext.refl _, rfl⟩
    · intro vals w1 hx hd ha
      have e18 : vals 18 = .int .i64 (n3 : Int) := hd 18 (by decide)
      clear hd ha
      simp only [Lf, dstAt, Act.put, List.getElem?_toArray, List.getElem?_cons_zero, List.getElem?_cons_succ, Option.bind_some, List.setIfInBounds_toArray, List.set_cons_zero, List.set_cons_succ]
      have p0 := ext_cell hx p0
      have p1 := ext_cell hx p1
      have p2 := ext_cell hx p2
      have p3 := ext_cell hx p3
      simp only [e18]
      clear e18
      rcases Nat.lt_or_ge n3 8 with hm | hm
      · rw [Nat.min_eq_left (Nat.le_of_lt hm)]; have hm2 : (n3 : Int) < 8 := (by omega); go_wp2; exact ⟨rfl, Ext.refl _, rfl⟩
      · rw [Nat.min_eq_right hm]; have hm2 : (8 : Int) ≤ n3 := (by omega); go_wp2; all_goals exact ⟨rfl, Ext.refl _, by first | rfl | (obtain rfl : n3 = 8 := (by omega); rfl)⟩
    · intro vals w1 hx hd ha
      have e15 : vals 15 = .slice A3 n3 c3 := hd 15 (by decide)
      have e19 : vals 19 = .int .i64 ((min n3 8 : Nat) : Int) := hd 19 (by decide)
      clear hd ha
      simp only [Lf, dstAt, Act.put, List.getElem?_toArray, List.getElem?_cons_zero, List.getElem?_cons_succ, Option.bind_some, List.setIfInBounds_toArray, List.set_cons_zero, List.set_cons_succ]
      simp only [e15, e19]
      clear e15 e19
      have p0 := ext_cell hx p0
      have p1 := ext_cell hx p1
      have p2 := ext_cell hx p2
      have p3 := ext_cell hx p3
      go_wp2
      exact ⟨rfl, Ext.refl _, rfl⟩
    · intro vals w1 hx hd ha
      clear hd ha
      simp only [Lf, dstAt, Act.put, List.getElem?_toArray, List.getElem?_cons_zero, List.getElem?_cons_succ, Option.bind_some, List.setIfInBounds_toArray, List.set_cons_zero, List.set_cons_succ]
      have p0 := ext_cell hx p0
      have p1 := ext_cell hx p1
      have p2 := ext_cell hx p2
      have p3 := ext_cell hx p3
      go_wp2
      exact ⟨rfl, Ext.refl _, rfl⟩
    · intro vals w1 hx hd ha
      have e21 : vals 21 = .pointer (some ⟨w.heap.size, 3, none⟩) := hd 21 (by decide)
      clear hd ha
      simp only [Lf, dstAt, Act.put, List.getElem?_toArray, List.getElem?_cons_zero, List.getElem?_cons_succ, Option.bind_some, List.setIfInBounds_toArray, List.set_cons_zero, List.set_cons_succ]
      simp only [e21]
      clear e21
      have p0 := ext_cell hx p0
      have p1 := ext_cell hx p1
      have p2 := ext_cell hx p2
      have p3 := ext_cell hx p3
      go_wp2
      exact ⟨rfl, Ext.refl _, rfl⟩
    · intro vals w1 hx hd ha
      clear hd ha
      simp only [Lf, dstAt, Act.put, List.getElem?_toArray, List.getElem?_cons_zero, List.getElem?_cons_succ, Option.bind_some, List.setIfInBounds_toArray, List.set_cons_zero, List.set_cons_succ]
      have p0 := ext_cell hx p0
      have p1 := ext_cell hx p1
      have p2 := ext_cell hx p2
      have p3 := ext_cell hx p3
      go_wp2
      exact ⟨rfl, Ext.refl _, rfl⟩
    · intro vals w1 hx hd ha
      have e23 : vals 23 = .pointer (some ⟨w.heap.size, 3, none⟩) := hd 23 (by decide)
      clear hd ha
      simp only [Lf, dstAt, Act.put, List.getElem?_toArray, List.getElem?_cons_zero, List.getElem?_cons_succ, Option.bind_some, List.setIfInBounds_toArray, List.set_cons_zero, List.set_cons_succ]
      simp only [e23]
      clear e23
      have p0 := ext_cell hx p0
      have p1 := ext_cell hx p1
      have p2 := ext_cell hx p2
      have p3 := ext_cell hx p3
      go_wp2
      exact ⟨rfl, Ext.refl _, rfl⟩
    · intro vals w1 hx hd ha
      have e24 : vals 24 = .slice A4 n4 c4 := hd 24 (by decide)
      clear hd ha
      simp only [Lf, dstAt, Act.put, List.getElem?_toArray, List.getElem?_cons_zero, List.getElem?_cons_succ, Option.bind_some, List.setIfInBounds_toArray, List.set_cons_zero, List.set_cons_succ]
      simp only [e24]
      clear e24
      have p0 := ext_cell hx p0
      have p1 := ext_cell hx p1
      have p2 := ext_cell hx p2
      have p3 := ext_cell hx p3
      go_wp2
      exact ⟨rfl, Ext.refl _, rfl⟩
    · intro vals w1 hx hd ha
      have e25 : vals 25 = .int .i64 (n4 : Int) := hd 25 (by decide)
      clear hd ha
      simp only [Lf, dstAt, Act.put, List.getElem?_toArray, List.getElem?_cons_zero, List.getElem?_cons_succ, Option.bind_some, List.setIfInBounds_toArray, List.set_cons_zero, List.set_cons_succ]
      have p0 := ext_cell hx p0
      have p1 := ext_cell hx p1
      have p2 := ext_cell hx p2
      have p3 := ext_cell hx p3
      simp only [e25]
      clear e25
      rcases Nat.lt_or_ge n4 17 with hm | hm
      · rw [Nat.min_eq_left (Nat.le_of_lt hm)]; have hm2 : (n4 : Int) < 17 := (by omega); go_wp2; exact ⟨rfl, Ext.refl _, rfl⟩
      · rw [Nat.min_eq_right hm]; have hm2 : (17 : Int) ≤ n4 := (by omega); go_wp2; all_goals exact ⟨rfl, Ext.refl _, by first | rfl | (obtain rfl : n4 = 17 := (by omega); rfl)⟩
    · intro vals w1 hx hd ha
      have e22 : vals 22 = .slice A4 n4 c4 := hd 22 (by decide)
      have e26 : vals 26 = .int .i64 ((min n4 17 : Nat) : Int) := hd 26 (by decide)
      clear hd ha
      simp only [Lf, dstAt, Act.put, List.getElem?_toArray, List.getElem?_cons_zero, List.getElem?_cons_succ, Option.bind_some, List.setIfInBounds_toArray, List.set_cons_zero, List.set_cons_succ]
      simp only [e22, e26]
      clear e22 e26
      have p0 := ext_cell hx p0
      have p1 := ext_cell hx p1
      have p2 := ext_cell hx p2
      have p3 := ext_cell hx p3
      go_wp2
      exact ⟨rfl, Ext.refl _, rfl⟩
    · intro vals w1 hx hd ha
      have e6 : vals 6 = .slice A1 (min n1 17) c1 := hd 6 (by decide)
      have e13 : vals 13 = .slice A2 (min n2 17) c2 := hd 13 (by decide)
      have e20 : vals 20 = .slice A3 (min n3 8) c3 := hd 20 (by decide)
      have e27 : vals 27 = .slice A4 (min n4 17) c4 := hd 27 (by decide)
      clear hd ha
      simp only [Lf, dstAt, Act.put, List.getElem?_toArray, List.getElem?_cons_zero, List.getElem?_cons_succ, Option.bind_some, List.setIfInBounds_toArray, List.set_cons_zero, List.set_cons_succ]
      simp only [e6, e13, e20, e27]
      clear e6 e13 e20 e27
      have p0 := ext_cell hx p0
      have p1 := ext_cell hx p1
      have p2 := ext_cell hx p2
      have p3 := ext_cell hx p3
      go_wp2
      exact ⟨rfl, Ext.refl _, rfl⟩
  intro vals w2 hx hf
  have e28 : vals 28 = .agg #[.slice A1 (min n1 17) c1, .slice A2 (min n2 17) c2, .slice A3 (min n3 8) c3, .slice A4 (min n4 17) c4] := hf 28 (by omega)
  clear hf p0 p1 p2 p3
  have hx := hx.undrew
  have hB2 : Below w.heap.size w w2 := hBW.trans (Below.mono hx (Below.size hBW))
  have jr2 := jr.ext hx
  clear jp jr hBW hx
  refine tail1 29 _ (by kernel_rfl) (by kernel_rfl) rfl ?_
  simp only [Lf, dstAt, Act.put, List.getElem?_toArray, List.getElem?_cons_zero, List.getElem?_cons_succ, Option.bind_some, List.setIfInBounds_toArray, List.set_cons_zero, List.set_cons_succ]
  rw [e28]
  clear e28
  generalize hm1 : min n1 17 = m1
  have H1 := Lib.hid hm1
  clear hm1
  generalize hm2 : min n2 17 = m2
  have H2 := Lib.hid hm2
  clear hm2
  generalize hm3 : min n3 8 = m3
  have H3 := Lib.hid hm3
  clear hm3
  generalize hm4 : min n4 17 = m4
  have H4 := Lib.hid hm4
  clear hm4
  have hc0 := jr2.cell 0
  have hc1 := jr2.cell 1
  have hc2 := jr2.cell 2
  have hc3 := jr2.cell 3
  have hf0 := jr2.frozen 0
  have hf1 := jr2.frozen 1
  have hf2 := jr2.frozen 2
  have hf3 := jr2.frozen 3
  go_wp2
  generalize hW4 : ((((w2.setCell ⟨w.heap.size + 1, 0, none⟩ _).setCell ⟨w.heap.size + 1, 1, none⟩ _).setCell ⟨w.heap.size + 1, 2, none⟩ _).setCell ⟨w.heap.size + 1, 3, none⟩ _) = w4
  have j4 : Blk w4 (w.heap.size + 1) 26 #[.slice A1 m1 c1, .slice A2 m2 c2, .slice A3 m3 c3, .slice A4 m4 c4] := by subst hW4; exact jr2.set4 _ _ _ _
  have hB4 : Below w.heap.size w w4 := by subst hW4; exact below_set4 hB2 (by omega) _ _ _ _
  clear hc0 hc1 hc2 hc3
  have hc0 := j4.cell 0
  have hc1 := j4.cell 1
  have hc2 := j4.cell 2
  have hc3 := j4.cell 3
  exact bodyPost_ret (v := .agg #[.slice A1 m1 c1, .slice A2 m2 c2, .slice A3 m3 c3, .slice A4 m4 c4]) (by simp [results, Try.results14, go_sem, hc0, hc1, hc2, hc3]) rfl ⟨by rw [H1.out, H2.out, H3.out, H4.out], hB4⟩


def RLw (w : World) (B : Nat) (s : Sl) (ls : List Loan) : Prop := Reads w B 3 s.A s.n (ls.flatMap loanCells) ∧ s.n ≤ s.c ∧ s.c ≤ maxLen
theorem RLw.to {w w' : World} {s : Sl} {ls : List Loan} (h : RLw w w.heap.size s ls) (hx : Ext w w') : RLw w' w'.heap.size s ls := ⟨(h.1.below hx).more (Below.size hx), h.2⟩
theorem flat_take3 (ls : List Loan) (k : Nat) : (ls.flatMap loanCells).take (k * 3) = (ls.take k).flatMap loanCells := by
  induction ls generalizing k with
  | nil => simp
  | cons x r ih =>
    cases k with
    | zero => simp
    | succ k =>
      rw [List.flatMap_cons, List.take_succ_cons, List.flatMap_cons, ← ih k, List.take_append]
      have e : (loanCells x).length = 3 := rfl
      rw [e, List.take_of_length_le (by omega), show (k + 1) * 3 - 3 = k * 3 by omega]
theorem flat_takeQ (ls : List Quad) (k : Nat) : (ls.flatMap quadCells).take (k * 4) = (ls.take k).flatMap quadCells := by
  induction ls generalizing k with
  | nil => simp
  | cons x r ih =>
    cases k with
    | zero => simp
    | succ k =>
      rw [List.flatMap_cons, List.take_succ_cons, List.flatMap_cons, ← ih k, List.take_append]
      have e : (quadCells x).length = 4 := rfl
      rw [e, List.take_of_length_le (by omega), show (k + 1) * 4 - 4 = k * 4 by omega]
theorem RI_cut {W : World} {B : Nat} {A : Option Addr} {n c : Nat} {zs : List Int} (h : RW_ W B ⟨A, n, c⟩ zs) (k : Nat) (hk : k ≤ n) (hk2 : k ≤ 1000) : RI W B ⟨A, k, c⟩ (zs.take k) := by
  have h1 : n ≤ c := h.2.1
  have hr := h.1.upto hk
  rw [Nat.mul_one, ← List.map_take] at hr
  exact ⟨hr, by show k ≤ c; omega, h.2.2, by show k ≤ 1099511627776; omega⟩
theorem RL_cut {W : World} {B : Nat} {A : Option Addr} {n c : Nat} {ls : List Loan} (h : RLw W B ⟨A, n, c⟩ ls) (k : Nat) (hk : k ≤ n) (hk2 : k ≤ 1000) : RL W B ⟨A, k, c⟩ (ls.take k) := by
  have h1 : n ≤ c := h.2.1
  have hr := h.1.upto hk
  rw [flat_take3] at hr
  exact ⟨hr, by show k ≤ c; omega, h.2.2, by show k ≤ 1099511627776; omega⟩
theorem RQ_cut {W : World} {B : Nat} {A : Option Addr} {n c : Nat} {xs : List Quad} (h : RQ W B ⟨A, n, c⟩ xs) (k : Nat) (hk : k ≤ n) (hk2 : k ≤ 1000) : RQ W B ⟨A, k, c⟩ (xs.take k) := by
  have h1 : n ≤ c := h.2.1
  have hr := h.1.upto hk
  rw [flat_takeQ] at hr
  exact ⟨hr, by show k ≤ c; omega, h.2.2.1, by show k ≤ 9223372036854775807; omega⟩
/-- A pool of the call's own in a variable. -/
structure PVo (W : World) (base g : Nat) (s1 s2 s3 s4 : Sl) (p : Pool) : Prop where
  blk : Blk W g 26 #[s1.v, s2.v, s3.v, s4.v]
  own : PoolOwn W base s1 s2 s3 s4 p
section
variable {W W' : World} {base g : Nat} {s1 s2 s3 s4 : Sl} {p : Pool}
theorem PVo.ext (h : PVo W base g s1 s2 s3 s4 p) (hx : Ext W W') : PVo W' base g s1 s2 s3 s4 p := ⟨h.blk.ext hx, h.own.ext hx⟩
theorem PVo.pv (h : PVo W base g s1 s2 s3 s4 p) : PV W g s1 s2 s3 s4 p := ⟨h.blk, h.own.pool⟩
theorem PVo.setD (h : PVo W base g s1 s2 s3 s4 p) {gd i : Nat} {cs : Array Value} (hb : Blk W gd 30 cs) (x : Value) : PVo (W.setCell ⟨gd, i, none⟩ x) base g s1 s2 s3 s4 p :=
  ⟨h.blk.far (p := ⟨gd, i, none⟩) (h.blk.ne_ hb (by decide)) _, ⟨own_set h.own.o1 (own_blk_ne h.own.o1 hb (by decide)) _, own_set h.own.o2 (own_blk_ne h.own.o2 hb (by decide)) _, own_set h.own.o3 (own_blk_ne h.own.o3 hb (by decide)) _, own_set h.own.o4 (own_blk_ne h.own.o4 hb (by decide)) _, h.own.n1, h.own.n2, h.own.n3, h.own.n4⟩⟩
end
theorem own_own_ne {W : World} {b1 b2 e1 e2 s1 s2 n1 n2 : Nat} {v1 v2 : Value} {x1 x2 : List Value} (h1 : W.ownsRow b1 e1 s1 v1 n1 x1) (h2 : W.ownsRow b2 e2 s2 v2 n2 x2) (hne : e1 ≠ e2) : ∀ g, v2.ownBlock = some g → v1.ownBlock ≠ some g := by
  intro g hg
  rcases h2.2 with ⟨rfl, _⟩ | ⟨g', cap, cur, rfl, _, hh, _⟩
  · simp [Value.ownBlock] at hg
  · have e : g' = g := by simpa [Value.ownBlock] using hg
    subst e
    exact own_blk_ne h1 hh hne
theorem own_kept3 {W W' : World} {b1 b2 e1 e2 s1 s2 n1 n2 : Nat} {v1 v2 : Value} {x1 x2 : List Value} (h1 : W.ownsRow b1 e1 s1 v1 n1 x1) (h2 : W.ownsRow b2 e2 s2 v2 n2 x2) (hne : e1 ≠ e2) (hg : W.grownBy W' v2.ownBlock) : W'.ownsRow b1 e1 s1 v1 n1 x1 := by
  refine ⟨h1.1, ?_⟩
  rcases h1.2 with hn | ⟨g, cap, cur, rfl, hb, hgg, r⟩
  · exact .inl hn
  · refine .inr ⟨g, cap, cur, rfl, hb, (hg.block g (Array.getElem?_eq_some_iff.1 hgg).1 ?_).trans hgg, r⟩
    intro e
    exact own_own_ne h1 h2 hne g e.symm rfl
section
variable {W : World} {base a b d c1 c2 c4 : Nat} {s3 : Sl} {p : Pool}
theorem own_w1 (h : PoolOwn W base ⟨some ⟨a, 0, none⟩, 16, c1⟩ ⟨some ⟨b, 0, none⟩, 16, c2⟩ s3 ⟨some ⟨d, 0, none⟩, 16, c4⟩ p) (dab : a ≠ b) (dad : a ≠ d) {k : Nat} (hk : k < 16) (x : Int) : PoolOwn (W.setCell ⟨a, k, none⟩ (I64 x)) base ⟨some ⟨a, 0, none⟩, 16, c1⟩ ⟨some ⟨b, 0, none⟩, 16, c2⟩ s3 ⟨some ⟨d, 0, none⟩, 16, c4⟩ ⟨p.has.set k x, p.used, p.loans, p.cents⟩ := by
  obtain ⟨cur, hbk⟩ := own_to_blk h.o1
  exact ⟨own_write h.o1 hk x, own_other h.o2 (fun e => dab e.symm) _, own_set h.o3 (own_blk_ne h.o3 hbk (by decide)) _, own_other h.o4 (fun e => dad e.symm) _, h.n1, h.n2, h.n3, h.n4⟩
theorem own_w2 (h : PoolOwn W base ⟨some ⟨a, 0, none⟩, 16, c1⟩ ⟨some ⟨b, 0, none⟩, 16, c2⟩ s3 ⟨some ⟨d, 0, none⟩, 16, c4⟩ p) (dab : a ≠ b) (dbd : b ≠ d) {k : Nat} (hk : k < 16) (x : Int) : PoolOwn (W.setCell ⟨b, k, none⟩ (I64 x)) base ⟨some ⟨a, 0, none⟩, 16, c1⟩ ⟨some ⟨b, 0, none⟩, 16, c2⟩ s3 ⟨some ⟨d, 0, none⟩, 16, c4⟩ ⟨p.has, p.used.set k x, p.loans, p.cents⟩ := by
  obtain ⟨cur, hbk⟩ := own_to_blk h.o2
  exact ⟨own_other h.o1 dab _, own_write h.o2 hk x, own_set h.o3 (own_blk_ne h.o3 hbk (by decide)) _, own_other h.o4 (fun e => dbd e.symm) _, h.n1, h.n2, h.n3, h.n4⟩
theorem own_w4 (h : PoolOwn W base ⟨some ⟨a, 0, none⟩, 16, c1⟩ ⟨some ⟨b, 0, none⟩, 16, c2⟩ s3 ⟨some ⟨d, 0, none⟩, 16, c4⟩ p) (dad : a ≠ d) (dbd : b ≠ d) {k : Nat} (hk : k < 16) (x : Int) : PoolOwn (W.setCell ⟨d, k, none⟩ (I64 x)) base ⟨some ⟨a, 0, none⟩, 16, c1⟩ ⟨some ⟨b, 0, none⟩, 16, c2⟩ s3 ⟨some ⟨d, 0, none⟩, 16, c4⟩ ⟨p.has, p.used, p.loans, p.cents.set k x⟩ := by
  obtain ⟨cur, hbk⟩ := own_to_blk h.o4
  exact ⟨own_other h.o1 dad _, own_other h.o2 dbd _, own_set h.o3 (own_blk_ne h.o3 hbk (by decide)) _, own_write h.o4 hk x, h.n1, h.n2, h.n3, h.n4⟩
end
/-- What the switch leaves. -/
def ArrZ (W : World) (g k : Nat) : Prop := ∃ s1 s2 s3 s4 z, W.cell? ⟨g, k * 4, none⟩ = some (Sl.v s1) ∧ W.cell? ⟨g, k * 4 + 1, none⟩ = some (Sl.v s2) ∧ W.cell? ⟨g, k * 4 + 2, none⟩ = some (Sl.v s3) ∧ W.cell? ⟨g, k * 4 + 3, none⟩ = some (Sl.v s4) ∧ PoolR W W.heap.size s1 s2 s3 s4 z
def QCut (W3 : World) (gq : Nat) (wc : World) : Prop := Ext W3 wc ∧ ∃ s1 s2 s3 s4 q, PVo wc W3.heap.size gq s1 s2 s3 s4 q
theorem netV_form (r : Option Int) : ∃ a b, netV r = .tuple #[.int .i64 a, .int .i64 b] := by cases r <;> exact ⟨_, _, rfl⟩

set_option maxHeartbeats 8000000 in
set_option maxRecDepth 100000 in
theorem matches_walk (hsane : ∀ w, Calls Try.prog 10 #[] w (Tru w)) (A : Option Addr) (n c : Nat) (has : List Int) (A2 : Option Addr) (n2 c2 : Nat) (xs : List Quad)
    (R1 R2 R3 R4 : Option Addr) (rn1 rc1 rn2 rc2 rn3 rc3 rn4 rc4 : Nat) (zr1 zr2 : List Int) (lr : List Loan) (zr4 : List Int) (l1 l2 l3 x1 x2 o0 o1 o2 o3 o4 : Int) (A8 : Option Addr) (n8 c8 : Nat) (ys : List Quad) (w : World)
    (h : RW_ w w.heap.size ⟨A, n, c⟩ has) (hi : okI has) (h2 : RQ w w.heap.size ⟨A2, n2, c2⟩ xs) (hq : ∀ x ∈ xs, x.ok)
    (hr1 : RW_ w w.heap.size ⟨R1, rn1, rc1⟩ zr1) (hr2 : RW_ w w.heap.size ⟨R2, rn2, rc2⟩ zr2) (hr3 : RLw w w.heap.size ⟨R3, rn3, rc3⟩ lr) (hr4 : RW_ w w.heap.size ⟨R4, rn4, rc4⟩ zr4)
    (b2 : I64ok x2) (bo0 : I64ok o0) (bo1 : I64ok o1) (h8 : RQ w w.heap.size ⟨A8, n8, c8⟩ ys) (hq8 : ∀ x ∈ ys, x.ok) :
    Calls Try.prog 3 #[.slice A n c, .slice A2 n2 c2, .agg #[.slice R1 rn1 rc1, .slice R2 rn2 rc2, .slice R3 rn3 rc3, .slice R4 rn4 rc4], .agg #[.int .i64 l1, .int .i64 l2, .int .i64 l3], .int .i64 x1, .int .i64 x2, .agg #[.int .i64 o0, .int .i64 o1, .int .i64 o2, .int .i64 o3, .int .i64 o4], .slice A8 n8 c8] w (Tru w) := by
  have HS := Lib.hid hsane
  have HM := Lib.hid (made_any A n c has A2 n2 c2 xs)
  have HI := Lib.hid hi
  have HQ := Lib.hid hq
  have HQ8 := Lib.hid hq8
  have hsm := made_sm has xs
  generalize madeP has xs = p at HM hsm
  have HP := Lib.hid hsm
  have hB := Ext.refl w
  clear hsane hi hq hsm hq8
  obtain ⟨b21, b22⟩ := b2
  obtain ⟨b01, b02⟩ := bo0
  obtain ⟨b11, b12⟩ := bo1
  go_enter Try.func3, Try.ntmps3
  go_upto_region 1 with (fail)
  generalize hW : (((w.alloc _).alloc _).alloc _) = W0
  have j1 : Blk W0 w.heap.size 26 #[.slice R1 rn1 rc1, .slice R2 rn2 rc2, .slice R3 rn3 rc3, .slice R4 rn4 rc4] := by subst hW; exact ((Blk.new_at _ _ rfl).alloc _).alloc _
  have j2 : Blk W0 (w.heap.size + 1) 28 #[.int .i64 l1, .int .i64 l2, .int .i64 l3] := by subst hW; exact (Blk.new_at _ _ (by simp)).alloc _
  have j3 : Blk W0 (w.heap.size + 1 + 1) 30 #[.int .i64 o0, .int .i64 o1, .int .i64 o2, .int .i64 o3, .int .i64 o4] := by subst hW; exact Blk.new_at _ _ (by simp)
  have hB : Ext w W0 := by subst hW; exact (by repeat (first | exact Below.refl _ _ | assumption | refine Below.drew ?_ | refine below_drewN ?_ _ | refine bl_alloc ?_ _ | refine Below.setCell ?_ (by first | (simp; done) | omega | (simp; omega)) _ | refine bl_then ?_ (by assumption)))
  clear hW
  obtain ⟨g1, hg1⟩ : ∃ g, g = w.heap.size := ⟨_, rfl⟩
  obtain ⟨g2, hg2⟩ : ∃ g, g = w.heap.size + 1 := ⟨_, rfl⟩
  obtain ⟨g3, hg3⟩ : ∃ g, g = w.heap.size + 1 + 1 := ⟨_, rfl⟩
  rw [← hg3] at j3 ⊢
  rw [← hg2] at j2 ⊢
  rw [← hg1] at j1 ⊢
  have lg3 : w.heap.size ≤ g3 := by omega
  clear hg1 hg2 hg3
  go_wp2_with fail
  refine (HS.out W0).mono ?_
  rintro e W1 ⟨rfl, hx⟩
  have hB := hB.ext hx
  have j1 := j1.ext hx
  have j2 := j2.ext hx
  have j3 := j3.ext hx
  clear hx
  go_wp2_with fail
  refine (HM.out W1 (h.to hB) HI.out (h2.to hB) HQ.out).mono ?_
  rintro e W2 ⟨⟨p1A, p1n, p1c⟩, ⟨p2A, p2n, p2c⟩, ⟨p3A, p3n, p3c⟩, ⟨p4A, p4n, p4c⟩, rfl, hx, hp⟩
  simp only [poolV, Sl.v]
  go_upto_region 4 with (fail)
  have jj : Blk (W2.alloc (.cells #[.slice p1A p1n p1c, .slice p2A p2n p2c, .slice p3A p3n p3c, .slice p4A p4n p4c] 26)) W2.heap.size 26 #[.slice p1A p1n p1c, .slice p2A p2n p2c, .slice p3A p3n p3c, .slice p4A p4n p4c] := Blk.new_at _ _ rfl
  have hx2 : Ext W2 (W2.alloc (.cells #[.slice p1A p1n p1c, .slice p2A p2n p2c, .slice p3A p3n p3c, .slice p4A p4n p4c] 26)) := bl_alloc (Below.refl _ _) _
  obtain ⟨gp, hg⟩ : ∃ g, g = W2.heap.size := ⟨_, rfl⟩
  have lgp : W1.heap.size ≤ gp := by rw [hg]; exact Below.size hx
  rw [← hg] at jj ⊢
  generalize W2.alloc _ = W3 at jj hx2 ⊢
  have hp := hp.ext hx2
  have hx := hx.ext hx2
  clear hg hx2
  have hB := hB.ext hx
  have j1 := j1.ext hx
  have j2 := j2.ext hx
  have j3 := j3.ext hx
  have vp : PVo W3 W1.heap.size gp ⟨p1A, p1n, p1c⟩ ⟨p2A, p2n, p2c⟩ ⟨p3A, p3n, p3c⟩ ⟨p4A, p4n, p4c⟩ p := ⟨jj, hp.own⟩
  clear hx hp jj
  go_wp2_with fail
  refine (HM.out W3 (h.to hB) HI.out (h2.to hB) HQ.out).mono ?_
  rintro e W4 ⟨⟨q1A, q1n, q1c⟩, ⟨q2A, q2n, q2c⟩, ⟨q3A, q3n, q3c⟩, ⟨q4A, q4n, q4c⟩, rfl, hx, hp⟩
  simp only [poolV, Sl.v]
  go_upto_region 5 with (fail)
  have jj : Blk (W4.alloc (.cells #[.slice q1A q1n q1c, .slice q2A q2n q2c, .slice q3A q3n q3c, .slice q4A q4n q4c] 26)) W4.heap.size 26 #[.slice q1A q1n q1c, .slice q2A q2n q2c, .slice q3A q3n q3c, .slice q4A q4n q4c] := Blk.new_at _ _ rfl
  have hx2 : Ext W4 (W4.alloc (.cells #[.slice q1A q1n q1c, .slice q2A q2n q2c, .slice q3A q3n q3c, .slice q4A q4n q4c] 26)) := bl_alloc (Below.refl _ _) _
  obtain ⟨gq, hg⟩ : ∃ g, g = W4.heap.size := ⟨_, rfl⟩
  have lgq : W3.heap.size ≤ gq := by rw [hg]; exact Below.size hx
  rw [← hg] at jj ⊢
  generalize W4.alloc _ = W5 at jj hx2 ⊢
  have hp := hp.ext hx2
  have hx := hx.ext hx2
  clear hg hx2
  have lp4 := pickI_bd x2 4 (by omega)
  have lp5 := pickI_bd x2 5 (by omega)
  go_upto_block 0 with (go_at_call 12; refine (lpick_any _ _ _ (by omega) (by omega) (by omega) (by omega)).mono ?_; rintro e w9 ⟨rfl, rfl⟩)
  obtain ⟨k5, hk5⟩ : ∃ k : Nat, pickI x2 5 = (k : Int) := ⟨(pickI x2 5).toNat, by omega⟩
  have lk5 : k5 < 16 := by omega
  have lki : (k5 : Int) < 16 := by omega
  have HK5 := Lib.hid hk5
  clear hk5 lp5
  generalize pickI x2 4 = k4 at lp4 ⊢
  have hcs4 : k4 = 0 ∨ k4 = 1 ∨ k4 = 2 ∨ k4 = 3 := by omega
  clear lp4
  obtain ⟨ua, ub, ud, a1, a2, a4, dab, dad, dbd⟩ := hp.ap
  have a1 : q1A = some ⟨ua, 0, none⟩ := a1
  have a2 : q2A = some ⟨ub, 0, none⟩ := a2
  have a4 : q4A = some ⟨ud, 0, none⟩ := a4
  subst a1 a2 a4
  obtain rfl : q1n = 16 := by have h1 : (p.has.map I64).length = q1n * 1 := hp.own.o1.1; have h2 := HP.out.v.lh; simp at h1; omega
  obtain rfl : q2n = 16 := by have h1 : (p.used.map I64).length = q2n * 1 := hp.own.o2.1; have h2 := HP.out.v.lu; simp at h1; omega
  obtain rfl : q4n = 16 := by have h1 : (p.cents.map I64).length = q4n * 1 := hp.own.o4.1; have h2 := HP.out.v.lc; simp at h1; omega
  have hpo := hp.own
  have HPO := Lib.hid hpo
  have l3 : p.loans.length = q3n := hpo.pool.2.2.1.len
  have l3b : q3n ≤ 9000 := by have := HP.out.len; omega
  have HL3 := Lib.hid l3
  clear l3
  have qc0 : W5.cell? ⟨gq, 0, none⟩ = some (.slice (some ⟨ua, 0, none⟩) 16 q1c) := jj.cell 0
  have qc1 : W5.cell? ⟨gq, 1, none⟩ = some (.slice (some ⟨ub, 0, none⟩) 16 q2c) := jj.cell 1
  have qc2 : W5.cell? ⟨gq, 2, none⟩ = some (.slice q3A q3n q3c) := jj.cell 2
  have qc3 : W5.cell? ⟨gq, 3, none⟩ = some (.slice (some ⟨ud, 0, none⟩) 16 q4c) := jj.cell 3
  have JJ := Lib.hid jj
  have hx4 := hx
  have HX4 := Lib.hid hx4
  clear hp hpo jj hx hx4
  go_cut [] (fun wc => QCut W3 gq wc)
  case first =>
    rcases hcs4 with e4 | e4 | e4 | e4
    · have t0 : (k4 == 0) = true := by rw [e4]; rfl
      clear e4
      have jl := j2.ext HX4.out
      have k0 := jl.cell 0
      have k1 := jl.cell 1
      have k2 := jl.cell 2
      have f2 := JJ.out.frozen 2
      have hl2 := HL3.out
      have hrow : OutRow W5 W3.heap.size (.slice q3A q3n q3c) p.loans := by unfold OutRow; rw [hl2]; exact HPO.out.o3
      have HROW := Lib.hid hrow
      have hlo : p.loans.length ≤ 9000 := by omega
      have hz4 : W3.heap.size ≤ W5.heap.size := Below.size HX4.out
      clear hrow hl2
      go_wp2_with (at_builtin; refine owed_app rfl _ _ rfl W3.heap.size _ p.loans rfl (OutRow.ext HROW.out (by repeat (first | exact Below.refl _ _ | assumption | refine Below.drew ?_ | refine below_drewN ?_ _ | refine bl_alloc ?_ _ | refine Below.setCell ?_ (by first | (simp; done) | omega | (simp; omega)) _ | refine bl_then ?_ (by assumption)))) ⟨l1, l2, l3⟩ _ rfl (Blk.new_at _ _ rfl) (by omega) (by simp; omega) ?_)
      intro v' w' hown' hg hat
      have jne : (Sl.v ⟨q3A, q3n, q3c⟩).ownBlock ≠ some gq := own_blk_ne HPO.out.o3 JJ.out (by decide)
      have jg : Blk w' gq 26 #[.slice (some ⟨ua, 0, none⟩) 16 q1c, .slice (some ⟨ub, 0, none⟩) 16 q2c, .slice q3A q3n q3c, .slice (some ⟨ud, 0, none⟩) 16 q4c] := (JJ.out.alloc _).grown hg (fun e => jne e.symm)
      have o1 := own_kept3 (own_ext HPO.out.o1 (bl_alloc (Below.refl _ _) _)) (own_ext HPO.out.o3 (bl_alloc (Below.refl _ _) _)) (by decide) hg
      have o2 := own_kept3 (own_ext HPO.out.o2 (bl_alloc (Below.refl _ _) _)) (own_ext HPO.out.o3 (bl_alloc (Below.refl _ _) _)) (by decide) hg
      have o4 := own_kept3 (own_ext HPO.out.o4 (bl_alloc (Below.refl _ _) _)) (own_ext HPO.out.o3 (bl_alloc (Below.refl _ _) _)) (by decide) hg
      have hB1 : Ext W3 w' := Below.grown (B := W3.heap.size) (w := W5.alloc _) (HX4.out.trans (bl_alloc (Below.refl _ _) _)) hg (by simp; omega) (fun q hq => (HPO.out.o3.lt q hq).1)
      obtain ⟨A', c', hv', hc1', hc2'⟩ := own_slice hown'
      subst hv'
      have hown' : w'.ownsRow W3.heap.size 28 3 (.slice A' (p.loans ++ [(⟨l1, l2, l3⟩ : Loan)]).length c') (p.loans ++ [(⟨l1, l2, l3⟩ : Loan)]).length ((p.loans ++ [(⟨l1, l2, l3⟩ : Loan)]).flatMap loanCells) := hown'
      obtain ⟨nl, hnl⟩ : ∃ nl, nl = (p.loans ++ [(⟨l1, l2, l3⟩ : Loan)]).length := ⟨_, rfl⟩
      have hnl2 : nl ≤ 10000 := by rw [hnl]; simp; omega
      rw [← hnl] at hown' ⊢
      clear hnl
      have hq6 : QCut W3 gq (w'.setCell ⟨gq, 2, none⟩ (.slice A' nl c')) := by
        have hne1 := own_blk_ne o1 jg (by decide)
        have hne2 := own_blk_ne o2 jg (by decide)
        have hne4 := own_blk_ne o4 jg (by decide)
        have hne3 := own_blk_ne hown' jg (by decide)
        exact ⟨Below.setCell hB1 (p := ⟨gq, 2, none⟩) lgq _, _, _, ⟨A', nl, c'⟩, _, ⟨p.has, p.used, p.loans ++ [(⟨l1, l2, l3⟩ : Loan)], p.cents⟩, jg.set_ 2 _, ⟨own_set o1 (p := ⟨gq, 2, none⟩) hne1 _, own_set o2 (p := ⟨gq, 2, none⟩) hne2 _, own_set hown' (p := ⟨gq, 2, none⟩) hne3 _, own_set o4 (p := ⟨gq, 2, none⟩) hne4 _, HPO.out.n1, HPO.out.n2, by show nl ≤ 1099511627776; omega, HPO.out.n4⟩⟩
      have HQ6 := Lib.hid hq6
      have qd := jg.cell 2
      have f2 := jg.frozen 2
      clear hq6 o1 o2 o4 hB1 hown' hg hat jg
      go_wp2_with fail
      go_meet
      exact HQ6.out
    · have t0 : (k4 == 0) = false := by rw [e4]; rfl
      have t1 : (k4 == 1) = true := by rw [e4]; rfl
      clear e4
      have hcf : ∀ W', Ext W5 W' → W'.cell? ⟨ua, k5, none⟩ = some (.int .i64 (p.has.getD k5 0)) ∧ W'.frozen? ⟨ua, k5, none⟩ = false := fun W' hx => own_cell (HPO.out.ext hx).o1 lk5
      have HCF := Lib.hid hcf
      clear hcf
      go_wp2_with fail
      refine wp_region_obl 6 (fun ix vals v w1 => match ix with | 0 => v = .pointer (some ⟨gq, 0, none⟩) | 1 => v = .slice (some ⟨ua, 0, none⟩) 16 q1c | 2 => v = .int .i64 x2 | 3 => v = .int .i64 (k5 : Int) | 4 => v = .int .i64 x1 | _ => v = .pointer (some ⟨ua, k5, none⟩)) (by kernel_rfl) (by kernel_rfl) ?_ ?_ ?_ ?_
      · intro ix vals v w1 w2 hi hr hx
        match ix, hr with
        | 0, hr => exact hr
        | 1, hr => exact hr
        | 2, hr => exact hr
        | 3, hr => exact hr
        | 4, hr => exact hr
        | (kx + 5), hr => exact hr
      · intro ix vals vals_ v w1 hi hv hr
        exact hr
      · refine ⟨?_, ?_, ?_, ?_, ?_, ?_, trivial⟩
        · intro vals w1 hx hd ha
          clear hd ha
          simp only [Lf]
          have qc0 := ext_cell hx qc0
          go_wp2
          exact ⟨rfl, Ext.refl _, rfl⟩
        · intro vals w1 hx hd ha
          have e0 : vals 0 = .pointer (some ⟨gq, 0, none⟩) := hd 0 (by decide)
          clear hd ha
          simp only [Lf, dstAt, Act.put, List.getElem?_toArray, List.getElem?_cons_zero, Option.bind_some, List.setIfInBounds_toArray, List.set_cons_zero, List.set_cons_succ]
          simp only [e0]
          clear e0
          have qc0 := ext_cell hx qc0
          go_wp2
          exact ⟨rfl, Ext.refl _, rfl⟩
        · intro vals w1 hx hd ha
          clear hd ha
          simp only [Lf, dstAt, Act.put, List.getElem?_toArray, List.getElem?_cons_zero, List.getElem?_cons_succ, Option.bind_some, List.setIfInBounds_toArray, List.set_cons_zero, List.set_cons_succ]
          have qc0 := ext_cell hx qc0
          go_wp2
          exact ⟨rfl, Ext.refl _, rfl⟩
        · intro vals w1 hx hd ha
          have e2 : vals 2 = .int .i64 x2 := hd 2 (by decide)
          clear hd ha
          simp only [Lf, dstAt, Act.put, List.getElem?_toArray, List.getElem?_cons_zero, List.getElem?_cons_succ, Option.bind_some, List.setIfInBounds_toArray, List.set_cons_zero, List.set_cons_succ]
          have qc0 := ext_cell hx qc0
          simp only [e2]
          clear e2
          go_wp2_with fail
          refine (lpick_any _ _ _ (by omega) (by omega) (by omega) (by omega)).mono ?_
          rintro e w2 ⟨rfl, rfl⟩
          go_wp2
          exact ⟨rfl, Ext.refl _, by rw [← HK5.out]; rfl⟩
        · intro vals w1 hx hd ha
          clear hd ha
          simp only [Lf, dstAt, Act.put, List.getElem?_toArray, List.getElem?_cons_zero, List.getElem?_cons_succ, Option.bind_some, List.setIfInBounds_toArray, List.set_cons_zero, List.set_cons_succ]
          have qc0 := ext_cell hx qc0
          go_wp2
          exact ⟨rfl, Ext.refl _, rfl⟩
        · intro vals w1 hx hd ha
          have e0 : vals 0 = .pointer (some ⟨gq, 0, none⟩) := hd 0 (by decide)
          have e1 : vals 1 = .slice (some ⟨ua, 0, none⟩) 16 q1c := hd 1 (by decide)
          have e2 : vals 2 = .int .i64 x2 := hd 2 (by decide)
          have e3 : vals 3 = .int .i64 (k5 : Int) := hd 3 (by decide)
          have e4 : vals 4 = .int .i64 x1 := hd 4 (by decide)
          clear hd ha
          simp only [Lf, dstAt, Act.put, List.getElem?_toArray, List.getElem?_cons_zero, List.getElem?_cons_succ, Option.bind_some, List.setIfInBounds_toArray, List.set_cons_zero, List.set_cons_succ]
          simp only [e0, e1, e2, e3, e4]
          clear e0 e1 e2 e3 e4
          have qc0 := ext_cell hx qc0
          go_wp2
          exact ⟨rfl, Ext.refl _, rfl⟩
      intro vals w6 hx hf
      have e4 : vals 4 = .int .i64 x1 := hf 4 (by omega)
      have e5 : vals 5 = .pointer (some ⟨ua, k5, none⟩) := hf 5 (by omega)
      clear hf qc0 qc1 qc2 qc3
      have hx := hx.undrew
      obtain ⟨z1, z2⟩ := HCF.out w6 hx
      refine tail1 6 _ (by kernel_rfl) (by kernel_rfl) rfl ?_
      simp only [Lf, dstAt, Act.put, List.getElem?_toArray, List.getElem?_cons_zero, List.getElem?_cons_succ, Option.bind_some, List.setIfInBounds_toArray, List.set_cons_zero, List.set_cons_succ]
      rw [e4, e5]
      clear e4 e5
      have hq6 : QCut W3 gq (w6.setCell ⟨ua, k5, none⟩ (.int .i64 x1)) := by
        have ho := HPO.out.ext hx
        have hj := JJ.out.ext hx
        obtain ⟨cur, hbk⟩ := own_to_blk ho.o1
        exact ⟨Below.setCell (HX4.out.trans hx) (p := ⟨ua, k5, none⟩) (own_lt ho.o1).1 _, _, _, _, _, _, hj.far (p := ⟨ua, k5, none⟩) (hj.ne_ hbk (by decide)) _, own_w1 ho dab dad lk5 x1⟩
      have HQ6 := Lib.hid hq6
      clear hq6
      go_wp2_with fail
      go_meet
      exact HQ6.out
    · have t0 : (k4 == 0) = false := by rw [e4]; rfl
      have t1 : (k4 == 1) = false := by rw [e4]; rfl
      have t2 : (k4 == 2) = true := by rw [e4]; rfl
      clear e4
      have hcf : ∀ W', Ext W5 W' → W'.cell? ⟨ub, k5, none⟩ = some (.int .i64 (p.used.getD k5 0)) ∧ W'.frozen? ⟨ub, k5, none⟩ = false := fun W' hx => own_cell (HPO.out.ext hx).o2 lk5
      have HCF := Lib.hid hcf
      clear hcf
      go_wp2_with fail
      refine wp_region_obl 6 (fun ix vals v w1 => match ix with | 0 => v = .pointer (some ⟨gq, 1, none⟩) | 1 => v = .slice (some ⟨ub, 0, none⟩) 16 q2c | 2 => v = .int .i64 x2 | 3 => v = .int .i64 (k5 : Int) | 4 => v = .int .i64 x1 | _ => v = .pointer (some ⟨ub, k5, none⟩)) (by kernel_rfl) (by kernel_rfl) ?_ ?_ ?_ ?_
      · intro ix vals v w1 w2 hi hr hx
        match ix, hr with
        | 0, hr => exact hr
        | 1, hr => exact hr
        | 2, hr => exact hr
        | 3, hr => exact hr
        | 4, hr => exact hr
        | (kx + 5), hr => exact hr
      · intro ix vals vals_ v w1 hi hv hr
        exact hr
      · refine ⟨?_, ?_, ?_, ?_, ?_, ?_, trivial⟩
        · intro vals w1 hx hd ha
          clear hd ha
          simp only [Lf]
          have qc1 := ext_cell hx qc1
          go_wp2
          exact ⟨rfl, Ext.refl _, rfl⟩
        · intro vals w1 hx hd ha
          have e0 : vals 0 = .pointer (some ⟨gq, 1, none⟩) := hd 0 (by decide)
          clear hd ha
          simp only [Lf, dstAt, Act.put, List.getElem?_toArray, List.getElem?_cons_zero, Option.bind_some, List.setIfInBounds_toArray, List.set_cons_zero, List.set_cons_succ]
          simp only [e0]
          clear e0
          have qc1 := ext_cell hx qc1
          go_wp2
          exact ⟨rfl, Ext.refl _, rfl⟩
        · intro vals w1 hx hd ha
          clear hd ha
          simp only [Lf, dstAt, Act.put, List.getElem?_toArray, List.getElem?_cons_zero, List.getElem?_cons_succ, Option.bind_some, List.setIfInBounds_toArray, List.set_cons_zero, List.set_cons_succ]
          have qc1 := ext_cell hx qc1
          go_wp2
          exact ⟨rfl, Ext.refl _, rfl⟩
        · intro vals w1 hx hd ha
          have e2 : vals 2 = .int .i64 x2 := hd 2 (by decide)
          clear hd ha
          simp only [Lf, dstAt, Act.put, List.getElem?_toArray, List.getElem?_cons_zero, List.getElem?_cons_succ, Option.bind_some, List.setIfInBounds_toArray, List.set_cons_zero, List.set_cons_succ]
          have qc1 := ext_cell hx qc1
          simp only [e2]
          clear e2
          go_wp2_with fail
          refine (lpick_any _ _ _ (by omega) (by omega) (by omega) (by omega)).mono ?_
          rintro e w2 ⟨rfl, rfl⟩
          go_wp2
          exact ⟨rfl, Ext.refl _, by rw [← HK5.out]; rfl⟩
        · intro vals w1 hx hd ha
          clear hd ha
          simp only [Lf, dstAt, Act.put, List.getElem?_toArray, List.getElem?_cons_zero, List.getElem?_cons_succ, Option.bind_some, List.setIfInBounds_toArray, List.set_cons_zero, List.set_cons_succ]
          have qc1 := ext_cell hx qc1
          go_wp2
          exact ⟨rfl, Ext.refl _, rfl⟩
        · intro vals w1 hx hd ha
          have e0 : vals 0 = .pointer (some ⟨gq, 1, none⟩) := hd 0 (by decide)
          have e1 : vals 1 = .slice (some ⟨ub, 0, none⟩) 16 q2c := hd 1 (by decide)
          have e2 : vals 2 = .int .i64 x2 := hd 2 (by decide)
          have e3 : vals 3 = .int .i64 (k5 : Int) := hd 3 (by decide)
          have e4 : vals 4 = .int .i64 x1 := hd 4 (by decide)
          clear hd ha
          simp only [Lf, dstAt, Act.put, List.getElem?_toArray, List.getElem?_cons_zero, List.getElem?_cons_succ, Option.bind_some, List.setIfInBounds_toArray, List.set_cons_zero, List.set_cons_succ]
          simp only [e0, e1, e2, e3, e4]
          clear e0 e1 e2 e3 e4
          have qc1 := ext_cell hx qc1
          go_wp2
          exact ⟨rfl, Ext.refl _, rfl⟩
      intro vals w6 hx hf
      have e4 : vals 4 = .int .i64 x1 := hf 4 (by omega)
      have e5 : vals 5 = .pointer (some ⟨ub, k5, none⟩) := hf 5 (by omega)
      clear hf qc0 qc1 qc2 qc3
      have hx := hx.undrew
      obtain ⟨z1, z2⟩ := HCF.out w6 hx
      refine tail1 6 _ (by kernel_rfl) (by kernel_rfl) rfl ?_
      simp only [Lf, dstAt, Act.put, List.getElem?_toArray, List.getElem?_cons_zero, List.getElem?_cons_succ, Option.bind_some, List.setIfInBounds_toArray, List.set_cons_zero, List.set_cons_succ]
      rw [e4, e5]
      clear e4 e5
      have hq6 : QCut W3 gq (w6.setCell ⟨ub, k5, none⟩ (.int .i64 x1)) := by
        have ho := HPO.out.ext hx
        have hj := JJ.out.ext hx
        obtain ⟨cur, hbk⟩ := own_to_blk ho.o2
        exact ⟨Below.setCell (HX4.out.trans hx) (p := ⟨ub, k5, none⟩) (own_lt ho.o2).1 _, _, _, _, _, _, hj.far (p := ⟨ub, k5, none⟩) (hj.ne_ hbk (by decide)) _, own_w2 ho dab dbd lk5 x1⟩
      have HQ6 := Lib.hid hq6
      clear hq6
      go_wp2_with fail
      go_meet
      exact HQ6.out
    · have t0 : (k4 == 0) = false := by rw [e4]; rfl
      have t1 : (k4 == 1) = false := by rw [e4]; rfl
      have t2 : (k4 == 2) = false := by rw [e4]; rfl
      have t3 : (k4 == 3) = true := by rw [e4]; rfl
      clear e4
      have hcf : ∀ W', Ext W5 W' → W'.cell? ⟨ud, k5, none⟩ = some (.int .i64 (p.cents.getD k5 0)) ∧ W'.frozen? ⟨ud, k5, none⟩ = false := fun W' hx => own_cell (HPO.out.ext hx).o4 lk5
      have HCF := Lib.hid hcf
      clear hcf
      go_wp2_with fail
      refine wp_region_obl 6 (fun ix vals v w1 => match ix with | 0 => v = .pointer (some ⟨gq, 3, none⟩) | 1 => v = .slice (some ⟨ud, 0, none⟩) 16 q4c | 2 => v = .int .i64 x2 | 3 => v = .int .i64 (k5 : Int) | 4 => v = .int .i64 x1 | _ => v = .pointer (some ⟨ud, k5, none⟩)) (by kernel_rfl) (by kernel_rfl) ?_ ?_ ?_ ?_
      · intro ix vals v w1 w2 hi hr hx
        match ix, hr with
        | 0, hr => exact hr
        | 1, hr => exact hr
        | 2, hr => exact hr
        | 3, hr => exact hr
        | 4, hr => exact hr
        | (kx + 5), hr => exact hr
      · intro ix vals vals_ v w1 hi hv hr
        exact hr
      · refine ⟨?_, ?_, ?_, ?_, ?_, ?_, trivial⟩
        · intro vals w1 hx hd ha
          clear hd ha
          simp only [Lf]
          have qc3 := ext_cell hx qc3
          go_wp2
          exact ⟨rfl, Ext.refl _, rfl⟩
        · intro vals w1 hx hd ha
          have e0 : vals 0 = .pointer (some ⟨gq, 3, none⟩) := hd 0 (by decide)
          clear hd ha
          simp only [Lf, dstAt, Act.put, List.getElem?_toArray, List.getElem?_cons_zero, Option.bind_some, List.setIfInBounds_toArray, List.set_cons_zero, List.set_cons_succ]
          simp only [e0]
          clear e0
          have qc3 := ext_cell hx qc3
          go_wp2
          exact ⟨rfl, Ext.refl _, rfl⟩
        · intro vals w1 hx hd ha
          clear hd ha
          simp only [Lf, dstAt, Act.put, List.getElem?_toArray, List.getElem?_cons_zero, List.getElem?_cons_succ, Option.bind_some, List.setIfInBounds_toArray, List.set_cons_zero, List.set_cons_succ]
          have qc3 := ext_cell hx qc3
          go_wp2
          exact ⟨rfl, Ext.refl _, rfl⟩
        · intro vals w1 hx hd ha
          have e2 : vals 2 = .int .i64 x2 := hd 2 (by decide)
          clear hd ha
          simp only [Lf, dstAt, Act.put, List.getElem?_toArray, List.getElem?_cons_zero, List.getElem?_cons_succ, Option.bind_some, List.setIfInBounds_toArray, List.set_cons_zero, List.set_cons_succ]
          have qc3 := ext_cell hx qc3
          simp only [e2]
          clear e2
          go_wp2_with fail
          refine (lpick_any _ _ _ (by omega) (by omega) (by omega) (by omega)).mono ?_
          rintro e w2 ⟨rfl, rfl⟩
          go_wp2
          exact ⟨rfl, Ext.refl _, by rw [← HK5.out]; rfl⟩
        · intro vals w1 hx hd ha
          clear hd ha
          simp only [Lf, dstAt, Act.put, List.getElem?_toArray, List.getElem?_cons_zero, List.getElem?_cons_succ, Option.bind_some, List.setIfInBounds_toArray, List.set_cons_zero, List.set_cons_succ]
          have qc3 := ext_cell hx qc3
          go_wp2
          exact ⟨rfl, Ext.refl _, rfl⟩
        · intro vals w1 hx hd ha
          have e0 : vals 0 = .pointer (some ⟨gq, 3, none⟩) := hd 0 (by decide)
          have e1 : vals 1 = .slice (some ⟨ud, 0, none⟩) 16 q4c := hd 1 (by decide)
          have e2 : vals 2 = .int .i64 x2 := hd 2 (by decide)
          have e3 : vals 3 = .int .i64 (k5 : Int) := hd 3 (by decide)
          have e4 : vals 4 = .int .i64 x1 := hd 4 (by decide)
          clear hd ha
          simp only [Lf, dstAt, Act.put, List.getElem?_toArray, List.getElem?_cons_zero, List.getElem?_cons_succ, Option.bind_some, List.setIfInBounds_toArray, List.set_cons_zero, List.set_cons_succ]
          simp only [e0, e1, e2, e3, e4]
          clear e0 e1 e2 e3 e4
          have qc3 := ext_cell hx qc3
          go_wp2
          exact ⟨rfl, Ext.refl _, rfl⟩
      intro vals w6 hx hf
      have e4 : vals 4 = .int .i64 x1 := hf 4 (by omega)
      have e5 : vals 5 = .pointer (some ⟨ud, k5, none⟩) := hf 5 (by omega)
      clear hf qc0 qc1 qc2 qc3
      have hx := hx.undrew
      obtain ⟨z1, z2⟩ := HCF.out w6 hx
      refine tail1 6 _ (by kernel_rfl) (by kernel_rfl) rfl ?_
      simp only [Lf, dstAt, Act.put, List.getElem?_toArray, List.getElem?_cons_zero, List.getElem?_cons_succ, Option.bind_some, List.setIfInBounds_toArray, List.set_cons_zero, List.set_cons_succ]
      rw [e4, e5]
      clear e4 e5
      have hq6 : QCut W3 gq (w6.setCell ⟨ud, k5, none⟩ (.int .i64 x1)) := by
        have ho := HPO.out.ext hx
        have hj := JJ.out.ext hx
        obtain ⟨cur, hbk⟩ := own_to_blk ho.o4
        exact ⟨Below.setCell (HX4.out.trans hx) (p := ⟨ud, k5, none⟩) (own_lt ho.o4).1 _, _, _, _, _, _, hj.far (p := ⟨ud, k5, none⟩) (hj.ne_ hbk (by decide)) _, own_w4 ho dad dbd lk5 x1⟩
      have HQ6 := Lib.hid hq6
      clear hq6
      go_wp2_with fail
      go_meet
      exact HQ6.out
  case rest =>
    obtain ⟨hxc, ⟨m1A, m1n, m1c⟩, ⟨m2A, m2n, m2c⟩, ⟨m3A, m3n, m3c⟩, ⟨m4A, m4n, m4c⟩, qq, vq⟩ := hcut
    have hB := hB.ext hxc
    have j1 := j1.ext hxc
    have j2 := j2.ext hxc
    have j3 := j3.ext hxc
    have vp := vp.ext hxc
    clear HPO HL3 JJ HX4 HK5 hxc HM HS HI HQ h h2 l3b
    have k0 := j3.cell 0
    have k1 := j3.cell 1
    have k2 := j3.cell 2
    have k3 := j3.cell 3
    have k4 := j3.cell 4
    have f0 := j3.frozen 0
    go_upto_region 15 with (go_at_call 12; refine (lpick_any _ _ _ (by omega) (by omega) (by omega) (by omega)).mono ?_; rintro e w9 ⟨rfl, rfl⟩)
    generalize pickI o0 5 = ok
    have j3n := j3.set_ 0 (.int .i64 ok)
    have vp := vp.setD (i := 0) j3 (.int .i64 ok)
    have vq := vq.setD (i := 0) j3 (.int .i64 ok)
    have j1 := j1.far (p := ⟨g3, 0, none⟩) (j1.ne_ j3 (by decide)) (.int .i64 ok)
    have hB : Ext w (wc.setCell ⟨g3, 0, none⟩ (.int .i64 ok)) := Below.setCell hB (p := ⟨g3, 0, none⟩) lg3 _
    have j3n : Blk (wc.setCell ⟨g3, 0, none⟩ (.int .i64 ok)) g3 30 #[.int .i64 ok, .int .i64 o1, .int .i64 o2, .int .i64 o3, .int .i64 o4] := j3n
    generalize wc.setCell ⟨g3, 0, none⟩ (.int .i64 ok) = W14 at j3n vp vq j1 hB ⊢
    clear j3 j2 k0 k1 k2 k3 k4 f0
    have j3 := j3n
    clear j3n
    obtain ⟨m8, hm8⟩ : ∃ m, m = min n8 6 := ⟨_, rfl⟩
    have lm1 : m8 ≤ n8 := by omega
    have lm2 : m8 ≤ 6 := by omega
    have HM8 := Lib.hid hm8
    clear hm8
    have h8c := RQ_cut (h8.to hB) m8 lm1 (by omega)
    have hn8 : n8 ≤ c8 := h8.2.1
    have hc8 : c8 ≤ 9223372036854775807 := by have h9 : c8 ≤ maxLen := h8.2.2.1; unfold maxLen at h9; exact h9
    have hq8 : ∀ x ∈ ys.take m8, x.ok := fun x hx => HQ8.out x (List.mem_of_mem_take hx)
    have H8 := Lib.hid h8c
    have HQ9 := Lib.hid hq8
    clear h8c hq8
    have hlen8 : (deedsOf (ys.take m8)).length ≤ 6 := by simp [deedsOf]; omega
    have hde := deeds_any A8 m8 c8 (ys.take m8)
    generalize deedsOf (ys.take m8) = ds at hlen8 hde
    have HDE := Lib.hid hde
    clear hde
    have k0 := j3.cell 0
    have k1 := j3.cell 1
    have k2 := j3.cell 2
    have k3 := j3.cell 3
    have k4 := j3.cell 4
    refine wp_region_obl 8 (fun ix vals v w1 => match ix with | 0 => v = .slice A8 n8 c8 | 1 => v = .slice A8 n8 c8 | 2 => v = .int .i64 (n8 : Int) | 3 => v = .int .i64 (m8 : Int) | 4 => v = .slice A8 m8 c8 | 5 => DeedRow w1 W14.heap.size v ds | 6 => v = .agg #[.int .i64 ok, .int .i64 o1, .int .i64 o2, .int .i64 o3, .int .i64 o4] | _ => ∃ g, v = .slice (some ⟨g, 0, none⟩) 1 1 ∧ W14.heap.size ≤ g ∧ Blk w1 g 30 #[.int .i64 ok, .int .i64 o1, .int .i64 o2, .int .i64 o3, .int .i64 o4]) (by kernel_rfl) (by kernel_rfl) ?_ ?_ ?_ ?_
    · intro ix vals v w1 w2 hi hr hx
      match ix, hr with
      | 0, hr => exact hr
      | 1, hr => exact hr
      | 2, hr => exact hr
      | 3, hr => exact hr
      | 4, hr => exact hr
      | 5, hr => exact hr.ext hx
      | 6, hr => exact hr
      | (kx + 7), hr => obtain ⟨g, h1, h2, h3⟩ := hr; exact ⟨g, h1, h2, h3.ext hx⟩
    · intro ix vals vals_ v w1 hi hv hr
      exact hr
    · refine ⟨?_, ?_, ?_, ?_, ?_, ?_, ?_, ?_, trivial⟩
      · intro vals w1 hx hd ha
        clear hd ha
        simp only [Lf]
        have k0 := ext_cell hx k0
        have k1 := ext_cell hx k1
        have k2 := ext_cell hx k2
        have k3 := ext_cell hx k3
        have k4 := ext_cell hx k4
        go_wp2
        exact ⟨rfl, Ext.refl _, rfl⟩
      · intro vals w1 hx hd ha
        clear hd ha
        simp only [Lf, dstAt, Act.put, List.getElem?_toArray, List.getElem?_cons_zero, Option.bind_some, List.setIfInBounds_toArray, List.set_cons_zero, List.set_cons_succ]
        have k0 := ext_cell hx k0
        have k1 := ext_cell hx k1
        have k2 := ext_cell hx k2
        have k3 := ext_cell hx k3
        have k4 := ext_cell hx k4
        go_wp2
        exact ⟨rfl, Ext.refl _, rfl⟩
      · intro vals w1 hx hd ha
        have e1 : vals 1 = .slice A8 n8 c8 := hd 1 (by decide)
        clear hd ha
        simp only [Lf, dstAt, Act.put, List.getElem?_toArray, List.getElem?_cons_zero, List.getElem?_cons_succ, Option.bind_some, List.setIfInBounds_toArray, List.set_cons_zero, List.set_cons_succ]
        simp only [e1]
        clear e1
        have k0 := ext_cell hx k0
        have k1 := ext_cell hx k1
        have k2 := ext_cell hx k2
        have k3 := ext_cell hx k3
        have k4 := ext_cell hx k4
        go_wp2
        exact ⟨rfl, Ext.refl _, rfl⟩
      · intro vals w1 hx hd ha
        have e2 : vals 2 = .int .i64 (n8 : Int) := hd 2 (by decide)
        clear hd ha
        simp only [Lf, dstAt, Act.put, List.getElem?_toArray, List.getElem?_cons_zero, List.getElem?_cons_succ, Option.bind_some, List.setIfInBounds_toArray, List.set_cons_zero, List.set_cons_succ]
        have k0 := ext_cell hx k0
        have k1 := ext_cell hx k1
        have k2 := ext_cell hx k2
        have k3 := ext_cell hx k3
        have k4 := ext_cell hx k4
        simp only [e2]
        clear e2
        rcases Nat.lt_or_ge n8 6 with hm | hm
        · have e : m8 = n8 := (by rw [HM8.out]; omega); have hm2 : (n8 : Int) < 6 := (by omega); go_wp2; exact ⟨rfl, Ext.refl _, by first | rfl | (rw [e]; rfl)⟩
        · have e : m8 = 6 := (by rw [HM8.out]; omega); have hm2 : (6 : Int) ≤ n8 := (by omega); go_wp2; all_goals exact ⟨rfl, Ext.refl _, by first | rfl | (rw [e]; rfl) | (obtain rfl : n8 = 6 := (by omega); first | rfl | (rw [e]; rfl))⟩
      · intro vals w1 hx hd ha
        have e0 : vals 0 = .slice A8 n8 c8 := hd 0 (by decide)
        have e3 : vals 3 = .int .i64 (m8 : Int) := hd 3 (by decide)
        clear hd ha
        simp only [Lf, dstAt, Act.put, List.getElem?_toArray, List.getElem?_cons_zero, List.getElem?_cons_succ, Option.bind_some, List.setIfInBounds_toArray, List.set_cons_zero, List.set_cons_succ]
        simp only [e0, e3]
        clear e0 e3
        have k0 := ext_cell hx k0
        have k1 := ext_cell hx k1
        have k2 := ext_cell hx k2
        have k3 := ext_cell hx k3
        have k4 := ext_cell hx k4
        go_wp2
        exact ⟨rfl, Ext.refl _, rfl⟩
      · intro vals w1 hx hd ha
        have e4 : vals 4 = .slice A8 m8 c8 := hd 4 (by decide)
        clear hd ha
        simp only [Lf, dstAt, Act.put, List.getElem?_toArray, List.getElem?_cons_zero, List.getElem?_cons_succ, Option.bind_some, List.setIfInBounds_toArray, List.set_cons_zero, List.set_cons_succ]
        have k0 := ext_cell hx k0
        have k1 := ext_cell hx k1
        have k2 := ext_cell hx k2
        have k3 := ext_cell hx k3
        have k4 := ext_cell hx k4
        simp only [e4]
        clear e4
        have hz := Below.size hx.undrew
        go_wp2_with fail
        refine (HDE.out w1 (H8.out.to hx.undrew) HQ9.out).mono ?_
        rintro e w2 ⟨v, rfl, hb, hrow⟩
        go_wp2
        exact ⟨rfl, hb, own_base hrow (by omega)⟩
      · intro vals w1 hx hd ha
        clear hd ha
        simp only [Lf, dstAt, Act.put, List.getElem?_toArray, List.getElem?_cons_zero, List.getElem?_cons_succ, Option.bind_some, List.setIfInBounds_toArray, List.set_cons_zero, List.set_cons_succ]
        have k0 := ext_cell hx k0
        have k1 := ext_cell hx k1
        have k2 := ext_cell hx k2
        have k3 := ext_cell hx k3
        have k4 := ext_cell hx k4
        go_wp2
        exact ⟨rfl, Ext.refl _, rfl⟩
      · intro vals w1 hx hd ha
        have e6 : vals 6 = .agg #[.int .i64 ok, .int .i64 o1, .int .i64 o2, .int .i64 o3, .int .i64 o4] := hd 6 (by decide)
        clear hd ha
        simp only [Lf, dstAt, Act.put, List.getElem?_toArray, List.getElem?_cons_zero, List.getElem?_cons_succ, Option.bind_some, List.setIfInBounds_toArray, List.set_cons_zero, List.set_cons_succ]
        have k0 := ext_cell hx k0
        have k1 := ext_cell hx k1
        have k2 := ext_cell hx k2
        have k3 := ext_cell hx k3
        have k4 := ext_cell hx k4
        simp only [e6]
        clear e6
        have hz := Below.size hx.undrew
        go_wp2
        exact ⟨rfl, (by repeat (first | exact Below.refl _ _ | assumption | refine Below.drew ?_ | refine below_drewN ?_ _ | refine bl_alloc ?_ _ | refine Below.setCell ?_ (by first | (simp; done) | omega | (simp; omega)) _ | refine bl_then ?_ (by assumption))), _, rfl, by omega, Blk.new_at _ _ rfl⟩
    intro vals w6 hx hf
    have hrow : DeedRow w6 W14.heap.size (vals 5) ds := hf 5 (by omega)
    obtain ⟨gn, e7, hgn, jn⟩ : ∃ g, vals 7 = .slice (some ⟨g, 0, none⟩) 1 1 ∧ W14.heap.size ≤ g ∧ Blk w6 g 30 #[.int .i64 ok, .int .i64 o1, .int .i64 o2, .int .i64 o3, .int .i64 o4] := hf 7 (by omega)
    clear hf k0 k1 k2 k3 k4 HM8 H8 HQ9 HDE
    have hx := hx.undrew
    have hz6 := Below.size hx
    refine tailF 8 _ _ 1 (by kernel_rfl) rfl ?_ (fun a w q => tail1 9 _ (by kernel_rfl) (by kernel_rfl) rfl q)
    simp only [Lf, dstAt, Act.put, List.getElem?_toArray, List.getElem?_cons_zero, List.getElem?_cons_succ, Option.bind_some, List.setIfInBounds_toArray, List.set_cons_zero, List.set_cons_succ]
    rw [e7]
    clear e7
    refine deed_app rfl _ _ rfl W14.heap.size _ ds rfl hrow ⟨ok, o1, o2, o3, o4⟩ gn rfl jn (by omega) hz6 ?_
    intro v' W15 hown' hg hat
    have hx : Ext W14 W15 := Below.grown (B := W14.heap.size) hx hg hz6 (fun q hq => (hrow.lt q hq).1)
    have hB := hB.ext hx
    have j1 := j1.ext hx
    have j3 := j3.ext hx
    have vp := vp.ext hx
    have vq := vq.ext hx
    have hrow : DeedRow W15 0 v' (ds ++ [⟨ok, o1, o2, o3, o4⟩]) := own_base hown' (Nat.zero_le _)
    clear hx hg hat hown' jn hgn hz6
    obtain ⟨m, hmm⟩ : ∃ m, m = (ds ++ [(⟨ok, o1, o2, o3, o4⟩ : Deed)]).length := ⟨_, rfl⟩
    have hm16 : m ≤ 16 ∧ 0 < m := by rw [hmm]; simp; omega
    generalize ds ++ [(⟨ok, o1, o2, o3, o4⟩ : Deed)] = dd at hrow hmm
    obtain ⟨gl, cl, hv⟩ := hrow.form5 (n := m) hmm.symm hm16.2
    subst hv
    have HMM := Lib.hid hmm
    clear hmm
    go_upto_region 16 with (fail)
    have hfw := few_walk R1 R2 R3 R4 rn1 rc1 rn2 rc2 rn3 rc3 rn4 rc4
    have hfp : ∀ W, Ext w W → PoolR W W.heap.size ⟨R1, min rn1 17, rc1⟩ ⟨R2, min rn2 17, rc2⟩ ⟨R3, min rn3 8, rc3⟩ ⟨R4, min rn4 17, rc4⟩ ⟨zr1.take (min rn1 17), zr2.take (min rn2 17), lr.take (min rn3 8), zr4.take (min rn4 17)⟩ := fun W hx => ⟨RI_cut (hr1.to hx) _ (by omega) (by omega), RI_cut (hr2.to hx) _ (by omega) (by omega), RL_cut (hr3.to hx) _ (by omega) (by omega), RI_cut (hr4.to hx) _ (by omega) (by omega)⟩
    have HFW := Lib.hid (fun W => hfw W hr1.2.1 hr2.2.1 hr3.2.1 hr4.2.1 hr1.2.2 hr2.2.2 hr3.2.2 hr4.2.2)
    clear hfw
    generalize (⟨zr1.take (min rn1 17), zr2.take (min rn2 17), lr.take (min rn3 8), zr4.take (min rn4 17)⟩ : Pool) = fp at hfp
    generalize min rn1 17 = f1 at HFW hfp
    generalize min rn2 17 = f2 at HFW hfp
    generalize min rn3 8 = f3 at HFW hfp
    generalize min rn4 17 = f4 at HFW hfp
    have HFP := Lib.hid hfp
    clear hfp hr1 hr2 hr3 hr4 h8
    have vp := vp.pv
    have vq := vq.pv
    have pc0 : W15.cell? ⟨gp, 0, none⟩ = some (.slice p1A p1n p1c) := vp.blk.cell 0
    have mc0 : W15.cell? ⟨gq, 0, none⟩ = some (.slice m1A m1n m1c) := vq.blk.cell 0
    have pc1 : W15.cell? ⟨gp, 1, none⟩ = some (.slice p2A p2n p2c) := vp.blk.cell 1
    have mc1 : W15.cell? ⟨gq, 1, none⟩ = some (.slice m2A m2n m2c) := vq.blk.cell 1
    have pc2 : W15.cell? ⟨gp, 2, none⟩ = some (.slice p3A p3n p3c) := vp.blk.cell 2
    have mc2 : W15.cell? ⟨gq, 2, none⟩ = some (.slice m3A m3n m3c) := vq.blk.cell 2
    have pc3 : W15.cell? ⟨gp, 3, none⟩ = some (.slice p4A p4n p4c) := vp.blk.cell 3
    have mc3 : W15.cell? ⟨gq, 3, none⟩ = some (.slice m4A m4n m4c) := vq.blk.cell 3
    have rc_0 := j1.cell 0
    have rc_1 := j1.cell 1
    have rc_2 := j1.cell 2
    have rc_3 := j1.cell 3
    refine wp_region_obl 7 (fun ix vals v w1 => match ix with | 0 => v = .agg #[.slice p1A p1n p1c, .slice p2A p2n p2c, .slice p3A p3n p3c, .slice p4A p4n p4c] | 1 => v = .agg #[.slice m1A m1n m1c, .slice m2A m2n m2c, .slice m3A m3n m3c, .slice m4A m4n m4c] | 2 => v = .agg #[.slice R1 rn1 rc1, .slice R2 rn2 rc2, .slice R3 rn3 rc3, .slice R4 rn4 rc4] | 3 => v = .agg #[.slice R1 f1 rc1, .slice R2 f2 rc2, .slice R3 f3 rc3, .slice R4 f4 rc4] | 4 => ∃ g, v = .slice (some ⟨g, 0, none⟩) 3 3 ∧ Blk w1 g 26 #[.slice p1A p1n p1c, .slice p2A p2n p2c, .slice p3A p3n p3c, .slice p4A p4n p4c, .slice m1A m1n m1c, .slice m2A m2n m2c, .slice m3A m3n m3c, .slice m4A m4n m4c, .slice R1 f1 rc1, .slice R2 f2 rc2, .slice R3 f3 rc3, .slice R4 f4 rc4] | 5 => v = .int .i64 3 | _ => v = .int .i64 0) (by kernel_rfl) (by kernel_rfl) ?_ ?_ ?_ ?_
    · intro ix vals v w1 w2 hi hr hx
      match ix, hr with
      | 0, hr => exact hr
      | 1, hr => exact hr
      | 2, hr => exact hr
      | 3, hr => exact hr
      | 4, hr => obtain ⟨g, h1, h3⟩ := hr; exact ⟨g, h1, h3.ext hx⟩
      | 5, hr => exact hr
      | (kx + 6), hr => exact hr
    · intro ix vals vals_ v w1 hi hv hr
      exact hr
    · refine ⟨?_, ?_, ?_, ?_, ?_, ?_, ?_, trivial⟩
      · intro vals w1 hx hd ha
        clear hd ha
        simp only [Lf]
        have pc0 := ext_cell hx pc0
        have pc1 := ext_cell hx pc1
        have pc2 := ext_cell hx pc2
        have pc3 := ext_cell hx pc3
        have mc0 := ext_cell hx mc0
        have mc1 := ext_cell hx mc1
        have mc2 := ext_cell hx mc2
        have mc3 := ext_cell hx mc3
        have rc_0 := ext_cell hx rc_0
        have rc_1 := ext_cell hx rc_1
        have rc_2 := ext_cell hx rc_2
        have rc_3 := ext_cell hx rc_3
        go_wp2
        exact ⟨rfl, Ext.refl _, rfl⟩
      · intro vals w1 hx hd ha
        clear hd ha
        simp only [Lf, dstAt, Act.put, List.getElem?_toArray, List.getElem?_cons_zero, Option.bind_some, List.setIfInBounds_toArray, List.set_cons_zero, List.set_cons_succ]
        have pc0 := ext_cell hx pc0
        have pc1 := ext_cell hx pc1
        have pc2 := ext_cell hx pc2
        have pc3 := ext_cell hx pc3
        have mc0 := ext_cell hx mc0
        have mc1 := ext_cell hx mc1
        have mc2 := ext_cell hx mc2
        have mc3 := ext_cell hx mc3
        have rc_0 := ext_cell hx rc_0
        have rc_1 := ext_cell hx rc_1
        have rc_2 := ext_cell hx rc_2
        have rc_3 := ext_cell hx rc_3
        go_wp2
        exact ⟨rfl, Ext.refl _, rfl⟩
      · intro vals w1 hx hd ha
        clear hd ha
        simp only [Lf, dstAt, Act.put, List.getElem?_toArray, List.getElem?_cons_zero, List.getElem?_cons_succ, Option.bind_some, List.setIfInBounds_toArray, List.set_cons_zero, List.set_cons_succ]
        have pc0 := ext_cell hx pc0
        have pc1 := ext_cell hx pc1
        have pc2 := ext_cell hx pc2
        have pc3 := ext_cell hx pc3
        have mc0 := ext_cell hx mc0
        have mc1 := ext_cell hx mc1
        have mc2 := ext_cell hx mc2
        have mc3 := ext_cell hx mc3
        have rc_0 := ext_cell hx rc_0
        have rc_1 := ext_cell hx rc_1
        have rc_2 := ext_cell hx rc_2
        have rc_3 := ext_cell hx rc_3
        go_wp2
        exact ⟨rfl, Ext.refl _, rfl⟩
      · intro vals w1 hx hd ha
        have e2 : vals 2 = .agg #[.slice R1 rn1 rc1, .slice R2 rn2 rc2, .slice R3 rn3 rc3, .slice R4 rn4 rc4] := hd 2 (by decide)
        clear hd ha
        simp only [Lf, dstAt, Act.put, List.getElem?_toArray, List.getElem?_cons_zero, List.getElem?_cons_succ, Option.bind_some, List.setIfInBounds_toArray, List.set_cons_zero, List.set_cons_succ]
        have pc0 := ext_cell hx pc0
        have pc1 := ext_cell hx pc1
        have pc2 := ext_cell hx pc2
        have pc3 := ext_cell hx pc3
        have mc0 := ext_cell hx mc0
        have mc1 := ext_cell hx mc1
        have mc2 := ext_cell hx mc2
        have mc3 := ext_cell hx mc3
        have rc_0 := ext_cell hx rc_0
        have rc_1 := ext_cell hx rc_1
        have rc_2 := ext_cell hx rc_2
        have rc_3 := ext_cell hx rc_3
        simp only [e2]
        clear e2
        go_wp2_with fail
        refine (HFW.out w1).mono ?_
        rintro e w2 ⟨rfl, hb⟩
        go_wp2
        exact ⟨rfl, hb, rfl⟩
      · intro vals w1 hx hd ha
        have e0 : vals 0 = .agg #[.slice p1A p1n p1c, .slice p2A p2n p2c, .slice p3A p3n p3c, .slice p4A p4n p4c] := hd 0 (by decide)
        have e1 : vals 1 = .agg #[.slice m1A m1n m1c, .slice m2A m2n m2c, .slice m3A m3n m3c, .slice m4A m4n m4c] := hd 1 (by decide)
        have e3 : vals 3 = .agg #[.slice R1 f1 rc1, .slice R2 f2 rc2, .slice R3 f3 rc3, .slice R4 f4 rc4] := hd 3 (by decide)
        clear hd ha
        simp only [Lf, dstAt, Act.put, List.getElem?_toArray, List.getElem?_cons_zero, List.getElem?_cons_succ, Option.bind_some, List.setIfInBounds_toArray, List.set_cons_zero, List.set_cons_succ]
        have pc0 := ext_cell hx pc0
        have pc1 := ext_cell hx pc1
        have pc2 := ext_cell hx pc2
        have pc3 := ext_cell hx pc3
        have mc0 := ext_cell hx mc0
        have mc1 := ext_cell hx mc1
        have mc2 := ext_cell hx mc2
        have mc3 := ext_cell hx mc3
        have rc_0 := ext_cell hx rc_0
        have rc_1 := ext_cell hx rc_1
        have rc_2 := ext_cell hx rc_2
        have rc_3 := ext_cell hx rc_3
        simp only [e0]
        simp only [e1]
        simp only [e3]
        clear e0 e1 e3
        go_wp2
        exact ⟨rfl, (by repeat (first | exact Below.refl _ _ | assumption | refine Below.drew ?_ | refine below_drewN ?_ _ | refine bl_alloc ?_ _ | refine Below.setCell ?_ (by first | (simp; done) | omega | (simp; omega)) _ | refine bl_then ?_ (by assumption))), _, rfl, Blk.new_at _ _ rfl⟩
      · intro vals w1 hx hd ha
        have r4 : (fun v w1 => ∃ g, v = .slice (some ⟨g, 0, none⟩) 3 3 ∧ Blk w1 g 26 #[.slice p1A p1n p1c, .slice p2A p2n p2c, .slice p3A p3n p3c, .slice p4A p4n p4c, .slice m1A m1n m1c, .slice m2A m2n m2c, .slice m3A m3n m3c, .slice m4A m4n m4c, .slice R1 f1 rc1, .slice R2 f2 rc2, .slice R3 f3 rc3, .slice R4 f4 rc4]) (vals 4) w1 := hd 4 (by decide)
        dsimp only at r4
        clear hd ha
        simp only [Lf, dstAt, Act.put, List.getElem?_toArray, List.getElem?_cons_zero, List.getElem?_cons_succ, Option.bind_some, List.setIfInBounds_toArray, List.set_cons_zero, List.set_cons_succ]
        have pc0 := ext_cell hx pc0
        have pc1 := ext_cell hx pc1
        have pc2 := ext_cell hx pc2
        have pc3 := ext_cell hx pc3
        have mc0 := ext_cell hx mc0
        have mc1 := ext_cell hx mc1
        have mc2 := ext_cell hx mc2
        have mc3 := ext_cell hx mc3
        have rc_0 := ext_cell hx rc_0
        have rc_1 := ext_cell hx rc_1
        have rc_2 := ext_cell hx rc_2
        have rc_3 := ext_cell hx rc_3
        obtain ⟨g, e4, _⟩ := r4
        rw [e4]
        go_wp2
        exact ⟨rfl, Ext.refl _, rfl⟩
      · intro vals w1 hx hd ha
        clear hd ha
        simp only [Lf, dstAt, Act.put, List.getElem?_toArray, List.getElem?_cons_zero, List.getElem?_cons_succ, Option.bind_some, List.setIfInBounds_toArray, List.set_cons_zero, List.set_cons_succ]
        have pc0 := ext_cell hx pc0
        have pc1 := ext_cell hx pc1
        have pc2 := ext_cell hx pc2
        have pc3 := ext_cell hx pc3
        have mc0 := ext_cell hx mc0
        have mc1 := ext_cell hx mc1
        have mc2 := ext_cell hx mc2
        have mc3 := ext_cell hx mc3
        have rc_0 := ext_cell hx rc_0
        have rc_1 := ext_cell hx rc_1
        have rc_2 := ext_cell hx rc_2
        have rc_3 := ext_cell hx rc_3
        go_wp2
        exact ⟨rfl, Ext.refl _, rfl⟩
    intro vals W16 hx hf
    obtain ⟨gA, e4, jA⟩ : ∃ g, vals 4 = .slice (some ⟨g, 0, none⟩) 3 3 ∧ Blk W16 g 26 #[.slice p1A p1n p1c, .slice p2A p2n p2c, .slice p3A p3n p3c, .slice p4A p4n p4c, .slice m1A m1n m1c, .slice m2A m2n m2c, .slice m3A m3n m3c, .slice m4A m4n m4c, .slice R1 f1 rc1, .slice R2 f2 rc2, .slice R3 f3 rc3, .slice R4 f4 rc4] := hf 4 (by omega)
    have e5 : vals 5 = .int .i64 3 := hf 5 (by omega)
    have e6 : vals 6 = .int .i64 0 := hf 6 (by omega)
    clear hf pc0 pc1 pc2 pc3 mc0 mc1 mc2 mc3 rc_0 rc_1 rc_2 rc_3
    have hx := hx.undrew
    refine tail0 (by kernel_rfl) ?_
    simp only [Lf, dstAt, Act.put, List.getElem?_toArray, List.getElem?_cons_zero, List.getElem?_cons_succ, Option.bind_some, List.setIfInBounds_toArray, List.set_cons_zero, List.set_cons_succ]
    rw [e4, e5, e6]
    clear e4 e5 e6
    have hB := hB.ext hx
    have j3 := j3.ext hx
    have vp := vp.ext hx
    have vq := vq.ext hx
    have hrow := hrow.ext hx
    clear hx j1
    have hall : ∀ k, k < 3 → ArrZ W16 gA k := by
      intro k hk
      match k, hk with
      | 0, _ => exact ⟨⟨p1A, p1n, p1c⟩, ⟨p2A, p2n, p2c⟩, ⟨p3A, p3n, p3c⟩, ⟨p4A, p4n, p4c⟩, p, jA.cell 0, jA.cell 1, jA.cell 2, jA.cell 3, vp.pool⟩
      | 1, _ => exact ⟨⟨m1A, m1n, m1c⟩, ⟨m2A, m2n, m2c⟩, ⟨m3A, m3n, m3c⟩, ⟨m4A, m4n, m4c⟩, qq, jA.cell 4, jA.cell 5, jA.cell 6, jA.cell 7, vq.pool⟩
      | 2, _ => exact ⟨⟨R1, f1, rc1⟩, ⟨R2, f2, rc2⟩, ⟨R3, f3, rc3⟩, ⟨R4, f4, rc4⟩, fp, jA.cell 8, jA.cell 9, jA.cell 10, jA.cell 11, HFP.out W16 hB⟩
    have HA := Lib.hid hall
    clear hall jA vq HFP HFW
    go_wp2_with fail
    go_loopw [98] (fun i wr => ∃ k : Nat, k ≤ 3 ∧ i = .int .i64 k ∧ Ext W16 wr) (fun i _ => 3 - (intOf i).toNat)
    case atStart => exact ⟨0, by omega, rfl, Ext.refl _⟩
    case round =>
      obtain ⟨k, hk, rfl, hxr⟩ := hrel
      obtain ⟨wo, hwo⟩ : ∃ wo : World, wo = wr := ⟨_, rfl⟩
      rw [← hwo] at hxr ⊢
      clear hwo
      have hB := hB.ext hxr
      have j3 := j3.ext hxr
      have vp := vp.ext hxr
      have hrow := hrow.ext hxr
      by_cases hlt : k < 3
      · obtain ⟨⟨z1A, z1n, z1c⟩, ⟨z2A, z2n, z2c⟩, ⟨z3A, z3n, z3c⟩, ⟨z4A, z4n, z4c⟩, z, c0, c1, c2, c3, hp⟩ := HA.out k hlt
        have c0 : wo.cell? ⟨gA, k * 4, none⟩ = some (.slice z1A z1n z1c) := ext_cell hxr c0
        have c1 : wo.cell? ⟨gA, k * 4 + 1, none⟩ = some (.slice z2A z2n z2c) := ext_cell hxr c1
        have c2 : wo.cell? ⟨gA, k * 4 + 2, none⟩ = some (.slice z3A z3n z3c) := ext_cell hxr c2
        have c3 : wo.cell? ⟨gA, k * 4 + 3, none⟩ = some (.slice z4A z4n z4c) := ext_cell hxr c3
        have hp := hp.next hxr
        have hli : (k : Int) < 3 := by omega
        clear HA
        go_upto_region 19 with (fail)
        have vz := PV.new hp
        have hx : Ext wo (wo.alloc _) := bl_alloc (Below.refl _ _) (.cells #[.slice z1A z1n z1c, .slice z2A z2n z2c, .slice z3A z3n z3c, .slice z4A z4n z4c] 26)
        obtain ⟨gz, hg⟩ : ∃ g, g = wo.heap.size := ⟨_, rfl⟩
        rw [← hg] at vz ⊢
        generalize wo.alloc _ = W19 at vz hx ⊢
        have hB := hB.ext hx
        have j3 := j3.ext hx
        have vp := vp.ext hx
        have hrow := hrow.ext hx
        have hxr := hxr.ext hx
        clear hx hg hp c0 c1 c2 c3
        have hva := valid_any ⟨z1A, z1n, z1c⟩ ⟨z2A, z2n, z2c⟩ ⟨z3A, z3n, z3c⟩ ⟨z4A, z4n, z4c⟩ z
        have hvr := rvalid_any ⟨z1A, z1n, z1c⟩ ⟨z2A, z2n, z2c⟩ ⟨z3A, z3n, z3c⟩ ⟨z4A, z4n, z4c⟩ z
        have hsa := same_any ⟨z1A, z1n, z1c⟩ ⟨z2A, z2n, z2c⟩ ⟨z3A, z3n, z3c⟩ ⟨z4A, z4n, z4c⟩ ⟨p1A, p1n, p1c⟩ ⟨p2A, p2n, p2c⟩ ⟨p3A, p3n, p3c⟩ ⟨p4A, p4n, p4c⟩ z p
        have hsr := rsame_any ⟨z1A, z1n, z1c⟩ ⟨z2A, z2n, z2c⟩ ⟨z3A, z3n, z3c⟩ ⟨z4A, z4n, z4c⟩ ⟨p1A, p1n, p1c⟩ ⟨p2A, p2n, p2c⟩ ⟨p3A, p3n, p3c⟩ ⟨p4A, p4n, p4c⟩ z p
        have hta := total_any ⟨z1A, z1n, z1c⟩ ⟨z2A, z2n, z2c⟩ ⟨z3A, z3n, z3c⟩ ⟨z4A, z4n, z4c⟩ z
        have htr := rtotal_any ⟨z1A, z1n, z1c⟩ ⟨z2A, z2n, z2c⟩ ⟨z3A, z3n, z3c⟩ ⟨z4A, z4n, z4c⟩ z
        generalize validB z = vb at hva hvr
        generalize sameB z p = sb at hsa hsr
        generalize totalP z = tz at hta htr
        have Hva := Lib.hid hva
        have Hvr := Lib.hid hvr
        have Hsa := Lib.hid hsa
        have Hsr := Lib.hid hsr
        have Hta := Lib.hid hta
        have Htr := Lib.hid htr
        clear hva hvr hsa hsr hta htr
        have zc0 : W19.cell? ⟨gz, 0, none⟩ = some (.slice z1A z1n z1c) := vz.blk.cell 0
        have zc1 : W19.cell? ⟨gz, 1, none⟩ = some (.slice z2A z2n z2c) := vz.blk.cell 1
        have zc2 : W19.cell? ⟨gz, 2, none⟩ = some (.slice z3A z3n z3c) := vz.blk.cell 2
        have zc3 : W19.cell? ⟨gz, 3, none⟩ = some (.slice z4A z4n z4c) := vz.blk.cell 3
        have pc0 : W19.cell? ⟨gp, 0, none⟩ = some (.slice p1A p1n p1c) := vp.blk.cell 0
        have pc1 : W19.cell? ⟨gp, 1, none⟩ = some (.slice p2A p2n p2c) := vp.blk.cell 1
        have pc2 : W19.cell? ⟨gp, 2, none⟩ = some (.slice p3A p3n p3c) := vp.blk.cell 2
        have pc3 : W19.cell? ⟨gp, 3, none⟩ = some (.slice p4A p4n p4c) := vp.blk.cell 3
        refine wp_region_obl 21 (fun ix vals v w1 => match ix with | 0 => v = .agg #[.slice z1A z1n z1c, .slice z2A z2n z2c, .slice z3A z3n z3c, .slice z4A z4n z4c] | 1 => v = .bool vb | 2 => v = .agg #[.slice z1A z1n z1c, .slice z2A z2n z2c, .slice z3A z3n z3c, .slice z4A z4n z4c] | 3 => v = .bool vb | 4 => v = .bool false | 5 => v = .bool false | 6 => v = .agg #[.slice z1A z1n z1c, .slice z2A z2n z2c, .slice z3A z3n z3c, .slice z4A z4n z4c] | 7 => v = .agg #[.slice p1A p1n p1c, .slice p2A p2n p2c, .slice p3A p3n p3c, .slice p4A p4n p4c] | 8 => v = .bool sb | 9 => v = .agg #[.slice z1A z1n z1c, .slice z2A z2n z2c, .slice z3A z3n z3c, .slice z4A z4n z4c] | 10 => v = .agg #[.slice p1A p1n p1c, .slice p2A p2n p2c, .slice p3A p3n p3c, .slice p4A p4n p4c] | 11 => v = .bool sb | 12 => v = .bool false | 13 => v = .bool false | 14 => v = .bool false | 15 => v = .agg #[.slice z1A z1n z1c, .slice z2A z2n z2c, .slice z3A z3n z3c, .slice z4A z4n z4c] | 16 => v = .int .i64 tz | 17 => v = .agg #[.slice z1A z1n z1c, .slice z2A z2n z2c, .slice z3A z3n z3c, .slice z4A z4n z4c] | 18 => v = .int .i64 tz | 19 => v = .bool false | _ => v = .bool false) (by kernel_rfl) (by kernel_rfl) ?_ ?_ ?_ ?_
        · intro ix vals v w1 w2 hi hr hx
          match ix, hr with
          | 0, hr => exact hr
          | 1, hr => exact hr
          | 2, hr => exact hr
          | 3, hr => exact hr
          | 4, hr => exact hr
          | 5, hr => exact hr
          | 6, hr => exact hr
          | 7, hr => exact hr
          | 8, hr => exact hr
          | 9, hr => exact hr
          | 10, hr => exact hr
          | 11, hr => exact hr
          | 12, hr => exact hr
          | 13, hr => exact hr
          | 14, hr => exact hr
          | 15, hr => exact hr
          | 16, hr => exact hr
          | 17, hr => exact hr
          | 18, hr => exact hr
          | 19, hr => exact hr
          | (kx + 20), hr => exact hr
        · intro ix vals vals_ v w1 hi hv hr
          exact hr
        · refine ⟨?_, ?_, ?_, ?_, ?_, ?_, ?_, ?_, ?_, ?_, ?_, ?_, ?_, ?_, ?_, ?_, ?_, ?_, ?_, ?_, ?_, trivial⟩
          · intro vals w1 hx hd ha
            clear hd ha
            simp only [Lf]
            have zc0 := ext_cell hx zc0
            have zc1 := ext_cell hx zc1
            have zc2 := ext_cell hx zc2
            have zc3 := ext_cell hx zc3
            have pc0 := ext_cell hx pc0
            have pc1 := ext_cell hx pc1
            have pc2 := ext_cell hx pc2
            have pc3 := ext_cell hx pc3
            go_wp2
            exact ⟨rfl, Ext.refl _, rfl⟩
          · intro vals w1 hx hd ha
            have e0 : vals 0 = .agg #[.slice z1A z1n z1c, .slice z2A z2n z2c, .slice z3A z3n z3c, .slice z4A z4n z4c] := hd 0 (by decide)
            clear hd ha
            simp only [Lf, dstAt, Act.put, List.getElem?_toArray, List.getElem?_cons_zero, Option.bind_some, List.setIfInBounds_toArray, List.set_cons_zero, List.set_cons_succ]
            have zc0 := ext_cell hx zc0
            have zc1 := ext_cell hx zc1
            have zc2 := ext_cell hx zc2
            have zc3 := ext_cell hx zc3
            have pc0 := ext_cell hx pc0
            have pc1 := ext_cell hx pc1
            have pc2 := ext_cell hx pc2
            have pc3 := ext_cell hx pc3
            simp only [e0]
            clear e0
            go_wp2_with fail
            refine (Hva.out w1 (vz.ext hx.undrew).pool).mono ?_
            rintro e w2 ⟨rfl, hb⟩
            go_wp2
            exact ⟨rfl, hb, rfl⟩
          · intro vals w1 hx hd ha
            clear hd ha
            simp only [Lf, dstAt, Act.put, List.getElem?_toArray, List.getElem?_cons_zero, List.getElem?_cons_succ, Option.bind_some, List.setIfInBounds_toArray, List.set_cons_zero, List.set_cons_succ]
            have zc0 := ext_cell hx zc0
            have zc1 := ext_cell hx zc1
            have zc2 := ext_cell hx zc2
            have zc3 := ext_cell hx zc3
            have pc0 := ext_cell hx pc0
            have pc1 := ext_cell hx pc1
            have pc2 := ext_cell hx pc2
            have pc3 := ext_cell hx pc3
            go_wp2
            exact ⟨rfl, Ext.refl _, rfl⟩
          · intro vals w1 hx hd ha
            have e1 : vals 1 = .bool vb := hd 1 (by decide)
            have e2 : vals 2 = .agg #[.slice z1A z1n z1c, .slice z2A z2n z2c, .slice z3A z3n z3c, .slice z4A z4n z4c] := hd 2 (by decide)
            clear hd ha
            simp only [Lf, dstAt, Act.put, List.getElem?_toArray, List.getElem?_cons_zero, List.getElem?_cons_succ, Option.bind_some, List.setIfInBounds_toArray, List.set_cons_zero, List.set_cons_succ]
            have zc0 := ext_cell hx zc0
            have zc1 := ext_cell hx zc1
            have zc2 := ext_cell hx zc2
            have zc3 := ext_cell hx zc3
            have pc0 := ext_cell hx pc0
            have pc1 := ext_cell hx pc1
            have pc2 := ext_cell hx pc2
            have pc3 := ext_cell hx pc3
            simp only [e1]
            simp only [e2]
            clear e1 e2
            go_wp2_with fail
            refine (Hvr.out w1 (vz.ext hx.undrew).pool).mono ?_
            rintro e w2 ⟨rfl, hb⟩
            go_wp2
            exact ⟨rfl, hb, rfl⟩
          · intro vals w1 hx hd ha
            have e1 : vals 1 = .bool vb := hd 1 (by decide)
            have e3 : vals 3 = .bool vb := hd 3 (by decide)
            clear hd ha
            simp only [Lf, dstAt, Act.put, List.getElem?_toArray, List.getElem?_cons_zero, List.getElem?_cons_succ, Option.bind_some, List.setIfInBounds_toArray, List.set_cons_zero, List.set_cons_succ]
            simp only [e1, e3]
            clear e1 e3
            have zc0 := ext_cell hx zc0
            have zc1 := ext_cell hx zc1
            have zc2 := ext_cell hx zc2
            have zc3 := ext_cell hx zc3
            have pc0 := ext_cell hx pc0
            have pc1 := ext_cell hx pc1
            have pc2 := ext_cell hx pc2
            have pc3 := ext_cell hx pc3
            go_wp2
            exact ⟨rfl, Ext.refl _, rfl⟩
          · intro vals w1 hx hd ha
            have e3 : vals 3 = .bool vb := hd 3 (by decide)
            have e4 : vals 4 = .bool false := hd 4 (by decide)
            clear hd ha
            simp only [Lf, dstAt, Act.put, List.getElem?_toArray, List.getElem?_cons_zero, List.getElem?_cons_succ, Option.bind_some, List.setIfInBounds_toArray, List.set_cons_zero, List.set_cons_succ]
            simp only [e3, e4]
            clear e3 e4
            have zc0 := ext_cell hx zc0
            have zc1 := ext_cell hx zc1
            have zc2 := ext_cell hx zc2
            have zc3 := ext_cell hx zc3
            have pc0 := ext_cell hx pc0
            have pc1 := ext_cell hx pc1
            have pc2 := ext_cell hx pc2
            have pc3 := ext_cell hx pc3
            go_wp2
            exact ⟨rfl, Ext.refl _, rfl⟩
          · intro vals w1 hx hd ha
            have e5 : vals 5 = .bool false := hd 5 (by decide)
            clear hd ha
            simp only [Lf, dstAt, Act.put, List.getElem?_toArray, List.getElem?_cons_zero, List.getElem?_cons_succ, Option.bind_some, List.setIfInBounds_toArray, List.set_cons_zero, List.set_cons_succ]
            simp only [e5]
            clear e5
            have zc0 := ext_cell hx zc0
            have zc1 := ext_cell hx zc1
            have zc2 := ext_cell hx zc2
            have zc3 := ext_cell hx zc3
            have pc0 := ext_cell hx pc0
            have pc1 := ext_cell hx pc1
            have pc2 := ext_cell hx pc2
            have pc3 := ext_cell hx pc3
            go_wp2
            exact ⟨rfl, Ext.refl _, rfl⟩
          · intro vals w1 hx hd ha
            have e5 : vals 5 = .bool false := hd 5 (by decide)
            clear hd ha
            simp only [Lf, dstAt, Act.put, List.getElem?_toArray, List.getElem?_cons_zero, List.getElem?_cons_succ, Option.bind_some, List.setIfInBounds_toArray, List.set_cons_zero, List.set_cons_succ]
            simp only [e5]
            clear e5
            have zc0 := ext_cell hx zc0
            have zc1 := ext_cell hx zc1
            have zc2 := ext_cell hx zc2
            have zc3 := ext_cell hx zc3
            have pc0 := ext_cell hx pc0
            have pc1 := ext_cell hx pc1
            have pc2 := ext_cell hx pc2
            have pc3 := ext_cell hx pc3
            go_wp2
            exact ⟨rfl, Ext.refl _, rfl⟩
          · intro vals w1 hx hd ha
            have e5 : vals 5 = .bool false := hd 5 (by decide)
            have e6 : vals 6 = .agg #[.slice z1A z1n z1c, .slice z2A z2n z2c, .slice z3A z3n z3c, .slice z4A z4n z4c] := hd 6 (by decide)
            have e7 : vals 7 = .agg #[.slice p1A p1n p1c, .slice p2A p2n p2c, .slice p3A p3n p3c, .slice p4A p4n p4c] := hd 7 (by decide)
            clear hd ha
            simp only [Lf, dstAt, Act.put, List.getElem?_toArray, List.getElem?_cons_zero, List.getElem?_cons_succ, Option.bind_some, List.setIfInBounds_toArray, List.set_cons_zero, List.set_cons_succ]
            have zc0 := ext_cell hx zc0
            have zc1 := ext_cell hx zc1
            have zc2 := ext_cell hx zc2
            have zc3 := ext_cell hx zc3
            have pc0 := ext_cell hx pc0
            have pc1 := ext_cell hx pc1
            have pc2 := ext_cell hx pc2
            have pc3 := ext_cell hx pc3
            simp only [e5]
            simp only [e6]
            simp only [e7]
            clear e5 e6 e7
            go_wp2_with fail
            refine (Hsa.out w1 (vz.ext hx.undrew).pool (vp.ext hx.undrew).pool).mono ?_
            rintro e w2 ⟨rfl, hb⟩
            go_wp2
            exact ⟨rfl, hb, rfl⟩
          · intro vals w1 hx hd ha
            have e5 : vals 5 = .bool false := hd 5 (by decide)
            clear hd ha
            simp only [Lf, dstAt, Act.put, List.getElem?_toArray, List.getElem?_cons_zero, List.getElem?_cons_succ, Option.bind_some, List.setIfInBounds_toArray, List.set_cons_zero, List.set_cons_succ]
            simp only [e5]
            clear e5
            have zc0 := ext_cell hx zc0
            have zc1 := ext_cell hx zc1
            have zc2 := ext_cell hx zc2
            have zc3 := ext_cell hx zc3
            have pc0 := ext_cell hx pc0
            have pc1 := ext_cell hx pc1
            have pc2 := ext_cell hx pc2
            have pc3 := ext_cell hx pc3
            go_wp2
            exact ⟨rfl, Ext.refl _, rfl⟩
          · intro vals w1 hx hd ha
            have e5 : vals 5 = .bool false := hd 5 (by decide)
            clear hd ha
            simp only [Lf, dstAt, Act.put, List.getElem?_toArray, List.getElem?_cons_zero, List.getElem?_cons_succ, Option.bind_some, List.setIfInBounds_toArray, List.set_cons_zero, List.set_cons_succ]
            simp only [e5]
            clear e5
            have zc0 := ext_cell hx zc0
            have zc1 := ext_cell hx zc1
            have zc2 := ext_cell hx zc2
            have zc3 := ext_cell hx zc3
            have pc0 := ext_cell hx pc0
            have pc1 := ext_cell hx pc1
            have pc2 := ext_cell hx pc2
            have pc3 := ext_cell hx pc3
            go_wp2
            exact ⟨rfl, Ext.refl _, rfl⟩
          · intro vals w1 hx hd ha
            have e5 : vals 5 = .bool false := hd 5 (by decide)
            have e8 : vals 8 = .bool sb := hd 8 (by decide)
            have e9 : vals 9 = .agg #[.slice z1A z1n z1c, .slice z2A z2n z2c, .slice z3A z3n z3c, .slice z4A z4n z4c] := hd 9 (by decide)
            have e10 : vals 10 = .agg #[.slice p1A p1n p1c, .slice p2A p2n p2c, .slice p3A p3n p3c, .slice p4A p4n p4c] := hd 10 (by decide)
            clear hd ha
            simp only [Lf, dstAt, Act.put, List.getElem?_toArray, List.getElem?_cons_zero, List.getElem?_cons_succ, Option.bind_some, List.setIfInBounds_toArray, List.set_cons_zero, List.set_cons_succ]
            have zc0 := ext_cell hx zc0
            have zc1 := ext_cell hx zc1
            have zc2 := ext_cell hx zc2
            have zc3 := ext_cell hx zc3
            have pc0 := ext_cell hx pc0
            have pc1 := ext_cell hx pc1
            have pc2 := ext_cell hx pc2
            have pc3 := ext_cell hx pc3
            simp only [e5]
            simp only [e8]
            simp only [e9]
            simp only [e10]
            clear e5 e8 e9 e10
            go_wp2_with fail
            refine (Hsr.out w1 (vz.ext hx.undrew).pool (vp.ext hx.undrew).pool).mono ?_
            rintro e w2 ⟨rfl, hb⟩
            go_wp2
            exact ⟨rfl, hb, rfl⟩
          · intro vals w1 hx hd ha
            have e5 : vals 5 = .bool false := hd 5 (by decide)
            have e8 : vals 8 = .bool sb := hd 8 (by decide)
            have e11 : vals 11 = .bool sb := hd 11 (by decide)
            clear hd ha
            simp only [Lf, dstAt, Act.put, List.getElem?_toArray, List.getElem?_cons_zero, List.getElem?_cons_succ, Option.bind_some, List.setIfInBounds_toArray, List.set_cons_zero, List.set_cons_succ]
            simp only [e5, e8, e11]
            clear e5 e8 e11
            have zc0 := ext_cell hx zc0
            have zc1 := ext_cell hx zc1
            have zc2 := ext_cell hx zc2
            have zc3 := ext_cell hx zc3
            have pc0 := ext_cell hx pc0
            have pc1 := ext_cell hx pc1
            have pc2 := ext_cell hx pc2
            have pc3 := ext_cell hx pc3
            go_wp2
            exact ⟨rfl, Ext.refl _, rfl⟩
          · intro vals w1 hx hd ha
            have e5 : vals 5 = .bool false := hd 5 (by decide)
            have e12 : vals 12 = .bool false := hd 12 (by decide)
            clear hd ha
            simp only [Lf, dstAt, Act.put, List.getElem?_toArray, List.getElem?_cons_zero, List.getElem?_cons_succ, Option.bind_some, List.setIfInBounds_toArray, List.set_cons_zero, List.set_cons_succ]
            simp only [e5, e12]
            clear e5 e12
            have zc0 := ext_cell hx zc0
            have zc1 := ext_cell hx zc1
            have zc2 := ext_cell hx zc2
            have zc3 := ext_cell hx zc3
            have pc0 := ext_cell hx pc0
            have pc1 := ext_cell hx pc1
            have pc2 := ext_cell hx pc2
            have pc3 := ext_cell hx pc3
            go_wp2
            exact ⟨rfl, Ext.refl _, rfl⟩
          · intro vals w1 hx hd ha
            have e11 : vals 11 = .bool sb := hd 11 (by decide)
            have e13 : vals 13 = .bool false := hd 13 (by decide)
            clear hd ha
            simp only [Lf, dstAt, Act.put, List.getElem?_toArray, List.getElem?_cons_zero, List.getElem?_cons_succ, Option.bind_some, List.setIfInBounds_toArray, List.set_cons_zero, List.set_cons_succ]
            simp only [e11, e13]
            clear e11 e13
            have zc0 := ext_cell hx zc0
            have zc1 := ext_cell hx zc1
            have zc2 := ext_cell hx zc2
            have zc3 := ext_cell hx zc3
            have pc0 := ext_cell hx pc0
            have pc1 := ext_cell hx pc1
            have pc2 := ext_cell hx pc2
            have pc3 := ext_cell hx pc3
            go_wp2
            exact ⟨rfl, Ext.refl _, rfl⟩
          · intro vals w1 hx hd ha
            have e14 : vals 14 = .bool false := hd 14 (by decide)
            clear hd ha
            simp only [Lf, dstAt, Act.put, List.getElem?_toArray, List.getElem?_cons_zero, List.getElem?_cons_succ, Option.bind_some, List.setIfInBounds_toArray, List.set_cons_zero, List.set_cons_succ]
            simp only [e14]
            clear e14
            have zc0 := ext_cell hx zc0
            have zc1 := ext_cell hx zc1
            have zc2 := ext_cell hx zc2
            have zc3 := ext_cell hx zc3
            have pc0 := ext_cell hx pc0
            have pc1 := ext_cell hx pc1
            have pc2 := ext_cell hx pc2
            have pc3 := ext_cell hx pc3
            go_wp2
            exact ⟨rfl, Ext.refl _, rfl⟩
          · intro vals w1 hx hd ha
            have e14 : vals 14 = .bool false := hd 14 (by decide)
            have e15 : vals 15 = .agg #[.slice z1A z1n z1c, .slice z2A z2n z2c, .slice z3A z3n z3c, .slice z4A z4n z4c] := hd 15 (by decide)
            clear hd ha
            simp only [Lf, dstAt, Act.put, List.getElem?_toArray, List.getElem?_cons_zero, List.getElem?_cons_succ, Option.bind_some, List.setIfInBounds_toArray, List.set_cons_zero, List.set_cons_succ]
            have zc0 := ext_cell hx zc0
            have zc1 := ext_cell hx zc1
            have zc2 := ext_cell hx zc2
            have zc3 := ext_cell hx zc3
            have pc0 := ext_cell hx pc0
            have pc1 := ext_cell hx pc1
            have pc2 := ext_cell hx pc2
            have pc3 := ext_cell hx pc3
            simp only [e14]
            simp only [e15]
            clear e14 e15
            go_wp2_with fail
            refine (Hta.out w1 (vz.ext hx.undrew).pool).mono ?_
            rintro e w2 ⟨rfl, hb⟩
            go_wp2
            exact ⟨rfl, hb, rfl⟩
          · intro vals w1 hx hd ha
            have e14 : vals 14 = .bool false := hd 14 (by decide)
            clear hd ha
            simp only [Lf, dstAt, Act.put, List.getElem?_toArray, List.getElem?_cons_zero, List.getElem?_cons_succ, Option.bind_some, List.setIfInBounds_toArray, List.set_cons_zero, List.set_cons_succ]
            simp only [e14]
            clear e14
            have zc0 := ext_cell hx zc0
            have zc1 := ext_cell hx zc1
            have zc2 := ext_cell hx zc2
            have zc3 := ext_cell hx zc3
            have pc0 := ext_cell hx pc0
            have pc1 := ext_cell hx pc1
            have pc2 := ext_cell hx pc2
            have pc3 := ext_cell hx pc3
            go_wp2
            exact ⟨rfl, Ext.refl _, rfl⟩
          · intro vals w1 hx hd ha
            have e14 : vals 14 = .bool false := hd 14 (by decide)
            have e16 : vals 16 = .int .i64 tz := hd 16 (by decide)
            have e17 : vals 17 = .agg #[.slice z1A z1n z1c, .slice z2A z2n z2c, .slice z3A z3n z3c, .slice z4A z4n z4c] := hd 17 (by decide)
            clear hd ha
            simp only [Lf, dstAt, Act.put, List.getElem?_toArray, List.getElem?_cons_zero, List.getElem?_cons_succ, Option.bind_some, List.setIfInBounds_toArray, List.set_cons_zero, List.set_cons_succ]
            have zc0 := ext_cell hx zc0
            have zc1 := ext_cell hx zc1
            have zc2 := ext_cell hx zc2
            have zc3 := ext_cell hx zc3
            have pc0 := ext_cell hx pc0
            have pc1 := ext_cell hx pc1
            have pc2 := ext_cell hx pc2
            have pc3 := ext_cell hx pc3
            simp only [e14]
            simp only [e16]
            simp only [e17]
            clear e14 e16 e17
            go_wp2_with fail
            refine (Htr.out w1 (vz.ext hx.undrew).pool).mono ?_
            rintro e w2 ⟨rfl, hb⟩
            go_wp2
            exact ⟨rfl, hb, rfl⟩
          · intro vals w1 hx hd ha
            have e14 : vals 14 = .bool false := hd 14 (by decide)
            have e16 : vals 16 = .int .i64 tz := hd 16 (by decide)
            have e18 : vals 18 = .int .i64 tz := hd 18 (by decide)
            clear hd ha
            simp only [Lf, dstAt, Act.put, List.getElem?_toArray, List.getElem?_cons_zero, List.getElem?_cons_succ, Option.bind_some, List.setIfInBounds_toArray, List.set_cons_zero, List.set_cons_succ]
            simp only [e14, e16, e18]
            clear e14 e16 e18
            have zc0 := ext_cell hx zc0
            have zc1 := ext_cell hx zc1
            have zc2 := ext_cell hx zc2
            have zc3 := ext_cell hx zc3
            have pc0 := ext_cell hx pc0
            have pc1 := ext_cell hx pc1
            have pc2 := ext_cell hx pc2
            have pc3 := ext_cell hx pc3
            go_wp2
            exact ⟨rfl, Ext.refl _, rfl⟩
          · intro vals w1 hx hd ha
            have e14 : vals 14 = .bool false := hd 14 (by decide)
            have e19 : vals 19 = .bool false := hd 19 (by decide)
            clear hd ha
            simp only [Lf, dstAt, Act.put, List.getElem?_toArray, List.getElem?_cons_zero, List.getElem?_cons_succ, Option.bind_some, List.setIfInBounds_toArray, List.set_cons_zero, List.set_cons_succ]
            simp only [e14, e19]
            clear e14 e19
            have zc0 := ext_cell hx zc0
            have zc1 := ext_cell hx zc1
            have zc2 := ext_cell hx zc2
            have zc3 := ext_cell hx zc3
            have pc0 := ext_cell hx pc0
            have pc1 := ext_cell hx pc1
            have pc2 := ext_cell hx pc2
            have pc3 := ext_cell hx pc3
            go_wp2
            exact ⟨rfl, Ext.refl _, rfl⟩
        intro vals W20 hx hf
        have e20 : vals 20 = .bool false := hf 20 (by omega)
        clear hf
        clear zc0 zc1 zc2 zc3
        clear pc0 pc1 pc2 pc3
        have hx := hx.undrew
        refine tail0 (by kernel_rfl) ?_
        simp only [Lf, dstAt, Act.put, List.getElem?_toArray, List.getElem?_cons_zero, List.getElem?_cons_succ, Option.bind_some, List.setIfInBounds_toArray, List.set_cons_zero, List.set_cons_succ]
        rw [e20]
        clear e20 Hva Hvr Hsa Hsr Hta Htr
        have hB := hB.ext hx
        have j3 := j3.ext hx
        have vp := vp.ext hx
        have hrow := hrow.ext hx
        have hxr := hxr.ext hx
        have vz := vz.ext hx
        clear hx
        have hn1 := new_any z1A z1n z1c z.has
        have hn2 := rnew_any z1A z1n z1c z.has
        generalize newP z.has = r0 at hn1 hn2
        have HN1 := Lib.hid hn1
        have HN2 := Lib.hid hn2
        clear hn1 hn2
        have zc0 : W20.cell? ⟨gz, 0, none⟩ = some (.slice z1A z1n z1c) := vz.blk.cell 0
        have zc1 : W20.cell? ⟨gz, 1, none⟩ = some (.slice z2A z2n z2c) := vz.blk.cell 1
        have zc2 : W20.cell? ⟨gz, 2, none⟩ = some (.slice z3A z3n z3c) := vz.blk.cell 2
        have zc3 : W20.cell? ⟨gz, 3, none⟩ = some (.slice z4A z4n z4c) := vz.blk.cell 3
        go_wp2_with fail
        refine (HN1.out W20 vz.pool.1).mono ?_
        rintro e W6 ⟨_, rfl, hx, hgot⟩
        obtain ⟨⟨a1A, a1n, a1c⟩, ⟨a2A, a2n, a2c⟩, ⟨a3A, a3n, a3c⟩, ⟨a4A, a4n, a4c⟩, rfl, hp⟩ := hgot.uni
        clear zc0 zc1 zc2 zc3
        have hB := hB.ext hx
        have j3 := j3.ext hx
        have vp := vp.ext hx
        have hrow := hrow.ext hx
        have hxr := hxr.ext hx
        have vz := vz.ext hx
        clear hx hgot HN1
        simp only [poolV, Sl.v]
        go_upto_region 22 with (fail)
        have va := PV.new hp
        have hx : Ext W6 (W6.alloc _) := bl_alloc (Below.refl _ _) (.cells #[.slice a1A a1n a1c, .slice a2A a2n a2c, .slice a3A a3n a3c, .slice a4A a4n a4c] 26)
        have hga : ∃ g, g = W6.heap.size := ⟨_, rfl⟩
        obtain ⟨ga, hg⟩ := hga
        rw [← hg] at va ⊢
        generalize W6.alloc _ = W7 at va hx ⊢
        have hB := hB.ext hx
        have j3 := j3.ext hx
        have vp := vp.ext hx
        have hrow := hrow.ext hx
        have hxr := hxr.ext hx
        have vz := vz.ext hx
        clear hx hg hp
        have zc0 : W7.cell? ⟨gz, 0, none⟩ = some (.slice z1A z1n z1c) := vz.blk.cell 0
        have zc1 : W7.cell? ⟨gz, 1, none⟩ = some (.slice z2A z2n z2c) := vz.blk.cell 1
        have zc2 : W7.cell? ⟨gz, 2, none⟩ = some (.slice z3A z3n z3c) := vz.blk.cell 2
        have zc3 : W7.cell? ⟨gz, 3, none⟩ = some (.slice z4A z4n z4c) := vz.blk.cell 3
        go_wp2_with fail
        refine (HN2.out W7 vz.pool.1).mono ?_
        rintro e W8 ⟨_, rfl, hx, hgot⟩
        obtain ⟨⟨b1A, b1n, b1c⟩, ⟨b2A, b2n, b2c⟩, ⟨b3A, b3n, b3c⟩, ⟨b4A, b4n, b4c⟩, rfl, hp⟩ := hgot.uni
        clear zc0 zc1 zc2 zc3
        have hB := hB.ext hx
        have j3 := j3.ext hx
        have vp := vp.ext hx
        have hrow := hrow.ext hx
        have hxr := hxr.ext hx
        have vz := vz.ext hx
        have va := va.ext hx
        clear hx hgot HN2
        simp only [poolV, Sl.v]
        go_upto_region 23 with (fail)
        have vb := PV.new hp
        have hx : Ext W8 (W8.alloc _) := bl_alloc (Below.refl _ _) (.cells #[.slice b1A b1n b1c, .slice b2A b2n b2c, .slice b3A b3n b3c, .slice b4A b4n b4c] 26)
        have hgb : ∃ g, g = W8.heap.size := ⟨_, rfl⟩
        obtain ⟨gb, hg⟩ := hgb
        rw [← hg] at vb ⊢
        generalize W8.alloc _ = W9 at vb hx ⊢
        have hB := hB.ext hx
        have j3 := j3.ext hx
        have vp := vp.ext hx
        have hrow := hrow.ext hx
        have hxr := hxr.ext hx
        have vz := vz.ext hx
        have va := va.ext hx
        clear hx hg hp
        have ac0 : W9.cell? ⟨ga, 0, none⟩ = some (.slice a1A a1n a1c) := va.blk.cell 0
        have ac1 : W9.cell? ⟨ga, 1, none⟩ = some (.slice a2A a2n a2c) := va.blk.cell 1
        have ac2 : W9.cell? ⟨ga, 2, none⟩ = some (.slice a3A a3n a3c) := va.blk.cell 2
        have ac3 : W9.cell? ⟨ga, 3, none⟩ = some (.slice a4A a4n a4c) := va.blk.cell 3
        have bc0 : W9.cell? ⟨gb, 0, none⟩ = some (.slice b1A b1n b1c) := vb.blk.cell 0
        have bc1 : W9.cell? ⟨gb, 1, none⟩ = some (.slice b2A b2n b2c) := vb.blk.cell 1
        have bc2 : W9.cell? ⟨gb, 2, none⟩ = some (.slice b3A b3n b3c) := vb.blk.cell 2
        have bc3 : W9.cell? ⟨gb, 3, none⟩ = some (.slice b4A b4n b4c) := vb.blk.cell 3
        have hcs := rsame_any ⟨a1A, a1n, a1c⟩ ⟨a2A, a2n, a2c⟩ ⟨a3A, a3n, a3c⟩ ⟨a4A, a4n, a4c⟩ ⟨b1A, b1n, b1c⟩ ⟨b2A, b2n, b2c⟩ ⟨b3A, b3n, b3c⟩ ⟨b4A, b4n, b4c⟩ (orNil r0) (orNil r0) W9 va.pool vb.pool
        rw [sameB_refl] at hcs
        have HCS := Lib.hid hcs
        clear hcs
        generalize errI r0 = er
        go_wp2_with fail
        refine HCS.out.mono ?_
        rintro e W24 ⟨rfl, hx⟩
        clear HCS
        clear ac0 ac1 ac2 ac3
        clear bc0 bc1 bc2 bc3
        clear va vb
        have hB := hB.ext hx
        have j3 := j3.ext hx
        have vp := vp.ext hx
        have hrow := hrow.ext hx
        have hxr := hxr.ext hx
        have vz := vz.ext hx
        clear hx
        have po := pickI_bd o1 5 (by omega)
        go_upto_region 25 with (fail)
        have k1 := j3.cell 1
        refine wp_region_obl 8 (fun ix vals v w1 => match ix with | 0 => v = .pointer (some ⟨g3, 1, none⟩) | 1 => v = .int .i64 o1 | 2 => v = .pointer (some ⟨g3, 1, none⟩) | 3 => v = .int .i64 o1 | 4 => v = .int .i64 (pickI o1 5) | 5 => ∃ g, v = .slice (some ⟨g, 0, none⟩) 2 2 ∧ Blk w1 g 3 #[.int .i64 o1, .int .i64 (pickI o1 5)] | 6 => v = .int .i64 2 | _ => v = .int .i64 0) (by kernel_rfl) (by kernel_rfl) ?_ ?_ ?_ ?_
        · intro ix vals v w1 w2 hi hr hx
          match ix, hr with
          | 0, hr => exact hr
          | 1, hr => exact hr
          | 2, hr => exact hr
          | 3, hr => exact hr
          | 4, hr => exact hr
          | 5, hr => obtain ⟨g, h1, h3⟩ := hr; exact ⟨g, h1, h3.ext hx⟩
          | 6, hr => exact hr
          | (kx + 7), hr => exact hr
        · intro ix vals vals_ v w1 hi hv hr
          exact hr
        · refine ⟨?_, ?_, ?_, ?_, ?_, ?_, ?_, ?_, trivial⟩
          · intro vals w1 hx hd ha
            clear hd ha
            simp only [Lf]
            have k1 := ext_cell hx k1
            go_wp2
            exact ⟨rfl, Ext.refl _, rfl⟩
          · intro vals w1 hx hd ha
            have e0 : vals 0 = .pointer (some ⟨g3, 1, none⟩) := hd 0 (by decide)
            clear hd ha
            simp only [Lf, dstAt, Act.put, List.getElem?_toArray, List.getElem?_cons_zero, Option.bind_some, List.setIfInBounds_toArray, List.set_cons_zero, List.set_cons_succ]
            simp only [e0]
            clear e0
            have k1 := ext_cell hx k1
            go_wp2
            exact ⟨rfl, Ext.refl _, rfl⟩
          · intro vals w1 hx hd ha
            clear hd ha
            simp only [Lf, dstAt, Act.put, List.getElem?_toArray, List.getElem?_cons_zero, List.getElem?_cons_succ, Option.bind_some, List.setIfInBounds_toArray, List.set_cons_zero, List.set_cons_succ]
            have k1 := ext_cell hx k1
            go_wp2
            exact ⟨rfl, Ext.refl _, rfl⟩
          · intro vals w1 hx hd ha
            have e2 : vals 2 = .pointer (some ⟨g3, 1, none⟩) := hd 2 (by decide)
            clear hd ha
            simp only [Lf, dstAt, Act.put, List.getElem?_toArray, List.getElem?_cons_zero, List.getElem?_cons_succ, Option.bind_some, List.setIfInBounds_toArray, List.set_cons_zero, List.set_cons_succ]
            simp only [e2]
            clear e2
            have k1 := ext_cell hx k1
            go_wp2
            exact ⟨rfl, Ext.refl _, rfl⟩
          · intro vals w1 hx hd ha
            have e3 : vals 3 = .int .i64 o1 := hd 3 (by decide)
            clear hd ha
            simp only [Lf, dstAt, Act.put, List.getElem?_toArray, List.getElem?_cons_zero, List.getElem?_cons_succ, Option.bind_some, List.setIfInBounds_toArray, List.set_cons_zero, List.set_cons_succ]
            have k1 := ext_cell hx k1
            simp only [e3]
            clear e3
            go_wp2_with fail
            refine (lpick_any _ _ _ (by omega) (by omega) (by omega) (by omega)).mono ?_
            rintro e w2 ⟨rfl, rfl⟩
            go_wp2
            exact ⟨rfl, Ext.refl _, rfl⟩
          · intro vals w1 hx hd ha
            have e1 : vals 1 = .int .i64 o1 := hd 1 (by decide)
            have e4 : vals 4 = .int .i64 (pickI o1 5) := hd 4 (by decide)
            clear hd ha
            simp only [Lf, dstAt, Act.put, List.getElem?_toArray, List.getElem?_cons_zero, List.getElem?_cons_succ, Option.bind_some, List.setIfInBounds_toArray, List.set_cons_zero, List.set_cons_succ]
            have k1 := ext_cell hx k1
            simp only [e1]
            simp only [e4]
            clear e1 e4
            go_wp2
            exact ⟨rfl, (by repeat (first | exact Below.refl _ _ | assumption | refine Below.drew ?_ | refine below_drewN ?_ _ | refine bl_alloc ?_ _ | refine Below.setCell ?_ (by first | (simp; done) | omega | (simp; omega)) _ | refine bl_then ?_ (by assumption))), _, rfl, Blk.new_at _ _ rfl⟩
          · intro vals w1 hx hd ha
            have r5 : (fun v w1 => ∃ g, v = .slice (some ⟨g, 0, none⟩) 2 2 ∧ Blk w1 g 3 #[.int .i64 o1, .int .i64 (pickI o1 5)]) (vals 5) w1 := hd 5 (by decide)
            dsimp only at r5
            clear hd ha
            simp only [Lf, dstAt, Act.put, List.getElem?_toArray, List.getElem?_cons_zero, List.getElem?_cons_succ, Option.bind_some, List.setIfInBounds_toArray, List.set_cons_zero, List.set_cons_succ]
            have k1 := ext_cell hx k1
            obtain ⟨g, e5, _⟩ := r5
            rw [e5]
            go_wp2
            exact ⟨rfl, Ext.refl _, rfl⟩
          · intro vals w1 hx hd ha
            clear hd ha
            simp only [Lf, dstAt, Act.put, List.getElem?_toArray, List.getElem?_cons_zero, List.getElem?_cons_succ, Option.bind_some, List.setIfInBounds_toArray, List.set_cons_zero, List.set_cons_succ]
            have k1 := ext_cell hx k1
            go_wp2
            exact ⟨rfl, Ext.refl _, rfl⟩
        intro vals W25 hx hf
        obtain ⟨gi, e5, ji⟩ : ∃ g, vals 5 = .slice (some ⟨g, 0, none⟩) 2 2 ∧ Blk W25 g 3 #[.int .i64 o1, .int .i64 (pickI o1 5)] := hf 5 (by omega)
        have e6 : vals 6 = .int .i64 2 := hf 6 (by omega)
        have e7 : vals 7 = .int .i64 0 := hf 7 (by omega)
        clear hf k1
        have hx := hx.undrew
        refine tail0 (by kernel_rfl) ?_
        simp only [Lf, dstAt, Act.put, List.getElem?_toArray, List.getElem?_cons_zero, List.getElem?_cons_succ, Option.bind_some, List.setIfInBounds_toArray, List.set_cons_zero, List.set_cons_succ]
        rw [e5, e6, e7]
        clear e5 e6 e7
        have hB := hB.ext hx
        have j3 := j3.ext hx
        have vp := vp.ext hx
        have hrow := hrow.ext hx
        have hxr := hxr.ext hx
        have vz := vz.ext hx
        clear hx
        have hall2 : ∀ k, k < 2 → ∃ ov, W25.cell? ⟨gi, k, none⟩ = some (.int .i64 ov) := by
          intro k hk
          match k, hk with
          | 0, _ => exact ⟨_, ji.cell 0⟩
          | 1, _ => exact ⟨_, ji.cell 1⟩
        have HA2 := Lib.hid hall2
        clear hall2 ji
        go_wp2_with fail
        go_loopw [151] (fun i wr => ∃ k : Nat, k ≤ 2 ∧ i = .int .i64 k ∧ Ext W25 wr) (fun i _ => 2 - (intOf i).toNat)
        case atStart => exact ⟨0, by omega, rfl, Ext.refl _⟩
        case round =>
          obtain ⟨k2, hk2, rfl, hx2⟩ := hrel
          obtain ⟨wi, hwi⟩ : ∃ wo : World, wo = wr := ⟨_, rfl⟩
          rw [← hwi] at hx2 ⊢
          clear hwi
          have hB := hB.ext hx2
          have j3 := j3.ext hx2
          have vp := vp.ext hx2
          have hrow := hrow.ext hx2
          have hxr := hxr.ext hx2
          have vz := vz.ext hx2
          by_cases hlt2 : k2 < 2
          · obtain ⟨ov, hov⟩ := HA2.out k2 hlt2
            have hov := ext_cell hx2 hov
            have hli2 : (k2 : Int) < 2 := by omega
            obtain ⟨na, nb, hnv⟩ := netV_form (netP z ov)
            have hc1 := net_any ⟨z1A, z1n, z1c⟩ ⟨z2A, z2n, z2c⟩ ⟨z3A, z3n, z3c⟩ ⟨z4A, z4n, z4c⟩ z ov
            have hc2 := rnet_any ⟨z1A, z1n, z1c⟩ ⟨z2A, z2n, z2c⟩ ⟨z3A, z3n, z3c⟩ ⟨z4A, z4n, z4c⟩ z ov
            rw [hnv] at hc1 hc2
            have HC1 := Lib.hid hc1
            have HC2 := Lib.hid hc2
            clear hnv hc1 hc2 HA2
            have zc0 : wi.cell? ⟨gz, 0, none⟩ = some (.slice z1A z1n z1c) := vz.blk.cell 0
            have zc1 : wi.cell? ⟨gz, 1, none⟩ = some (.slice z2A z2n z2c) := vz.blk.cell 1
            have zc2 : wi.cell? ⟨gz, 2, none⟩ = some (.slice z3A z3n z3c) := vz.blk.cell 2
            have zc3 : wi.cell? ⟨gz, 3, none⟩ = some (.slice z4A z4n z4c) := vz.blk.cell 3
            go_wp2_with fail
            refine (HC1.out wi vz.pool).mono ?_
            rintro e W26 ⟨rfl, hx⟩
            have vz := vz.ext hx
            have hx2 := hx2.ext hx
            clear hx HC1
            clear zc0 zc1 zc2 zc3
            have zc0 : W26.cell? ⟨gz, 0, none⟩ = some (.slice z1A z1n z1c) := vz.blk.cell 0
            have zc1 : W26.cell? ⟨gz, 1, none⟩ = some (.slice z2A z2n z2c) := vz.blk.cell 1
            have zc2 : W26.cell? ⟨gz, 2, none⟩ = some (.slice z3A z3n z3c) := vz.blk.cell 2
            have zc3 : W26.cell? ⟨gz, 3, none⟩ = some (.slice z4A z4n z4c) := vz.blk.cell 3
            go_wp2_with fail
            refine (HC2.out W26 vz.pool).mono ?_
            rintro e W27 ⟨rfl, hx⟩
            have hx2 := hx2.ext hx
            clear hx HC2
            clear zc0 zc1 zc2 zc3
            go_wp2
            go_roundw
            case rel => exact ⟨k2 + 1, by omega, by go_num, hx2⟩
            case measure => simp [intOf]; omega
          · clear HA2 hx2
            go_wp2_with fail
            go_loopw [32] (fun i wr => ∃ k : Nat, k ≤ m ∧ i = .int .i64 k ∧ Ext wi wr) (fun i _ => m - (intOf i).toNat)
            case atStart => exact ⟨0, by omega, rfl, Ext.refl _⟩
            case round =>
              obtain ⟨k3, hk3, rfl, hx3⟩ := hrel
              obtain ⟨wj, hwj⟩ : ∃ wo : World, wo = wr := ⟨_, rfl⟩
              rw [← hwj] at hx3 ⊢
              clear hwj
              have hB := hB.ext hx3
              have j3 := j3.ext hx3
              have vp := vp.ext hx3
              have hrow := hrow.ext hx3
              have hxr := hxr.ext hx3
              have vz := vz.ext hx3
              by_cases hlt3 : k3 < m
              · have hkd : k3 < dd.length := by have := HMM.out; omega
                have hli3 : (k3 : Int) < (m : Int) := by omega
                have hcell := fun W (hr : DeedRow W 0 (.slice (some ⟨gl, 0, none⟩) m cl) dd) => hr.cell5 k3 hkd
                have hdo := do_any ⟨z1A, z1n, z1c⟩ ⟨z2A, z2n, z2c⟩ ⟨z3A, z3n, z3c⟩ ⟨z4A, z4n, z4c⟩ z dd[k3]
                have hrd := rdo_any ⟨z1A, z1n, z1c⟩ ⟨z2A, z2n, z2c⟩ ⟨z3A, z3n, z3c⟩ ⟨z4A, z4n, z4c⟩ z dd[k3]
                rw [rdoP_eq] at hrd
                generalize dd[k3] = d at hcell hdo hrd
                obtain ⟨d0, d1, d2, d3, d4⟩ := d
                dsimp only at hcell
                generalize doP z ⟨d0, d1, d2, d3, d4⟩ = r1 at hdo hrd
                have HD1 := Lib.hid hdo
                have HD2 := Lib.hid (fun (w : World) hp => (hrd w hp).mono fun e w' (h : PoolRetA w r1 e w') => (let ⟨v, he, hx, hg⟩ := h; ⟨v, he, hx, hg.got⟩ : PoolRet w r1 e w'))
                have HCELL := Lib.hid hcell
                clear hdo hrd hcell
                have zc0 : wj.cell? ⟨gz, 0, none⟩ = some (.slice z1A z1n z1c) := vz.blk.cell 0
                have zc1 : wj.cell? ⟨gz, 1, none⟩ = some (.slice z2A z2n z2c) := vz.blk.cell 1
                have zc2 : wj.cell? ⟨gz, 2, none⟩ = some (.slice z3A z3n z3c) := vz.blk.cell 2
                have zc3 : wj.cell? ⟨gz, 3, none⟩ = some (.slice z4A z4n z4c) := vz.blk.cell 3
                obtain ⟨q0, q1, q2, q3, q4⟩ := HCELL.out _ hrow
                go_wp2_with fail
                refine wp_region_late 10 8 (fun ix vals v w1 => match ix with | 0 => v = .agg #[.slice z1A z1n z1c, .slice z2A z2n z2c, .slice z3A z3n z3c, .slice z4A z4n z4c] | 1 => v = .slice (some ⟨gl, 0, none⟩) m cl | 2 => v = .int .i64 (k3 : Int) | 3 => v = .pointer (some ⟨gl, k3 * 5, none⟩) | 4 => v = .agg #[.int .i64 d0, .int .i64 d1, .int .i64 d2, .int .i64 d3, .int .i64 d4] | 5 => PoolGot r1 wj.heap.size v w1 | 6 => v = vals 5 ∧ PoolGot r1 wj.heap.size v w1 | 7 => ∃ z, vals 6 = .tuple #[v, z] | 8 => ∃ z, vals 6 = .tuple #[z, v] | _ => ∃ g, v = .pointer (some ⟨g, 0, none⟩) ∧ wj.heap.size ≤ g ∧ Blk w1 g 26 nil4) (fun _ _ => none) (by kernel_rfl) (by kernel_rfl) (by kernel_rfl) (by kernel_rfl) _ rfl ?_ ?_ ?_ ?_ ?_
                · intro ix vals v w1 hi hr k hk
                  match ix, hr, hk with
                  | 0, _, hk => cases hk
                  | 1, _, hk => cases hk
                  | 2, _, hk => cases hk
                  | 3, _, hk => cases hk
                  | 4, _, hk => cases hk
                  | 5, _, hk => cases hk
                  | 6, _, hk => cases hk
                  | 7, _, hk => cases hk
                  | 8, _, hk => cases hk
                  | (kx + 9), _, hk => cases hk
                · intro ix vals v w1 w2 hi hr hx
                  match ix, hr with
                  | 0, hr => exact hr
                  | 1, hr => exact hr
                  | 2, hr => exact hr
                  | 3, hr => exact hr
                  | 4, hr => exact hr
                  | 5, hr => exact hr.ext hx
                  | 6, hr => exact ⟨hr.1, hr.2.ext hx⟩
                  | 7, hr => exact hr
                  | 8, hr => exact hr
                  | (kx + 9), hr => obtain ⟨g, h1, h2, h3⟩ := hr; exact ⟨g, h1, h2, h3.ext hx⟩
                · intro ix vals vals_ v w1 hi hv hr
                  match ix, hi, hv, hr with
                  | 0, _, _, hr => exact hr
                  | 1, _, _, hr => exact hr
                  | 2, _, _, hr => exact hr
                  | 3, _, _, hr => exact hr
                  | 4, _, _, hr => exact hr
                  | 5, _, _, hr => exact hr
                  | 6, _, hv, hr => have e5 := hv 5 (by kernel_rfl); rw [← e5]; exact hr
                  | 7, _, hv, hr => have e6 := hv 6 (by kernel_rfl); rw [← e6]; exact hr
                  | 8, _, hv, hr => have e6 := hv 6 (by kernel_rfl); rw [← e6]; exact hr
                  | (kx + 9), _, _, hr => exact hr
                · refine ⟨?_, ?_, ?_, ?_, ?_, ?_, ?_, ?_, ?_, ?_, trivial⟩
                  · intro vals w1 hx hd ha
                    refine plain1 (fun _ => rfl) ?_
                    clear hd ha
                    simp only [Lf]
                    have zc0 := ext_cell hx zc0
                    have zc1 := ext_cell hx zc1
                    have zc2 := ext_cell hx zc2
                    have zc3 := ext_cell hx zc3
                    have q0 := ext_cell hx q0
                    have q1 := ext_cell hx q1
                    have q2 := ext_cell hx q2
                    have q3 := ext_cell hx q3
                    have q4 := ext_cell hx q4
                    go_wp2
                    exact ⟨rfl, Ext.refl _, rfl⟩
                  · intro vals w1 hx hd ha
                    refine plain1 (fun _ => rfl) ?_
                    clear hd ha
                    simp only [Lf, dstAt, Act.put, List.getElem?_toArray, List.getElem?_cons_zero, Option.bind_some, List.setIfInBounds_toArray, List.set_cons_zero, List.set_cons_succ]
                    have zc0 := ext_cell hx zc0
                    have zc1 := ext_cell hx zc1
                    have zc2 := ext_cell hx zc2
                    have zc3 := ext_cell hx zc3
                    have q0 := ext_cell hx q0
                    have q1 := ext_cell hx q1
                    have q2 := ext_cell hx q2
                    have q3 := ext_cell hx q3
                    have q4 := ext_cell hx q4
                    go_wp2
                    exact ⟨rfl, Ext.refl _, rfl⟩
                  · intro vals w1 hx hd ha
                    refine plain1 (fun _ => rfl) ?_
                    clear hd ha
                    simp only [Lf, dstAt, Act.put, List.getElem?_toArray, List.getElem?_cons_zero, List.getElem?_cons_succ, Option.bind_some, List.setIfInBounds_toArray, List.set_cons_zero, List.set_cons_succ]
                    have zc0 := ext_cell hx zc0
                    have zc1 := ext_cell hx zc1
                    have zc2 := ext_cell hx zc2
                    have zc3 := ext_cell hx zc3
                    have q0 := ext_cell hx q0
                    have q1 := ext_cell hx q1
                    have q2 := ext_cell hx q2
                    have q3 := ext_cell hx q3
                    have q4 := ext_cell hx q4
                    go_wp2
                    exact ⟨rfl, Ext.refl _, rfl⟩
                  · intro vals w1 hx hd ha
                    have e1 : vals 1 = .slice (some ⟨gl, 0, none⟩) m cl := hd 1 (by decide)
                    have e2 : vals 2 = .int .i64 (k3 : Int) := hd 2 (by decide)
                    refine plain1 (fun _ => rfl) ?_
                    clear hd ha
                    simp only [Lf, dstAt, Act.put, List.getElem?_toArray, List.getElem?_cons_zero, List.getElem?_cons_succ, Option.bind_some, List.setIfInBounds_toArray, List.set_cons_zero, List.set_cons_succ]
                    simp only [e1, e2]
                    clear e1 e2
                    have zc0 := ext_cell hx zc0
                    have zc1 := ext_cell hx zc1
                    have zc2 := ext_cell hx zc2
                    have zc3 := ext_cell hx zc3
                    have q0 := ext_cell hx q0
                    have q1 := ext_cell hx q1
                    have q2 := ext_cell hx q2
                    have q3 := ext_cell hx q3
                    have q4 := ext_cell hx q4
                    go_wp2
                    exact ⟨rfl, Ext.refl _, rfl⟩
                  · intro vals w1 hx hd ha
                    have e3 : vals 3 = .pointer (some ⟨gl, k3 * 5, none⟩) := hd 3 (by decide)
                    refine plain1 (fun _ => rfl) ?_
                    clear hd ha
                    simp only [Lf, dstAt, Act.put, List.getElem?_toArray, List.getElem?_cons_zero, List.getElem?_cons_succ, Option.bind_some, List.setIfInBounds_toArray, List.set_cons_zero, List.set_cons_succ]
                    simp only [e3]
                    clear e3
                    have zc0 := ext_cell hx zc0
                    have zc1 := ext_cell hx zc1
                    have zc2 := ext_cell hx zc2
                    have zc3 := ext_cell hx zc3
                    have q0 := ext_cell hx q0
                    have q1 := ext_cell hx q1
                    have q2 := ext_cell hx q2
                    have q3 := ext_cell hx q3
                    have q4 := ext_cell hx q4
                    go_wp2
                    exact ⟨rfl, Ext.refl _, rfl⟩
                  · intro vals w1 hx hd ha
                    have e0 : vals 0 = .agg #[.slice z1A z1n z1c, .slice z2A z2n z2c, .slice z3A z3n z3c, .slice z4A z4n z4c] := hd 0 (by decide)
                    have e4 : vals 4 = .agg #[.int .i64 d0, .int .i64 d1, .int .i64 d2, .int .i64 d3, .int .i64 d4] := hd 4 (by decide)
                    refine plain1 (fun _ => rfl) ?_
                    clear hd ha
                    simp only [Lf, dstAt, Act.put, List.getElem?_toArray, List.getElem?_cons_zero, List.getElem?_cons_succ, Option.bind_some, List.setIfInBounds_toArray, List.set_cons_zero, List.set_cons_succ]
                    have zc0 := ext_cell hx zc0
                    have zc1 := ext_cell hx zc1
                    have zc2 := ext_cell hx zc2
                    have zc3 := ext_cell hx zc3
                    have q0 := ext_cell hx q0
                    have q1 := ext_cell hx q1
                    have q2 := ext_cell hx q2
                    have q3 := ext_cell hx q3
                    have q4 := ext_cell hx q4
                    simp only [e0]
                    simp only [e4]
                    clear e0 e4
                    have hz := Below.size hx.undrew
                    go_wp2_with fail
                    refine (HD1.out w1 ((vz.ext hx.undrew).pool)).mono ?_
                    rintro e w2 ⟨v, rfl, hb, hgot⟩
                    go_wp2
                    exact ⟨rfl, hb, hgot.down (by omega)⟩
                  · intro vals w1 hx hd ha
                    have r5 : (fun v w1 => PoolGot r1 wj.heap.size v w1) (vals 5) w1 := hd 5 (by decide)
                    dsimp only at r5
                    refine plain1 (fun _ => rfl) ?_
                    clear hd ha
                    simp only [Lf, dstAt, Act.put, List.getElem?_toArray, List.getElem?_cons_zero, List.getElem?_cons_succ, Option.bind_some, List.setIfInBounds_toArray, List.set_cons_zero, List.set_cons_succ]
                    have zc0 := ext_cell hx zc0
                    have zc1 := ext_cell hx zc1
                    have zc2 := ext_cell hx zc2
                    have zc3 := ext_cell hx zc3
                    have q0 := ext_cell hx q0
                    have q1 := ext_cell hx q1
                    have q2 := ext_cell hx q2
                    have q3 := ext_cell hx q3
                    have q4 := ext_cell hx q4
                    go_wp2
                    exact ⟨rfl, Ext.refl _, rfl, r5⟩
                  · intro vals w1 hx hd ha
                    have r6 : (fun v w1 => v = vals 5 ∧ PoolGot r1 wj.heap.size v w1) (vals 6) w1 := hd 6 (by decide)
                    dsimp only at r6
                    refine plain1 (fun _ => rfl) ?_
                    clear hd ha
                    simp only [Lf, dstAt, Act.put, List.getElem?_toArray, List.getElem?_cons_zero, List.getElem?_cons_succ, Option.bind_some, List.setIfInBounds_toArray, List.set_cons_zero, List.set_cons_succ]
                    have zc0 := ext_cell hx zc0
                    have zc1 := ext_cell hx zc1
                    have zc2 := ext_cell hx zc2
                    have zc3 := ext_cell hx zc3
                    have q0 := ext_cell hx q0
                    have q1 := ext_cell hx q1
                    have q2 := ext_cell hx q2
                    have q3 := ext_cell hx q3
                    have q4 := ext_cell hx q4
                    rcases r6.2 with ⟨_, e1⟩ | ⟨q, t1, t2, t3, t4, _, e1, _⟩
                    · rw [e1]; go_wp2; exact ⟨rfl, Ext.refl _, _, rfl⟩
                    · rw [e1]; go_wp2; exact ⟨rfl, Ext.refl _, _, rfl⟩
                  · intro vals w1 hx hd ha
                    have r6 : (fun v w1 => v = vals 5 ∧ PoolGot r1 wj.heap.size v w1) (vals 6) w1 := hd 6 (by decide)
                    dsimp only at r6
                    refine plain1 (fun _ => rfl) ?_
                    clear hd ha
                    simp only [Lf, dstAt, Act.put, List.getElem?_toArray, List.getElem?_cons_zero, List.getElem?_cons_succ, Option.bind_some, List.setIfInBounds_toArray, List.set_cons_zero, List.set_cons_succ]
                    have zc0 := ext_cell hx zc0
                    have zc1 := ext_cell hx zc1
                    have zc2 := ext_cell hx zc2
                    have zc3 := ext_cell hx zc3
                    have q0 := ext_cell hx q0
                    have q1 := ext_cell hx q1
                    have q2 := ext_cell hx q2
                    have q3 := ext_cell hx q3
                    have q4 := ext_cell hx q4
                    rcases r6.2 with ⟨_, e1⟩ | ⟨q, t1, t2, t3, t4, _, e1, _⟩
                    · rw [e1]; go_wp2; exact ⟨rfl, Ext.refl _, _, rfl⟩
                    · rw [e1]; go_wp2; exact ⟨rfl, Ext.refl _, _, rfl⟩
                  · intro vals w1 hx hd ha
                    refine plain1 (fun _ => rfl) ?_
                    clear hd ha
                    simp only [Lf, dstAt, Act.put, List.getElem?_toArray, List.getElem?_cons_zero, List.getElem?_cons_succ, Option.bind_some, List.setIfInBounds_toArray, List.set_cons_zero, List.set_cons_succ]
                    have zc0 := ext_cell hx zc0
                    have zc1 := ext_cell hx zc1
                    have zc2 := ext_cell hx zc2
                    have zc3 := ext_cell hx zc3
                    have q0 := ext_cell hx q0
                    have q1 := ext_cell hx q1
                    have q2 := ext_cell hx q2
                    have q3 := ext_cell hx q3
                    have q4 := ext_cell hx q4
                    have hz := Below.size hx.undrew
                    go_wp2
                    exact ⟨rfl, (by repeat (first | exact Below.refl _ _ | assumption | refine Below.drew ?_ | refine below_drewN ?_ _ | refine bl_alloc ?_ _ | refine Below.setCell ?_ (by first | (simp; done) | omega | (simp; omega)) _ | refine bl_then ?_ (by assumption))), _, rfl, by omega, Blk.new _ _ _⟩
                intro vals W10 hx hf _
                have hgot : PoolGot r1 wj.heap.size (vals 6) W10 := (hf 6 (by omega)).2
                have h11 : ∃ z, vals 6 = .tuple #[vals 7, z] := hf 7 (by omega)
                have h12 : ∃ z, vals 6 = .tuple #[z, vals 8] := hf 8 (by omega)
                obtain ⟨gc, e9, hgn, jn⟩ : ∃ g, vals 9 = .pointer (some ⟨g, 0, none⟩) ∧ wj.heap.size ≤ g ∧ Blk W10 g 26 nil4 := hf 9 (by omega)
                clear hf zc0 zc1 zc2 zc3 q0 q1 q2 q3 q4
                have hx := hx.undrew
                obtain ⟨⟨c1A, c1n, c1c⟩, ⟨c2A, c2n, c2c⟩, ⟨c3A, c3n, c3c⟩, ⟨c4A, c4n, c4c⟩, e10, hpr⟩ := hgot.uniR
                simp only [Lf, dstAt, Act.put, List.getElem?_toArray, List.getElem?_cons_zero, List.getElem?_cons_succ, Option.bind_some, List.setIfInBounds_toArray, List.set_cons_zero, List.set_cons_succ]
                rw [e9, tup0 e10 h11, tup1 e10 h12]
                rw [e10] at hgot hpr
                have HG := Lib.hid hgot
                have HPR := Lib.hid hpr
                clear e9 e10 h11 h12 hgot hpr
                have n0 := jn.cell 0
                have f0 := jn.frozen 0
                have n1 := jn.cell 1
                have f1 := jn.frozen 1
                have n2 := jn.cell 2
                have f2 := jn.frozen 2
                have n3 := jn.cell 3
                have f3 := jn.frozen 3
                simp only [poolV, Sl.v]
                go_wp2_with fail
                refine Qn_of ?_
                refine tail1 11 _ (by kernel_rfl) (by kernel_rfl) rfl ?_
                generalize hW7 : ((((W10.setCell ⟨gc, 0, none⟩ _).setCell ⟨gc, 1, none⟩ _).setCell ⟨gc, 2, none⟩ _).setCell ⟨gc, 3, none⟩ _) = W11
                have vc : PV W11 gc ⟨c1A, c1n, c1c⟩ ⟨c2A, c2n, c2c⟩ ⟨c3A, c3n, c3c⟩ ⟨c4A, c4n, c4c⟩ (orNil r1) := by subst hW7; exact ⟨jn.set4 _ _ _ _, HPR.out _ (HG.out.set4 jn _ _ _ _)⟩
                have nezc : gz ≠ gc := by have := vz.blk.lt; omega
                have hx : Ext wj W11 := by subst hW7; exact below_set4 hx hgn _ _ _ _
                have hgotc : PoolGot r1 wj.heap.size (.tuple #[poolV ⟨c1A, c1n, c1c⟩ ⟨c2A, c2n, c2c⟩ ⟨c3A, c3n, c3c⟩ ⟨c4A, c4n, c4c⟩, .int .i64 (errI r1)]) W11 := by subst hW7; exact HG.out.set4 jn _ _ _ _
                clear hW7 jn hgn HG HPR n0 n1 n2 n3 f0 f1 f2 f3
                have hB := hB.ext hx
                have j3 := j3.ext hx
                have vp := vp.ext hx
                have hrow := hrow.ext hx
                have hxr := hxr.ext hx
                have vz := vz.ext hx
                have hx3 := hx3.ext hx
                clear hx
                go_upto_region 37 with (fail)
                have zc0 : W11.cell? ⟨gz, 0, none⟩ = some (.slice z1A z1n z1c) := vz.blk.cell 0
                have zc1 : W11.cell? ⟨gz, 1, none⟩ = some (.slice z2A z2n z2c) := vz.blk.cell 1
                have zc2 : W11.cell? ⟨gz, 2, none⟩ = some (.slice z3A z3n z3c) := vz.blk.cell 2
                have zc3 : W11.cell? ⟨gz, 3, none⟩ = some (.slice z4A z4n z4c) := vz.blk.cell 3
                obtain ⟨q0, q1, q2, q3, q4⟩ := HCELL.out _ hrow
                refine wp_region_late 10 8 (fun ix vals v w1 => match ix with | 0 => v = .agg #[.slice z1A z1n z1c, .slice z2A z2n z2c, .slice z3A z3n z3c, .slice z4A z4n z4c] | 1 => v = .slice (some ⟨gl, 0, none⟩) m cl | 2 => v = .int .i64 (k3 : Int) | 3 => v = .pointer (some ⟨gl, k3 * 5, none⟩) | 4 => v = .agg #[.int .i64 d0, .int .i64 d1, .int .i64 d2, .int .i64 d3, .int .i64 d4] | 5 => PoolGot r1 W11.heap.size v w1 | 6 => v = vals 5 ∧ PoolGot r1 W11.heap.size v w1 | 7 => ∃ z, vals 6 = .tuple #[v, z] | 8 => ∃ z, vals 6 = .tuple #[z, v] | _ => ∃ g, v = .pointer (some ⟨g, 0, none⟩) ∧ W11.heap.size ≤ g ∧ Blk w1 g 26 nil4) (fun _ _ => none) (by kernel_rfl) (by kernel_rfl) (by kernel_rfl) (by kernel_rfl) _ rfl ?_ ?_ ?_ ?_ ?_
                · intro ix vals v w1 hi hr k hk
                  match ix, hr, hk with
                  | 0, _, hk => cases hk
                  | 1, _, hk => cases hk
                  | 2, _, hk => cases hk
                  | 3, _, hk => cases hk
                  | 4, _, hk => cases hk
                  | 5, _, hk => cases hk
                  | 6, _, hk => cases hk
                  | 7, _, hk => cases hk
                  | 8, _, hk => cases hk
                  | (kx + 9), _, hk => cases hk
                · intro ix vals v w1 w2 hi hr hx
                  match ix, hr with
                  | 0, hr => exact hr
                  | 1, hr => exact hr
                  | 2, hr => exact hr
                  | 3, hr => exact hr
                  | 4, hr => exact hr
                  | 5, hr => exact hr.ext hx
                  | 6, hr => exact ⟨hr.1, hr.2.ext hx⟩
                  | 7, hr => exact hr
                  | 8, hr => exact hr
                  | (kx + 9), hr => obtain ⟨g, h1, h2, h3⟩ := hr; exact ⟨g, h1, h2, h3.ext hx⟩
                · intro ix vals vals_ v w1 hi hv hr
                  match ix, hi, hv, hr with
                  | 0, _, _, hr => exact hr
                  | 1, _, _, hr => exact hr
                  | 2, _, _, hr => exact hr
                  | 3, _, _, hr => exact hr
                  | 4, _, _, hr => exact hr
                  | 5, _, _, hr => exact hr
                  | 6, _, hv, hr => have e5 := hv 5 (by kernel_rfl); rw [← e5]; exact hr
                  | 7, _, hv, hr => have e6 := hv 6 (by kernel_rfl); rw [← e6]; exact hr
                  | 8, _, hv, hr => have e6 := hv 6 (by kernel_rfl); rw [← e6]; exact hr
                  | (kx + 9), _, _, hr => exact hr
                · refine ⟨?_, ?_, ?_, ?_, ?_, ?_, ?_, ?_, ?_, ?_, trivial⟩
                  · intro vals w1 hx hd ha
                    refine plain1 (fun _ => rfl) ?_
                    clear hd ha
                    simp only [Lf]
                    have zc0 := ext_cell hx zc0
                    have zc1 := ext_cell hx zc1
                    have zc2 := ext_cell hx zc2
                    have zc3 := ext_cell hx zc3
                    have q0 := ext_cell hx q0
                    have q1 := ext_cell hx q1
                    have q2 := ext_cell hx q2
                    have q3 := ext_cell hx q3
                    have q4 := ext_cell hx q4
                    go_wp2
                    exact ⟨rfl, Ext.refl _, rfl⟩
                  · intro vals w1 hx hd ha
                    refine plain1 (fun _ => rfl) ?_
                    clear hd ha
                    simp only [Lf, dstAt, Act.put, List.getElem?_toArray, List.getElem?_cons_zero, Option.bind_some, List.setIfInBounds_toArray, List.set_cons_zero, List.set_cons_succ]
                    have zc0 := ext_cell hx zc0
                    have zc1 := ext_cell hx zc1
                    have zc2 := ext_cell hx zc2
                    have zc3 := ext_cell hx zc3
                    have q0 := ext_cell hx q0
                    have q1 := ext_cell hx q1
                    have q2 := ext_cell hx q2
                    have q3 := ext_cell hx q3
                    have q4 := ext_cell hx q4
                    go_wp2
                    exact ⟨rfl, Ext.refl _, rfl⟩
                  · intro vals w1 hx hd ha
                    refine plain1 (fun _ => rfl) ?_
                    clear hd ha
                    simp only [Lf, dstAt, Act.put, List.getElem?_toArray, List.getElem?_cons_zero, List.getElem?_cons_succ, Option.bind_some, List.setIfInBounds_toArray, List.set_cons_zero, List.set_cons_succ]
                    have zc0 := ext_cell hx zc0
                    have zc1 := ext_cell hx zc1
                    have zc2 := ext_cell hx zc2
                    have zc3 := ext_cell hx zc3
                    have q0 := ext_cell hx q0
                    have q1 := ext_cell hx q1
                    have q2 := ext_cell hx q2
                    have q3 := ext_cell hx q3
                    have q4 := ext_cell hx q4
                    go_wp2
                    exact ⟨rfl, Ext.refl _, rfl⟩
                  · intro vals w1 hx hd ha
                    have e1 : vals 1 = .slice (some ⟨gl, 0, none⟩) m cl := hd 1 (by decide)
                    have e2 : vals 2 = .int .i64 (k3 : Int) := hd 2 (by decide)
                    refine plain1 (fun _ => rfl) ?_
                    clear hd ha
                    simp only [Lf, dstAt, Act.put, List.getElem?_toArray, List.getElem?_cons_zero, List.getElem?_cons_succ, Option.bind_some, List.setIfInBounds_toArray, List.set_cons_zero, List.set_cons_succ]
                    simp only [e1, e2]
                    clear e1 e2
                    have zc0 := ext_cell hx zc0
                    have zc1 := ext_cell hx zc1
                    have zc2 := ext_cell hx zc2
                    have zc3 := ext_cell hx zc3
                    have q0 := ext_cell hx q0
                    have q1 := ext_cell hx q1
                    have q2 := ext_cell hx q2
                    have q3 := ext_cell hx q3
                    have q4 := ext_cell hx q4
                    go_wp2
                    exact ⟨rfl, Ext.refl _, rfl⟩
                  · intro vals w1 hx hd ha
                    have e3 : vals 3 = .pointer (some ⟨gl, k3 * 5, none⟩) := hd 3 (by decide)
                    refine plain1 (fun _ => rfl) ?_
                    clear hd ha
                    simp only [Lf, dstAt, Act.put, List.getElem?_toArray, List.getElem?_cons_zero, List.getElem?_cons_succ, Option.bind_some, List.setIfInBounds_toArray, List.set_cons_zero, List.set_cons_succ]
                    simp only [e3]
                    clear e3
                    have zc0 := ext_cell hx zc0
                    have zc1 := ext_cell hx zc1
                    have zc2 := ext_cell hx zc2
                    have zc3 := ext_cell hx zc3
                    have q0 := ext_cell hx q0
                    have q1 := ext_cell hx q1
                    have q2 := ext_cell hx q2
                    have q3 := ext_cell hx q3
                    have q4 := ext_cell hx q4
                    go_wp2
                    exact ⟨rfl, Ext.refl _, rfl⟩
                  · intro vals w1 hx hd ha
                    have e0 : vals 0 = .agg #[.slice z1A z1n z1c, .slice z2A z2n z2c, .slice z3A z3n z3c, .slice z4A z4n z4c] := hd 0 (by decide)
                    have e4 : vals 4 = .agg #[.int .i64 d0, .int .i64 d1, .int .i64 d2, .int .i64 d3, .int .i64 d4] := hd 4 (by decide)
                    refine plain1 (fun _ => rfl) ?_
                    clear hd ha
                    simp only [Lf, dstAt, Act.put, List.getElem?_toArray, List.getElem?_cons_zero, List.getElem?_cons_succ, Option.bind_some, List.setIfInBounds_toArray, List.set_cons_zero, List.set_cons_succ]
                    have zc0 := ext_cell hx zc0
                    have zc1 := ext_cell hx zc1
                    have zc2 := ext_cell hx zc2
                    have zc3 := ext_cell hx zc3
                    have q0 := ext_cell hx q0
                    have q1 := ext_cell hx q1
                    have q2 := ext_cell hx q2
                    have q3 := ext_cell hx q3
                    have q4 := ext_cell hx q4
                    simp only [e0]
                    simp only [e4]
                    clear e0 e4
                    have hz := Below.size hx.undrew
                    go_wp2_with fail
                    refine (HD2.out w1 ((vz.ext hx.undrew).pool)).mono ?_
                    rintro e w2 ⟨v, rfl, hb, hgot⟩
                    go_wp2
                    exact ⟨rfl, hb, hgot.down (by omega)⟩
                  · intro vals w1 hx hd ha
                    have r5 : (fun v w1 => PoolGot r1 W11.heap.size v w1) (vals 5) w1 := hd 5 (by decide)
                    dsimp only at r5
                    refine plain1 (fun _ => rfl) ?_
                    clear hd ha
                    simp only [Lf, dstAt, Act.put, List.getElem?_toArray, List.getElem?_cons_zero, List.getElem?_cons_succ, Option.bind_some, List.setIfInBounds_toArray, List.set_cons_zero, List.set_cons_succ]
                    have zc0 := ext_cell hx zc0
                    have zc1 := ext_cell hx zc1
                    have zc2 := ext_cell hx zc2
                    have zc3 := ext_cell hx zc3
                    have q0 := ext_cell hx q0
                    have q1 := ext_cell hx q1
                    have q2 := ext_cell hx q2
                    have q3 := ext_cell hx q3
                    have q4 := ext_cell hx q4
                    go_wp2
                    exact ⟨rfl, Ext.refl _, rfl, r5⟩
                  · intro vals w1 hx hd ha
                    have r6 : (fun v w1 => v = vals 5 ∧ PoolGot r1 W11.heap.size v w1) (vals 6) w1 := hd 6 (by decide)
                    dsimp only at r6
                    refine plain1 (fun _ => rfl) ?_
                    clear hd ha
                    simp only [Lf, dstAt, Act.put, List.getElem?_toArray, List.getElem?_cons_zero, List.getElem?_cons_succ, Option.bind_some, List.setIfInBounds_toArray, List.set_cons_zero, List.set_cons_succ]
                    have zc0 := ext_cell hx zc0
                    have zc1 := ext_cell hx zc1
                    have zc2 := ext_cell hx zc2
                    have zc3 := ext_cell hx zc3
                    have q0 := ext_cell hx q0
                    have q1 := ext_cell hx q1
                    have q2 := ext_cell hx q2
                    have q3 := ext_cell hx q3
                    have q4 := ext_cell hx q4
                    rcases r6.2 with ⟨_, e1⟩ | ⟨q, t1, t2, t3, t4, _, e1, _⟩
                    · rw [e1]; go_wp2; exact ⟨rfl, Ext.refl _, _, rfl⟩
                    · rw [e1]; go_wp2; exact ⟨rfl, Ext.refl _, _, rfl⟩
                  · intro vals w1 hx hd ha
                    have r6 : (fun v w1 => v = vals 5 ∧ PoolGot r1 W11.heap.size v w1) (vals 6) w1 := hd 6 (by decide)
                    dsimp only at r6
                    refine plain1 (fun _ => rfl) ?_
                    clear hd ha
                    simp only [Lf, dstAt, Act.put, List.getElem?_toArray, List.getElem?_cons_zero, List.getElem?_cons_succ, Option.bind_some, List.setIfInBounds_toArray, List.set_cons_zero, List.set_cons_succ]
                    have zc0 := ext_cell hx zc0
                    have zc1 := ext_cell hx zc1
                    have zc2 := ext_cell hx zc2
                    have zc3 := ext_cell hx zc3
                    have q0 := ext_cell hx q0
                    have q1 := ext_cell hx q1
                    have q2 := ext_cell hx q2
                    have q3 := ext_cell hx q3
                    have q4 := ext_cell hx q4
                    rcases r6.2 with ⟨_, e1⟩ | ⟨q, t1, t2, t3, t4, _, e1, _⟩
                    · rw [e1]; go_wp2; exact ⟨rfl, Ext.refl _, _, rfl⟩
                    · rw [e1]; go_wp2; exact ⟨rfl, Ext.refl _, _, rfl⟩
                  · intro vals w1 hx hd ha
                    refine plain1 (fun _ => rfl) ?_
                    clear hd ha
                    simp only [Lf, dstAt, Act.put, List.getElem?_toArray, List.getElem?_cons_zero, List.getElem?_cons_succ, Option.bind_some, List.setIfInBounds_toArray, List.set_cons_zero, List.set_cons_succ]
                    have zc0 := ext_cell hx zc0
                    have zc1 := ext_cell hx zc1
                    have zc2 := ext_cell hx zc2
                    have zc3 := ext_cell hx zc3
                    have q0 := ext_cell hx q0
                    have q1 := ext_cell hx q1
                    have q2 := ext_cell hx q2
                    have q3 := ext_cell hx q3
                    have q4 := ext_cell hx q4
                    have hz := Below.size hx.undrew
                    go_wp2
                    exact ⟨rfl, (by repeat (first | exact Below.refl _ _ | assumption | refine Below.drew ?_ | refine below_drewN ?_ _ | refine bl_alloc ?_ _ | refine Below.setCell ?_ (by first | (simp; done) | omega | (simp; omega)) _ | refine bl_then ?_ (by assumption))), _, rfl, by omega, Blk.new _ _ _⟩
                intro vals W12 hx hf _
                have hgot : PoolGot r1 W11.heap.size (vals 6) W12 := (hf 6 (by omega)).2
                have h11 : ∃ z, vals 6 = .tuple #[vals 7, z] := hf 7 (by omega)
                have h12 : ∃ z, vals 6 = .tuple #[z, vals 8] := hf 8 (by omega)
                obtain ⟨gd, e9, hgn, jn⟩ : ∃ g, vals 9 = .pointer (some ⟨g, 0, none⟩) ∧ W11.heap.size ≤ g ∧ Blk W12 g 26 nil4 := hf 9 (by omega)
                clear hf zc0 zc1 zc2 zc3 q0 q1 q2 q3 q4
                have hx := hx.undrew
                obtain ⟨⟨d1A, d1n, d1c⟩, ⟨d2A, d2n, d2c⟩, ⟨d3A, d3n, d3c⟩, ⟨d4A, d4n, d4c⟩, e10, hpr⟩ := hgot.uniR
                simp only [Lf, dstAt, Act.put, List.getElem?_toArray, List.getElem?_cons_zero, List.getElem?_cons_succ, Option.bind_some, List.setIfInBounds_toArray, List.set_cons_zero, List.set_cons_succ]
                rw [e9, tup0 e10 h11, tup1 e10 h12]
                rw [e10] at hgot hpr
                have HG := Lib.hid hgot
                have HPR := Lib.hid hpr
                clear e9 e10 h11 h12 hgot hpr
                have n0 := jn.cell 0
                have f0 := jn.frozen 0
                have n1 := jn.cell 1
                have f1 := jn.frozen 1
                have n2 := jn.cell 2
                have f2 := jn.frozen 2
                have n3 := jn.cell 3
                have f3 := jn.frozen 3
                simp only [poolV, Sl.v]
                go_wp2_with fail
                refine Qn_of ?_
                refine tail1 11 _ (by kernel_rfl) (by kernel_rfl) rfl ?_
                generalize hW7 : ((((W12.setCell ⟨gd, 0, none⟩ _).setCell ⟨gd, 1, none⟩ _).setCell ⟨gd, 2, none⟩ _).setCell ⟨gd, 3, none⟩ _) = W13
                have vd : PV W13 gd ⟨d1A, d1n, d1c⟩ ⟨d2A, d2n, d2c⟩ ⟨d3A, d3n, d3c⟩ ⟨d4A, d4n, d4c⟩ (orNil r1) := by subst hW7; exact ⟨jn.set4 _ _ _ _, HPR.out _ (HG.out.set4 jn _ _ _ _)⟩
                have nezd : gz ≠ gd := by have := vz.blk.lt; omega
                have hx : Ext W11 W13 := by subst hW7; exact below_set4 hx hgn _ _ _ _
                have hgotd : PoolGot r1 W11.heap.size (.tuple #[poolV ⟨d1A, d1n, d1c⟩ ⟨d2A, d2n, d2c⟩ ⟨d3A, d3n, d3c⟩ ⟨d4A, d4n, d4c⟩, .int .i64 (errI r1)]) W13 := by subst hW7; exact HG.out.set4 jn _ _ _ _
                clear hW7 jn hgn HG HPR n0 n1 n2 n3 f0 f1 f2 f3
                have hB := hB.ext hx
                have j3 := j3.ext hx
                have vp := vp.ext hx
                have hrow := hrow.ext hx
                have hxr := hxr.ext hx
                have vz := vz.ext hx
                have hx3 := hx3.ext hx
                have vc := vc.ext hx
                have hgotc := hgotc.ext hx
                clear hx
                go_upto_region 38 with (fail)
                clear HD1 HD2 HCELL
                have cc0 : W13.cell? ⟨gc, 0, none⟩ = some (.slice c1A c1n c1c) := vc.blk.cell 0
                have cc1 : W13.cell? ⟨gc, 1, none⟩ = some (.slice c2A c2n c2c) := vc.blk.cell 1
                have cc2 : W13.cell? ⟨gc, 2, none⟩ = some (.slice c3A c3n c3c) := vc.blk.cell 2
                have cc3 : W13.cell? ⟨gc, 3, none⟩ = some (.slice c4A c4n c4c) := vc.blk.cell 3
                have dc0 : W13.cell? ⟨gd, 0, none⟩ = some (.slice d1A d1n d1c) := vd.blk.cell 0
                have dc1 : W13.cell? ⟨gd, 1, none⟩ = some (.slice d2A d2n d2c) := vd.blk.cell 1
                have dc2 : W13.cell? ⟨gd, 2, none⟩ = some (.slice d3A d3n d3c) := vd.blk.cell 2
                have dc3 : W13.cell? ⟨gd, 3, none⟩ = some (.slice d4A d4n d4c) := vd.blk.cell 3
                have hcs := rsame_any ⟨c1A, c1n, c1c⟩ ⟨c2A, c2n, c2c⟩ ⟨c3A, c3n, c3c⟩ ⟨c4A, c4n, c4c⟩ ⟨d1A, d1n, d1c⟩ ⟨d2A, d2n, d2c⟩ ⟨d3A, d3n, d3c⟩ ⟨d4A, d4n, d4c⟩ (orNil r1) (orNil r1) W13 vc.pool vd.pool
                rw [sameB_refl] at hcs
                have HCS := Lib.hid hcs
                clear hcs hgotc hgotd
                generalize errI r1 = er1
                go_wp2_with fail
                refine HCS.out.mono ?_
                rintro e W38 ⟨rfl, hx⟩
                have hx3 := hx3.ext hx
                clear HCS hx
                clear cc0 cc1 cc2 cc3
                clear dc0 dc1 dc2 dc3
                go_wp2
                go_roundw
                case rel => exact ⟨k3 + 1, by omega, by go_num, hx3⟩
                case measure => simp [intOf]; omega
              · clear hx3
                go_wp2
                go_roundw
                case rel => exact ⟨k + 1, by omega, by go_num, hxr⟩
                case measure => simp [intOf]; omega
      · go_wp2
        go_ret
        exact ⟨rfl, hB⟩

end Go.Proofs.Ytpddnkefggaigaa
