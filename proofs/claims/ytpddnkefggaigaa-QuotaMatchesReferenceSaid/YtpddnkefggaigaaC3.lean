/- quota.change: the way on which something is done. -/
import Derived.Test.YtpddnkefggaigaaL2
namespace Go.Proofs.Ytpddnkefggaigaa
open Go.RowKit


set_option maxRecDepth 100000 in
set_option maxHeartbeats 4000000 in
theorem change_do (s1 s2 s3 s4 : Sl) (p : Pool) (x : Loan) (mv : List AM) (w : World) (h : PoolR w w.heap.size s1 s2 s3 s4 p) (hv : validB p = true) (hmv : ∀ m ∈ mv, m.ok) (hlen : mv.length ≤ 2) (hxu : -1000000 ≤ x.units ∧ x.units ≤ 1000000) (fn : Nat) (caps : Array Value)
    (eg : ∀ args w, (callFunc fn args).run Try.prog w = .ok (.enter fn args) w)
    (hcl : ∀ (W : World) (Bq g1 c1 g2 c2 g4 c4 : Nat), Ext w W → W.cell? ⟨Bq, 0, none⟩ = some (.slice (some ⟨g1, 0, none⟩) 16 c1) → W.cell? ⟨Bq, 1, none⟩ = some (.slice (some ⟨g2, 0, none⟩) 16 c2) → W.cell? ⟨Bq, 3, none⟩ = some (.slice (some ⟨g4, 0, none⟩) 16 c4) →
      Calls Try.prog fn (#[.pointer (some ⟨Bq, 0, none⟩)] ++ caps) W (MovesRet W (mv.map (mvAt g1 g2 g4)))) :
    Calls Try.prog 52 #[poolV s1 s2 s3 s4, .bool true, loanV x, .func (.func fn) #[] caps] w (PoolRet w (changeP p true x mv)) := by
  have hcp : changeP p true x mv = if validB (movedG p x mv) = true then some (movedG p x mv) else none := by unfold changeP; rw [if_pos ⟨rfl, hv⟩]
  generalize changeP p true x mv = r at hcp ⊢
  have HR := Lib.hid hcp
  have hva := valid_any s1 s2 s3 s4 p
  obtain ⟨b1, b2, b4⟩ : withinB p.has 0 1000000 = true ∧ withinB p.used 0 1000000 = true ∧ withinB p.cents (-1000000000000) 1000000000000 = true := by
    simp only [validB, Bool.and_eq_true] at hv
    exact ⟨hv.1.1.1.1, hv.1.1.1.2, hv.1.1.2⟩
  obtain ⟨h1, h2, h3, h4⟩ := h
  obtain ⟨A1, n1, c1⟩ := s1; obtain ⟨A2, n2, c2⟩ := s2; obtain ⟨A3, n3, c3⟩ := s3; obtain ⟨A4, n4, c4⟩ := s4
  obtain rfl : n1 = 16 := h1.len.symm.trans (within_len b1)
  obtain rfl : n2 = 16 := h2.len.symm.trans (within_len b2)
  obtain rfl : n4 = 16 := h4.len.symm.trans (within_len b4)
  have hn3 : n3 ≤ 1099511627776 := h3.le
  have HV := Lib.hid hva
  have HCL := Lib.hid hcl
  have HVP := Lib.hid hv
  have HMV := Lib.hid hmv
  have HB := Lib.hid (And.intro b1 (And.intro b2 b4))
  have HP : Hid (PoolR w w.heap.size ⟨A1, 16, c1⟩ ⟨A2, 16, c2⟩ ⟨A3, n3, c3⟩ ⟨A4, 16, c4⟩ p) := ⟨h1, h2, h3, h4⟩
  show Calls Try.prog 52 #[.agg #[.slice A1 16 c1, .slice A2 16 c2, .slice A3 n3 c3, .slice A4 16 c4], .bool true, .agg #[.int .i64 x.fr, .int .i64 x.to, .int .i64 x.units], .func (.func fn) #[] caps] w _
  clear hva hcl hv hmv b1 b2 b4 hcp
  go_enter Try.func52, Try.ntmps52
  go_wp2_with fail
  generalize hW : (((w.alloc (.cells #[.slice A1 16 c1, .slice A2 16 c2, .slice A3 n3 c3, .slice A4 16 c4] 26)).alloc (.cells #[.int .i64 x.fr, .int .i64 x.to, .int .i64 x.units] 28)).alloc (.cells #[.slice none 0 0, .slice none 0 0, .slice none 0 0, .slice none 0 0] 26)) = W
  have hBW : Below w.heap.size w W := by subst hW; exact (by repeat (first | exact Below.refl _ _ | assumption | refine Below.drew ?_ | refine below_drewN ?_ _ | refine bl_alloc ?_ _ | refine Below.setCell ?_ (by first | (simp; done) | omega | (simp; omega)) _ | refine bl_then ?_ (by assumption)))
  have hzW : W.heap.size = w.heap.size + 3 := by subst hW; simp
  have jr : Blk W (w.heap.size + 2) 26 nil4 := by subst hW; exact Blk.new_at _ _ (by simp)
  have jl : Blk W (w.heap.size + 1) 28 #[.int .i64 x.fr, .int .i64 x.to, .int .i64 x.units] := by subst hW; exact (Blk.new_at _ _ (by simp)).alloc _
  have jp : Blk W w.heap.size 26 #[.slice A1 16 c1, .slice A2 16 c2, .slice A3 n3 c3, .slice A4 16 c4] := by subst hW; exact ((Blk.new_at _ _ rfl).alloc _).alloc _
  clear hW
  refine (HV.out W (HP.out.below hBW |>.more hBW.size)).mono ?_
  rintro e w1 ⟨rfl, hb1⟩
  rw [HVP.out]
  have jr1 := jr.ext hb1
  have jl1 := jl.ext hb1
  have jp1 := jp.ext hb1
  have hB1 : Below w.heap.size w w1 := hBW.trans (hb1.mono (by omega))
  have hz1 : w.heap.size + 3 ≤ w1.heap.size := by have := hb1.size; omega
  have k1 : RI w1 w.heap.size ⟨A1, 16, c1⟩ p.has := h1.below hB1
  have k2 : RI w1 w.heap.size ⟨A2, 16, c2⟩ p.used := h2.below hB1
  have k3 : RL w1 w.heap.size ⟨A3, n3, c3⟩ p.loans := h3.below hB1
  have k4 : RI w1 w.heap.size ⟨A4, 16, c4⟩ p.cents := h4.below hB1
  clear jr jl jp hb1 hzW h1 h2 h3 h4 hBW
  have p0 : w1.cell? ⟨w.heap.size, 0, none⟩ = some (.slice A1 16 c1) := jp1.cell 0
  have p1 : w1.cell? ⟨w.heap.size, 1, none⟩ = some (.slice A2 16 c2) := jp1.cell 1
  have p2 : w1.cell? ⟨w.heap.size, 2, none⟩ = some (.slice A3 n3 c3) := jp1.cell 2
  have p3 : w1.cell? ⟨w.heap.size, 3, none⟩ = some (.slice A4 16 c4) := jp1.cell 3
  go_wp2_with fail
  refine wp_region_obl 14 (fun ix vals v w1 => match ix with | 0 => v = .pointer (some ⟨w.heap.size, 0, none⟩) | 1 => v = .slice A1 16 c1 | 2 => ∃ g c, v = .slice (some ⟨g, 0, none⟩) 16 c ∧ w1.ownsRow (w.heap.size + 3) 3 1 (.slice (some ⟨g, 0, none⟩) 16 c) 16 (p.has.map I64) | 3 => v = .pointer (some ⟨w.heap.size, 1, none⟩) | 4 => v = .slice A2 16 c2 | 5 => ∃ g c, v = .slice (some ⟨g, 0, none⟩) 16 c ∧ w1.ownsRow (w.heap.size + 3) 3 1 (.slice (some ⟨g, 0, none⟩) 16 c) 16 (p.used.map I64) ∧ (vals 2).ownBlock ≠ some g | 6 => v = .pointer (some ⟨w.heap.size, 2, none⟩) | 7 => v = .slice A3 n3 c3 | 8 => w1.ownsRow (w.heap.size + 3) 28 3 v n3 (p.loans.flatMap loanCells) | 9 => v = .pointer (some ⟨w.heap.size, 3, none⟩) | 10 => v = .slice A4 16 c4 | 11 => ∃ g c, v = .slice (some ⟨g, 0, none⟩) 16 c ∧ w1.ownsRow (w.heap.size + 3) 3 1 (.slice (some ⟨g, 0, none⟩) 16 c) 16 (p.cents.map I64) ∧ (vals 2).ownBlock ≠ some g ∧ (vals 5).ownBlock ≠ some g | 12 => ∃ g1 d1 g2 d2 v3 A d3 g4 d4, v = .agg #[.slice (some ⟨g1, 0, none⟩) 16 d1, .slice (some ⟨g2, 0, none⟩) 16 d2, v3, .slice (some ⟨g4, 0, none⟩) 16 d4] ∧ v3 = .slice A n3 d3 ∧ Rows3 w1 (w.heap.size + 3) g1 d1 g2 d2 g4 d4 p.st ∧ w1.ownsRow (w.heap.size + 3) 28 3 v3 n3 (p.loans.flatMap loanCells) | _ => ∃ g, v = .pointer (some ⟨g, 0, none⟩) ∧ w.heap.size + 3 ≤ g ∧ Blk w1 g 26 nil4) (by kernel_rfl) (by kernel_rfl) ?_ ?_ ?_ ?_
  · intro ix vals v w1 w2 hi hr hx
    match ix, hr with
    | 0, hr => exact hr
    | 1, hr => exact hr
    | 2, hr => obtain ⟨g, c, e1, e2⟩ := hr; exact ⟨g, c, e1, own_ext e2 hx⟩
    | 3, hr => exact hr
    | 4, hr => exact hr
    | 5, hr => obtain ⟨g, c, e1, e2, e3⟩ := hr; exact ⟨g, c, e1, own_ext e2 hx, e3⟩
    | 6, hr => exact hr
    | 7, hr => exact hr
    | 8, hr => exact own_ext hr hx
    | 9, hr => exact hr
    | 10, hr => exact hr
    | 11, hr => obtain ⟨g, c, e1, e2, e3, e4⟩ := hr; exact ⟨g, c, e1, own_ext e2 hx, e3, e4⟩
    | 12, hr => obtain ⟨g1, d1, g2, d2, v3, A, d3, g4, d4, e1, e2, e3, e4⟩ := hr; exact ⟨g1, d1, g2, d2, v3, A, d3, g4, d4, e1, e2, e3.ext hx, own_ext e4 hx⟩
    | (kx + 13), hr => obtain ⟨g, e1, e2, e3⟩ := hr; exact ⟨g, e1, e2, e3.ext hx⟩
  · intro ix vals vals_ v w1 hi hv hr
    match ix, hi, hv, hr with
    | 0, _, _, hr => exact hr
    | 1, _, _, hr => exact hr
    | 2, _, _, hr => exact hr
    | 3, _, _, hr => exact hr
    | 4, _, _, hr => exact hr
    | 5, _, hv, hr => have e2 := hv 2 (by kernel_rfl); rw [← e2]; exact hr
    | 6, _, _, hr => exact hr
    | 7, _, _, hr => exact hr
    | 8, _, _, hr => exact hr
    | 9, _, _, hr => exact hr
    | 10, _, _, hr => exact hr
    | 11, _, hv, hr => have e2 := hv 2 (by kernel_rfl); have e5 := hv 5 (by kernel_rfl); rw [← e2, ← e5]; exact hr
    | 12, _, _, hr => exact hr
    | (kx + 13), _, _, hr => exact hr
  · refine ⟨?_, ?_, ?_, ?_, ?_, ?_, ?_, ?_, ?_, ?_, ?_, ?_, ?_, ?_, trivial⟩
    · intro vals w1 hx hd ha
      clear hd ha
      simp only [Lf]
      have p0 := ext_cell hx p0
      have p1 := ext_cell hx p1
      have p2 := ext_cell hx p2
      have p3 := ext_cell hx p3
      have hz := Below.size hx.undrew
      go_wp2
      exact ⟨rfl, Ext.refl _, rfl⟩
    · intro vals w1 hx hd ha
      have e0 : vals 0 = .pointer (some ⟨w.heap.size, 0, none⟩) := hd 0 (by decide)
      clear hd ha
      simp only [Lf, dstAt, Act.put, List.getElem?_toArray, List.getElem?_cons_zero, Option.bind_some, List.setIfInBounds_toArray, List.set_cons_zero, List.set_cons_succ]
      simp only [e0]
      clear e0
      have p0 := ext_cell hx p0
      have p1 := ext_cell hx p1
      have p2 := ext_cell hx p2
      have p3 := ext_cell hx p3
      have hz := Below.size hx.undrew
      go_wp2
      exact ⟨rfl, Ext.refl _, rfl⟩
    · intro vals w1 hx hd ha
      have e1 : vals 1 = .slice A1 16 c1 := hd 1 (by decide)
      clear hd ha
      simp only [Lf, dstAt, Act.put, List.getElem?_toArray, List.getElem?_cons_zero, List.getElem?_cons_succ, Option.bind_some, List.setIfInBounds_toArray, List.set_cons_zero, List.set_cons_succ]
      have p0 := ext_cell hx p0
      have p1 := ext_cell hx p1
      have p2 := ext_cell hx p2
      have p3 := ext_cell hx p3
      have hz := Below.size hx.undrew
      simp only [e1]
      clear e1
      go_wp2_with fail
      refine (clone_int A1 16 c1 p.has _ ((k1.below (Below.mono hx.undrew (by omega))).more (by omega))).mono ?_
      rintro e w2 ⟨v, rfl, hown, hb⟩
      obtain ⟨g, c, rfl⟩ := own16 hown
      go_wp2
      exact ⟨rfl, hb, g, c, rfl, own_base hown (by omega)⟩
    · intro vals w1 hx hd ha
      clear hd ha
      simp only [Lf, dstAt, Act.put, List.getElem?_toArray, List.getElem?_cons_zero, List.getElem?_cons_succ, Option.bind_some, List.setIfInBounds_toArray, List.set_cons_zero, List.set_cons_succ]
      have p0 := ext_cell hx p0
      have p1 := ext_cell hx p1
      have p2 := ext_cell hx p2
      have p3 := ext_cell hx p3
      have hz := Below.size hx.undrew
      go_wp2
      exact ⟨rfl, Ext.refl _, rfl⟩
    · intro vals w1 hx hd ha
      have e3 : vals 3 = .pointer (some ⟨w.heap.size, 1, none⟩) := hd 3 (by decide)
      clear hd ha
      simp only [Lf, dstAt, Act.put, List.getElem?_toArray, List.getElem?_cons_zero, List.getElem?_cons_succ, Option.bind_some, List.setIfInBounds_toArray, List.set_cons_zero, List.set_cons_succ]
      simp only [e3]
      clear e3
      have p0 := ext_cell hx p0
      have p1 := ext_cell hx p1
      have p2 := ext_cell hx p2
      have p3 := ext_cell hx p3
      have hz := Below.size hx.undrew
      go_wp2
      exact ⟨rfl, Ext.refl _, rfl⟩
    · intro vals w1 hx hd ha
      have r2 : (fun v w1 => ∃ g c, v = .slice (some ⟨g, 0, none⟩) 16 c ∧ w1.ownsRow (w.heap.size + 3) 3 1 (.slice (some ⟨g, 0, none⟩) 16 c) 16 (p.has.map I64)) (vals 2) w1 := hd 2 (by decide)
      dsimp only at r2
      have e4 : vals 4 = .slice A2 16 c2 := hd 4 (by decide)
      clear hd ha
      simp only [Lf, dstAt, Act.put, List.getElem?_toArray, List.getElem?_cons_zero, List.getElem?_cons_succ, Option.bind_some, List.setIfInBounds_toArray, List.set_cons_zero, List.set_cons_succ]
      have p0 := ext_cell hx p0
      have p1 := ext_cell hx p1
      have p2 := ext_cell hx p2
      have p3 := ext_cell hx p3
      have hz := Below.size hx.undrew
      simp only [e4]
      clear e4
      go_wp2_with fail
      refine (clone_int A2 16 c2 p.used _ ((k2.below (Below.mono hx.undrew (by omega))).more (by omega))).mono ?_
      rintro e w2 ⟨v, rfl, hown, hb⟩
      obtain ⟨g, c, rfl⟩ := own16 hown
      go_wp2
      obtain ⟨g', c', e1, e2⟩ := r2
      exact ⟨rfl, hb, g, c, rfl, own_base hown (by omega), by rw [e1]; have := (own_lt e2).2; have := (own_lt hown).1; simp [Value.ownBlock]; omega⟩
    · intro vals w1 hx hd ha
      clear hd ha
      simp only [Lf, dstAt, Act.put, List.getElem?_toArray, List.getElem?_cons_zero, List.getElem?_cons_succ, Option.bind_some, List.setIfInBounds_toArray, List.set_cons_zero, List.set_cons_succ]
      have p0 := ext_cell hx p0
      have p1 := ext_cell hx p1
      have p2 := ext_cell hx p2
      have p3 := ext_cell hx p3
      have hz := Below.size hx.undrew
      go_wp2
      exact ⟨rfl, Ext.refl _, rfl⟩
    · intro vals w1 hx hd ha
      have e6 : vals 6 = .pointer (some ⟨w.heap.size, 2, none⟩) := hd 6 (by decide)
      clear hd ha
      simp only [Lf, dstAt, Act.put, List.getElem?_toArray, List.getElem?_cons_zero, List.getElem?_cons_succ, Option.bind_some, List.setIfInBounds_toArray, List.set_cons_zero, List.set_cons_succ]
      simp only [e6]
      clear e6
      have p0 := ext_cell hx p0
      have p1 := ext_cell hx p1
      have p2 := ext_cell hx p2
      have p3 := ext_cell hx p3
      have hz := Below.size hx.undrew
      go_wp2
      exact ⟨rfl, Ext.refl _, rfl⟩
    · intro vals w1 hx hd ha
      have r5 : (fun v w1 => ∃ g c, v = .slice (some ⟨g, 0, none⟩) 16 c ∧ w1.ownsRow (w.heap.size + 3) 3 1 (.slice (some ⟨g, 0, none⟩) 16 c) 16 (p.used.map I64) ∧ (vals 2).ownBlock ≠ some g) (vals 5) w1 := hd 5 (by decide)
      dsimp only at r5
      have e7 : vals 7 = .slice A3 n3 c3 := hd 7 (by decide)
      clear hd ha
      simp only [Lf, dstAt, Act.put, List.getElem?_toArray, List.getElem?_cons_zero, List.getElem?_cons_succ, Option.bind_some, List.setIfInBounds_toArray, List.set_cons_zero, List.set_cons_succ]
      have p0 := ext_cell hx p0
      have p1 := ext_cell hx p1
      have p2 := ext_cell hx p2
      have p3 := ext_cell hx p3
      have hz := Below.size hx.undrew
      simp only [e7]
      clear e7
      go_wp2_with fail
      refine (clone_loan A3 n3 c3 p.loans _ ((k3.below (Below.mono hx.undrew (by omega))).more (by omega))).mono ?_
      rintro e w2 ⟨v, rfl, hown, hb⟩
      go_wp2
      exact ⟨rfl, hb, own_base hown (by omega)⟩
    · intro vals w1 hx hd ha
      clear hd ha
      simp only [Lf, dstAt, Act.put, List.getElem?_toArray, List.getElem?_cons_zero, List.getElem?_cons_succ, Option.bind_some, List.setIfInBounds_toArray, List.set_cons_zero, List.set_cons_succ]
      have p0 := ext_cell hx p0
      have p1 := ext_cell hx p1
      have p2 := ext_cell hx p2
      have p3 := ext_cell hx p3
      have hz := Below.size hx.undrew
      go_wp2
      exact ⟨rfl, Ext.refl _, rfl⟩
    · intro vals w1 hx hd ha
      have e9 : vals 9 = .pointer (some ⟨w.heap.size, 3, none⟩) := hd 9 (by decide)
      clear hd ha
      simp only [Lf, dstAt, Act.put, List.getElem?_toArray, List.getElem?_cons_zero, List.getElem?_cons_succ, Option.bind_some, List.setIfInBounds_toArray, List.set_cons_zero, List.set_cons_succ]
      simp only [e9]
      clear e9
      have p0 := ext_cell hx p0
      have p1 := ext_cell hx p1
      have p2 := ext_cell hx p2
      have p3 := ext_cell hx p3
      have hz := Below.size hx.undrew
      go_wp2
      exact ⟨rfl, Ext.refl _, rfl⟩
    · intro vals w1 hx hd ha
      have r8 : (fun v w1 => w1.ownsRow (w.heap.size + 3) 28 3 v n3 (p.loans.flatMap loanCells)) (vals 8) w1 := hd 8 (by decide)
      dsimp only at r8
      have e10 : vals 10 = .slice A4 16 c4 := hd 10 (by decide)
      clear hd
      simp only [Lf, dstAt, Act.put, List.getElem?_toArray, List.getElem?_cons_zero, List.getElem?_cons_succ, Option.bind_some, List.setIfInBounds_toArray, List.set_cons_zero, List.set_cons_succ]
      have p0 := ext_cell hx p0
      have p1 := ext_cell hx p1
      have p2 := ext_cell hx p2
      have p3 := ext_cell hx p3
      have hz := Below.size hx.undrew
      simp only [e10]
      clear e10
      obtain ⟨g2', c2', e1, e2⟩ := ha 2 (by kernel_rfl)
      obtain ⟨g5', c5', f1, f2, _⟩ := ha 5 (by kernel_rfl)
      clear ha
      go_wp2_with fail
      refine (clone_int A4 16 c4 p.cents _ ((k4.below (Below.mono hx.undrew (by omega))).more (by omega))).mono ?_
      rintro e w2 ⟨v, rfl, hown, hb⟩
      obtain ⟨g, c, rfl⟩ := own16 hown
      go_wp2
      exact ⟨rfl, hb, g, c, rfl, own_base hown (by omega), by rw [e1]; have := (own_lt e2).2; have := (own_lt hown).1; simp [Value.ownBlock]; omega, by rw [f1]; have := (own_lt f2).2; have := (own_lt hown).1; simp [Value.ownBlock]; omega⟩
    · intro vals w1 hx hd ha
      have r2 : (fun v w1 => ∃ g c, v = .slice (some ⟨g, 0, none⟩) 16 c ∧ w1.ownsRow (w.heap.size + 3) 3 1 (.slice (some ⟨g, 0, none⟩) 16 c) 16 (p.has.map I64)) (vals 2) w1 := hd 2 (by decide)
      dsimp only at r2
      have r5 : (fun v w1 => ∃ g c, v = .slice (some ⟨g, 0, none⟩) 16 c ∧ w1.ownsRow (w.heap.size + 3) 3 1 (.slice (some ⟨g, 0, none⟩) 16 c) 16 (p.used.map I64) ∧ (vals 2).ownBlock ≠ some g) (vals 5) w1 := hd 5 (by decide)
      dsimp only at r5
      have r8 : (fun v w1 => w1.ownsRow (w.heap.size + 3) 28 3 v n3 (p.loans.flatMap loanCells)) (vals 8) w1 := hd 8 (by decide)
      dsimp only at r8
      have r11 : (fun v w1 => ∃ g c, v = .slice (some ⟨g, 0, none⟩) 16 c ∧ w1.ownsRow (w.heap.size + 3) 3 1 (.slice (some ⟨g, 0, none⟩) 16 c) 16 (p.cents.map I64) ∧ (vals 2).ownBlock ≠ some g ∧ (vals 5).ownBlock ≠ some g) (vals 11) w1 := hd 11 (by decide)
      dsimp only at r11
      clear hd ha
      simp only [Lf, dstAt, Act.put, List.getElem?_toArray, List.getElem?_cons_zero, List.getElem?_cons_succ, Option.bind_some, List.setIfInBounds_toArray, List.set_cons_zero, List.set_cons_succ]
      have p0 := ext_cell hx p0
      have p1 := ext_cell hx p1
      have p2 := ext_cell hx p2
      have p3 := ext_cell hx p3
      have hz := Below.size hx.undrew
      obtain ⟨g1, d1, e2, o2⟩ := r2
      obtain ⟨g2, d2, e5, o5, n5⟩ := r5
      obtain ⟨g4, d4, e11, o11, m11, n11⟩ := r11
      obtain ⟨A, d3, e8, _, _⟩ := own_slice r8
      rw [e8] at r8
      rw [e2] at n5 m11
      rw [e5] at n11
      rw [e2, e5, e8, e11]
      clear e2 e5 e8 e11
      go_wp2
      exact ⟨rfl, Ext.refl _, g1, d1, g2, d2, _, A, d3, g4, d4, rfl, rfl, ⟨o2, o5, o11, by simpa [Value.ownBlock] using n5, by simpa [Value.ownBlock] using m11, by simpa [Value.ownBlock] using n11⟩, r8⟩
    · intro vals w1 hx hd ha
      clear hd ha
      simp only [Lf, dstAt, Act.put, List.getElem?_toArray, List.getElem?_cons_zero, List.getElem?_cons_succ, Option.bind_some, List.setIfInBounds_toArray, List.set_cons_zero, List.set_cons_succ]
      have p0 := ext_cell hx p0
      have p1 := ext_cell hx p1
      have p2 := ext_cell hx p2
      have p3 := ext_cell hx p3
      have hz := Below.size hx.undrew
      go_wp2
      exact ⟨rfl, (by repeat (first | exact Below.refl _ _ | assumption | refine Below.drew ?_ | refine below_drewN ?_ _ | refine bl_alloc ?_ _ | refine Below.setCell ?_ (by first | (simp; done) | omega | (simp; omega)) _ | refine bl_then ?_ (by assumption))), _, rfl, by omega, Blk.new _ _ _⟩
  intro vals w2 hx hf
  obtain ⟨g1, d1, g2, d2, v3, A, d3, g4, d4, e12, e3, hrows, hown3⟩ := hf 12 (by omega)
  obtain ⟨Bq, e13, hBq, jq⟩ := hf 13 (by omega)
  clear hf p0 p1 p2 p3
  have hx := hx.undrew
  refine tail1 14 _ (by kernel_rfl) (by kernel_rfl) rfl ?_
  simp only [Lf, dstAt, Act.put, List.getElem?_toArray, List.getElem?_cons_zero, List.getElem?_cons_succ, Option.bind_some, List.setIfInBounds_toArray, List.set_cons_zero, List.set_cons_succ]
  rw [e12, e13, e3]
  rw [e3] at hown3
  clear e12 e13 e3
  have hL3 : p.loans.length = n3 := k3.len
  have hc0 := jq.cell 0
  have hc1 := jq.cell 1
  have hc2 := jq.cell 2
  have hc3 := jq.cell 3
  have hf0 := jq.frozen 0
  have hf1 := jq.frozen 1
  have hf2 := jq.frozen 2
  have hf3 := jq.frozen 3
  have hq0 : QI w ((((w2.setCell ⟨Bq, 0, none⟩ (.slice (some ⟨g1, 0, none⟩) 16 d1)).setCell ⟨Bq, 1, none⟩ (.slice (some ⟨g2, 0, none⟩) 16 d2)).setCell ⟨Bq, 2, none⟩ (.slice A n3 d3)).setCell ⟨Bq, 3, none⟩ (.slice (some ⟨g4, 0, none⟩) 16 d4)) x Bq g1 d1 g2 d2 g4 d4 (.slice A n3 d3) p.st p.loans := by
    refine ⟨jq.set4 _ _ _ _, hrows.set4 jq (by decide) _ _ _ _, ?_, (jl1.ext hx).far4 (by omega) _ _ _ _, (jr1.ext hx).far4 (by omega) _ _ _ _, below_set4 (hB1.trans (Below.mono hx hB1.size)) (by omega) _ _ _ _, hBq⟩
    rw [hL3]
    exact own_set4 hown3 (own_blk_ne hown3 jq (by decide)) _ _ _ _
  have HL3 := Lib.hid hL3
  clear hrows hown3 k1 k2 k3 k4 jp1 jl1 jr1 hB1 hL3
  go_wp2_with fail
  generalize ((((w2.setCell ⟨Bq, 0, none⟩ (.slice (some ⟨g1, 0, none⟩) 16 d1)).setCell ⟨Bq, 1, none⟩ (.slice (some ⟨g2, 0, none⟩) 16 d2)).setCell ⟨Bq, 2, none⟩ (.slice A n3 d3)).setCell ⟨Bq, 3, none⟩ (.slice (some ⟨g4, 0, none⟩) 16 d4)) = w3 at hq0 ⊢
  clear hc0 hc1 hc2 hc3 hf0 hf1 hf2 hf3 jq
  refine (HCL.out w3 Bq g1 d1 g2 d2 g4 d4 hq0.bel (hq0.bq.cell 0) (hq0.bq.cell 1) (hq0.bq.cell 3)).mono ?_
  rintro e w4 ⟨gm, rfl, hx4, hgm, jm⟩
  have hq4 := hq0.ext hx4
  have HBD := Lib.hid (st_bd HB.out)
  rw [List.length_map]
  clear hq0 hx4 hgm HCL HB HV HP eg
  go_wp2
  go_loopw [40] (fun i wr => ∃ k : Nat, k ≤ mv.length ∧ i = .int .i64 k ∧ QI w wr x Bq g1 d1 g2 d2 g4 d4 (.slice A n3 d3) ((mv.take k).foldl St.app p.st) p.loans ∧ Blk wr gm 73 ((mv.map (mvAt g1 g2 g4)).flatMap mvCells).toArray ∧ Hid (((mv.take k).foldl St.app p.st).bd (1000000000000 + 2000000000000 * k))) (fun i _ => mv.length - (intOf i).toNat)
  case atStart => exact ⟨0, Nat.zero_le _, rfl, hq4, jm, HBD.out⟩
  case round =>
    obtain ⟨k, hk, rfl, hq, jmr, HBk⟩ := hrel
    by_cases hlt : k < mv.length
    · have hcs := mv_cells jmr hlt
      have hok := HMV.out mv[k] (List.getElem_mem _)
      have hfs := fold_take_succ mv p.st k hlt
      generalize mv[k] = m at hcs hok hfs
      generalize (mv.take k).foldl St.app p.st = s at hq HBk hfs
      have HFS := Lib.hid hfs
      clear hfs
      obtain ⟨ca, cb, cc⟩ := hcs
      obtain ⟨hfa, hfb, hia, hib, ham0, ham1⟩ := hok
      have HOK : Hid (m.ok) := ⟨hfa, hfb, hia, hib, ham0, ham1⟩
      go_wp2_with fail
      have jt := Blk.new wr 73 #[.pointer (some ⟨Gf g1 g2 g4 m.fa, m.ia, none⟩), .pointer (some ⟨Gf g1 g2 g4 m.fb, m.ib, none⟩), .int .i64 m.am]
      have hqa := hq.ext (bl_alloc (Below.refl _ _) (.cells #[.pointer (some ⟨Gf g1 g2 g4 m.fa, m.ia, none⟩), .pointer (some ⟨Gf g1 g2 g4 m.fb, m.ib, none⟩), .int .i64 m.am] 73))
      have jma := jmr.alloc (.cells #[.pointer (some ⟨Gf g1 g2 g4 m.fa, m.ia, none⟩), .pointer (some ⟨Gf g1 g2 g4 m.fb, m.ib, none⟩), .int .i64 m.am] 73)
      generalize wr.alloc (.cells #[.pointer (some ⟨Gf g1 g2 g4 m.fa, m.ia, none⟩), .pointer (some ⟨Gf g1 g2 g4 m.fb, m.ib, none⟩), .int .i64 m.am] 73) = W1 at jt hqa jma ⊢
      generalize wr.heap.size = bt at jt ⊢
      clear hq jmr ca cb cc
      have t0 : W1.cell? ⟨bt, 0, none⟩ = some (.pointer (some ⟨Gf g1 g2 g4 m.fa, m.ia, none⟩)) := jt.cell 0
      have t2 : W1.cell? ⟨bt, 2, none⟩ = some (.int .i64 m.am) := jt.cell 2
      have hva := HBk.out m.fa hfa m.ia
      obtain ⟨cva, fva⟩ := hqa.rows.cell hfa hia
      have hbd1 := upd_bd HBk.out (D := 1000000000000) (by omega) m.fa m.ia (-m.am) hfa (by omega)
      generalize hval : (s.get m.fa).getD m.ia 0 = va at hva cva
      have HVA := Lib.hid hval
      clear hval
      obtain ⟨hva0, hva1⟩ := hva
      have hk2 : k ≤ 2 := by omega
      have hwr1 : IntKind.i64.wrap (va - m.am) = va - m.am := IntWalk.i64_in _ (by omega)
      refine wp_region_obl 8 (fun ix vals v w1 => match ix with | 0 => v = .pointer (some ⟨bt, 0, none⟩) | 1 => v = .pointer (some ⟨Gf g1 g2 g4 m.fa, m.ia, none⟩) | 2 => v = .pointer (some ⟨Gf g1 g2 g4 m.fa, m.ia, none⟩) | 3 => v = .int .i64 va | 4 => v = .pointer (some ⟨bt, 2, none⟩) | 5 => v = .int .i64 m.am | 6 => v = .int .i64 (va - m.am) | _ => v = .pointer (some ⟨Gf g1 g2 g4 m.fa, m.ia, none⟩)) (by kernel_rfl) (by kernel_rfl) ?_ ?_ ?_ ?_
      · intro ix vals v w1 w2 hi hr hx
        match ix, hr with
        | 0, hr => exact hr
        | 1, hr => exact hr
        | 2, hr => exact hr
        | 3, hr => exact hr
        | 4, hr => exact hr
        | 5, hr => exact hr
        | 6, hr => exact hr
        | (kx + 7), hr => exact hr
      · intro ix vals vals_ v w1 hi hv hr
        exact hr
      · refine ⟨?_, ?_, ?_, ?_, ?_, ?_, ?_, ?_, trivial⟩
        · intro vals w1 hx hd ha
          clear hd ha
          simp only [Lf]
          have t0 := ext_cell hx t0
          have t2 := ext_cell hx t2
          have cva := ext_cell hx cva
          go_wp2
          exact ⟨rfl, Ext.refl _, rfl⟩
        · intro vals w1 hx hd ha
          have e0 : vals 0 = .pointer (some ⟨bt, 0, none⟩) := hd 0 (by decide)
          clear hd ha
          simp only [Lf, dstAt, Act.put, List.getElem?_toArray, List.getElem?_cons_zero, Option.bind_some, List.setIfInBounds_toArray, List.set_cons_zero, List.set_cons_succ]
          simp only [e0]
          clear e0
          have t0 := ext_cell hx t0
          have t2 := ext_cell hx t2
          have cva := ext_cell hx cva
          go_wp2
          exact ⟨rfl, Ext.refl _, rfl⟩
        · intro vals w1 hx hd ha
          have e1 : vals 1 = .pointer (some ⟨Gf g1 g2 g4 m.fa, m.ia, none⟩) := hd 1 (by decide)
          clear hd ha
          simp only [Lf, dstAt, Act.put, List.getElem?_toArray, List.getElem?_cons_zero, List.getElem?_cons_succ, Option.bind_some, List.setIfInBounds_toArray, List.set_cons_zero, List.set_cons_succ]
          simp only [e1]
          clear e1
          have t0 := ext_cell hx t0
          have t2 := ext_cell hx t2
          have cva := ext_cell hx cva
          go_wp2
          exact ⟨rfl, Ext.refl _, rfl⟩
        · intro vals w1 hx hd ha
          have e2 : vals 2 = .pointer (some ⟨Gf g1 g2 g4 m.fa, m.ia, none⟩) := hd 2 (by decide)
          clear hd ha
          simp only [Lf, dstAt, Act.put, List.getElem?_toArray, List.getElem?_cons_zero, List.getElem?_cons_succ, Option.bind_some, List.setIfInBounds_toArray, List.set_cons_zero, List.set_cons_succ]
          simp only [e2]
          clear e2
          have t0 := ext_cell hx t0
          have t2 := ext_cell hx t2
          have cva := ext_cell hx cva
          go_wp2
          exact ⟨rfl, Ext.refl _, rfl⟩
        · intro vals w1 hx hd ha
          clear hd ha
          simp only [Lf, dstAt, Act.put, List.getElem?_toArray, List.getElem?_cons_zero, List.getElem?_cons_succ, Option.bind_some, List.setIfInBounds_toArray, List.set_cons_zero, List.set_cons_succ]
          have t0 := ext_cell hx t0
          have t2 := ext_cell hx t2
          have cva := ext_cell hx cva
          go_wp2
          exact ⟨rfl, Ext.refl _, rfl⟩
        · intro vals w1 hx hd ha
          have e4 : vals 4 = .pointer (some ⟨bt, 2, none⟩) := hd 4 (by decide)
          clear hd ha
          simp only [Lf, dstAt, Act.put, List.getElem?_toArray, List.getElem?_cons_zero, List.getElem?_cons_succ, Option.bind_some, List.setIfInBounds_toArray, List.set_cons_zero, List.set_cons_succ]
          simp only [e4]
          clear e4
          have t0 := ext_cell hx t0
          have t2 := ext_cell hx t2
          have cva := ext_cell hx cva
          go_wp2
          exact ⟨rfl, Ext.refl _, rfl⟩
        · intro vals w1 hx hd ha
          have e3 : vals 3 = .int .i64 va := hd 3 (by decide)
          have e5 : vals 5 = .int .i64 m.am := hd 5 (by decide)
          clear hd ha
          simp only [Lf, dstAt, Act.put, List.getElem?_toArray, List.getElem?_cons_zero, List.getElem?_cons_succ, Option.bind_some, List.setIfInBounds_toArray, List.set_cons_zero, List.set_cons_succ]
          simp only [e3, e5]
          clear e3 e5
          have t0 := ext_cell hx t0
          have t2 := ext_cell hx t2
          have cva := ext_cell hx cva
          go_wp2
          exact ⟨rfl, Ext.refl _, rfl⟩
        · intro vals w1 hx hd ha
          have e0 : vals 0 = .pointer (some ⟨bt, 0, none⟩) := hd 0 (by decide)
          have e1 : vals 1 = .pointer (some ⟨Gf g1 g2 g4 m.fa, m.ia, none⟩) := hd 1 (by decide)
          have e2 : vals 2 = .pointer (some ⟨Gf g1 g2 g4 m.fa, m.ia, none⟩) := hd 2 (by decide)
          have e3 : vals 3 = .int .i64 va := hd 3 (by decide)
          have e4 : vals 4 = .pointer (some ⟨bt, 2, none⟩) := hd 4 (by decide)
          have e5 : vals 5 = .int .i64 m.am := hd 5 (by decide)
          have e6 : vals 6 = .int .i64 (va - m.am) := hd 6 (by decide)
          clear hd ha
          simp only [Lf, dstAt, Act.put, List.getElem?_toArray, List.getElem?_cons_zero, List.getElem?_cons_succ, Option.bind_some, List.setIfInBounds_toArray, List.set_cons_zero, List.set_cons_succ]
          simp only [e0, e1, e2, e3, e4, e5, e6]
          clear e0 e1 e2 e3 e4 e5 e6
          have t0 := ext_cell hx t0
          have t2 := ext_cell hx t2
          have cva := ext_cell hx cva
          go_wp2
          exact ⟨rfl, Ext.refl _, rfl⟩
      clear hwr1
      intro vals2 w5 hx5 hf
      have e6 : vals2 6 = .int .i64 (va - m.am) := hf 6 (by omega)
      have e7 : vals2 7 = .pointer (some ⟨Gf g1 g2 g4 m.fa, m.ia, none⟩) := hf 7 (by omega)
      clear hf
      refine tail1 8 _ (by kernel_rfl) (by kernel_rfl) rfl ?_
      simp only [Lf, dstAt, Act.put, List.getElem?_toArray, List.getElem?_cons_zero, List.getElem?_cons_succ, Option.bind_some, List.setIfInBounds_toArray, List.set_cons_zero, List.set_cons_succ]
      rw [e6, e7]
      clear e6 e7
      have cva5 := ext_cell hx5 cva
      have fva5 : w5.frozen? ⟨Gf g1 g2 g4 m.fa, m.ia, none⟩ = false := by
        rw [Below.frozen hx5 (p := ⟨Gf g1 g2 g4 m.fa, m.ia, none⟩) (World.block_lt_of_cell? _ _ cva)]
        exact fva
      have hq5 := hqa.ext hx5.undrew
      have jm5 := jma.ext hx5.undrew
      have jt5 := jt.ext hx5.undrew
      clear t0 t2 cva fva hqa jma jt
      have hq6 := hq5.write hfa hia (-m.am)
      have jm6 := Blk.set_row hq5 jm5 (by decide) (i := m.ia) hfa (I64 (va - m.am))
      have jt6 := Blk.set_row hq5 jt5 (by decide) (i := m.ia) hfa (I64 (va - m.am))
      rw [HVA.out, ← Int.sub_eq_add_neg] at hq6
      go_wp2_with fail
      generalize w5.setCell ⟨Gf g1 g2 g4 m.fa, m.ia, none⟩ (.int .i64 (va - m.am)) = w6 at hq6 jm6 jt6 ⊢
      clear hq5 jm5 jt5 cva5 fva5 hva0 hva1 HVA
      generalize hs' : s.upd m.fa m.ia (-m.am) = s' at hq6 hbd1
      have HS' := Lib.hid hs'
      clear hs'
      have t1 : w6.cell? ⟨bt, 1, none⟩ = some (.pointer (some ⟨Gf g1 g2 g4 m.fb, m.ib, none⟩)) := jt6.cell 1
      have t2 : w6.cell? ⟨bt, 2, none⟩ = some (.int .i64 m.am) := jt6.cell 2
      have hvb := hbd1 m.fb hfb m.ib
      obtain ⟨cvb, fvb⟩ := hq6.rows.cell hfb hib
      generalize hval : (s'.get m.fb).getD m.ib 0 = vb at hvb cvb
      have HVB := Lib.hid hval
      clear hval hbd1
      obtain ⟨hvb0, hvb1⟩ := hvb
      have hwr1 : IntKind.i64.wrap (vb + m.am) = vb + m.am := IntWalk.i64_in _ (by omega)
      refine wp_region_obl 8 (fun ix vals v w1 => match ix with | 0 => v = .pointer (some ⟨bt, 1, none⟩) | 1 => v = .pointer (some ⟨Gf g1 g2 g4 m.fb, m.ib, none⟩) | 2 => v = .pointer (some ⟨Gf g1 g2 g4 m.fb, m.ib, none⟩) | 3 => v = .int .i64 vb | 4 => v = .pointer (some ⟨bt, 2, none⟩) | 5 => v = .int .i64 m.am | 6 => v = .int .i64 (vb + m.am) | _ => v = .pointer (some ⟨Gf g1 g2 g4 m.fb, m.ib, none⟩)) (by kernel_rfl) (by kernel_rfl) ?_ ?_ ?_ ?_
      · intro ix vals v w1 w2 hi hr hx
        match ix, hr with
        | 0, hr => exact hr
        | 1, hr => exact hr
        | 2, hr => exact hr
        | 3, hr => exact hr
        | 4, hr => exact hr
        | 5, hr => exact hr
        | 6, hr => exact hr
        | (kx + 7), hr => exact hr
      · intro ix vals vals_ v w1 hi hv hr
        exact hr
      · refine ⟨?_, ?_, ?_, ?_, ?_, ?_, ?_, ?_, trivial⟩
        · intro vals w1 hx hd ha
          clear hd ha
          simp only [Lf]
          have t1 := ext_cell hx t1
          have t2 := ext_cell hx t2
          have cvb := ext_cell hx cvb
          go_wp2
          exact ⟨rfl, Ext.refl _, rfl⟩
        · intro vals w1 hx hd ha
          have e0 : vals 0 = .pointer (some ⟨bt, 1, none⟩) := hd 0 (by decide)
          clear hd ha
          simp only [Lf, dstAt, Act.put, List.getElem?_toArray, List.getElem?_cons_zero, Option.bind_some, List.setIfInBounds_toArray, List.set_cons_zero, List.set_cons_succ]
          simp only [e0]
          clear e0
          have t1 := ext_cell hx t1
          have t2 := ext_cell hx t2
          have cvb := ext_cell hx cvb
          go_wp2
          exact ⟨rfl, Ext.refl _, rfl⟩
        · intro vals w1 hx hd ha
          have e1 : vals 1 = .pointer (some ⟨Gf g1 g2 g4 m.fb, m.ib, none⟩) := hd 1 (by decide)
          clear hd ha
          simp only [Lf, dstAt, Act.put, List.getElem?_toArray, List.getElem?_cons_zero, List.getElem?_cons_succ, Option.bind_some, List.setIfInBounds_toArray, List.set_cons_zero, List.set_cons_succ]
          simp only [e1]
          clear e1
          have t1 := ext_cell hx t1
          have t2 := ext_cell hx t2
          have cvb := ext_cell hx cvb
          go_wp2
          exact ⟨rfl, Ext.refl _, rfl⟩
        · intro vals w1 hx hd ha
          have e2 : vals 2 = .pointer (some ⟨Gf g1 g2 g4 m.fb, m.ib, none⟩) := hd 2 (by decide)
          clear hd ha
          simp only [Lf, dstAt, Act.put, List.getElem?_toArray, List.getElem?_cons_zero, List.getElem?_cons_succ, Option.bind_some, List.setIfInBounds_toArray, List.set_cons_zero, List.set_cons_succ]
          simp only [e2]
          clear e2
          have t1 := ext_cell hx t1
          have t2 := ext_cell hx t2
          have cvb := ext_cell hx cvb
          go_wp2
          exact ⟨rfl, Ext.refl _, rfl⟩
        · intro vals w1 hx hd ha
          clear hd ha
          simp only [Lf, dstAt, Act.put, List.getElem?_toArray, List.getElem?_cons_zero, List.getElem?_cons_succ, Option.bind_some, List.setIfInBounds_toArray, List.set_cons_zero, List.set_cons_succ]
          have t1 := ext_cell hx t1
          have t2 := ext_cell hx t2
          have cvb := ext_cell hx cvb
          go_wp2
          exact ⟨rfl, Ext.refl _, rfl⟩
        · intro vals w1 hx hd ha
          have e4 : vals 4 = .pointer (some ⟨bt, 2, none⟩) := hd 4 (by decide)
          clear hd ha
          simp only [Lf, dstAt, Act.put, List.getElem?_toArray, List.getElem?_cons_zero, List.getElem?_cons_succ, Option.bind_some, List.setIfInBounds_toArray, List.set_cons_zero, List.set_cons_succ]
          simp only [e4]
          clear e4
          have t1 := ext_cell hx t1
          have t2 := ext_cell hx t2
          have cvb := ext_cell hx cvb
          go_wp2
          exact ⟨rfl, Ext.refl _, rfl⟩
        · intro vals w1 hx hd ha
          have e3 : vals 3 = .int .i64 vb := hd 3 (by decide)
          have e5 : vals 5 = .int .i64 m.am := hd 5 (by decide)
          clear hd ha
          simp only [Lf, dstAt, Act.put, List.getElem?_toArray, List.getElem?_cons_zero, List.getElem?_cons_succ, Option.bind_some, List.setIfInBounds_toArray, List.set_cons_zero, List.set_cons_succ]
          simp only [e3, e5]
          clear e3 e5
          have t1 := ext_cell hx t1
          have t2 := ext_cell hx t2
          have cvb := ext_cell hx cvb
          go_wp2
          exact ⟨rfl, Ext.refl _, rfl⟩
        · intro vals w1 hx hd ha
          have e0 : vals 0 = .pointer (some ⟨bt, 1, none⟩) := hd 0 (by decide)
          have e1 : vals 1 = .pointer (some ⟨Gf g1 g2 g4 m.fb, m.ib, none⟩) := hd 1 (by decide)
          have e2 : vals 2 = .pointer (some ⟨Gf g1 g2 g4 m.fb, m.ib, none⟩) := hd 2 (by decide)
          have e3 : vals 3 = .int .i64 vb := hd 3 (by decide)
          have e4 : vals 4 = .pointer (some ⟨bt, 2, none⟩) := hd 4 (by decide)
          have e5 : vals 5 = .int .i64 m.am := hd 5 (by decide)
          have e6 : vals 6 = .int .i64 (vb + m.am) := hd 6 (by decide)
          clear hd ha
          simp only [Lf, dstAt, Act.put, List.getElem?_toArray, List.getElem?_cons_zero, List.getElem?_cons_succ, Option.bind_some, List.setIfInBounds_toArray, List.set_cons_zero, List.set_cons_succ]
          simp only [e0, e1, e2, e3, e4, e5, e6]
          clear e0 e1 e2 e3 e4 e5 e6
          have t1 := ext_cell hx t1
          have t2 := ext_cell hx t2
          have cvb := ext_cell hx cvb
          go_wp2
          exact ⟨rfl, Ext.refl _, rfl⟩
      clear hwr1
      intro vals3 w7 hx7 hf
      have e6 : vals3 6 = .int .i64 (vb + m.am) := hf 6 (by omega)
      have e7 : vals3 7 = .pointer (some ⟨Gf g1 g2 g4 m.fb, m.ib, none⟩) := hf 7 (by omega)
      clear hf
      refine tail1 8 _ (by kernel_rfl) (by kernel_rfl) rfl ?_
      simp only [Lf, dstAt, Act.put, List.getElem?_toArray, List.getElem?_cons_zero, List.getElem?_cons_succ, Option.bind_some, List.setIfInBounds_toArray, List.set_cons_zero, List.set_cons_succ]
      rw [e6, e7]
      clear e6 e7
      have cvb7 := ext_cell hx7 cvb
      have fvb7 : w7.frozen? ⟨Gf g1 g2 g4 m.fb, m.ib, none⟩ = false := by
        rw [Below.frozen hx7 (p := ⟨Gf g1 g2 g4 m.fb, m.ib, none⟩) (World.block_lt_of_cell? _ _ cvb)]
        exact fvb
      have hq7 := hq6.ext hx7.undrew
      have jm7 := jm6.ext hx7.undrew
      clear t1 t2 cvb fvb hq6 jm6 jt6
      have hq8 := hq7.write hfb hib m.am
      have jm8 := Blk.set_row hq7 jm7 (by decide) (i := m.ib) hfb (I64 (vb + m.am))
      rw [HVB.out] at hq8
      clear hq7 jm7
      go_wp2
      go_roundw
      case rel =>
        refine ⟨k + 1, by omega, by go_num, ?_, jm8, ?_⟩
        · rw [HFS.out, St.app, HS'.out]; exact hq8
        · rw [HFS.out, show (1000000000000 + 2000000000000 * ((k + 1 : Nat) : Int)) = 1000000000000 + 2000000000000 * (k : Int) + 2000000000000 by omega]; exact app_bd HBk.out m HOK.out
      case measure => simp [intOf]; omega
    · obtain rfl : k = mv.length := by omega
      rw [List.take_of_length_le (Nat.le_refl _)] at hq
      clear HBk jmr HBD HMV hlt hk hq4 jm
      have HRR : Hid (movedG p x mv = ⟨(mv.foldl St.app p.st).h, (mv.foldl St.app p.st).u, if x.units = 0 then p.loans else owedG p.loans x, (mv.foldl St.app p.st).c⟩) := rfl
      generalize mv.foldl St.app p.st = s at hq HRR
      have l2 : wr.cell? ⟨w.heap.size + 1, 2, none⟩ = some (.int .i64 x.units) := hq.jl.cell 2
      go_upto_if 63 with (fail)
      clear l2
      go_cut [] (fun wc => ∃ (A' : Option Addr) (n' d' : Nat) (ls' : List Loan), QI w wc x Bq g1 d1 g2 d2 g4 d4 (.slice A' n' d') s ls' ∧ Hid (ls' = if x.units = 0 then p.loans else owedG p.loans x) ∧ Hid (ls'.length = n') ∧ n' ≤ 1099511627776)
      case first =>
        by_cases hx0 : x.units = 0
        · have hd : (x.units != 0) = false := by simp [hx0]
          rw [hd]
          have HX0 := Lib.hid hx0
          clear hd hx0
          go_wp2_with fail
          go_meet
          case rel => exact ⟨A, n3, d3, p.loans, hq, by rw [if_pos HX0.out]; exact rfl, HL3.out, hn3⟩
        · have hd : (x.units != 0) = true := by simp [hx0]
          rw [hd]
          have HX0 := Lib.hid hx0
          clear hd hx0
          have b2 := hq.bq.cell 2
          have l0 : wr.cell? ⟨w.heap.size + 1, 0, none⟩ = some (.int .i64 x.fr) := hq.jl.cell 0
          have l1 : wr.cell? ⟨w.heap.size + 1, 1, none⟩ = some (.int .i64 x.to) := hq.jl.cell 1
          have l2 : wr.cell? ⟨w.heap.size + 1, 2, none⟩ = some (.int .i64 x.units) := hq.jl.cell 2
          go_wp2_with fail
          have hlo : loansOK none p.loans = true := by
            have := HVP.out
            simp only [validB, Bool.and_eq_true] at this
            exact this.1.2
          have h3w := hq.r3
          rw [HL3.out] at h3w
          have hfew := loans_le p.loans hlo
          rw [HL3.out] at hfew
          refine (bsearch_any A n3 d3 p.loans x wr (RL_of_own h3w hn3) (pairwise_loans _ _ hlo).1).mono ?_
          rintro e w5 ⟨rfl, hb5⟩
          have hq5 := hq.ext hb5
          have hpi := posL_ins p.loans x
          have hun := units_ins p.loans x hlo
          have hple := posL_le p.loans x
          rw [HL3.out] at hple
          have HIL := Lib.hid (insL_len p.loans x)
          have HID : Hid (owedG p.loans x = if unitsAt (insL p.loans x) (posL p.loans x) + x.units = 0 then (insL p.loans x).take (posL p.loans x) ++ (insL p.loans x).drop (posL p.loans x + 1) else setU (insL p.loans x) (posL p.loans x) (unitsAt (insL p.loans x) (posL p.loans x) + x.units)) := rfl
          have HII : Hid (insL p.loans x = if foundL p.loans x then p.loans else p.loans.take (posL p.loans x) ++ ⟨x.fr, x.to, 0⟩ :: p.loans.drop (posL p.loans x)) := rfl
          generalize posL p.loans x = i at hpi hun hple HID HII ⊢
          generalize foundL p.loans x = fnd at HIL HII ⊢
          generalize insL p.loans x = ls1 at hpi hun HIL HID HII
          clear hq h3w b2 l0 l1 l2 hlo hb5
          go_upto_if 72 with (fail)
          go_cut [] (fun wc => ∃ (A' : Option Addr) (d' : Nat), QI w wc x Bq g1 d1 g2 d2 g4 d4 (.slice A' ls1.length d') s ls1)
          case first =>
            cases fnd
            · have b2 := hq5.bq.cell 2
              have l0 : w5.cell? ⟨w.heap.size + 1, 0, none⟩ = some (.int .i64 x.fr) := hq5.jl.cell 0
              have l1 : w5.cell? ⟨w.heap.size + 1, 1, none⟩ = some (.int .i64 x.to) := hq5.jl.cell 1
              have hbq5 : Bq < w5.heap.size := hq5.bq.lt
              go_wp2_with fail
              have hq6 := hq5.ext (bl_alloc (Below.refl _ _) (.cells #[.int .i64 x.fr, .int .i64 x.to, .int .i64 0] 28))
              have jv := Blk.new w5 28 #[.int .i64 x.fr, .int .i64 x.to, .int .i64 0]
              have h3w := hq6.r3
              rw [HL3.out] at h3w
              have hnb : (Value.slice A n3 d3).ownBlock ≠ some w5.heap.size := fun e => by
                have := (hq5.r3.lt _ e).2
                omega
              have hz6 : w.heap.size + 3 ≤ (w5.alloc (.cells #[.int .i64 x.fr, .int .i64 x.to, .int .i64 0] 28)).heap.size := by simp; omega
              generalize w5.alloc (.cells #[.int .i64 x.fr, .int .i64 x.to, .int .i64 0] 28) = w6 at hq6 jv h3w hz6 ⊢
              generalize w5.heap.size = vb at jv hnb hbq5 ⊢
              refine (insert_any (w.heap.size + 3) (.slice A n3 d3) n3 i _ [.int .i64 x.fr, .int .i64 x.to, .int .i64 0] vb w6 h3w hple (loans_one _) jv rfl (by simp; exact ⟨rfl, rfl, rfl⟩) hnb hz6 hn3).mono ?_
              rintro e w7 ⟨v7, rfl, hown7, hg7⟩
              have e1 : ls1 = p.loans.take i ++ ⟨x.fr, x.to, 0⟩ :: p.loans.drop i := HII.out
              have e2 : ls1.length = n3 + 1 := by have := HIL.out; rw [HL3.out] at this; simpa using this
              have e3 : (p.loans.flatMap loanCells).take (i * 3) ++ [.int .i64 x.fr, .int .i64 x.to, .int .i64 0] ++ (p.loans.flatMap loanCells).drop (i * 3) = ls1.flatMap loanCells := by
                rw [e1, flat_take, flat_drop, List.flatMap_append, List.flatMap_cons]
                simp [loanCells]
              rw [e3, ← e2] at hown7
              obtain ⟨A', d', hv7, _, _⟩ := own_slice hown7
              subst hv7
              obtain ⟨hbq7, hq8⟩ := hq6.loans_grown hg7 hown7
              have c2 := hbq7.cell 2
              have f2 := hbq7.frozen 2
              have HQ8 := Lib.hid hq8
              clear e1 e2 e3 hown7 hg7 hbq7 hq8 hq6 jv h3w hnb hq5 b2 l0 l1
              go_wp2_with fail
              go_meet
              case rel => exact ⟨A', d', HQ8.out⟩
            · go_wp2_with fail
              go_meet
              case rel =>
                have e1 : ls1 = p.loans := HII.out
                subst e1
                exact ⟨A, d3, by rw [HL3.out]; exact hq5⟩
          case rest =>
            obtain ⟨A', d', hq6⟩ := hcut
            clear hq5 HII
            obtain ⟨g3, d3', cur, hv3, jb3, hg3, hcap⟩ := ownL_form hq6.r3 (by omega)
            injection hv3 with e1 _ e3
            subst e1 e3
            have hlt1 : (i : Int) < (ls1.length : Int) := by omega
            have b2 := hq6.bq.cell 2
            have l2 : wc.cell? ⟨w.heap.size + 1, 2, none⟩ = some (.int .i64 x.units) := hq6.jl.cell 2
            obtain ⟨cu, fu⟩ := ownL_units hq6.r3 hpi
            have hw9 := fun u => hq6.units hpi u
            generalize hua : unitsAt ls1 i = ua at cu hun HID
            obtain ⟨hu0, hu1⟩ := hun
            obtain ⟨hx1, hx2⟩ := hxu
            go_wp2_with fail
            have hwr1 : IntKind.i64.wrap (ua + x.units) = ua + x.units := IntWalk.i64_in _ (by omega)
            refine wp_region_obl 7 (fun ix vals v w1 => match ix with | 0 => v = .pointer (some ⟨g3, i * 3 + 2, none⟩) | 1 => v = .pointer (some ⟨g3, i * 3 + 2, none⟩) | 2 => v = .int .i64 ua | 3 => v = .pointer (some ⟨w.heap.size + 1, 2, none⟩) | 4 => v = .int .i64 x.units | 5 => v = .int .i64 (ua + x.units) | _ => v = .pointer (some ⟨g3, i * 3 + 2, none⟩)) (by kernel_rfl) (by kernel_rfl) ?_ ?_ ?_ ?_
            · intro ix vals v w1 w2 hi hr hx
              match ix, hr with
              | 0, hr => exact hr
              | 1, hr => exact hr
              | 2, hr => exact hr
              | 3, hr => exact hr
              | 4, hr => exact hr
              | 5, hr => exact hr
              | (kx + 6), hr => exact hr
            · intro ix vals vals_ v w1 hi hv hr
              exact hr
            · refine ⟨?_, ?_, ?_, ?_, ?_, ?_, ?_, trivial⟩
              · intro vals w1 hx hd ha
                clear hd ha
                simp only [Lf]
                have l2 := ext_cell hx l2
                have cu := ext_cell hx cu
                go_wp2
                exact ⟨rfl, Ext.refl _, rfl⟩
              · intro vals w1 hx hd ha
                have e0 : vals 0 = .pointer (some ⟨g3, i * 3 + 2, none⟩) := hd 0 (by decide)
                clear hd ha
                simp only [Lf, dstAt, Act.put, List.getElem?_toArray, List.getElem?_cons_zero, Option.bind_some, List.setIfInBounds_toArray, List.set_cons_zero, List.set_cons_succ]
                simp only [e0]
                clear e0
                have l2 := ext_cell hx l2
                have cu := ext_cell hx cu
                go_wp2
                exact ⟨rfl, Ext.refl _, rfl⟩
              · intro vals w1 hx hd ha
                have e1 : vals 1 = .pointer (some ⟨g3, i * 3 + 2, none⟩) := hd 1 (by decide)
                clear hd ha
                simp only [Lf, dstAt, Act.put, List.getElem?_toArray, List.getElem?_cons_zero, List.getElem?_cons_succ, Option.bind_some, List.setIfInBounds_toArray, List.set_cons_zero, List.set_cons_succ]
                simp only [e1]
                clear e1
                have l2 := ext_cell hx l2
                have cu := ext_cell hx cu
                go_wp2
                exact ⟨rfl, Ext.refl _, rfl⟩
              · intro vals w1 hx hd ha
                clear hd ha
                simp only [Lf, dstAt, Act.put, List.getElem?_toArray, List.getElem?_cons_zero, List.getElem?_cons_succ, Option.bind_some, List.setIfInBounds_toArray, List.set_cons_zero, List.set_cons_succ]
                have l2 := ext_cell hx l2
                have cu := ext_cell hx cu
                go_wp2
                exact ⟨rfl, Ext.refl _, rfl⟩
              · intro vals w1 hx hd ha
                have e3 : vals 3 = .pointer (some ⟨w.heap.size + 1, 2, none⟩) := hd 3 (by decide)
                clear hd ha
                simp only [Lf, dstAt, Act.put, List.getElem?_toArray, List.getElem?_cons_zero, List.getElem?_cons_succ, Option.bind_some, List.setIfInBounds_toArray, List.set_cons_zero, List.set_cons_succ]
                simp only [e3]
                clear e3
                have l2 := ext_cell hx l2
                have cu := ext_cell hx cu
                go_wp2
                exact ⟨rfl, Ext.refl _, rfl⟩
              · intro vals w1 hx hd ha
                have e2 : vals 2 = .int .i64 ua := hd 2 (by decide)
                have e4 : vals 4 = .int .i64 x.units := hd 4 (by decide)
                clear hd ha
                simp only [Lf, dstAt, Act.put, List.getElem?_toArray, List.getElem?_cons_zero, List.getElem?_cons_succ, Option.bind_some, List.setIfInBounds_toArray, List.set_cons_zero, List.set_cons_succ]
                simp only [e2, e4]
                clear e2 e4
                have l2 := ext_cell hx l2
                have cu := ext_cell hx cu
                go_wp2
                exact ⟨rfl, Ext.refl _, rfl⟩
              · intro vals w1 hx hd ha
                have e0 : vals 0 = .pointer (some ⟨g3, i * 3 + 2, none⟩) := hd 0 (by decide)
                have e1 : vals 1 = .pointer (some ⟨g3, i * 3 + 2, none⟩) := hd 1 (by decide)
                have e2 : vals 2 = .int .i64 ua := hd 2 (by decide)
                have e3 : vals 3 = .pointer (some ⟨w.heap.size + 1, 2, none⟩) := hd 3 (by decide)
                have e4 : vals 4 = .int .i64 x.units := hd 4 (by decide)
                have e5 : vals 5 = .int .i64 (ua + x.units) := hd 5 (by decide)
                clear hd ha
                simp only [Lf, dstAt, Act.put, List.getElem?_toArray, List.getElem?_cons_zero, List.getElem?_cons_succ, Option.bind_some, List.setIfInBounds_toArray, List.set_cons_zero, List.set_cons_succ]
                simp only [e0, e1, e2, e3, e4, e5]
                clear e0 e1 e2 e3 e4 e5
                have l2 := ext_cell hx l2
                have cu := ext_cell hx cu
                go_wp2
                exact ⟨rfl, Ext.refl _, rfl⟩
            clear hwr1
            intro vals5 w6 hx6 hf
            have e5 : vals5 5 = .int .i64 (ua + x.units) := hf 5 (by omega)
            have e6 : vals5 6 = .pointer (some ⟨g3, i * 3 + 2, none⟩) := hf 6 (by omega)
            clear hf
            refine tail1 7 _ (by kernel_rfl) (by kernel_rfl) rfl ?_
            simp only [Lf, dstAt, Act.put, List.getElem?_toArray, List.getElem?_cons_zero, List.getElem?_cons_succ, Option.bind_some, List.setIfInBounds_toArray, List.set_cons_zero, List.set_cons_succ]
            rw [e5, e6]
            clear e5 e6
            have cu6 := ext_cell hx6 cu
            have fu6 : w6.frozen? ⟨g3, i * 3 + 2, none⟩ = false := by
              rw [Below.frozen hx6 (p := ⟨g3, i * 3 + 2, none⟩) (World.block_lt_of_cell? _ _ cu)]
              exact fu
            have hq7 := (hq6.ext hx6.undrew).units hpi (ua + x.units)
            have hlen2 := setU_len ls1 i (ua + x.units)
            have cu7 : (w6.setCell ⟨g3, i * 3 + 2, none⟩ (.int .i64 (ua + x.units))).cell? ⟨g3, i * 3 + 2, none⟩ = some (.int .i64 (ua + x.units)) := by go_simp
            have hll : ls1.length ≤ n3 + 1 := by have := HIL.out; rw [HL3.out] at this; rw [this]; split <;> omega
            have HSU : Hid (owedG p.loans x = if ua + x.units = 0 then ls1.take i ++ ls1.drop (i + 1) else setU ls1 i (ua + x.units)) := HID.out
            have HTK : Hid ((setU ls1 i (ua + x.units)).take i ++ (setU ls1 i (ua + x.units)).drop (i + 1) = ls1.take i ++ ls1.drop (i + 1)) := by
              show _ = _
              unfold setU
              rw [List.getElem?_eq_getElem hpi]
              simp only [Option.map_some, Option.getD_some]
              rw [List.take_set_of_le (Nat.le_refl _), List.drop_set_of_lt (by omega)]
            clear hw9 hq6 b2 l2 cu fu HID HIL
            generalize setU ls1 i (ua + x.units) = ls2 at hq7 hlen2 HSU HTK
            have HLN2 := Lib.hid hlen2
            clear hlen2
            go_upto_if 99 with (fail)
            generalize w6.setCell ⟨g3, i * 3 + 2, none⟩ (.int .i64 (ua + x.units)) = w7 at hq7 cu7 ⊢
            have b2 := hq7.bq.cell 2
            have hbq7 : Bq < w7.heap.size := hq7.bq.lt
            clear cu6 fu6 cu7
            by_cases hz : ua + x.units = 0
            · have hd : ((ua + x.units) == 0) = true := by simp [hz]
              rw [hd]
              have HZ := Lib.hid hz
              clear hz hd
              go_wp2_with fail
              refine (delete_any (w.heap.size + 3) _ ls2.length i _ w7 hq7.r3 (by rw [HLN2.out]; exact hpi) (loans_one _) (by rw [HLN2.out]; omega)).mono ?_
              rintro e w8 ⟨v8, rfl, hown8, hg8⟩
              rw [flat_take, show i * 3 + 3 = (i + 1) * 3 by omega, flat_drop, ← List.flatMap_append, HTK.out] at hown8
              have hl8 : (ls1.take i ++ ls1.drop (i + 1)).length = ls2.length - 1 := by rw [HLN2.out, List.length_append, List.length_take, List.length_drop]; omega
              rw [← hl8] at hown8
              obtain ⟨A8, d8, hv8, _, _⟩ := own_slice hown8
              subst hv8
              obtain ⟨hbq8, hq9⟩ := hq7.loans_grown hg8 hown8
              have c2 := hbq8.cell 2
              have f2 := hbq8.frozen 2
              have HQ9 := Lib.hid hq9
              have hl9 : (ls1.take i ++ ls1.drop (i + 1)).length ≤ 1099511627776 := by rw [List.length_append, List.length_take, List.length_drop]; omega
              clear hown8 hg8 hbq8 hq9 hq7 b2 hl8
              generalize hls8 : ls1.take i ++ ls1.drop (i + 1) = ls8 at HQ9 HSU hl9 ⊢
              clear hls8
              go_wp2_with fail
              go_meet
              case rel => exact ⟨A8, _, d8, ls8, HQ9.out, by rw [if_neg HX0.out, HSU.out, if_pos HZ.out]; exact rfl, rfl, hl9⟩
            · have hd : ((ua + x.units) == 0) = false := by simp [hz]
              rw [hd]
              have HZ := Lib.hid hz
              have hl2 : ls2.length ≤ 1099511627776 := by rw [HLN2.out]; omega
              clear hz hd
              go_wp2_with fail
              go_meet
              case rel => exact ⟨_, _, _, ls2, hq7, by rw [if_neg HX0.out, HSU.out, if_neg HZ.out]; exact rfl, rfl, hl2⟩
      case rest =>
        obtain ⟨A', n', d', ls', hqc, HLS, HLN, hn'⟩ := hcut
        have hc0 := hqc.bq.cell 0
        have hc1 := hqc.bq.cell 1
        have hc2 := hqc.bq.cell 2
        have hc3 := hqc.bq.cell 3
        have hbq : Bq < wc.heap.size := hqc.bq.lt
        go_wp2_with fail
        have hp := hqc.pool HLN.out hn'
        have hmv : movedG p x mv = ⟨s.h, s.u, ls', s.c⟩ := by rw [HRR.out, HLS.out]
        refine (valid_any ⟨some ⟨g1, 0, none⟩, 16, d1⟩ ⟨some ⟨g2, 0, none⟩, 16, d2⟩ ⟨A', n', d'⟩ ⟨some ⟨g4, 0, none⟩, 16, d4⟩ _ wc hp).mono ?_
        rintro e w9 ⟨rfl, hb9⟩
        have hq9 := hqc.ext hb9
        rw [← hmv]
        have hr := HR.out
        have jr9 := hq9.jr
        have hf0 := jr9.frozen 0
        have hf1 := jr9.frozen 1
        have hf2 := jr9.frozen 2
        have hf3 := jr9.frozen 3
        have hz9 : w.heap.size + 2 < w9.heap.size := jr9.lt
        clear hc0 hc1 hc2 hc3
        have hc0 := jr9.cell 0
        have hc1 := jr9.cell 1
        have hc2 := jr9.cell 2
        have hc3 := jr9.cell 3
        cases hvq : validB (movedG p x mv)
        · rw [hvq] at hr
          have HR2 : Hid (r = none) := hr.trans (by simp)
          clear hr hvq hmv hp hqc hb9 HR
          go_wp2
          generalize hW4 : ((((w9.setCell ⟨w.heap.size + 2, 0, none⟩ _).setCell ⟨w.heap.size + 2, 1, none⟩ _).setCell ⟨w.heap.size + 2, 2, none⟩ _).setCell ⟨w.heap.size + 2, 3, none⟩ _) = w10
          have j4 : Blk w10 (w.heap.size + 2) 26 nil4 := by subst hW4; exact jr9.set4 _ _ _ _
          have hB4 : Below w.heap.size w w10 := by subst hW4; exact below_set4 hq9.bel (by omega) _ _ _ _
          clear hc0 hc1 hc2 hc3
          have hc0 := j4.cell 0
          have hc1 := j4.cell 1
          have hc2 := j4.cell 2
          have hc3 := j4.cell 3
          exact bodyPost_ret (v := .tuple #[nilV, .int .i64 250]) (by simp [results, Try.results52, go_sem, hc0, hc1, hc2, hc3, nilV]) rfl ⟨_, rfl, hB4, .inl ⟨HR2.out, rfl⟩⟩
        · rw [hvq] at hr
          have HR2 : Hid (r = some ⟨s.h, s.u, ls', s.c⟩) := hr.trans (by rw [hmv]; simp)
          have b0 := hq9.bq.cell 0
          have b1 := hq9.bq.cell 1
          have b2 := hq9.bq.cell 2
          have b3 := hq9.bq.cell 3
          have hbq9 : Bq < w9.heap.size := hq9.bq.lt
          have hbqg := hq9.lt
          clear hr hvq hmv hp hqc hb9 HR
          go_wp2
          generalize hW4 : ((((w9.setCell ⟨w.heap.size + 2, 0, none⟩ _).setCell ⟨w.heap.size + 2, 1, none⟩ _).setCell ⟨w.heap.size + 2, 2, none⟩ _).setCell ⟨w.heap.size + 2, 3, none⟩ _) = w10
          have j4 : Blk w10 (w.heap.size + 2) 26 #[.slice (some ⟨g1, 0, none⟩) 16 d1, .slice (some ⟨g2, 0, none⟩) 16 d2, .slice A' n' d', .slice (some ⟨g4, 0, none⟩) 16 d4] := by subst hW4; exact jr9.set4 _ _ _ _
          have hB4 : Below w.heap.size w w10 := by subst hW4; exact below_set4 hq9.bel (by omega) _ _ _ _
          have hp10 : PoolOwn w10 w.heap.size ⟨some ⟨g1, 0, none⟩, 16, d1⟩ ⟨some ⟨g2, 0, none⟩, 16, d2⟩ ⟨A', n', d'⟩ ⟨some ⟨g4, 0, none⟩, 16, d4⟩ ⟨s.h, s.u, ls', s.c⟩ := by
            subst hW4
            have hr3 := hq9.r3
            rw [HLN.out] at hr3
            have hp9 : PoolOwn w9 (w.heap.size + 3) ⟨some ⟨g1, 0, none⟩, 16, d1⟩ ⟨some ⟨g2, 0, none⟩, 16, d2⟩ ⟨A', n', d'⟩ ⟨some ⟨g4, 0, none⟩, 16, d4⟩ ⟨s.h, s.u, ls', s.c⟩ :=
              ⟨hq9.rows.r1, hq9.rows.r2, hr3, hq9.rows.r4, by show 16 ≤ 1099511627776; omega, by show 16 ≤ 1099511627776; omega, hn', by show 16 ≤ 1099511627776; omega⟩
            exact (hp9.down (by omega)).set4 jr9 _ _ _ _
          clear hc0 hc1 hc2 hc3
          have hc0 := j4.cell 0
          have hc1 := j4.cell 1
          have hc2 := j4.cell 2
          have hc3 := j4.cell 3
          exact bodyPost_ret (v := .tuple #[poolV ⟨some ⟨g1, 0, none⟩, 16, d1⟩ ⟨some ⟨g2, 0, none⟩, 16, d2⟩ ⟨A', n', d'⟩ ⟨some ⟨g4, 0, none⟩, 16, d4⟩, .int .i64 0]) (by simp [results, Try.results52, go_sem, hc0, hc1, hc2, hc3]) rfl ⟨_, rfl, hB4, .inr ⟨_, _, _, _, _, HR2.out, rfl, hp10⟩⟩

end Go.Proofs.Ytpddnkefggaigaa
