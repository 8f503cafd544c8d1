/- The cell of a satellite. -/
import Derived.Test.YtlmpmhfbjblhnaaA3
import Derived.Test.YtlmpmhfbjblhnaaReg
namespace Go.Proofs.Ytlmpmhfbjblhnaa
open Go.RowKit

theorem rowP_bd (o : Orb) (t : Int) (h : 0 < o.period) (h5 : 0 ≤ o.low) (h6 : o.low < o.high) : 0 ≤ rowP o t ∧ rowP o t ≤ o.low + (o.high - o.low) := by
  unfold rowP
  have u1 := Int.emod_nonneg (t + o.phase) (b := o.period) (by omega)
  have u2 := Int.emod_lt_of_pos (t + o.phase) (b := o.period) (by omega)
  generalize (t + o.phase) % o.period = u at u1 u2
  have hv : 0 ≤ min u (o.period - u) ∧ 2 * min u (o.period - u) ≤ o.period := by omega
  generalize min u (o.period - u) = v at hv
  obtain ⟨v1, v2⟩ := hv
  have e : (o.high - o.low) * 2 * v = (o.high - o.low) * (2 * v) := by rw [Int.mul_assoc]
  rw [e]
  have m1 : 0 ≤ (o.high - o.low) * (2 * v) := Int.mul_nonneg (by omega) (by omega)
  have m2 : (o.high - o.low) * (2 * v) ≤ (o.high - o.low) * o.period := Int.mul_le_mul_of_nonneg_left v2 (by omega)
  have d1 := Int.ediv_nonneg m1 (show 0 ≤ o.period by omega)
  have d2 : (o.high - o.low) * (2 * v) / o.period ≤ o.high - o.low := Int.ediv_le_of_le_mul h m2
  omega

theorem cell_any (p f lo hi no tu sl t : Int) (h1 : 20 ≤ p) (h2 : p ≤ 2000) (h3 : 0 ≤ f) (h4 : f ≤ 1999) (h5 : 0 ≤ lo) (h6 : lo < hi) (h7 : hi ≤ 23999) (h8 : -10 ≤ t) (h9 : t ≤ 1000010) (h10 : 0 ≤ no) (h11 : no ≤ 47999) (h12 : -2000 ≤ tu) (h13 : tu ≤ 2000) (w : World) :
    Calls Try.prog 79 #[.agg #[.int .i64 p, .int .i64 f, .int .i64 lo, .int .i64 hi, .int .i64 no, .int .i64 tu, .int .i64 sl, .int .i64 t]] w fun e w' => e = .returned (.agg #[.int .i64 (colP ⟨p, f, lo, hi, no, tu, sl⟩ t / 1000), .int .i64 (rowP ⟨p, f, lo, hi, no, tu, sl⟩ t / 1000)]) ∧ Below w.heap.size w w' := by
  have q : -4000000000 ≤ tu * t ∧ tu * t ≤ 4000000000 := by
    have a1 : tu * t ≤ 2000 * 1000010 ∨ tu * t ≤ 2000 * 1000010 := by
      by_cases ht : 0 ≤ t
      · left
        exact Int.mul_le_mul h13 h9 ht (by omega)
      · left
        have := Int.mul_le_mul_of_nonpos_right h12 (show t ≤ 0 by omega)
        omega
    have a2 : -(2000 * 1000010) ≤ tu * t := by
      by_cases ht : 0 ≤ t
      · have := Int.mul_le_mul_of_nonneg_right h12 ht
        omega
      · have := Int.mul_le_mul_of_nonpos_right h13 (show t ≤ 0 by omega)
        omega
    omega
  have C := column_any p f lo hi no tu sl t q.1 q.2 h10 h11
  have R := row_any p f lo hi no tu sl t h1 h2 h3 h4 h5 h6 h7 h8 h9
  have hY := rowP_bd ⟨p, f, lo, hi, no, tu, sl⟩ t (by simp; omega) h5 h6
  simp only at hY
  have hc : colP ⟨p, f, lo, hi, no, tu, sl⟩ t = (no + tu * t) % 48000 := rfl
  rw [hc]
  have x1 := Int.emod_nonneg (no + tu * t) (b := 48000) (by omega)
  have x2 := Int.emod_lt_of_pos (no + tu * t) (b := 48000) (by omega)
  generalize (no + tu * t) % 48000 = X at C x1 x2 ⊢
  generalize rowP ⟨p, f, lo, hi, no, tu, sl⟩ t = Y at R hY ⊢
  obtain ⟨y1, y2⟩ := hY
  have HC := Lib.hid C
  have HR := Lib.hid R
  clear C R q hc
  go_enter Try.func79, Try.ntmps79
  go_wp2_with fail
  have K : Blk ((w.alloc (.cells #[.int .i64 p, .int .i64 f, .int .i64 lo, .int .i64 hi, .int .i64 no, .int .i64 tu, .int .i64 sl, .int .i64 t] 111)).alloc (.cells #[.int .i64 0, .int .i64 0] 29)) w.heap.size 111 #[.int .i64 p, .int .i64 f, .int .i64 lo, .int .i64 hi, .int .i64 no, .int .i64 tu, .int .i64 sl, .int .i64 t] := (Blk.new _ _ _).alloc _
  have K2 : Blk ((w.alloc (.cells #[.int .i64 p, .int .i64 f, .int .i64 lo, .int .i64 hi, .int .i64 no, .int .i64 tu, .int .i64 sl, .int .i64 t] 111)).alloc (.cells #[.int .i64 0, .int .i64 0] 29)) (w.heap.size + 1) 29 #[.int .i64 0, .int .i64 0] := by
    have k := Blk.new (w.alloc (.cells #[.int .i64 p, .int .i64 f, .int .i64 lo, .int .i64 hi, .int .i64 no, .int .i64 tu, .int .i64 sl, .int .i64 t] 111)) 29 #[.int .i64 0, .int .i64 0]
    rw [World.size_alloc] at k
    exact k
  have hb : Below w.heap.size w ((w.alloc (.cells #[.int .i64 p, .int .i64 f, .int .i64 lo, .int .i64 hi, .int .i64 no, .int .i64 tu, .int .i64 sl, .int .i64 t] 111)).alloc (.cells #[.int .i64 0, .int .i64 0] 29)) := (by repeat (first | exact Below.refl _ _ | assumption | refine Below.drew ?_ | refine below_drewN ?_ _ | refine bl_alloc ?_ _ | refine Below.setCell ?_ (by first | (simp; done) | omega | (simp; omega)) _ | refine bl_then ?_ (by assumption)))
  generalize (w.alloc (.cells #[.int .i64 p, .int .i64 f, .int .i64 lo, .int .i64 hi, .int .i64 no, .int .i64 tu, .int .i64 sl, .int .i64 t] 111)).alloc (.cells #[.int .i64 0, .int .i64 0] 29) = W at K K2 hb ⊢
  have g0 : W.cell? ⟨w.heap.size, 0, none⟩ = some (.int .i64 p) := K.cell 0
  have g1 : W.cell? ⟨w.heap.size, 1, none⟩ = some (.int .i64 f) := K.cell 1
  have g2 : W.cell? ⟨w.heap.size, 2, none⟩ = some (.int .i64 lo) := K.cell 2
  have g3 : W.cell? ⟨w.heap.size, 3, none⟩ = some (.int .i64 hi) := K.cell 3
  have g4 : W.cell? ⟨w.heap.size, 4, none⟩ = some (.int .i64 no) := K.cell 4
  have g5 : W.cell? ⟨w.heap.size, 5, none⟩ = some (.int .i64 tu) := K.cell 5
  have g6 : W.cell? ⟨w.heap.size, 6, none⟩ = some (.int .i64 sl) := K.cell 6
  have g7 : W.cell? ⟨w.heap.size, 7, none⟩ = some (.int .i64 t) := K.cell 7
  refine wp_region_obl 7 (fun ix vals v w1 => match ix with | 0 => v = .agg #[.int .i64 p, .int .i64 f, .int .i64 lo, .int .i64 hi, .int .i64 no, .int .i64 tu, .int .i64 sl, .int .i64 t] | 1 => v = .int .i64 X | 2 => v = .int .i64 (X / 1000) | 3 => v = .agg #[.int .i64 p, .int .i64 f, .int .i64 lo, .int .i64 hi, .int .i64 no, .int .i64 tu, .int .i64 sl, .int .i64 t] | 4 => v = .int .i64 Y | 5 => v = .int .i64 (Y / 1000) | _ => v = .agg #[.int .i64 (X / 1000), .int .i64 (Y / 1000)]) (by kernel_rfl) (by kernel_rfl) ?_ ?_ ?_ ?_
  · intro ix vals v w1 w2 hi hr hx
    match ix, hr with
    | 0, hr => exact hr
    | 1, hr => exact hr
    | 2, hr => exact hr
    | 3, hr => exact hr
    | 4, hr => exact hr
    | 5, hr => exact hr
    | (kx + 6), hr => exact hr
  · intro ix vals vals_ v w1 hi hv hr
    exact hr
  · refine ⟨?_, ?_, ?_, ?_, ?_, ?_, ?_, trivial⟩
    · intro vals w1 hx hd ha
      clear hd ha
      simp only [Lf]
      have g0 := ext_cell hx g0
      have g1 := ext_cell hx g1
      have g2 := ext_cell hx g2
      have g3 := ext_cell hx g3
      have g4 := ext_cell hx g4
      have g5 := ext_cell hx g5
      have g6 := ext_cell hx g6
      have g7 := ext_cell hx g7
      go_wp2
      exact ⟨rfl, Ext.refl _, rfl⟩
    · intro vals w1 hx hd ha
      have e0 : vals 0 = .agg #[.int .i64 p, .int .i64 f, .int .i64 lo, .int .i64 hi, .int .i64 no, .int .i64 tu, .int .i64 sl, .int .i64 t] := hd 0 (by decide)
      clear hd ha
      simp only [Lf, dstAt, Act.put, List.getElem?_toArray, List.getElem?_cons_zero, Option.bind_some, List.setIfInBounds_toArray, List.set_cons_zero, List.set_cons_succ]
      have g0 := ext_cell hx g0
      have g1 := ext_cell hx g1
      have g2 := ext_cell hx g2
      have g3 := ext_cell hx g3
      have g4 := ext_cell hx g4
      have g5 := ext_cell hx g5
      have g6 := ext_cell hx g6
      have g7 := ext_cell hx g7
      simp only [e0]
      clear e0
      go_wp2_with fail
      refine (HC.out _).mono ?_
      rintro e w2 ⟨rfl, hb2⟩
      go_wp2
      exact ⟨rfl, hb2, rfl⟩
    · intro vals w1 hx hd ha
      have e1 : vals 1 = .int .i64 X := hd 1 (by decide)
      clear hd ha
      simp only [Lf, dstAt, Act.put, List.getElem?_toArray, List.getElem?_cons_zero, List.getElem?_cons_succ, Option.bind_some, List.setIfInBounds_toArray, List.set_cons_zero, List.set_cons_succ]
      simp only [e1]
      clear e1
      have g0 := ext_cell hx g0
      have g1 := ext_cell hx g1
      have g2 := ext_cell hx g2
      have g3 := ext_cell hx g3
      have g4 := ext_cell hx g4
      have g5 := ext_cell hx g5
      have g6 := ext_cell hx g6
      have g7 := ext_cell hx g7
      go_wp2
      exact ⟨rfl, Ext.refl _, rfl⟩
    · intro vals w1 hx hd ha
      clear hd ha
      simp only [Lf, dstAt, Act.put, List.getElem?_toArray, List.getElem?_cons_zero, List.getElem?_cons_succ, Option.bind_some, List.setIfInBounds_toArray, List.set_cons_zero, List.set_cons_succ]
      have g0 := ext_cell hx g0
      have g1 := ext_cell hx g1
      have g2 := ext_cell hx g2
      have g3 := ext_cell hx g3
      have g4 := ext_cell hx g4
      have g5 := ext_cell hx g5
      have g6 := ext_cell hx g6
      have g7 := ext_cell hx g7
      go_wp2
      exact ⟨rfl, Ext.refl _, rfl⟩
    · intro vals w1 hx hd ha
      have e1 : vals 1 = .int .i64 X := hd 1 (by decide)
      have e3 : vals 3 = .agg #[.int .i64 p, .int .i64 f, .int .i64 lo, .int .i64 hi, .int .i64 no, .int .i64 tu, .int .i64 sl, .int .i64 t] := hd 3 (by decide)
      clear hd ha
      simp only [Lf, dstAt, Act.put, List.getElem?_toArray, List.getElem?_cons_zero, List.getElem?_cons_succ, Option.bind_some, List.setIfInBounds_toArray, List.set_cons_zero, List.set_cons_succ]
      have g0 := ext_cell hx g0
      have g1 := ext_cell hx g1
      have g2 := ext_cell hx g2
      have g3 := ext_cell hx g3
      have g4 := ext_cell hx g4
      have g5 := ext_cell hx g5
      have g6 := ext_cell hx g6
      have g7 := ext_cell hx g7
      simp only [e1]
      simp only [e3]
      clear e1 e3
      go_wp2_with fail
      refine (HR.out _).mono ?_
      rintro e w2 ⟨rfl, hb2⟩
      go_wp2
      exact ⟨rfl, hb2, rfl⟩
    · intro vals w1 hx hd ha
      have e4 : vals 4 = .int .i64 Y := hd 4 (by decide)
      clear hd ha
      simp only [Lf, dstAt, Act.put, List.getElem?_toArray, List.getElem?_cons_zero, List.getElem?_cons_succ, Option.bind_some, List.setIfInBounds_toArray, List.set_cons_zero, List.set_cons_succ]
      simp only [e4]
      clear e4
      have g0 := ext_cell hx g0
      have g1 := ext_cell hx g1
      have g2 := ext_cell hx g2
      have g3 := ext_cell hx g3
      have g4 := ext_cell hx g4
      have g5 := ext_cell hx g5
      have g6 := ext_cell hx g6
      have g7 := ext_cell hx g7
      go_wp2
      exact ⟨rfl, Ext.refl _, rfl⟩
    · intro vals w1 hx hd ha
      have e2 : vals 2 = .int .i64 (X / 1000) := hd 2 (by decide)
      have e5 : vals 5 = .int .i64 (Y / 1000) := hd 5 (by decide)
      clear hd ha
      simp only [Lf, dstAt, Act.put, List.getElem?_toArray, List.getElem?_cons_zero, List.getElem?_cons_succ, Option.bind_some, List.setIfInBounds_toArray, List.set_cons_zero, List.set_cons_succ]
      simp only [e2, e5]
      clear e2 e5
      have g0 := ext_cell hx g0
      have g1 := ext_cell hx g1
      have g2 := ext_cell hx g2
      have g3 := ext_cell hx g3
      have g4 := ext_cell hx g4
      have g5 := ext_cell hx g5
      have g6 := ext_cell hx g6
      have g7 := ext_cell hx g7
      go_wp2
      exact ⟨rfl, Ext.refl _, rfl⟩
  intro vals w2 hx hf
  have e6 : vals 6 = .agg #[.int .i64 (X / 1000), .int .i64 (Y / 1000)] := hf 6 (by omega)
  clear hf
  have hx := hx.undrew
  have hB2 : Below w.heap.size w w2 := hb.trans (Below.mono hx hb.size)
  have K3 := K2.ext hx
  refine tail1 7 _ (by kernel_rfl) (by kernel_rfl) rfl ?_
  simp only [Lf, dstAt, Act.put, List.getElem?_toArray, List.getElem?_cons_zero, List.getElem?_cons_succ, Option.bind_some, List.setIfInBounds_toArray, List.set_cons_zero, List.set_cons_succ]
  rw [e6]
  clear e6
  have k0 := K3.frozen 0
  have k1 := K3.frozen 1
  have c0 := K3.cell 0
  have c1 := K3.cell 1
  go_wp2
  have K4 := (K3.set_ 0 (.int .i64 (X / 1000))).set_ 1 (.int .i64 (Y / 1000))
  have hB4 : Below w.heap.size w ((w2.setCell ⟨w.heap.size + 1, 0, none⟩ (.int .i64 (X / 1000))).setCell ⟨w.heap.size + 1, 1, none⟩ (.int .i64 (Y / 1000))) := (by repeat (first | exact Below.refl _ _ | assumption | refine Below.drew ?_ | refine below_drewN ?_ _ | refine bl_alloc ?_ _ | refine Below.setCell ?_ (by first | (simp; done) | omega | (simp; omega)) _ | refine bl_then ?_ (by assumption)))
  generalize (w2.setCell ⟨w.heap.size + 1, 0, none⟩ (.int .i64 (X / 1000))).setCell ⟨w.heap.size + 1, 1, none⟩ (.int .i64 (Y / 1000)) = w4 at K4 hB4 ⊢
  have c2 : w4.cell? ⟨w.heap.size + 1, 0, none⟩ = some (.int .i64 (X / 1000)) := K4.cell 0
  have c3 : w4.cell? ⟨w.heap.size + 1, 1, none⟩ = some (.int .i64 (Y / 1000)) := K4.cell 1
  exact bodyPost_ret (v := .agg #[.int .i64 (X / 1000), .int .i64 (Y / 1000)]) (by simp [results, Try.results79, go_sem, c2, c3]) rfl ⟨rfl, hB4⟩

end Go.Proofs.Ytlmpmhfbjblhnaa
