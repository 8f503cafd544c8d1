/- The orbit at a minute. -/
import Derived.Test.YtlmpmhfbjblhnaaA4
namespace Go.Proofs.Ytlmpmhfbjblhnaa
open Go.RowKit

theorem Blk.set8 {w : World} {g : Nat} {t : TypeId} {a0 a1 a2 a3 a4 a5 a6 a7 : Value} (h : Blk w g t #[a0, a1, a2, a3, a4, a5, a6, a7]) (b0 b1 b2 b3 b4 b5 b6 b7 : Value) :
    Blk ((((((((w.setCell ⟨g, 0, none⟩ b0).setCell ⟨g, 1, none⟩ b1).setCell ⟨g, 2, none⟩ b2).setCell ⟨g, 3, none⟩ b3).setCell ⟨g, 4, none⟩ b4).setCell ⟨g, 5, none⟩ b5).setCell ⟨g, 6, none⟩ b6).setCell ⟨g, 7, none⟩ b7) g t #[b0, b1, b2, b3, b4, b5, b6, b7] := by
  have k := (((((((h.set_ 0 b0).set_ 1 b1).set_ 2 b2).set_ 3 b3).set_ 4 b4).set_ 5 b5).set_ 6 b6).set_ 7 b7
  simp only [List.setIfInBounds_toArray, List.set_cons_zero, List.set_cons_succ] at k
  exact k

set_option maxHeartbeats 1000000 in
theorem at_any (p f lo hi no tu sl t la : Int) (w : World) :
    Calls Try.prog 78 #[.agg #[.int .i64 p, .int .i64 f, .int .i64 lo, .int .i64 hi, .int .i64 no, .int .i64 tu, .int .i64 sl], .int .i64 t, .int .i64 la] w fun e w' => e = .returned (.tuple #[.agg #[.int .i64 p, .int .i64 f, .int .i64 lo, .int .i64 hi, .int .i64 no, .int .i64 tu, .int .i64 sl, .int .i64 (IntKind.i64.wrap (t - la))], .bool (inB t 0 1000000 && inB la (-10) 10 && orbOK ⟨p, f, lo, hi, no, tu, sl⟩)]) ∧ Below w.heap.size w w' := by
  generalize hT : IntKind.i64.wrap (t - la) = T
  generalize e0 : inB t 0 1000000 = b0
  generalize e1 : inB la (-10) 10 = b1
  have V := orbit_valid p f lo hi no tu sl
  generalize orbOK ⟨p, f, lo, hi, no, tu, sl⟩ = b2 at V ⊢
  have E0 := Lib.hid e0
  have E1 := Lib.hid e1
  have HV := Lib.hid V
  clear e0 e1 V
  go_enter Try.func78, Try.ntmps78
  go_wp2_with fail
  have K : Blk ((w.alloc (.cells #[.int .i64 p, .int .i64 f, .int .i64 lo, .int .i64 hi, .int .i64 no, .int .i64 tu, .int .i64 sl] 25)).alloc (.cells #[.int .i64 0, .int .i64 0, .int .i64 0, .int .i64 0, .int .i64 0, .int .i64 0, .int .i64 0, .int .i64 0] 111)) w.heap.size 25 #[.int .i64 p, .int .i64 f, .int .i64 lo, .int .i64 hi, .int .i64 no, .int .i64 tu, .int .i64 sl] := (Blk.new _ _ _).alloc _
  have K2 : Blk ((w.alloc (.cells #[.int .i64 p, .int .i64 f, .int .i64 lo, .int .i64 hi, .int .i64 no, .int .i64 tu, .int .i64 sl] 25)).alloc (.cells #[.int .i64 0, .int .i64 0, .int .i64 0, .int .i64 0, .int .i64 0, .int .i64 0, .int .i64 0, .int .i64 0] 111)) (w.heap.size + 1) 111 #[.int .i64 0, .int .i64 0, .int .i64 0, .int .i64 0, .int .i64 0, .int .i64 0, .int .i64 0, .int .i64 0] := by
    have k := Blk.new (w.alloc (.cells #[.int .i64 p, .int .i64 f, .int .i64 lo, .int .i64 hi, .int .i64 no, .int .i64 tu, .int .i64 sl] 25)) 111 #[.int .i64 0, .int .i64 0, .int .i64 0, .int .i64 0, .int .i64 0, .int .i64 0, .int .i64 0, .int .i64 0]
    rw [World.size_alloc] at k
    exact k
  have hb : Below w.heap.size w ((w.alloc (.cells #[.int .i64 p, .int .i64 f, .int .i64 lo, .int .i64 hi, .int .i64 no, .int .i64 tu, .int .i64 sl] 25)).alloc (.cells #[.int .i64 0, .int .i64 0, .int .i64 0, .int .i64 0, .int .i64 0, .int .i64 0, .int .i64 0, .int .i64 0] 111)) := (by repeat (first | exact Below.refl _ _ | assumption | refine Below.drew ?_ | refine below_drewN ?_ _ | refine bl_alloc ?_ _ | refine Below.setCell ?_ (by first | (simp; done) | omega | (simp; omega)) _ | refine bl_then ?_ (by assumption)))
  generalize (w.alloc (.cells #[.int .i64 p, .int .i64 f, .int .i64 lo, .int .i64 hi, .int .i64 no, .int .i64 tu, .int .i64 sl] 25)).alloc (.cells #[.int .i64 0, .int .i64 0, .int .i64 0, .int .i64 0, .int .i64 0, .int .i64 0, .int .i64 0, .int .i64 0] 111) = W at K K2 hb ⊢
  refine (oin_any _ _ _ _).mono ?_
  rintro e w1 ⟨rfl, rfl⟩
  rw [E0.out]
  cases b0
  · skip
    have g0 : W.cell? ⟨w.heap.size, 0, none⟩ = some (.int .i64 p) := K.cell 0
    have g1 : W.cell? ⟨w.heap.size, 1, none⟩ = some (.int .i64 f) := K.cell 1
    have g2 : W.cell? ⟨w.heap.size, 2, none⟩ = some (.int .i64 lo) := K.cell 2
    have g3 : W.cell? ⟨w.heap.size, 3, none⟩ = some (.int .i64 hi) := K.cell 3
    have g4 : W.cell? ⟨w.heap.size, 4, none⟩ = some (.int .i64 no) := K.cell 4
    have g5 : W.cell? ⟨w.heap.size, 5, none⟩ = some (.int .i64 tu) := K.cell 5
    have g6 : W.cell? ⟨w.heap.size, 6, none⟩ = some (.int .i64 sl) := K.cell 6
    have z0 : W.cell? ⟨w.heap.size + 1, 0, none⟩ = some (.int .i64 0) := K2.cell 0
    have y0 := K2.frozen 0
    have z1 : W.cell? ⟨w.heap.size + 1, 1, none⟩ = some (.int .i64 0) := K2.cell 1
    have y1 := K2.frozen 1
    have z2 : W.cell? ⟨w.heap.size + 1, 2, none⟩ = some (.int .i64 0) := K2.cell 2
    have y2 := K2.frozen 2
    have z3 : W.cell? ⟨w.heap.size + 1, 3, none⟩ = some (.int .i64 0) := K2.cell 3
    have y3 := K2.frozen 3
    have z4 : W.cell? ⟨w.heap.size + 1, 4, none⟩ = some (.int .i64 0) := K2.cell 4
    have y4 := K2.frozen 4
    have z5 : W.cell? ⟨w.heap.size + 1, 5, none⟩ = some (.int .i64 0) := K2.cell 5
    have y5 := K2.frozen 5
    have z6 : W.cell? ⟨w.heap.size + 1, 6, none⟩ = some (.int .i64 0) := K2.cell 6
    have y6 := K2.frozen 6
    have z7 : W.cell? ⟨w.heap.size + 1, 7, none⟩ = some (.int .i64 0) := K2.cell 7
    have y7 := K2.frozen 7
    go_wp2
    clear z0 y0 z1 y1 z2 y2 z3 y3 z4 y4 z5 y5 z6 y6 z7 y7 g0 g1 g2 g3 g4 g5 g6
    have K4 := K2.set8 (.int .i64 p) (.int .i64 f) (.int .i64 lo) (.int .i64 hi) (.int .i64 no) (.int .i64 tu) (.int .i64 sl) (.int .i64 T)
    have hB4 : Below w.heap.size w ((((((((W.setCell ⟨w.heap.size + 1, 0, none⟩ (.int .i64 p)).setCell ⟨w.heap.size + 1, 1, none⟩ (.int .i64 f)).setCell ⟨w.heap.size + 1, 2, none⟩ (.int .i64 lo)).setCell ⟨w.heap.size + 1, 3, none⟩ (.int .i64 hi)).setCell ⟨w.heap.size + 1, 4, none⟩ (.int .i64 no)).setCell ⟨w.heap.size + 1, 5, none⟩ (.int .i64 tu)).setCell ⟨w.heap.size + 1, 6, none⟩ (.int .i64 sl)).setCell ⟨w.heap.size + 1, 7, none⟩ (.int .i64 T)) := ((((((((hb.setCell (p := ⟨w.heap.size + 1, 0, none⟩) (Nat.le_succ _) _).setCell (p := ⟨w.heap.size + 1, 1, none⟩) (Nat.le_succ _) _).setCell (p := ⟨w.heap.size + 1, 2, none⟩) (Nat.le_succ _) _).setCell (p := ⟨w.heap.size + 1, 3, none⟩) (Nat.le_succ _) _).setCell (p := ⟨w.heap.size + 1, 4, none⟩) (Nat.le_succ _) _).setCell (p := ⟨w.heap.size + 1, 5, none⟩) (Nat.le_succ _) _).setCell (p := ⟨w.heap.size + 1, 6, none⟩) (Nat.le_succ _) _).setCell (p := ⟨w.heap.size + 1, 7, none⟩) (Nat.le_succ _) _)
    generalize ((((((((W.setCell ⟨w.heap.size + 1, 0, none⟩ (.int .i64 p)).setCell ⟨w.heap.size + 1, 1, none⟩ (.int .i64 f)).setCell ⟨w.heap.size + 1, 2, none⟩ (.int .i64 lo)).setCell ⟨w.heap.size + 1, 3, none⟩ (.int .i64 hi)).setCell ⟨w.heap.size + 1, 4, none⟩ (.int .i64 no)).setCell ⟨w.heap.size + 1, 5, none⟩ (.int .i64 tu)).setCell ⟨w.heap.size + 1, 6, none⟩ (.int .i64 sl)).setCell ⟨w.heap.size + 1, 7, none⟩ (.int .i64 T)) = w4 at K4 hB4 ⊢
    have c0 : w4.cell? ⟨w.heap.size + 1, 0, none⟩ = some (.int .i64 p) := K4.cell 0
    have c1 : w4.cell? ⟨w.heap.size + 1, 1, none⟩ = some (.int .i64 f) := K4.cell 1
    have c2 : w4.cell? ⟨w.heap.size + 1, 2, none⟩ = some (.int .i64 lo) := K4.cell 2
    have c3 : w4.cell? ⟨w.heap.size + 1, 3, none⟩ = some (.int .i64 hi) := K4.cell 3
    have c4 : w4.cell? ⟨w.heap.size + 1, 4, none⟩ = some (.int .i64 no) := K4.cell 4
    have c5 : w4.cell? ⟨w.heap.size + 1, 5, none⟩ = some (.int .i64 tu) := K4.cell 5
    have c6 : w4.cell? ⟨w.heap.size + 1, 6, none⟩ = some (.int .i64 sl) := K4.cell 6
    have c7 : w4.cell? ⟨w.heap.size + 1, 7, none⟩ = some (.int .i64 T) := K4.cell 7
    exact bodyPost_ret (v := .tuple #[.agg #[.int .i64 p, .int .i64 f, .int .i64 lo, .int .i64 hi, .int .i64 no, .int .i64 tu, .int .i64 sl, .int .i64 T], .bool false]) (by simp [results, Try.results78, go_sem, c0, c1, c2, c3, c4, c5, c6, c7]) rfl ⟨by simp, hB4⟩
  · cases b1
    · skip
      have g0 : W.cell? ⟨w.heap.size, 0, none⟩ = some (.int .i64 p) := K.cell 0
      have g1 : W.cell? ⟨w.heap.size, 1, none⟩ = some (.int .i64 f) := K.cell 1
      have g2 : W.cell? ⟨w.heap.size, 2, none⟩ = some (.int .i64 lo) := K.cell 2
      have g3 : W.cell? ⟨w.heap.size, 3, none⟩ = some (.int .i64 hi) := K.cell 3
      have g4 : W.cell? ⟨w.heap.size, 4, none⟩ = some (.int .i64 no) := K.cell 4
      have g5 : W.cell? ⟨w.heap.size, 5, none⟩ = some (.int .i64 tu) := K.cell 5
      have g6 : W.cell? ⟨w.heap.size, 6, none⟩ = some (.int .i64 sl) := K.cell 6
      have z0 : W.cell? ⟨w.heap.size + 1, 0, none⟩ = some (.int .i64 0) := K2.cell 0
      have y0 := K2.frozen 0
      have z1 : W.cell? ⟨w.heap.size + 1, 1, none⟩ = some (.int .i64 0) := K2.cell 1
      have y1 := K2.frozen 1
      have z2 : W.cell? ⟨w.heap.size + 1, 2, none⟩ = some (.int .i64 0) := K2.cell 2
      have y2 := K2.frozen 2
      have z3 : W.cell? ⟨w.heap.size + 1, 3, none⟩ = some (.int .i64 0) := K2.cell 3
      have y3 := K2.frozen 3
      have z4 : W.cell? ⟨w.heap.size + 1, 4, none⟩ = some (.int .i64 0) := K2.cell 4
      have y4 := K2.frozen 4
      have z5 : W.cell? ⟨w.heap.size + 1, 5, none⟩ = some (.int .i64 0) := K2.cell 5
      have y5 := K2.frozen 5
      have z6 : W.cell? ⟨w.heap.size + 1, 6, none⟩ = some (.int .i64 0) := K2.cell 6
      have y6 := K2.frozen 6
      have z7 : W.cell? ⟨w.heap.size + 1, 7, none⟩ = some (.int .i64 0) := K2.cell 7
      have y7 := K2.frozen 7
      go_wp2_with fail
      refine (oin_any _ _ _ _).mono ?_
      rintro e w1 ⟨rfl, rfl⟩
      rw [E1.out]
      go_wp2
      clear z0 y0 z1 y1 z2 y2 z3 y3 z4 y4 z5 y5 z6 y6 z7 y7 g0 g1 g2 g3 g4 g5 g6
      have K4 := K2.set8 (.int .i64 p) (.int .i64 f) (.int .i64 lo) (.int .i64 hi) (.int .i64 no) (.int .i64 tu) (.int .i64 sl) (.int .i64 T)
      have hB4 : Below w.heap.size w ((((((((W.setCell ⟨w.heap.size + 1, 0, none⟩ (.int .i64 p)).setCell ⟨w.heap.size + 1, 1, none⟩ (.int .i64 f)).setCell ⟨w.heap.size + 1, 2, none⟩ (.int .i64 lo)).setCell ⟨w.heap.size + 1, 3, none⟩ (.int .i64 hi)).setCell ⟨w.heap.size + 1, 4, none⟩ (.int .i64 no)).setCell ⟨w.heap.size + 1, 5, none⟩ (.int .i64 tu)).setCell ⟨w.heap.size + 1, 6, none⟩ (.int .i64 sl)).setCell ⟨w.heap.size + 1, 7, none⟩ (.int .i64 T)) := ((((((((hb.setCell (p := ⟨w.heap.size + 1, 0, none⟩) (Nat.le_succ _) _).setCell (p := ⟨w.heap.size + 1, 1, none⟩) (Nat.le_succ _) _).setCell (p := ⟨w.heap.size + 1, 2, none⟩) (Nat.le_succ _) _).setCell (p := ⟨w.heap.size + 1, 3, none⟩) (Nat.le_succ _) _).setCell (p := ⟨w.heap.size + 1, 4, none⟩) (Nat.le_succ _) _).setCell (p := ⟨w.heap.size + 1, 5, none⟩) (Nat.le_succ _) _).setCell (p := ⟨w.heap.size + 1, 6, none⟩) (Nat.le_succ _) _).setCell (p := ⟨w.heap.size + 1, 7, none⟩) (Nat.le_succ _) _)
      generalize ((((((((W.setCell ⟨w.heap.size + 1, 0, none⟩ (.int .i64 p)).setCell ⟨w.heap.size + 1, 1, none⟩ (.int .i64 f)).setCell ⟨w.heap.size + 1, 2, none⟩ (.int .i64 lo)).setCell ⟨w.heap.size + 1, 3, none⟩ (.int .i64 hi)).setCell ⟨w.heap.size + 1, 4, none⟩ (.int .i64 no)).setCell ⟨w.heap.size + 1, 5, none⟩ (.int .i64 tu)).setCell ⟨w.heap.size + 1, 6, none⟩ (.int .i64 sl)).setCell ⟨w.heap.size + 1, 7, none⟩ (.int .i64 T)) = w4 at K4 hB4 ⊢
      have c0 : w4.cell? ⟨w.heap.size + 1, 0, none⟩ = some (.int .i64 p) := K4.cell 0
      have c1 : w4.cell? ⟨w.heap.size + 1, 1, none⟩ = some (.int .i64 f) := K4.cell 1
      have c2 : w4.cell? ⟨w.heap.size + 1, 2, none⟩ = some (.int .i64 lo) := K4.cell 2
      have c3 : w4.cell? ⟨w.heap.size + 1, 3, none⟩ = some (.int .i64 hi) := K4.cell 3
      have c4 : w4.cell? ⟨w.heap.size + 1, 4, none⟩ = some (.int .i64 no) := K4.cell 4
      have c5 : w4.cell? ⟨w.heap.size + 1, 5, none⟩ = some (.int .i64 tu) := K4.cell 5
      have c6 : w4.cell? ⟨w.heap.size + 1, 6, none⟩ = some (.int .i64 sl) := K4.cell 6
      have c7 : w4.cell? ⟨w.heap.size + 1, 7, none⟩ = some (.int .i64 T) := K4.cell 7
      exact bodyPost_ret (v := .tuple #[.agg #[.int .i64 p, .int .i64 f, .int .i64 lo, .int .i64 hi, .int .i64 no, .int .i64 tu, .int .i64 sl, .int .i64 T], .bool false]) (by simp [results, Try.results78, go_sem, c0, c1, c2, c3, c4, c5, c6, c7]) rfl ⟨by simp, hB4⟩
    · skip
      have g0 : W.cell? ⟨w.heap.size, 0, none⟩ = some (.int .i64 p) := K.cell 0
      have g1 : W.cell? ⟨w.heap.size, 1, none⟩ = some (.int .i64 f) := K.cell 1
      have g2 : W.cell? ⟨w.heap.size, 2, none⟩ = some (.int .i64 lo) := K.cell 2
      have g3 : W.cell? ⟨w.heap.size, 3, none⟩ = some (.int .i64 hi) := K.cell 3
      have g4 : W.cell? ⟨w.heap.size, 4, none⟩ = some (.int .i64 no) := K.cell 4
      have g5 : W.cell? ⟨w.heap.size, 5, none⟩ = some (.int .i64 tu) := K.cell 5
      have g6 : W.cell? ⟨w.heap.size, 6, none⟩ = some (.int .i64 sl) := K.cell 6
      have z0 : W.cell? ⟨w.heap.size + 1, 0, none⟩ = some (.int .i64 0) := K2.cell 0
      have y0 := K2.frozen 0
      have z1 : W.cell? ⟨w.heap.size + 1, 1, none⟩ = some (.int .i64 0) := K2.cell 1
      have y1 := K2.frozen 1
      have z2 : W.cell? ⟨w.heap.size + 1, 2, none⟩ = some (.int .i64 0) := K2.cell 2
      have y2 := K2.frozen 2
      have z3 : W.cell? ⟨w.heap.size + 1, 3, none⟩ = some (.int .i64 0) := K2.cell 3
      have y3 := K2.frozen 3
      have z4 : W.cell? ⟨w.heap.size + 1, 4, none⟩ = some (.int .i64 0) := K2.cell 4
      have y4 := K2.frozen 4
      have z5 : W.cell? ⟨w.heap.size + 1, 5, none⟩ = some (.int .i64 0) := K2.cell 5
      have y5 := K2.frozen 5
      have z6 : W.cell? ⟨w.heap.size + 1, 6, none⟩ = some (.int .i64 0) := K2.cell 6
      have y6 := K2.frozen 6
      have z7 : W.cell? ⟨w.heap.size + 1, 7, none⟩ = some (.int .i64 0) := K2.cell 7
      have y7 := K2.frozen 7
      go_wp2_with fail
      refine (oin_any _ _ _ _).mono ?_
      rintro e w1 ⟨rfl, rfl⟩
      rw [E1.out]
      go_wp2_with fail
      refine (HV.out _).mono ?_
      rintro e W2 ⟨rfl, hb2⟩
      clear z0 y0 z1 y1 z2 y2 z3 y3 z4 y4 z5 y5 z6 y6 z7 y7 g0 g1 g2 g3 g4 g5 g6
      have K := K.below hb2 (by have := K.lt; omega)
      have K2 := K2.below hb2 (by have := K2.lt; omega)
      have hB2 : Below w.heap.size w W2 := hb.trans (Below.mono hb2 hb.size)
      have g0 : W2.cell? ⟨w.heap.size, 0, none⟩ = some (.int .i64 p) := K.cell 0
      have g1 : W2.cell? ⟨w.heap.size, 1, none⟩ = some (.int .i64 f) := K.cell 1
      have g2 : W2.cell? ⟨w.heap.size, 2, none⟩ = some (.int .i64 lo) := K.cell 2
      have g3 : W2.cell? ⟨w.heap.size, 3, none⟩ = some (.int .i64 hi) := K.cell 3
      have g4 : W2.cell? ⟨w.heap.size, 4, none⟩ = some (.int .i64 no) := K.cell 4
      have g5 : W2.cell? ⟨w.heap.size, 5, none⟩ = some (.int .i64 tu) := K.cell 5
      have g6 : W2.cell? ⟨w.heap.size, 6, none⟩ = some (.int .i64 sl) := K.cell 6
      have z0 : W2.cell? ⟨w.heap.size + 1, 0, none⟩ = some (.int .i64 0) := K2.cell 0
      have y0 := K2.frozen 0
      have z1 : W2.cell? ⟨w.heap.size + 1, 1, none⟩ = some (.int .i64 0) := K2.cell 1
      have y1 := K2.frozen 1
      have z2 : W2.cell? ⟨w.heap.size + 1, 2, none⟩ = some (.int .i64 0) := K2.cell 2
      have y2 := K2.frozen 2
      have z3 : W2.cell? ⟨w.heap.size + 1, 3, none⟩ = some (.int .i64 0) := K2.cell 3
      have y3 := K2.frozen 3
      have z4 : W2.cell? ⟨w.heap.size + 1, 4, none⟩ = some (.int .i64 0) := K2.cell 4
      have y4 := K2.frozen 4
      have z5 : W2.cell? ⟨w.heap.size + 1, 5, none⟩ = some (.int .i64 0) := K2.cell 5
      have y5 := K2.frozen 5
      have z6 : W2.cell? ⟨w.heap.size + 1, 6, none⟩ = some (.int .i64 0) := K2.cell 6
      have y6 := K2.frozen 6
      have z7 : W2.cell? ⟨w.heap.size + 1, 7, none⟩ = some (.int .i64 0) := K2.cell 7
      have y7 := K2.frozen 7
      go_wp2
      clear z0 y0 z1 y1 z2 y2 z3 y3 z4 y4 z5 y5 z6 y6 z7 y7 g0 g1 g2 g3 g4 g5 g6
      have K4 := K2.set8 (.int .i64 p) (.int .i64 f) (.int .i64 lo) (.int .i64 hi) (.int .i64 no) (.int .i64 tu) (.int .i64 sl) (.int .i64 T)
      have hB4 : Below w.heap.size w ((((((((W2.setCell ⟨w.heap.size + 1, 0, none⟩ (.int .i64 p)).setCell ⟨w.heap.size + 1, 1, none⟩ (.int .i64 f)).setCell ⟨w.heap.size + 1, 2, none⟩ (.int .i64 lo)).setCell ⟨w.heap.size + 1, 3, none⟩ (.int .i64 hi)).setCell ⟨w.heap.size + 1, 4, none⟩ (.int .i64 no)).setCell ⟨w.heap.size + 1, 5, none⟩ (.int .i64 tu)).setCell ⟨w.heap.size + 1, 6, none⟩ (.int .i64 sl)).setCell ⟨w.heap.size + 1, 7, none⟩ (.int .i64 T)) := ((((((((hB2.setCell (p := ⟨w.heap.size + 1, 0, none⟩) (Nat.le_succ _) _).setCell (p := ⟨w.heap.size + 1, 1, none⟩) (Nat.le_succ _) _).setCell (p := ⟨w.heap.size + 1, 2, none⟩) (Nat.le_succ _) _).setCell (p := ⟨w.heap.size + 1, 3, none⟩) (Nat.le_succ _) _).setCell (p := ⟨w.heap.size + 1, 4, none⟩) (Nat.le_succ _) _).setCell (p := ⟨w.heap.size + 1, 5, none⟩) (Nat.le_succ _) _).setCell (p := ⟨w.heap.size + 1, 6, none⟩) (Nat.le_succ _) _).setCell (p := ⟨w.heap.size + 1, 7, none⟩) (Nat.le_succ _) _)
      generalize ((((((((W2.setCell ⟨w.heap.size + 1, 0, none⟩ (.int .i64 p)).setCell ⟨w.heap.size + 1, 1, none⟩ (.int .i64 f)).setCell ⟨w.heap.size + 1, 2, none⟩ (.int .i64 lo)).setCell ⟨w.heap.size + 1, 3, none⟩ (.int .i64 hi)).setCell ⟨w.heap.size + 1, 4, none⟩ (.int .i64 no)).setCell ⟨w.heap.size + 1, 5, none⟩ (.int .i64 tu)).setCell ⟨w.heap.size + 1, 6, none⟩ (.int .i64 sl)).setCell ⟨w.heap.size + 1, 7, none⟩ (.int .i64 T)) = w4 at K4 hB4 ⊢
      have c0 : w4.cell? ⟨w.heap.size + 1, 0, none⟩ = some (.int .i64 p) := K4.cell 0
      have c1 : w4.cell? ⟨w.heap.size + 1, 1, none⟩ = some (.int .i64 f) := K4.cell 1
      have c2 : w4.cell? ⟨w.heap.size + 1, 2, none⟩ = some (.int .i64 lo) := K4.cell 2
      have c3 : w4.cell? ⟨w.heap.size + 1, 3, none⟩ = some (.int .i64 hi) := K4.cell 3
      have c4 : w4.cell? ⟨w.heap.size + 1, 4, none⟩ = some (.int .i64 no) := K4.cell 4
      have c5 : w4.cell? ⟨w.heap.size + 1, 5, none⟩ = some (.int .i64 tu) := K4.cell 5
      have c6 : w4.cell? ⟨w.heap.size + 1, 6, none⟩ = some (.int .i64 sl) := K4.cell 6
      have c7 : w4.cell? ⟨w.heap.size + 1, 7, none⟩ = some (.int .i64 T) := K4.cell 7
      exact bodyPost_ret (v := .tuple #[.agg #[.int .i64 p, .int .i64 f, .int .i64 lo, .int .i64 hi, .int .i64 no, .int .i64 tu, .int .i64 sl, .int .i64 T], .bool b2]) (by simp [results, Try.results78, go_sem, c0, c1, c2, c3, c4, c5, c6, c7]) rfl ⟨by simp, hB4⟩

end Go.Proofs.Ytlmpmhfbjblhnaa
