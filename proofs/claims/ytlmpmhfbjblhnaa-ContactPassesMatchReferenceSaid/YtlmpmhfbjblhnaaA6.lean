/- The cell at a minute. -/
import Derived.Test.YtlmpmhfbjblhnaaA5
namespace Go.Proofs.Ytlmpmhfbjblhnaa
open Go.RowKit

def atV : Option Cel → Value
  | none => .tuple #[.agg #[.int .i64 0, .int .i64 0], .int .i64 70]
  | some c => .tuple #[.agg #[.int .i64 c.x, .int .i64 c.y], .int .i64 0]

theorem At_any (p f lo hi no tu sl t la : Int) (w : World) :
    Calls Try.prog 54 #[.agg #[.int .i64 p, .int .i64 f, .int .i64 lo, .int .i64 hi, .int .i64 no, .int .i64 tu, .int .i64 sl], .int .i64 t, .int .i64 la] w fun e w' => e = .returned (atV (atP ⟨p, f, lo, hi, no, tu, sl⟩ t la)) ∧ Below w.heap.size w w' := by
  have A1 := at_any p f lo hi no tu sl t la
  generalize hT : IntKind.i64.wrap (t - la) = T at A1
  generalize hok : (inB t 0 1000000 && inB la (-10) 10 && orbOK ⟨p, f, lo, hi, no, tu, sl⟩) = ok at A1
  have HA := Lib.hid A1
  clear A1
  go_enter Try.func54, Try.ntmps54
  go_wp2_with fail
  have K : Blk ((w.alloc (.cells #[.int .i64 p, .int .i64 f, .int .i64 lo, .int .i64 hi, .int .i64 no, .int .i64 tu, .int .i64 sl] 25)).alloc (.cells #[.int .i64 0, .int .i64 0] 29)) w.heap.size 25 #[.int .i64 p, .int .i64 f, .int .i64 lo, .int .i64 hi, .int .i64 no, .int .i64 tu, .int .i64 sl] := (Blk.new _ _ _).alloc _
  have K2 : Blk ((w.alloc (.cells #[.int .i64 p, .int .i64 f, .int .i64 lo, .int .i64 hi, .int .i64 no, .int .i64 tu, .int .i64 sl] 25)).alloc (.cells #[.int .i64 0, .int .i64 0] 29)) (w.heap.size + 1) 29 #[.int .i64 0, .int .i64 0] := by
    have k := Blk.new (w.alloc (.cells #[.int .i64 p, .int .i64 f, .int .i64 lo, .int .i64 hi, .int .i64 no, .int .i64 tu, .int .i64 sl] 25)) 29 #[.int .i64 0, .int .i64 0]
    rw [World.size_alloc] at k
    exact k
  have hb : Below w.heap.size w ((w.alloc (.cells #[.int .i64 p, .int .i64 f, .int .i64 lo, .int .i64 hi, .int .i64 no, .int .i64 tu, .int .i64 sl] 25)).alloc (.cells #[.int .i64 0, .int .i64 0] 29)) := (by repeat (first | exact Below.refl _ _ | assumption | refine Below.drew ?_ | refine below_drewN ?_ _ | refine bl_alloc ?_ _ | refine Below.setCell ?_ (by first | (simp; done) | omega | (simp; omega)) _ | refine bl_then ?_ (by assumption)))
  generalize (w.alloc (.cells #[.int .i64 p, .int .i64 f, .int .i64 lo, .int .i64 hi, .int .i64 no, .int .i64 tu, .int .i64 sl] 25)).alloc (.cells #[.int .i64 0, .int .i64 0] 29) = W at K K2 hb ⊢
  refine (HA.out _).mono ?_
  rintro e W2 ⟨rfl, hb2⟩
  have K2 := K2.below hb2 (by have := K2.lt; omega)
  have hB2 : Below w.heap.size w W2 := hb.trans (Below.mono hb2 hb.size)
  clear K hb hb2
  have hlt : w.heap.size + 1 < W2.heap.size := K2.lt
  have z0 : W2.cell? ⟨w.heap.size + 1, 0, none⟩ = some (.int .i64 0) := K2.cell 0
  have z1 : W2.cell? ⟨w.heap.size + 1, 1, none⟩ = some (.int .i64 0) := K2.cell 1
  have y0 := K2.frozen 0
  have y1 := K2.frozen 1
  cases ok
  · have ha : atP ⟨p, f, lo, hi, no, tu, sl⟩ t la = none := by rw [atP, hok]; rfl
    have HP := Lib.hid ha
    clear ha hok
    go_wp2
    have K4 := ((K2.set_ 0 (.int .i64 0)).set_ 1 (.int .i64 0)).alloc (.cells #[.int .i64 p, .int .i64 f, .int .i64 lo, .int .i64 hi, .int .i64 no, .int .i64 tu, .int .i64 sl, .int .i64 T] 111)
    have hB4 : Below w.heap.size w (((W2.setCell ⟨w.heap.size + 1, 0, none⟩ (.int .i64 0)).setCell ⟨w.heap.size + 1, 1, none⟩ (.int .i64 0)).alloc (.cells #[.int .i64 p, .int .i64 f, .int .i64 lo, .int .i64 hi, .int .i64 no, .int .i64 tu, .int .i64 sl, .int .i64 T] 111)) := bl_alloc ((hB2.setCell (p := ⟨w.heap.size + 1, 0, none⟩) (Nat.le_succ _) _).setCell (p := ⟨w.heap.size + 1, 1, none⟩) (Nat.le_succ _) _) _
    generalize ((W2.setCell ⟨w.heap.size + 1, 0, none⟩ (.int .i64 0)).setCell ⟨w.heap.size + 1, 1, none⟩ (.int .i64 0)).alloc (.cells #[.int .i64 p, .int .i64 f, .int .i64 lo, .int .i64 hi, .int .i64 no, .int .i64 tu, .int .i64 sl, .int .i64 T] 111) = w4 at K4 hB4 ⊢
    have c0 : w4.cell? ⟨w.heap.size + 1, 0, none⟩ = some (.int .i64 0) := K4.cell 0
    have c1 : w4.cell? ⟨w.heap.size + 1, 1, none⟩ = some (.int .i64 0) := K4.cell 1
    exact bodyPost_ret (v := .tuple #[.agg #[.int .i64 0, .int .i64 0], .int .i64 70]) (by simp [results, Try.results54, go_sem, c0, c1]) rfl ⟨by rw [HP.out]; rfl, hB4⟩
  · have ha : atP ⟨p, f, lo, hi, no, tu, sl⟩ t la = some ⟨colP ⟨p, f, lo, hi, no, tu, sl⟩ (t - la) / 1000, rowP ⟨p, f, lo, hi, no, tu, sl⟩ (t - la) / 1000⟩ := by rw [atP, hok]; rfl
    have HP := Lib.hid ha
    clear ha
    simp only [orbOK, inB, Bool.and_eq_true, decide_eq_true_eq] at hok
    obtain ⟨⟨⟨i1, i2⟩, i3, i4⟩, ⟨⟨⟨⟨⟨⟨⟨⟨o1, o2⟩, o3⟩, o4, o5⟩, o6, o7⟩, o8, o9⟩, o10⟩, o11, o12⟩, o13, o14⟩, o15, o16⟩ := hok
    have hT' : T = t - la := by rw [← hT]; exact IntWalk.i64_in _ (by omega)
    clear hT
    have C := cell_any p f lo hi no tu sl (t - la) o1 o2 o4 (by omega) o6 o10 o9 (by omega) (by omega) o11 o12 o13 o14
    rw [← hT'] at C HP
    generalize colP ⟨p, f, lo, hi, no, tu, sl⟩ T / 1000 = X at C HP
    generalize rowP ⟨p, f, lo, hi, no, tu, sl⟩ T / 1000 = Y at C HP
    have HC := Lib.hid C
    clear C o3 hT'
    go_wp2_with fail
    refine (HC.out _).mono ?_
    rintro e W5 ⟨rfl, hb5⟩
    have K5 := (K2.alloc (.cells #[.int .i64 p, .int .i64 f, .int .i64 lo, .int .i64 hi, .int .i64 no, .int .i64 tu, .int .i64 sl, .int .i64 T] 111)).below hb5 (by rw [World.size_alloc]; omega)
    have hB5 : Below w.heap.size w W5 := bl_then (bl_alloc hB2 _) hb5
    clear z0 z1 y0 y1 hb5 K2 hB2 hlt
    have z0 : W5.cell? ⟨w.heap.size + 1, 0, none⟩ = some (.int .i64 0) := K5.cell 0
    have z1 : W5.cell? ⟨w.heap.size + 1, 1, none⟩ = some (.int .i64 0) := K5.cell 1
    have y0 := K5.frozen 0
    have y1 := K5.frozen 1
    go_wp2
    have K4 := (K5.set_ 0 (.int .i64 X)).set_ 1 (.int .i64 Y)
    have hB4 : Below w.heap.size w ((W5.setCell ⟨w.heap.size + 1, 0, none⟩ (.int .i64 X)).setCell ⟨w.heap.size + 1, 1, none⟩ (.int .i64 Y)) := (hB5.setCell (p := ⟨w.heap.size + 1, 0, none⟩) (Nat.le_succ _) _).setCell (p := ⟨w.heap.size + 1, 1, none⟩) (Nat.le_succ _) _
    generalize (W5.setCell ⟨w.heap.size + 1, 0, none⟩ (.int .i64 X)).setCell ⟨w.heap.size + 1, 1, none⟩ (.int .i64 Y) = w4 at K4 hB4 ⊢
    have c0 : w4.cell? ⟨w.heap.size + 1, 0, none⟩ = some (.int .i64 X) := K4.cell 0
    have c1 : w4.cell? ⟨w.heap.size + 1, 1, none⟩ = some (.int .i64 Y) := K4.cell 1
    exact bodyPost_ret (v := .tuple #[.agg #[.int .i64 X, .int .i64 Y], .int .i64 0]) (by simp [results, Try.results54, go_sem, c0, c1]) rfl ⟨by rw [HP.out]; rfl, hB4⟩

end Go.Proofs.Ytlmpmhfbjblhnaa
