/- Where a satellite is: around, row, column; the distance of cells. -/
import Derived.Test.YtlmpmhfbjblhnaaA1
import Derived.BigRegion
import Derived.Laws.Small
import Derived.Laws.Cover1
namespace Go.Proofs.Ytlmpmhfbjblhnaa
open Go.RowKit

theorem bcell {W w1 : World} (hb : Below W.heap.size W w1) : (∀ b o, b < W.heap.size → w1.cell? ⟨b, o, none⟩ = W.cell? ⟨b, o, none⟩) ∧ (∀ b o, b < W.heap.size → w1.frozen? ⟨b, o, none⟩ = W.frozen? ⟨b, o, none⟩) :=
  ⟨fun b o h => hb.cell (p := ⟨b, o, none⟩) h, fun b o h => hb.frozen (p := ⟨b, o, none⟩) h⟩

theorem tmod_around (n c : Int) : (n.tmod c + c) % c = n % c := by
  rw [Int.add_emod_right]
  have : n.tmod c = n - c * (n.tdiv c) := by have := Int.mul_tdiv_add_tmod n c; omega
  rw [this, Int.sub_mul_emod_self_left]

theorem around_any (n c : Int) (h1 : 0 < c) (h2 : c ≤ 1000000) (w : World) :
    Calls Try.prog 93 #[.int .i64 n, .int .i64 c] w fun e w' => e = .returned (.int .i64 (n % c)) ∧ w = w' := by
  rw [← tmod_around n c]
  have b1 := Int.lt_tmod_of_pos n h1
  have b2 := Int.tmod_lt_of_pos n h1
  go_enter Try.func93, Try.ntmps93
  go_wp2
  go_ret
  exact ⟨rfl, rfl⟩

theorem near_any (a b c d : Int) (w : World) :
    Calls Try.prog 55 #[.agg #[.int .i64 a, .int .i64 b], .agg #[.int .i64 c, .int .i64 d]] w fun e w' => e = .returned (.int .i64 (nearP ⟨a, b⟩ ⟨c, d⟩)) ∧ Below w.heap.size w w' := by
  generalize e1 : celOK ⟨a, b⟩ = q
  generalize e2 : celOK ⟨c, d⟩ = r
  have E1 := Lib.hid e1
  have E2 := Lib.hid e2
  cases q
  · have hn : nearP ⟨a, b⟩ ⟨c, d⟩ = -1 := by simp [nearP, e1]
    rw [hn]
    clear hn e1 e2
    go_enter Try.func55, Try.ntmps55
    go_wp2_with fail
    refine (validCell_any a b _).mono ?_
    rintro e w1 ⟨rfl, hb1⟩
    rw [E1.out]
    go_wp2
    go_ret
    exact ⟨rfl, (by repeat (first | exact Below.refl _ _ | assumption | refine Below.drew ?_ | refine below_drewN ?_ _ | refine bl_alloc ?_ _ | refine Below.setCell ?_ (by first | (simp; done) | omega | (simp; omega)) _ | refine bl_then ?_ (by assumption)))⟩
  · cases r
    · have hn : nearP ⟨a, b⟩ ⟨c, d⟩ = -1 := by simp [nearP, e2]
      rw [hn]
      clear hn e1 e2
      go_enter Try.func55, Try.ntmps55
      go_wp2_with fail
      refine (validCell_any a b _).mono ?_
      rintro e w1 ⟨rfl, hb1⟩
      rw [E1.out]
      obtain ⟨hc1, hf1⟩ := bcell hb1
      go_wp2_with fail
      refine (validCell_any c d _).mono ?_
      rintro e w2 ⟨rfl, hb2⟩
      rw [E2.out]
      go_wp2
      go_ret
      exact ⟨rfl, (by repeat (first | exact Below.refl _ _ | assumption | refine Below.drew ?_ | refine below_drewN ?_ _ | refine bl_alloc ?_ _ | refine Below.setCell ?_ (by first | (simp; done) | omega | (simp; omega)) _ | refine bl_then ?_ (by assumption)))⟩
    · have hn : nearP ⟨a, b⟩ ⟨c, d⟩ = max (max (b - d) (d - b)) (min (max (a - c) (c - a)) (48 - max (a - c) (c - a))) := by
        have h1 : -(b - d) = d - b := by omega
        have h2 : -(a - c) = c - a := by omega
        simp [nearP, e1, e2, absI, h1, h2]
      rw [hn]
      have k1 : 0 ≤ a ∧ a ≤ 47 ∧ 0 ≤ b ∧ b ≤ 23 := by simp [celOK, inB] at e1; omega
      have k2 : 0 ≤ c ∧ c ≤ 47 ∧ 0 ≤ d ∧ d ≤ 23 := by simp [celOK, inB] at e2; omega
      clear hn e1 e2
      obtain ⟨a1, a2, b1, b2⟩ := k1
      obtain ⟨c1, c2, d1, d2⟩ := k2
      go_enter Try.func55, Try.ntmps55
      go_wp2_with fail
      refine (validCell_any a b _).mono ?_
      rintro e w1 ⟨rfl, hb1⟩
      rw [E1.out]
      obtain ⟨hc1, hf1⟩ := bcell hb1
      go_wp2_with fail
      refine (validCell_any c d _).mono ?_
      rintro e w2 ⟨rfl, hb2⟩
      rw [E2.out]
      obtain ⟨hc2, hf2⟩ := bcell hb2
      have hz := hb1.size
      simp at hz
      have k0 : Blk w2 w.heap.size 29 #[.int .i64 a, .int .i64 b] := (((Blk.new w _ _).alloc _).below hb1 (by simp <;> omega)).below hb2 (by omega)
      have k1 : Blk w2 (w.heap.size + 1) 29 #[.int .i64 c, .int .i64 d] := by
        have k := (Blk.new (w.alloc (.cells #[.int .i64 a, .int .i64 b] 29)) 29 #[.int .i64 c, .int .i64 d]).below hb1 (by simp)
        rw [World.size_alloc] at k
        exact k.below hb2 (by omega)
      have f0 : w2.cell? ⟨w.heap.size, 0, none⟩ = some (.int .i64 a) := k0.cell 0
      have f1 : w2.cell? ⟨w.heap.size, 1, none⟩ = some (.int .i64 b) := k0.cell 1
      have f2 : w2.cell? ⟨w.heap.size + 1, 0, none⟩ = some (.int .i64 c) := k1.cell 0
      have f3 : w2.cell? ⟨w.heap.size + 1, 1, none⟩ = some (.int .i64 d) := k1.cell 1
      clear hc1 hc2 hf1 hf2 k0 k1
      go_wp2
      all_goals
        go_ret
        exact ⟨by simp only [Array.getD_eq_getD_getElem?, List.getElem?_toArray, List.getElem?_cons_succ, List.getElem?_cons_zero, Option.getD_some]; congr 2; omega, (by repeat (first | exact Below.refl _ _ | assumption | refine Below.drew ?_ | refine below_drewN ?_ _ | refine bl_alloc ?_ _ | refine Below.setCell ?_ (by first | (simp; done) | omega | (simp; omega)) _ | refine bl_then ?_ (by assumption)))⟩

end Go.Proofs.Ytlmpmhfbjblhnaa
