/- The chapter's examples (printed by antenna_d1.py). -/
import Derived.Test.YtgbfhkildbhhoaaA13
import Derived.Test.YtgbfhkildbhhoaaA6
import Derived.Test.YtgbfhkildbhhoaaA7
import Derived.Test.YtgbfhkildbhhoaaA8
import Derived.Test.YtgbfhkildbhhoaaK5
import Derived.Test.YtgbfhkildbhhoaaU1
import Derived.Test.YtgbfhkildbhhoaaR4
namespace Go.Proofs.Ytgbfhkildbhhoaa
open Go.RowKit

def exU : List Use := [⟨1, 10, 20⟩, ⟨2, 15, 25⟩, ⟨3, 20, 30⟩, ⟨1, 22, 24⟩]
theorem ev_clash : clashP exU 2 = (22, [1, 2, 3], 0) := by kernel_rfl
theorem ev_fewest : fewestP exU = (3, 0) := by kernel_rfl
theorem ev_assign3 : assignP exU 3 = ([0, 1, 0, 2], true, 0) := by kernel_rfl
theorem ev_assign2 : assignP exU 2 = ([], false, 0) := by kernel_rfl
theorem ev_rows : rowsP exU = ([[0, 1], [1, 2, 3]], 0) := by kernel_rfl
theorem ev_none : fewestP [⟨0, 0, 0⟩] = (0, 170) := by kernel_rfl
theorem ev_valid : validU exU = true := by kernel_rfl
theorem ev_twice : validU (exU ++ [⟨1, 10, 20⟩]) = false := by kernel_rfl
theorem ev_fit1 (g0 g1 g2 : Nat) : fitP [⟨1, some ⟨g0, 0, none⟩, 2, 2, [4, 7]⟩, ⟨2, some ⟨g1, 0, none⟩, 1, 1, [4]⟩, ⟨3, some ⟨g2, 0, none⟩, 2, 2, [7, 9]⟩] = ([7, 4, 9], [], 0) := by kernel_rfl
theorem ev_fit2 (g0 g1 g2 g3 : Nat) : fitP [⟨1, some ⟨g0, 0, none⟩, 1, 1, [4]⟩, ⟨2, some ⟨g1, 0, none⟩, 2, 2, [4, 7]⟩, ⟨3, some ⟨g2, 0, none⟩, 1, 1, [7]⟩, ⟨4, some ⟨g3, 0, none⟩, 1, 1, [9]⟩] = ([], [0, 1, 2], 0) := by kernel_rfl
theorem ev_uses (A : Option Addr) : usesP [⟨0, 0, 0, 1, 0, 0, 0, 0, A, 2, 2, [⟨0, 3, 5⟩, ⟨1, 7, 8⟩]⟩] [⟨1, 2, 0, 0, 0, 0⟩, ⟨1, 6, 0, 0, 0, 0⟩] 6 = ([⟨1, 7, 8⟩], 0) := by kernel_rfl
/-- A whole row of its own reads as a list. -/
theorem blk_ra {α : Type} {cells : α → List Value} {s : Nat} {w : World} {g : Nat} {t : TypeId} {cs : Array Value} (h : Blk w g t cs) (l : List α) (n : Nat) (hc : cs.toList = l.flatMap cells) (hl : l.length = n) (hs : (l.flatMap cells).length = n * s) (hn : n ≤ 1000) : RA cells s w w.heap.size (some ⟨g, 0, none⟩) n n l := by
  refine ⟨⟨hs, fun _ => ⟨g, 0, rfl, h.lt, fun k u hk => ?_⟩⟩, hl, Nat.le_refl _, by unfold maxLen; omega, by omega⟩
  rw [Nat.zero_add, h.cell, ← hk, ← hc]
  simp
/-- A slice of integers that a call handed back. -/
def GotI (n : Nat) (l : List Int) (w : World) (v : Value) : Prop := ∃ A c, v = .slice A n c ∧ RA intCells 1 w w.heap.size A n c l
theorem gotI_nat {w : World} {b : Nat} {v : Value} {l : List Nat} (h : w.ownsRow b 3 1 v l.length (l.flatMap natCells)) (hn : l.length ≤ 1000) : GotI l.length (l.map fun k : Nat => (k : Int)) w v := by
  obtain ⟨A, c, rfl, _, _⟩ := own_slice h
  exact ⟨A, c, rfl, (RA.of_own h rfl (by omega)).nat⟩
theorem gotI_int {w : World} {b : Nat} {v : Value} {l : List Int} (h : w.ownsRow b 3 1 v l.length (l.flatMap intCells)) (hn : l.length ≤ 1000) : GotI l.length l w v := by
  obtain ⟨A, c, rfl, _, _⟩ := own_slice h
  exact ⟨A, c, rfl, RA.of_own h rfl (by omega)⟩
theorem ra_ext {α : Type} {cells : α → List Value} {s : Nat} {w w' : World} {A : Option Addr} {n c : Nat} {l : List α} (h : RA cells s w w.heap.size A n c l) (hx : Ext w w') : RA cells s w' w'.heap.size A n c l := (h.below hx).more (Below.size hx)
theorem rws_ext {w w' : World} {A : Option Addr} {n c : Nat} {l : List Row} (h : Rws w w.heap.size A n c l) (hx : Ext w w') : Rws w' w'.heap.size A n c l := (h.below hx).more (Below.size hx)
def exCells : Array Value := #[.int .i64 1, .int .i64 10, .int .i64 20, .int .i64 2, .int .i64 15, .int .i64 25, .int .i64 3, .int .i64 20, .int .i64 30, .int .i64 1, .int .i64 22, .int .i64 24]
theorem ex_ra {w : World} {g : Nat} (h : Blk w g 26 exCells) : RA useCells 3 w w.heap.size (some ⟨g, 0, none⟩) 4 4 exU := blk_ra h exU 4 rfl rfl rfl (by omega)
theorem ex_clash (w : World) (g : Nat) (h : Blk w g 26 exCells) : Calls Try.prog 20 #[.slice (some ⟨g, 0, none⟩) 4 4, .int .i64 2] w fun e w' => ∃ v, e = .returned (.tuple #[.int .i64 22, v, .int .i64 0]) ∧ GotI 3 [1, 2, 3] w' v ∧ Ext w w' := by
  have hc := clash_any exU 2 (some ⟨g, 0, none⟩) 4 4 w (ex_ra h) (by decide)
  rw [ev_clash] at hc
  exact hc.mono fun e w' ⟨v, h1, h2, h3⟩ => ⟨v, h1, gotI_nat h2 (by decide), h3⟩
theorem ex_fewest (w : World) (g : Nat) (h : Blk w g 26 exCells) : Calls Try.prog 13 #[.slice (some ⟨g, 0, none⟩) 4 4] w fun e w' => e = .returned (.tuple #[.int .i64 3, .int .i64 0]) ∧ Ext w w' := by
  have hc := fewest_any exU (some ⟨g, 0, none⟩) 4 4 w (ex_ra h) (by omega)
  rw [ev_fewest] at hc
  exact hc
theorem ex_assign3 (w : World) (g : Nat) (h : Blk w g 26 exCells) : Calls Try.prog 22 #[.slice (some ⟨g, 0, none⟩) 4 4, .int .i64 3] w fun e w' => ∃ v, e = .returned (.tuple #[v, .bool true, .int .i64 0]) ∧ GotI 4 [0, 1, 0, 2] w' v ∧ Ext w w' := by
  have hc := assign_any exU 3 (some ⟨g, 0, none⟩) 4 4 w (ex_ra h) (by decide)
  rw [ev_assign3] at hc
  exact hc.mono fun e w' ⟨v, h1, h2, h3⟩ => ⟨v, h1, gotI_int h2 (by decide), h3⟩
theorem ex_assign2 (w : World) (g : Nat) (h : Blk w g 26 exCells) : Calls Try.prog 22 #[.slice (some ⟨g, 0, none⟩) 4 4, .int .i64 2] w fun e w' => ∃ v, e = .returned (.tuple #[v, .bool false, .int .i64 0]) ∧ GotI 0 [] w' v ∧ Ext w w' := by
  have hc := assign_any exU 2 (some ⟨g, 0, none⟩) 4 4 w (ex_ra h) (by decide)
  rw [ev_assign2] at hc
  exact hc.mono fun e w' ⟨v, h1, h2, h3⟩ => ⟨v, h1, gotI_int h2 (by decide), h3⟩
theorem ex_rows (w : World) (g : Nat) (h : Blk w g 26 exCells) : Calls Try.prog 15 #[.slice (some ⟨g, 0, none⟩) 4 4] w fun e w' => ∃ A c rs, e = .returned (.tuple #[.slice A 2 c, .int .i64 0]) ∧ Rws w' w'.heap.size A 2 c rs ∧ rs.map Row.l = [[0, 1], [1, 2, 3]] ∧ Ext w w' := by
  have hc := rows_any exU (some ⟨g, 0, none⟩) 4 4 w (ex_ra h) (by decide)
  rw [ev_rows] at hc
  refine hc.mono fun e w' ⟨v, rs, h1, h2, h3, h4⟩ => ?_
  have hl : rs.length = 2 := by rw [← List.length_map (f := Row.l), h3]; rfl
  obtain ⟨A, c, rfl, _, _⟩ := own_slice h2.out
  rw [hl] at h1 h2
  exact ⟨A, c, rs, h1, h2.rws (by omega), h3, h4⟩
theorem ex_valid (w : World) (g : Nat) (h : Blk w g 26 exCells) : Calls Try.prog 18 #[.slice (some ⟨g, 0, none⟩) 4 4] w fun e w' => e = .returned (.bool true) ∧ Ext w w' := by
  have hc := valid_any exU (some ⟨g, 0, none⟩) 4 4 w (ex_ra h)
  rw [ev_valid] at hc
  exact hc
theorem ex_none (w : World) (g : Nat) (h : Blk w g 26 #[.int .i64 0, .int .i64 0, .int .i64 0]) : Calls Try.prog 13 #[.slice (some ⟨g, 0, none⟩) 1 1] w fun e w' => e = .returned (.tuple #[.int .i64 0, .int .i64 170]) ∧ Ext w w' := by
  have hc := fewest_any [⟨0, 0, 0⟩] (some ⟨g, 0, none⟩) 1 1 w (blk_ra h [(⟨0, 0, 0⟩ : Use)] 1 rfl rfl rfl (by omega)) (by omega)
  rw [ev_none] at hc
  exact hc
theorem ex_ints (w : World) (g n : Nat) (cs : Array Value) (h : Blk w g 3 cs) (v : Value) (l : List Int) (hv : GotI n l w v) (hc : cs.toList = l.flatMap intCells) (hl : l.length = n) (hn : n ≤ 1000) : Calls Try.prog 24 #[v, .slice (some ⟨g, 0, none⟩) n n] w fun e w' => e = .returned (.bool true) ∧ Ext w w' := by
  obtain ⟨A, c, rfl, hra⟩ := hv
  have h := ints_any A (some ⟨g, 0, none⟩) n n c n l l w hra (blk_ra h l n hc hl (by rw [flat_len int_len, hl]) hn)
  rw [decide_eq_true rfl] at h
  exact h
theorem GotI.ext {n : Nat} {l : List Int} {w w' : World} {v : Value} (h : GotI n l w v) (hx : Ext w w') : GotI n l w' v := by
  obtain ⟨A, c, h1, h2⟩ := h
  exact ⟨A, c, h1, ra_ext h2 hx⟩
theorem ex_fit1 (w : World) (g0 g1 g2 g : Nat) (h0 : Blk w g0 3 #[.int .i64 4, .int .i64 7]) (h1 : Blk w g1 3 #[.int .i64 4]) (h2 : Blk w g2 3 #[.int .i64 7, .int .i64 9]) (h : Blk w g 30 #[.int .i64 1, .slice (some ⟨g0, 0, none⟩) 2 2, .int .i64 2, .slice (some ⟨g1, 0, none⟩) 1 1, .int .i64 3, .slice (some ⟨g2, 0, none⟩) 2 2]) : Calls Try.prog 27 #[.slice (some ⟨g, 0, none⟩) 3 3] w fun e w' => ∃ v1 v2, e = .returned (.tuple #[v1, v2, .int .i64 0]) ∧ GotI 3 [7, 4, 9] w' v1 ∧ GotI 0 [] w' v2 ∧ Ext w w' := by
  have hr : Rqs w w.heap.size (some ⟨g, 0, none⟩) 3 3 [⟨1, some ⟨g0, 0, none⟩, 2, 2, [4, 7]⟩, ⟨2, some ⟨g1, 0, none⟩, 1, 1, [4]⟩, ⟨3, some ⟨g2, 0, none⟩, 2, 2, [7, 9]⟩] := ⟨blk_ra h _ 3 rfl rfl rfl (by omega), fun r hr => by
    simp only [List.mem_cons, List.not_mem_nil, or_false] at hr
    rcases hr with rfl | rfl | rfl
    · exact ⟨blk_ra h0 _ 2 rfl rfl rfl (by omega), (show (2 : Nat) ≤ 1000 by omega)⟩
    · exact ⟨blk_ra h1 _ 1 rfl rfl rfl (by omega), (show (1 : Nat) ≤ 1000 by omega)⟩
    · exact ⟨blk_ra h2 _ 2 rfl rfl rfl (by omega), (show (2 : Nat) ≤ 1000 by omega)⟩⟩
  have hc := fit_any _ (some ⟨g, 0, none⟩) 3 3 w hr (by omega)
  rw [ev_fit1] at hc
  exact hc.mono fun e w' ⟨v1, v2, h1, h2, h3, h4⟩ => ⟨v1, v2, h1, gotI_int h2 (by decide), gotI_nat h3 (by decide), h4⟩
theorem ex_fit2 (w : World) (g0 g1 g2 g3 g : Nat) (h0 : Blk w g0 3 #[.int .i64 4]) (h1 : Blk w g1 3 #[.int .i64 4, .int .i64 7]) (h2 : Blk w g2 3 #[.int .i64 7]) (h3 : Blk w g3 3 #[.int .i64 9]) (h : Blk w g 30 #[.int .i64 1, .slice (some ⟨g0, 0, none⟩) 1 1, .int .i64 2, .slice (some ⟨g1, 0, none⟩) 2 2, .int .i64 3, .slice (some ⟨g2, 0, none⟩) 1 1, .int .i64 4, .slice (some ⟨g3, 0, none⟩) 1 1]) : Calls Try.prog 27 #[.slice (some ⟨g, 0, none⟩) 4 4] w fun e w' => ∃ v1 v2, e = .returned (.tuple #[v1, v2, .int .i64 0]) ∧ GotI 0 [] w' v1 ∧ GotI 3 [0, 1, 2] w' v2 ∧ Ext w w' := by
  have hr : Rqs w w.heap.size (some ⟨g, 0, none⟩) 4 4 [⟨1, some ⟨g0, 0, none⟩, 1, 1, [4]⟩, ⟨2, some ⟨g1, 0, none⟩, 2, 2, [4, 7]⟩, ⟨3, some ⟨g2, 0, none⟩, 1, 1, [7]⟩, ⟨4, some ⟨g3, 0, none⟩, 1, 1, [9]⟩] := ⟨blk_ra h _ 4 rfl rfl rfl (by omega), fun r hr => by
    simp only [List.mem_cons, List.not_mem_nil, or_false] at hr
    rcases hr with rfl | rfl | rfl | rfl
    · exact ⟨blk_ra h0 _ 1 rfl rfl rfl (by omega), (show (1 : Nat) ≤ 1000 by omega)⟩
    · exact ⟨blk_ra h1 _ 2 rfl rfl rfl (by omega), (show (2 : Nat) ≤ 1000 by omega)⟩
    · exact ⟨blk_ra h2 _ 1 rfl rfl rfl (by omega), (show (1 : Nat) ≤ 1000 by omega)⟩
    · exact ⟨blk_ra h3 _ 1 rfl rfl rfl (by omega), (show (1 : Nat) ≤ 1000 by omega)⟩⟩
  have hc := fit_any _ (some ⟨g, 0, none⟩) 4 4 w hr (by omega)
  rw [ev_fit2] at hc
  exact hc.mono fun e w' ⟨v1, v2, h1, h2, h3, h4⟩ => ⟨v1, v2, h1, gotI_int h2 (by decide), gotI_nat h3 (by decide), h4⟩
theorem ex_uses (w : World) (g0 g1 g2 : Nat) (h0 : Blk w g0 71 #[.int .i64 0, .int .i64 3, .int .i64 5, .int .i64 1, .int .i64 7, .int .i64 8]) (h1 : Blk w g1 74 #[.int .i64 0, .int .i64 0, .int .i64 0, .int .i64 1, .int .i64 0, .int .i64 0, .int .i64 0, .int .i64 0, .slice (some ⟨g0, 0, none⟩) 2 2])
    (h2 : Blk w g2 76 #[.int .i64 1, .int .i64 2, .int .i64 0, .int .i64 0, .int .i64 0, .int .i64 0, .int .i64 1, .int .i64 6, .int .i64 0, .int .i64 0, .int .i64 0, .int .i64 0]) :
    Calls Try.prog 31 #[.slice (some ⟨g1, 0, none⟩) 1 1, .slice (some ⟨g2, 0, none⟩) 2 2, .int .i64 6] w fun e w' => ∃ A c, e = .returned (.tuple #[.slice A 1 c, .int .i64 0]) ∧ RA useCells 3 w' w'.heap.size A 1 c [⟨1, 7, 8⟩] ∧ Ext w w' := by
  have ho : Ops w w.heap.size (some ⟨g1, 0, none⟩) 1 1 [⟨0, 0, 0, 1, 0, 0, 0, 0, some ⟨g0, 0, none⟩, 2, 2, [⟨0, 3, 5⟩, ⟨1, 7, 8⟩]⟩] := ⟨blk_ra h1 _ 1 rfl rfl rfl (by omega), fun r hr => by
    rw [List.mem_singleton] at hr
    subst hr
    exact blk_ra h0 _ 2 rfl rfl rfl (by omega)⟩
  have hc := uses_any _ _ 6 (some ⟨g1, 0, none⟩) 1 1 (some ⟨g2, 0, none⟩) 2 2 w ho (blk_ra h2 [⟨1, 2, 0, 0, 0, 0⟩, ⟨1, 6, 0, 0, 0, 0⟩] 2 rfl rfl rfl (by omega))
  rw [ev_uses] at hc
  refine hc.mono fun e w' ⟨v, h1, h2, h3⟩ => ?_
  obtain ⟨A, c, rfl, _, _⟩ := own_slice h2
  exact ⟨A, c, h1, RA.of_own h2 rfl (by decide), h3⟩
end Go.Proofs.Ytgbfhkildbhhoaa
