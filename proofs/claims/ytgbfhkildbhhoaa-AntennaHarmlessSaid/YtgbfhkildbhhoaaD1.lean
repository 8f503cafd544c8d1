/- sane (printed by antenna_d1.py). -/
import Derived.Test.YtgbfhkildbhhoaaD0
import Derived.ArgAppend
namespace Go.Proofs.Ytgbfhkildbhhoaa
open Go.RowKit

def Tru (w : World) (e : Ending) (w' : World) : Prop := e = .returned (.bool true) ∧ Ext w w'
theorem al_fit1 (w W : World) (hW : W = ((((w.alloc (.cells #[.int .i64 4, .int .i64 7] 3)).alloc (.cells #[.int .i64 4] 3)).alloc (.cells #[.int .i64 7, .int .i64 9] 3)).alloc (.cells #[.int .i64 1, .slice (some ⟨w.heap.size, 0, none⟩) 2 2, .int .i64 2, .slice (some ⟨w.heap.size + 1, 0, none⟩) 1 1, .int .i64 3, .slice (some ⟨w.heap.size + 1 + 1, 0, none⟩) 2 2] 30))) : Blk W (w.heap.size) 3 #[.int .i64 4, .int .i64 7] ∧ Blk W (w.heap.size + 1) 3 #[.int .i64 4] ∧ Blk W (w.heap.size + 1 + 1) 3 #[.int .i64 7, .int .i64 9] ∧ Blk W (w.heap.size + 1 + 1 + 1) 30 #[.int .i64 1, .slice (some ⟨w.heap.size, 0, none⟩) 2 2, .int .i64 2, .slice (some ⟨w.heap.size + 1, 0, none⟩) 1 1, .int .i64 3, .slice (some ⟨w.heap.size + 1 + 1, 0, none⟩) 2 2] ∧ Ext w W := by
  subst hW
  obtain ⟨c0, h0⟩ : ∃ c : Array Value, c = #[.int .i64 4, .int .i64 7] := ⟨_, rfl⟩
  rw [← h0]
  have x0 : Ext w (w.alloc (.cells c0 3)) := bl_alloc (Below.refl _ _) _
  have b0 := Blk.new w 3 c0
  have s0 : (w.alloc (.cells c0 3)).heap.size = w.heap.size + 1 := by rw [size_alloc1]
  generalize w.alloc (.cells c0 3) = w0 at x0 b0 s0 ⊢
  obtain ⟨c1, h1⟩ : ∃ c : Array Value, c = #[.int .i64 4] := ⟨_, rfl⟩
  rw [← h1]
  have x1 : Ext w0 (w0.alloc (.cells c1 3)) := bl_alloc (Below.refl _ _) _
  have b1 := Blk.new w0 3 c1
  have s1 : (w0.alloc (.cells c1 3)).heap.size = w.heap.size + 1 + 1 := by rw [size_alloc1, s0]
  generalize w0.alloc (.cells c1 3) = w1 at x1 b1 s1 ⊢
  rw [s0] at b1
  obtain ⟨c2, h2⟩ : ∃ c : Array Value, c = #[.int .i64 7, .int .i64 9] := ⟨_, rfl⟩
  rw [← h2]
  have x2 : Ext w1 (w1.alloc (.cells c2 3)) := bl_alloc (Below.refl _ _) _
  have b2 := Blk.new w1 3 c2
  have s2 : (w1.alloc (.cells c2 3)).heap.size = w.heap.size + 1 + 1 + 1 := by rw [size_alloc1, s1]
  generalize w1.alloc (.cells c2 3) = w2 at x2 b2 s2 ⊢
  rw [s1] at b2
  obtain ⟨c3, h3⟩ : ∃ c : Array Value, c = #[.int .i64 1, .slice (some ⟨w.heap.size, 0, none⟩) 2 2, .int .i64 2, .slice (some ⟨w.heap.size + 1, 0, none⟩) 1 1, .int .i64 3, .slice (some ⟨w.heap.size + 1 + 1, 0, none⟩) 2 2] := ⟨_, rfl⟩
  rw [← h3]
  have x3 : Ext w2 (w2.alloc (.cells c3 30)) := bl_alloc (Below.refl _ _) _
  have b3 := Blk.new w2 30 c3
  have s3 : (w2.alloc (.cells c3 30)).heap.size = w.heap.size + 1 + 1 + 1 + 1 := by rw [size_alloc1, s2]
  generalize w2.alloc (.cells c3 30) = w3 at x3 b3 s3 ⊢
  rw [s2] at b3
  have y3 := x3
  have y2 := Ext.trans x2 y3
  have y1 := Ext.trans x1 y2
  have y0 := Ext.trans x0 y1
  exact ⟨b0.ext y1, b1.ext y2, b2.ext y3, b3, y0⟩
theorem al_fit2 (w W : World) (hW : W = (((((w.alloc (.cells #[.int .i64 4] 3)).alloc (.cells #[.int .i64 4, .int .i64 7] 3)).alloc (.cells #[.int .i64 7] 3)).alloc (.cells #[.int .i64 9] 3)).alloc (.cells #[.int .i64 1, .slice (some ⟨w.heap.size, 0, none⟩) 1 1, .int .i64 2, .slice (some ⟨w.heap.size + 1, 0, none⟩) 2 2, .int .i64 3, .slice (some ⟨w.heap.size + 1 + 1, 0, none⟩) 1 1, .int .i64 4, .slice (some ⟨w.heap.size + 1 + 1 + 1, 0, none⟩) 1 1] 30))) : Blk W (w.heap.size) 3 #[.int .i64 4] ∧ Blk W (w.heap.size + 1) 3 #[.int .i64 4, .int .i64 7] ∧ Blk W (w.heap.size + 1 + 1) 3 #[.int .i64 7] ∧ Blk W (w.heap.size + 1 + 1 + 1) 3 #[.int .i64 9] ∧ Blk W (w.heap.size + 1 + 1 + 1 + 1) 30 #[.int .i64 1, .slice (some ⟨w.heap.size, 0, none⟩) 1 1, .int .i64 2, .slice (some ⟨w.heap.size + 1, 0, none⟩) 2 2, .int .i64 3, .slice (some ⟨w.heap.size + 1 + 1, 0, none⟩) 1 1, .int .i64 4, .slice (some ⟨w.heap.size + 1 + 1 + 1, 0, none⟩) 1 1] ∧ Ext w W := by
  subst hW
  obtain ⟨c0, h0⟩ : ∃ c : Array Value, c = #[.int .i64 4] := ⟨_, rfl⟩
  rw [← h0]
  have x0 : Ext w (w.alloc (.cells c0 3)) := bl_alloc (Below.refl _ _) _
  have b0 := Blk.new w 3 c0
  have s0 : (w.alloc (.cells c0 3)).heap.size = w.heap.size + 1 := by rw [size_alloc1]
  generalize w.alloc (.cells c0 3) = w0 at x0 b0 s0 ⊢
  obtain ⟨c1, h1⟩ : ∃ c : Array Value, c = #[.int .i64 4, .int .i64 7] := ⟨_, rfl⟩
  rw [← h1]
  have x1 : Ext w0 (w0.alloc (.cells c1 3)) := bl_alloc (Below.refl _ _) _
  have b1 := Blk.new w0 3 c1
  have s1 : (w0.alloc (.cells c1 3)).heap.size = w.heap.size + 1 + 1 := by rw [size_alloc1, s0]
  generalize w0.alloc (.cells c1 3) = w1 at x1 b1 s1 ⊢
  rw [s0] at b1
  obtain ⟨c2, h2⟩ : ∃ c : Array Value, c = #[.int .i64 7] := ⟨_, rfl⟩
  rw [← h2]
  have x2 : Ext w1 (w1.alloc (.cells c2 3)) := bl_alloc (Below.refl _ _) _
  have b2 := Blk.new w1 3 c2
  have s2 : (w1.alloc (.cells c2 3)).heap.size = w.heap.size + 1 + 1 + 1 := by rw [size_alloc1, s1]
  generalize w1.alloc (.cells c2 3) = w2 at x2 b2 s2 ⊢
  rw [s1] at b2
  obtain ⟨c3, h3⟩ : ∃ c : Array Value, c = #[.int .i64 9] := ⟨_, rfl⟩
  rw [← h3]
  have x3 : Ext w2 (w2.alloc (.cells c3 3)) := bl_alloc (Below.refl _ _) _
  have b3 := Blk.new w2 3 c3
  have s3 : (w2.alloc (.cells c3 3)).heap.size = w.heap.size + 1 + 1 + 1 + 1 := by rw [size_alloc1, s2]
  generalize w2.alloc (.cells c3 3) = w3 at x3 b3 s3 ⊢
  rw [s2] at b3
  obtain ⟨c4, h4⟩ : ∃ c : Array Value, c = #[.int .i64 1, .slice (some ⟨w.heap.size, 0, none⟩) 1 1, .int .i64 2, .slice (some ⟨w.heap.size + 1, 0, none⟩) 2 2, .int .i64 3, .slice (some ⟨w.heap.size + 1 + 1, 0, none⟩) 1 1, .int .i64 4, .slice (some ⟨w.heap.size + 1 + 1 + 1, 0, none⟩) 1 1] := ⟨_, rfl⟩
  rw [← h4]
  have x4 : Ext w3 (w3.alloc (.cells c4 30)) := bl_alloc (Below.refl _ _) _
  have b4 := Blk.new w3 30 c4
  have s4 : (w3.alloc (.cells c4 30)).heap.size = w.heap.size + 1 + 1 + 1 + 1 + 1 := by rw [size_alloc1, s3]
  generalize w3.alloc (.cells c4 30) = w4 at x4 b4 s4 ⊢
  rw [s3] at b4
  have y4 := x4
  have y3 := Ext.trans x3 y4
  have y2 := Ext.trans x2 y3
  have y1 := Ext.trans x1 y2
  have y0 := Ext.trans x0 y1
  exact ⟨b0.ext y1, b1.ext y2, b2.ext y3, b3.ext y4, b4, y0⟩
theorem al_uses (w W : World) (hW : W = (((w.alloc (.cells #[.int .i64 0, .int .i64 3, .int .i64 5, .int .i64 1, .int .i64 7, .int .i64 8] 71)).alloc (.cells #[.int .i64 0, .int .i64 0, .int .i64 0, .int .i64 1, .int .i64 0, .int .i64 0, .int .i64 0, .int .i64 0, .slice (some ⟨w.heap.size, 0, none⟩) 2 2] 74)).alloc (.cells #[.int .i64 1, .int .i64 2, .int .i64 0, .int .i64 0, .int .i64 0, .int .i64 0, .int .i64 1, .int .i64 6, .int .i64 0, .int .i64 0, .int .i64 0, .int .i64 0] 76))) : Blk W (w.heap.size) 71 #[.int .i64 0, .int .i64 3, .int .i64 5, .int .i64 1, .int .i64 7, .int .i64 8] ∧ Blk W (w.heap.size + 1) 74 #[.int .i64 0, .int .i64 0, .int .i64 0, .int .i64 1, .int .i64 0, .int .i64 0, .int .i64 0, .int .i64 0, .slice (some ⟨w.heap.size, 0, none⟩) 2 2] ∧ Blk W (w.heap.size + 1 + 1) 76 #[.int .i64 1, .int .i64 2, .int .i64 0, .int .i64 0, .int .i64 0, .int .i64 0, .int .i64 1, .int .i64 6, .int .i64 0, .int .i64 0, .int .i64 0, .int .i64 0] ∧ Ext w W := by
  subst hW
  obtain ⟨c0, h0⟩ : ∃ c : Array Value, c = #[.int .i64 0, .int .i64 3, .int .i64 5, .int .i64 1, .int .i64 7, .int .i64 8] := ⟨_, rfl⟩
  rw [← h0]
  have x0 : Ext w (w.alloc (.cells c0 71)) := bl_alloc (Below.refl _ _) _
  have b0 := Blk.new w 71 c0
  have s0 : (w.alloc (.cells c0 71)).heap.size = w.heap.size + 1 := by rw [size_alloc1]
  generalize w.alloc (.cells c0 71) = w0 at x0 b0 s0 ⊢
  obtain ⟨c1, h1⟩ : ∃ c : Array Value, c = #[.int .i64 0, .int .i64 0, .int .i64 0, .int .i64 1, .int .i64 0, .int .i64 0, .int .i64 0, .int .i64 0, .slice (some ⟨w.heap.size, 0, none⟩) 2 2] := ⟨_, rfl⟩
  rw [← h1]
  have x1 : Ext w0 (w0.alloc (.cells c1 74)) := bl_alloc (Below.refl _ _) _
  have b1 := Blk.new w0 74 c1
  have s1 : (w0.alloc (.cells c1 74)).heap.size = w.heap.size + 1 + 1 := by rw [size_alloc1, s0]
  generalize w0.alloc (.cells c1 74) = w1 at x1 b1 s1 ⊢
  rw [s0] at b1
  obtain ⟨c2, h2⟩ : ∃ c : Array Value, c = #[.int .i64 1, .int .i64 2, .int .i64 0, .int .i64 0, .int .i64 0, .int .i64 0, .int .i64 1, .int .i64 6, .int .i64 0, .int .i64 0, .int .i64 0, .int .i64 0] := ⟨_, rfl⟩
  rw [← h2]
  have x2 : Ext w1 (w1.alloc (.cells c2 76)) := bl_alloc (Below.refl _ _) _
  have b2 := Blk.new w1 76 c2
  have s2 : (w1.alloc (.cells c2 76)).heap.size = w.heap.size + 1 + 1 + 1 := by rw [size_alloc1, s1]
  generalize w1.alloc (.cells c2 76) = w2 at x2 b2 s2 ⊢
  rw [s1] at b2
  have y2 := x2
  have y1 := Ext.trans x1 y2
  have y0 := Ext.trans x0 y1
  exact ⟨b0.ext y1, b1.ext y2, b2, y0⟩
theorem al_rows (w W : World) (hW : W = (((w.alloc (.cells #[.int .i64 0, .int .i64 1] 3)).alloc (.cells #[.int .i64 1, .int .i64 2, .int .i64 3] 3)).alloc (.cells #[.slice (some ⟨w.heap.size, 0, none⟩) 2 2, .slice (some ⟨w.heap.size + 1, 0, none⟩) 3 3] 28))) : Blk W (w.heap.size) 3 #[.int .i64 0, .int .i64 1] ∧ Blk W (w.heap.size + 1) 3 #[.int .i64 1, .int .i64 2, .int .i64 3] ∧ Blk W (w.heap.size + 1 + 1) 28 #[.slice (some ⟨w.heap.size, 0, none⟩) 2 2, .slice (some ⟨w.heap.size + 1, 0, none⟩) 3 3] ∧ Ext w W := by
  subst hW
  obtain ⟨c0, h0⟩ : ∃ c : Array Value, c = #[.int .i64 0, .int .i64 1] := ⟨_, rfl⟩
  rw [← h0]
  have x0 : Ext w (w.alloc (.cells c0 3)) := bl_alloc (Below.refl _ _) _
  have b0 := Blk.new w 3 c0
  have s0 : (w.alloc (.cells c0 3)).heap.size = w.heap.size + 1 := by rw [size_alloc1]
  generalize w.alloc (.cells c0 3) = w0 at x0 b0 s0 ⊢
  obtain ⟨c1, h1⟩ : ∃ c : Array Value, c = #[.int .i64 1, .int .i64 2, .int .i64 3] := ⟨_, rfl⟩
  rw [← h1]
  have x1 : Ext w0 (w0.alloc (.cells c1 3)) := bl_alloc (Below.refl _ _) _
  have b1 := Blk.new w0 3 c1
  have s1 : (w0.alloc (.cells c1 3)).heap.size = w.heap.size + 1 + 1 := by rw [size_alloc1, s0]
  generalize w0.alloc (.cells c1 3) = w1 at x1 b1 s1 ⊢
  rw [s0] at b1
  obtain ⟨c2, h2⟩ : ∃ c : Array Value, c = #[.slice (some ⟨w.heap.size, 0, none⟩) 2 2, .slice (some ⟨w.heap.size + 1, 0, none⟩) 3 3] := ⟨_, rfl⟩
  rw [← h2]
  have x2 : Ext w1 (w1.alloc (.cells c2 28)) := bl_alloc (Below.refl _ _) _
  have b2 := Blk.new w1 28 c2
  have s2 : (w1.alloc (.cells c2 28)).heap.size = w.heap.size + 1 + 1 + 1 := by rw [size_alloc1, s1]
  generalize w1.alloc (.cells c2 28) = w2 at x2 b2 s2 ⊢
  rw [s1] at b2
  have y2 := x2
  have y1 := Ext.trans x1 y2
  have y0 := Ext.trans x0 y1
  exact ⟨b0.ext y1, b1.ext y2, b2, y0⟩
theorem wpList_append_rung {P : Program} {w : World} {ops : Array Oper} {rest : List Oper} {o : Oper} {a : Act} {Q : Exit → Act → World → Prop}
    (hw : Region.wanted o (yielded ops a.tmps) = true) (s x : Operand) (t : TypeId) (hop : o.op = Op.call { callee := Callee.builtin Builtin.append, args := #[s, x], argTypes := #[t, t] })
    {v1 v2 v' : Value} {w' : World} (hs : a.eval s = v1) (hx : a.eval x = v2) (hrun : (Builtin.append_ #[t, t] o.type #[v1, v2]).run P w = .ok v' w')
    (hK : wpList P ops Q rest (a.put o.dst v') w') : wpList P ops Q (o :: rest) a w := by
  unfold wpList
  rw [if_pos hw]
  refine .inl ?_
  unfold Oper.wp
  simp [execOp, hop, resolve, invoke, builtin, hs, hx, hrun, Result.andThen]
  exact hK
theorem ex_same (w : World) (g0 g1 g2 : Nat) (h0 : Blk w g0 3 #[.int .i64 0, .int .i64 1]) (h1 : Blk w g1 3 #[.int .i64 1, .int .i64 2, .int .i64 3]) (h2 : Blk w g2 28 #[.slice (some ⟨g0, 0, none⟩) 2 2, .slice (some ⟨g1, 0, none⟩) 3 3]) (A : Option Addr) (c : Nat) (rs : List Row) (h : Rws w w.heap.size A 2 c rs) (hl : rs.map Row.l = [[0, 1], [1, 2, 3]]) :
    Calls Try.prog 17 #[.slice A 2 c, .slice (some ⟨g2, 0, none⟩) 2 2] w fun e w' => e = .returned (.bool true) ∧ Ext w w' := by
  have h3 : Rws w w.heap.size (some ⟨g2, 0, none⟩) 2 2 [⟨some ⟨g0, 0, none⟩, 2, 2, [0, 1]⟩, ⟨some ⟨g1, 0, none⟩, 3, 3, [1, 2, 3]⟩] := ⟨blk_ra h2 _ 2 rfl rfl rfl (by omega), fun r hr => by
    simp only [List.mem_cons, List.not_mem_nil, or_false] at hr
    rcases hr with rfl | rfl
    · exact ⟨blk_ra h0 _ 2 rfl rfl rfl (by omega), (show (2 : Nat) ≤ 1000 by omega)⟩
    · exact ⟨blk_ra h1 _ 3 rfl rfl rfl (by omega), (show (3 : Nat) ≤ 1000 by omega)⟩⟩
  have hc := sameRows_any A (some ⟨g2, 0, none⟩) 2 2 c 2 rs _ w h h3
  rw [hl, decide_eq_true (by rfl)] at hc
  exact hc
theorem ex_suses (w : World) (g : Nat) (h : Blk w g 26 #[.int .i64 1, .int .i64 7, .int .i64 8]) (A : Option Addr) (c : Nat) (hu : RA useCells 3 w w.heap.size A 1 c [⟨1, 7, 8⟩]) :
    Calls Try.prog 33 #[.slice A 1 c, .slice (some ⟨g, 0, none⟩) 1 1] w fun e w' => e = .returned (.bool true) ∧ Ext w w' := by
  have hc := sameUses_any A (some ⟨g, 0, none⟩) 1 1 c 1 [⟨1, 7, 8⟩] [⟨1, 7, 8⟩] w hu (blk_ra h _ 1 rfl rfl rfl (by omega))
  rw [decide_eq_true rfl] at hc
  exact hc
theorem ex_twice (w : World) (g : Nat) (h : Blk w g 26 exCells) : ∃ A c w', (Builtin.append_ #[27, 27] 27 #[.slice (some ⟨g, 0, none⟩) 4 4, .slice (some ⟨w.heap.size, 0, none⟩) 1 1]).run Try.prog (w.alloc (.cells #[.int .i64 1, .int .i64 10, .int .i64 20] 26)) = .ok (.slice A 5 c) w' ∧
    (Calls Try.prog 18 #[.slice A 5 c] w' fun e w'' => e = .returned (.bool false) ∧ Ext w' w'') ∧ Ext w w' := by
  have hxa : Ext w (w.alloc (.cells #[.int .i64 1, .int .i64 10, .int .i64 20] 26)) := bl_alloc (Below.refl _ _) _
  have jx := Blk.new w 26 #[.int .i64 1, .int .i64 10, .int .i64 20]
  have hg := h.ext hxa
  generalize w.alloc (.cells #[.int .i64 1, .int .i64 10, .int .i64 20] 26) = w1 at hxa jx hg ⊢
  obtain ⟨i0, hi0, hz0, hz1, hz2⟩ := info_parts info_use
  obtain ⟨v', w', h1, h2, h3⟩ := run_append_arg_grows (P := Try.prog) (w := w1) 27 27 26 i0 _ 3 24 Try.underlying27 hi0 hz0 hz1 hz2 rfl (by omega) ⟨g, 0, none⟩ 4 4 (exU.flatMap useCells) rfl (fun j u hu => by rw [Addr.add_lit, Nat.zero_add, hg.cell, ← hu]; show ((exU.flatMap useCells).toArray)[j]? = _; simp) ⟨w.heap.size, 0, none⟩ 1 1 (useCells ⟨1, 10, 20⟩) rfl (fun j u hu => by rw [Addr.add_lit, Nat.zero_add, jx.cell, ← hu]; simp [useCells]) (by omega) (by unfold maxLen; omega) (by omega)
  obtain ⟨A, c, rfl, _, _⟩ := own_slice h2
  have hx2 : Ext w1 w' := ⟨h3.os, h3.tape, h3.output, h3.size, fun k hk => h3.block k hk (by simp)⟩
  have hra : RA useCells 3 w' w'.heap.size A 5 c (exU ++ [⟨1, 10, 20⟩]) := RA.of_own h2 rfl (by omega)
  have hv := valid_any _ A 5 c w' hra
  rw [ev_twice] at hv
  exact ⟨A, c, w', h1, hv, Ext.trans hxa hx2⟩
set_option maxRecDepth 100000 in
set_option maxHeartbeats 8000000 in
theorem sane_any (w : World) : Calls Try.prog 10 #[] w (Tru w) := by
  go_enter Try.func10, Try.ntmps10
  go_upto_region 2 with (fail)
  have hx : Ext w (w.alloc (.cells exCells 26)) := bl_alloc (Below.refl _ _) _
  have J : Blk (w.alloc (.cells exCells 26)) w.heap.size 26 exCells := Blk.new _ _ _
  change Code.wp _ _ _ _ (w.alloc (.cells exCells 26))
  generalize w.alloc (.cells exCells 26) = W at hx J ⊢
  obtain ⟨g, hg⟩ : ∃ g, g = w.heap.size := ⟨_, rfl⟩
  rw [← hg] at J ⊢
  clear hg
  have HJ := Lib.hid J
  clear J
  go_wp2_with fail
  refine (ex_clash _ g HJ.out).mono ?_
  rintro e W2 ⟨v3, rfl, hv, hy⟩
  have HJ := Lib.hid (HJ.out.ext hy)
  have hx := Ext.trans hx hy
  have HG3 := Lib.hid hv
  clear hy hv
  go_wp2_with fail
  refine (ex_fewest _ g HJ.out).mono ?_
  rintro e W3 ⟨rfl, hy⟩
  have HJ := Lib.hid (HJ.out.ext hy)
  have HG3 := Lib.hid (HG3.out.ext hy)
  have hx := Ext.trans hx hy
  clear hy
  go_wp2_with fail
  refine (ex_assign3 _ g HJ.out).mono ?_
  rintro e W4 ⟨v7, rfl, hv, hy⟩
  have HJ := Lib.hid (HJ.out.ext hy)
  have HG3 := Lib.hid (HG3.out.ext hy)
  have hx := Ext.trans hx hy
  have HG7 := Lib.hid hv
  clear hy hv
  go_wp2_with fail
  refine (ex_assign2 _ g HJ.out).mono ?_
  rintro e W5 ⟨v10, rfl, ⟨A10, c10, rfl, _⟩, hy⟩
  have HJ := Lib.hid (HJ.out.ext hy)
  have HG3 := Lib.hid (HG3.out.ext hy)
  have HG7 := Lib.hid (HG7.out.ext hy)
  have hx := Ext.trans hx hy
  clear hy
  go_wp2_with fail
  refine (ex_rows _ g HJ.out).mono ?_
  rintro e W6 ⟨A13, c13, rs, rfl, hr, hrl, hy⟩
  have HJ := Lib.hid (HJ.out.ext hy)
  have HG3 := Lib.hid (HG3.out.ext hy)
  have HG7 := Lib.hid (HG7.out.ext hy)
  have hx := Ext.trans hx hy
  have HR := Lib.hid hr
  clear hy hr
  have HRL := Lib.hid hrl
  clear hrl
  go_wp2_with fail
  obtain ⟨b0, b1, b2, b3, hyc⟩ := al_fit1 W6 _ rfl
  refine (ex_fit1 _ _ _ _ _ b0 b1 b2 b3).mono ?_
  rintro e W7 ⟨v15, v16, rfl, hv, ⟨A16, c16, rfl, _⟩, hy⟩
  have hy := Ext.trans hyc hy
  clear hyc b0 b1 b2 b3
  have HJ := Lib.hid (HJ.out.ext hy)
  have HG3 := Lib.hid (HG3.out.ext hy)
  have HG7 := Lib.hid (HG7.out.ext hy)
  have HR := Lib.hid (rws_ext HR.out hy)
  have hx := Ext.trans hx hy
  have HG15 := Lib.hid hv
  clear hy hv
  go_wp2_with fail
  obtain ⟨b0, b1, b2, b3, b4, hyc⟩ := al_fit2 W7 _ rfl
  refine (ex_fit2 _ _ _ _ _ _ b0 b1 b2 b3 b4).mono ?_
  rintro e W8 ⟨v18, v19, rfl, ⟨A18, c18, rfl, _⟩, hv, hy⟩
  have hy := Ext.trans hyc hy
  clear hyc b0 b1 b2 b3 b4
  have HJ := Lib.hid (HJ.out.ext hy)
  have HG3 := Lib.hid (HG3.out.ext hy)
  have HG7 := Lib.hid (HG7.out.ext hy)
  have HR := Lib.hid (rws_ext HR.out hy)
  have HG15 := Lib.hid (HG15.out.ext hy)
  have hx := Ext.trans hx hy
  have HG19 := Lib.hid hv
  clear hy hv
  go_wp2_with fail
  obtain ⟨b0, b1, b2, hyc⟩ := al_uses W8 _ rfl
  refine (ex_uses _ _ _ _ b0 b1 b2).mono ?_
  rintro e W9 ⟨A21, c21, rfl, hv, hy⟩
  have hy := Ext.trans hyc hy
  clear hyc b0 b1 b2
  have HJ := Lib.hid (HJ.out.ext hy)
  have HG3 := Lib.hid (HG3.out.ext hy)
  have HG7 := Lib.hid (HG7.out.ext hy)
  have HR := Lib.hid (rws_ext HR.out hy)
  have HG15 := Lib.hid (HG15.out.ext hy)
  have HG19 := Lib.hid (HG19.out.ext hy)
  have hx := Ext.trans hx hy
  have HU := Lib.hid hv
  clear hy hv
  go_wp2_with fail
  have b0 := Blk.new W9 26 #[.int .i64 0, .int .i64 0, .int .i64 0]
  have hyc : Ext W9 (W9.alloc (.cells #[.int .i64 0, .int .i64 0, .int .i64 0] 26)) := bl_alloc (Below.refl _ _) _
  refine (ex_none _ _ b0).mono ?_
  rintro e W10 ⟨rfl, hy⟩
  have hy := Ext.trans hyc hy
  clear hyc b0
  have HJ := Lib.hid (HJ.out.ext hy)
  have HG3 := Lib.hid (HG3.out.ext hy)
  have HG7 := Lib.hid (HG7.out.ext hy)
  have HR := Lib.hid (rws_ext HR.out hy)
  have HG15 := Lib.hid (HG15.out.ext hy)
  have HG19 := Lib.hid (HG19.out.ext hy)
  have HU := Lib.hid (ra_ext HU.out hy)
  have hx := Ext.trans hx hy
  clear hy
  go_wp2_with fail
  have b0 := Blk.new W10 3 #[.int .i64 1, .int .i64 2, .int .i64 3]
  have hyc : Ext W10 (W10.alloc (.cells #[.int .i64 1, .int .i64 2, .int .i64 3] 3)) := bl_alloc (Below.refl _ _) _
  refine (ex_ints _ _ 3 _ b0 _ [1, 2, 3] (HG3.out.ext hyc) rfl rfl (by omega)).mono ?_
  rintro e W11 ⟨rfl, hy⟩
  have hy := Ext.trans hyc hy
  clear hyc b0
  have HJ := Lib.hid (HJ.out.ext hy)
  have HG3 := Lib.hid (HG3.out.ext hy)
  have HG7 := Lib.hid (HG7.out.ext hy)
  have HR := Lib.hid (rws_ext HR.out hy)
  have HG15 := Lib.hid (HG15.out.ext hy)
  have HG19 := Lib.hid (HG19.out.ext hy)
  have HU := Lib.hid (ra_ext HU.out hy)
  have hx := Ext.trans hx hy
  clear hy
  go_wp2_with fail
  have b0 := Blk.new W11 3 #[.int .i64 0, .int .i64 1, .int .i64 0, .int .i64 2]
  have hyc : Ext W11 (W11.alloc (.cells #[.int .i64 0, .int .i64 1, .int .i64 0, .int .i64 2] 3)) := bl_alloc (Below.refl _ _) _
  refine (ex_ints _ _ 4 _ b0 _ [0, 1, 0, 2] (HG7.out.ext hyc) rfl rfl (by omega)).mono ?_
  rintro e W12 ⟨rfl, hy⟩
  have hy := Ext.trans hyc hy
  clear hyc b0
  have HJ := Lib.hid (HJ.out.ext hy)
  have HG3 := Lib.hid (HG3.out.ext hy)
  have HG7 := Lib.hid (HG7.out.ext hy)
  have HR := Lib.hid (rws_ext HR.out hy)
  have HG15 := Lib.hid (HG15.out.ext hy)
  have HG19 := Lib.hid (HG19.out.ext hy)
  have HU := Lib.hid (ra_ext HU.out hy)
  have hx := Ext.trans hx hy
  clear hy
  go_wp2_with fail
  obtain ⟨b0, b1, b2, hyc⟩ := al_rows W12 _ rfl
  refine (ex_same _ _ _ _ b0 b1 b2 A13 c13 rs (rws_ext HR.out hyc) HRL.out).mono ?_
  rintro e W13 ⟨rfl, hy⟩
  have hy := Ext.trans hyc hy
  clear hyc b0 b1 b2
  have HJ := Lib.hid (HJ.out.ext hy)
  have HG3 := Lib.hid (HG3.out.ext hy)
  have HG7 := Lib.hid (HG7.out.ext hy)
  have HR := Lib.hid (rws_ext HR.out hy)
  have HG15 := Lib.hid (HG15.out.ext hy)
  have HG19 := Lib.hid (HG19.out.ext hy)
  have HU := Lib.hid (ra_ext HU.out hy)
  have hx := Ext.trans hx hy
  clear hy
  go_wp2_with fail
  have b0 := Blk.new W13 3 #[.int .i64 7, .int .i64 4, .int .i64 9]
  have hyc : Ext W13 (W13.alloc (.cells #[.int .i64 7, .int .i64 4, .int .i64 9] 3)) := bl_alloc (Below.refl _ _) _
  refine (ex_ints _ _ 3 _ b0 _ [7, 4, 9] (HG15.out.ext hyc) rfl rfl (by omega)).mono ?_
  rintro e W14 ⟨rfl, hy⟩
  have hy := Ext.trans hyc hy
  clear hyc b0
  have HJ := Lib.hid (HJ.out.ext hy)
  have HG3 := Lib.hid (HG3.out.ext hy)
  have HG7 := Lib.hid (HG7.out.ext hy)
  have HR := Lib.hid (rws_ext HR.out hy)
  have HG15 := Lib.hid (HG15.out.ext hy)
  have HG19 := Lib.hid (HG19.out.ext hy)
  have HU := Lib.hid (ra_ext HU.out hy)
  have hx := Ext.trans hx hy
  clear hy
  go_wp2_with fail
  have b0 := Blk.new W14 3 #[.int .i64 0, .int .i64 1, .int .i64 2]
  have hyc : Ext W14 (W14.alloc (.cells #[.int .i64 0, .int .i64 1, .int .i64 2] 3)) := bl_alloc (Below.refl _ _) _
  refine (ex_ints _ _ 3 _ b0 _ [0, 1, 2] (HG19.out.ext hyc) rfl rfl (by omega)).mono ?_
  rintro e W15 ⟨rfl, hy⟩
  have hy := Ext.trans hyc hy
  clear hyc b0
  have HJ := Lib.hid (HJ.out.ext hy)
  have HG3 := Lib.hid (HG3.out.ext hy)
  have HG7 := Lib.hid (HG7.out.ext hy)
  have HR := Lib.hid (rws_ext HR.out hy)
  have HG15 := Lib.hid (HG15.out.ext hy)
  have HG19 := Lib.hid (HG19.out.ext hy)
  have HU := Lib.hid (ra_ext HU.out hy)
  have hx := Ext.trans hx hy
  clear hy
  go_wp2_with fail
  have b0 := Blk.new W15 26 #[.int .i64 1, .int .i64 7, .int .i64 8]
  have hyc : Ext W15 (W15.alloc (.cells #[.int .i64 1, .int .i64 7, .int .i64 8] 26)) := bl_alloc (Below.refl _ _) _
  refine (ex_suses _ _ b0 A21 c21 (ra_ext HU.out hyc)).mono ?_
  rintro e W16 ⟨rfl, hy⟩
  have hy := Ext.trans hyc hy
  clear hyc b0
  have HJ := Lib.hid (HJ.out.ext hy)
  have HG3 := Lib.hid (HG3.out.ext hy)
  have HG7 := Lib.hid (HG7.out.ext hy)
  have HR := Lib.hid (rws_ext HR.out hy)
  have HG15 := Lib.hid (HG15.out.ext hy)
  have HG19 := Lib.hid (HG19.out.ext hy)
  have HU := Lib.hid (ra_ext HU.out hy)
  have hx := Ext.trans hx hy
  clear hy
  go_wp2_with fail
  refine (ex_valid _ g HJ.out).mono ?_
  rintro e W17 ⟨rfl, hy⟩
  have HJ := Lib.hid (HJ.out.ext hy)
  have HG3 := Lib.hid (HG3.out.ext hy)
  have HG7 := Lib.hid (HG7.out.ext hy)
  have HR := Lib.hid (rws_ext HR.out hy)
  have HG15 := Lib.hid (HG15.out.ext hy)
  have HG19 := Lib.hid (HG19.out.ext hy)
  have HU := Lib.hid (ra_ext HU.out hy)
  have hx := Ext.trans hx hy
  clear hy
  have d0 : W17.cell? ⟨g, 0, none⟩ = some (.int .i64 1) := HJ.out.cell 0
  have d1 : W17.cell? ⟨g, 1, none⟩ = some (.int .i64 10) := HJ.out.cell 1
  have d2 : W17.cell? ⟨g, 2, none⟩ = some (.int .i64 20) := HJ.out.cell 2
  obtain ⟨A30, c30, W30, hrun, hra, hy⟩ := ex_twice W17 g HJ.out
  have hx := Ext.trans hx hy
  have HRUN := Lib.hid hrun
  have HRA := Lib.hid hra
  clear hrun hra hy
  go_wp2_with (refine wpList_append_rung rfl _ _ _ rfl rfl rfl HRUN.out ?_)
  refine HRA.out.mono ?_
  rintro e W31 ⟨rfl, hy⟩
  have hx := Ext.trans hx hy
  clear hy HRA HRUN HJ HU
  go_wp2_with fail
  go_ret
  exact ⟨rfl, hx⟩
end Go.Proofs.Ytgbfhkildbhhoaa
