/- The three rows of numbers of a pool of the call's own. -/
import Derived.Test.YtpddnkefggaigaaM1
import Derived.Test.YtpddnkefggaigaaN1
import Derived.Test.YtpddnkefggaigaaP2
namespace Go.Proofs.Ytpddnkefggaigaa
open Go.RowKit

def Gf (g1 g2 g4 f : Nat) : Nat := if f = 0 then g1 else if f = 1 then g2 else g4
/-- The three rows, in blocks g1, g2, g4, hold s. -/
structure Rows3 (W : World) (base g1 c1 g2 c2 g4 c4 : Nat) (s : St) : Prop where
  r1 : W.ownsRow base 3 1 (.slice (some ⟨g1, 0, none⟩) 16 c1) 16 (s.h.map I64)
  r2 : W.ownsRow base 3 1 (.slice (some ⟨g2, 0, none⟩) 16 c2) 16 (s.u.map I64)
  r4 : W.ownsRow base 3 1 (.slice (some ⟨g4, 0, none⟩) 16 c4) 16 (s.c.map I64)
  d12 : g1 ≠ g2
  d14 : g1 ≠ g4
  d24 : g2 ≠ g4

section
variable {W W' : World} {base g g1 c1 g2 c2 g4 c4 c : Nat} {s : St} {zs : List Int}
theorem own_lt (h : W.ownsRow base 3 1 (.slice (some ⟨g, 0, none⟩) 16 c) 16 (zs.map I64)) : base ≤ g ∧ g < W.heap.size := h.lt g rfl
theorem own_len (h : W.ownsRow base 3 1 (.slice (some ⟨g, 0, none⟩) 16 c) 16 (zs.map I64)) : zs.length = 16 := by have := h.1; simpa using this
theorem own16 {W : World} {base : Nat} {v : Value} {zs : List Int} (h : W.ownsRow base 3 1 v 16 (zs.map I64)) : ∃ g c, v = .slice (some ⟨g, 0, none⟩) 16 c := by
  rcases h.2 with ⟨_, h0⟩ | ⟨g, cap, cur, rfl, _⟩
  · omega
  · exact ⟨g, cap, rfl⟩
theorem own_cell (h : W.ownsRow base 3 1 (.slice (some ⟨g, 0, none⟩) 16 c) 16 (zs.map I64)) {i : Nat} (hi : i < 16) : W.cell? ⟨g, i, none⟩ = some (I64 (zs.getD i 0)) ∧ W.frozen? ⟨g, i, none⟩ = false := by
  have hl := own_len h
  have hc := h.cells (g := g) rfl i (I64 (zs.getD i 0)) (by rw [List.getElem?_map, List.getD_eq_getElem?_getD, List.getElem?_eq_getElem (by omega)]; simp)
  rw [Addr.add_lit, Nat.zero_add] at hc
  rcases h.2 with ⟨hv, _⟩ | ⟨g', cap, cur, hv, hb, hh, _⟩
  · cases hv
  · injection hv with e1 _ _
    injection e1 with e1
    injection e1 with e1 _ _
    subst e1
    exact ⟨hc, by simp [World.frozen?, hh]⟩
theorem own_write (h : W.ownsRow base 3 1 (.slice (some ⟨g, 0, none⟩) 16 c) 16 (zs.map I64)) {i : Nat} (_hi : i < 16) (x : Int) : (W.setCell ⟨g, i, none⟩ (I64 x)).ownsRow base 3 1 (.slice (some ⟨g, 0, none⟩) 16 c) 16 ((zs.set i x).map I64) := by
  have hl := own_len h
  refine ⟨by simp [hl], ?_⟩
  rcases h.2 with ⟨hv, _⟩ | ⟨g', cap, cur, hv, hb, hh, h1, h2, h3, h4⟩
  · cases hv
  · injection hv with e1 e2 e3
    injection e1 with e1
    injection e1 with e1 _ _
    subst e1 e3
    refine .inr ⟨g, c, cur.setIfInBounds i (I64 x), rfl, hb, Blk.set_ (cs := cur) hh i _, h1, h2, by simpa using h3, ?_⟩
    rw [Array.toList_setIfInBounds, List.take_set, h4, List.map_set]
theorem own_other (h : W.ownsRow base 3 1 (.slice (some ⟨g, 0, none⟩) 16 c) 16 (zs.map I64)) {g' i : Nat} (hne : g ≠ g') (x : Value) : (W.setCell ⟨g', i, none⟩ x).ownsRow base 3 1 (.slice (some ⟨g, 0, none⟩) 16 c) 16 (zs.map I64) :=
  own_set h (p := ⟨g', i, none⟩) (by simp [Value.ownBlock, hne]) x

theorem Rows3.cell (h : Rows3 W base g1 c1 g2 c2 g4 c4 s) {f i : Nat} (hf : okF f) (hi : i < 16) : W.cell? ⟨Gf g1 g2 g4 f, i, none⟩ = some (I64 ((s.get f).getD i 0)) ∧ W.frozen? ⟨Gf g1 g2 g4 f, i, none⟩ = false := by
  rcases hf with rfl | rfl | rfl
  · exact own_cell h.r1 hi
  · exact own_cell h.r2 hi
  · exact own_cell h.r4 hi
theorem Rows3.ge (h : Rows3 W base g1 c1 g2 c2 g4 c4 s) {f : Nat} (hf : okF f) : base ≤ Gf g1 g2 g4 f ∧ Gf g1 g2 g4 f < W.heap.size := by
  rcases hf with rfl | rfl | rfl
  · exact own_lt h.r1
  · exact own_lt h.r2
  · exact own_lt h.r4
theorem Rows3.write (h : Rows3 W base g1 c1 g2 c2 g4 c4 s) {f i : Nat} (hf : okF f) (hi : i < 16) (d : Int) : Rows3 (W.setCell ⟨Gf g1 g2 g4 f, i, none⟩ (I64 ((s.get f).getD i 0 + d))) base g1 c1 g2 c2 g4 c4 (s.upd f i d) := by
  obtain ⟨r1, r2, r4, d12, d14, d24⟩ := h
  rcases hf with rfl | rfl | rfl
  · exact ⟨own_write r1 hi _, own_other r2 (fun e => d12 e.symm) _, own_other r4 (fun e => d14 e.symm) _, d12, d14, d24⟩
  · exact ⟨own_other r1 d12 _, own_write r2 hi _, own_other r4 (fun e => d24 e.symm) _, d12, d14, d24⟩
  · exact ⟨own_other r1 d14 _, own_other r2 d24 _, own_write r4 hi _, d12, d14, d24⟩
theorem Rows3.ext (h : Rows3 W base g1 c1 g2 c2 g4 c4 s) (hx : Ext W W') : Rows3 W' base g1 c1 g2 c2 g4 c4 s := ⟨own_ext h.r1 hx, own_ext h.r2 hx, own_ext h.r4 hx, h.d12, h.d14, h.d24⟩
theorem Rows3.set4 (h : Rows3 W base g1 c1 g2 c2 g4 c4 s) {t : TypeId} {cs : Array Value} (hb : Blk W g t cs) (ht : 3 ≠ t) (a b c d : Value) : Rows3 ((((W.setCell ⟨g, 0, none⟩ a).setCell ⟨g, 1, none⟩ b).setCell ⟨g, 2, none⟩ c).setCell ⟨g, 3, none⟩ d) base g1 c1 g2 c2 g4 c4 s :=
  ⟨own_set4 h.r1 (own_blk_ne h.r1 hb ht) _ _ _ _, own_set4 h.r2 (own_blk_ne h.r2 hb ht) _ _ _ _, own_set4 h.r4 (own_blk_ne h.r4 hb ht) _ _ _ _, h.d12, h.d14, h.d24⟩
theorem Rows3.set1 (h : Rows3 W base g1 c1 g2 c2 g4 c4 s) {t : TypeId} {cs : Array Value} {p : Addr} (hb : Blk W p.block t cs) (ht : 3 ≠ t) (a : Value) : Rows3 (W.setCell p a) base g1 c1 g2 c2 g4 c4 s :=
  ⟨own_set h.r1 (own_blk_ne h.r1 hb ht) _, own_set h.r2 (own_blk_ne h.r2 hb ht) _, own_set h.r4 (own_blk_ne h.r4 hb ht) _, h.d12, h.d14, h.d24⟩
theorem Rows3.grown (h : Rows3 W base g1 c1 g2 c2 g4 c4 s) {row : Option Nat} (hg : W.grownBy W' row) (h1 : some g1 ≠ row) (h2 : some g2 ≠ row) (h4 : some g4 ≠ row) : Rows3 W' base g1 c1 g2 c2 g4 c4 s :=
  ⟨h.r1.kept hg (.inr (by simpa [Value.ownBlock] using h1)), h.r2.kept hg (.inr (by simpa [Value.ownBlock] using h2)), h.r4.kept hg (.inr (by simpa [Value.ownBlock] using h4)), h.d12, h.d14, h.d24⟩
end

theorem Blk.new_at {w : World} {g : Nat} (t : TypeId) (cs : Array Value) (h : w.heap.size = g) : Blk (w.alloc (.cells cs t)) g t cs := by subst h; exact Blk.new w t cs

def mvAt (g1 g2 g4 : Nat) (m : AM) : Mv := ⟨⟨Gf g1 g2 g4 m.fa, m.ia, none⟩, ⟨Gf g1 g2 g4 m.fb, m.ib, none⟩, m.am⟩

end Go.Proofs.Ytpddnkefggaigaa
