/- Rows of structs that the call owns: whole structs stored into them. -/
import Derived.Test.YtmlabgmigakcbaaReg5
import Derived.Deep.MidRow
import Derived.Laws.OwnMore
namespace Go.Proofs.Ytmlabgmigakcbaa
open Go.RowKit

theorem gb_trans {a b c : World} {row : Option Nat} (h : a.grownBy b row) (k : b.grownBy c row) : a.grownBy c row :=
  ⟨k.os.trans h.os, k.tape.trans h.tape, k.output.trans h.output, Nat.le_trans h.size k.size, fun j hj hr => (k.block j (Nat.lt_of_lt_of_le hj h.size) hr).trans (h.block j hj hr)⟩
theorem grown_ext {a b : World} {row : Option Nat} (h : Ext a b) : a.grownBy b row := ⟨h.os, h.tape, h.output, h.size, fun j hj _ => h.block j hj⟩
theorem grown_refl (a : World) (row : Option Nat) : a.grownBy a row := grown_ext (Ext.refl a)

section
variable {α : Type} {cells : α → List Value} {s : Nat}
theorem flat_len_ (hs : ∀ x, (cells x).length = s) (l : List α) : (l.flatMap cells).length = l.length * s := by
  induction l with
  | nil => simp
  | cons x r ih => rw [List.flatMap_cons, List.length_append, ih, hs, List.length_cons, Nat.succ_mul]; omega
theorem flat_at_ (hs : ∀ x, (cells x).length = s) (l : List α) (k : Nat) (h : k < l.length) (j : Nat) (hj : j < s) : (l.flatMap cells)[k * s + j]? = (cells l[k])[j]? := by
  induction l generalizing k with
  | nil => simp at h
  | cons x r ih =>
    rw [List.flatMap_cons]
    cases k with
    | zero => rw [Nat.zero_mul, Nat.zero_add, List.getElem?_append_left (by rw [hs]; exact hj)]; rfl
    | succ k =>
      rw [List.getElem?_append_right (by rw [hs, Nat.succ_mul]; omega), hs, show (k + 1) * s + j - s = k * s + j by rw [Nat.succ_mul]; omega]
      exact ih k (by simpa using h)
theorem flat_set (hs : ∀ x, (cells x).length = s) (l : List α) (i : Nat) (hi : i < l.length) (x : α) : (l.set i x).flatMap cells = (l.flatMap cells).take (i * s) ++ cells x ++ (l.flatMap cells).drop (i * s + s) := by
  induction l generalizing i with
  | nil => simp at hi
  | cons y r ih =>
    cases i with
    | zero =>
      rw [List.set_cons_zero, List.flatMap_cons, List.flatMap_cons, Nat.zero_mul, List.take_zero, List.nil_append, Nat.zero_add, List.drop_append_of_le_length (by rw [hs]; exact Nat.le_refl _), List.drop_of_length_le (by rw [hs]; exact Nat.le_refl _), List.nil_append]
    | succ i =>
      have hi' : i < r.length := by simpa using hi
      have e1 : List.take (i * s + s) (cells y ++ r.flatMap cells) = cells y ++ List.take (i * s) (r.flatMap cells) := by
        rw [List.take_append, List.take_of_length_le (l := cells y) (by rw [hs]; omega), hs, show i * s + s - s = i * s by omega]
      have e2 : List.drop (i * s + s + s) (cells y ++ r.flatMap cells) = List.drop (i * s + s) (r.flatMap cells) := by
        rw [List.drop_append, List.drop_of_length_le (l := cells y) (by rw [hs]; omega), hs, show i * s + s + s - s = i * s + s by omega, List.nil_append]
      rw [List.set_cons_succ, List.flatMap_cons, List.flatMap_cons, ih i hi', Nat.succ_mul, e1, e2]
      simp
end

/-- A row of structs in block g that the call owns. -/
def RowS {α : Type} (cells : α → List Value) (s : Nat) (base : Nat) (e : TypeId) (g n c : Nat) (w : World) (l : List α) : Prop :=
  l.length = n ∧ w.ownsRow base e s (.slice (some ⟨g, 0, none⟩) n c) n (l.flatMap cells)
section
variable {α : Type} {cells : α → List Value} {s base : Nat} {e : TypeId} {g n c : Nat} {w w' : World} {l : List α}
theorem RowS.lt (h : RowS cells s base e g n c w l) : g < w.heap.size := (World.ownsRow.lt h.2 g rfl).2
theorem RowS.le (h : RowS cells s base e g n c w l) : n ≤ c ∧ c ≤ maxLen := by
  obtain ⟨_, _, hv, h1, h2⟩ := own_slice h.2
  injection hv with _ _ hv
  subst hv
  exact ⟨h1, h2⟩
theorem RowS.ext (h : RowS cells s base e g n c w l) (hx : Ext w w') : RowS cells s base e g n c w' l := ⟨h.1, own_ext h.2 hx⟩
theorem RowS.range (hs : ∀ x, (cells x).length = s) (h : RowS cells s base e g n c w l) {k : Nat} (hk : k < l.length) : w.rangeAt g (k * s) (cells l[k]) := fun j v hv => by
  have hj : j < s := by rw [← hs l[k]]; exact (List.getElem?_eq_some_iff.1 hv).1
  have h1 : k * s + j < n * s := by
    have := Nat.mul_le_mul_right s (show k + 1 ≤ n by have := h.1; omega)
    rw [Nat.succ_mul] at this
    omega
  rw [h.2.cellAt _ h1, flat_at_ hs l k hk j hj]
  exact hv
theorem RowS.there (hs : ∀ x, (cells x).length = s) (h : RowS cells s base e g n c w l) {k : Nat} (hk : k < l.length) : w.there g (k * s) s := fun j hj => by
  have h1 : k * s + j < n * s := by
    have := Nat.mul_le_mul_right s (show k + 1 ≤ n by have := h.1; omega)
    rw [Nat.succ_mul] at this
    omega
  refine ⟨?_, h.2.frozenAt _⟩
  rw [h.2.cellAt _ h1, flat_at_ hs l k hk j hj]
  simp [hs, hj]
theorem own_setCells (vs : List Value) : ∀ (o : Nat) (w : World) (xs : List Value), w.ownsRow base e s (.slice (some ⟨g, 0, none⟩) n c) n xs → o + vs.length ≤ xs.length →
    (w.setCells g o vs).ownsRow base e s (.slice (some ⟨g, 0, none⟩) n c) n (xs.take o ++ vs ++ xs.drop (o + vs.length)) ∧ w.grownBy (w.setCells g o vs) (some g) := by
  induction vs with
  | nil => intro o w xs h _; exact ⟨by simpa [World.setCells] using h, grown_refl _ _⟩
  | cons v r ih =>
    intro o w xs h ho
    simp only [List.length_cons] at ho
    obtain ⟨h1, h2⟩ := h.stored o v
    obtain ⟨h3, h4⟩ := ih (o + 1) _ _ h1 (by simp; omega)
    refine ⟨?_, gb_trans h2 h4⟩
    have he : (xs.set o v).take (o + 1) ++ r ++ (xs.set o v).drop (o + 1 + r.length) = xs.take o ++ (v :: r) ++ xs.drop (o + (v :: r).length) := by
      rw [List.drop_set_of_lt (by omega), List.take_set, show xs.take (o + 1) = xs.take o ++ [xs[o]] from List.take_succ_eq_append_getElem (by omega)]
      rw [List.set_append_right _ _ (by simp; omega)]
      have : o - (xs.take o).length = 0 := by simp; omega
      rw [this, List.set_cons_zero, List.length_cons, show o + 1 + r.length = o + (r.length + 1) by omega]
      simp
    rw [← he]
    exact h3
theorem RowS.store (hs : ∀ x, (cells x).length = s) (h : RowS cells s base e g n c w l) {k : Nat} (hk : k < l.length) (x : α) : RowS cells s base e g n c (w.setCells g (k * s) (cells x)) (l.set k x) ∧ w.grownBy (w.setCells g (k * s) (cells x)) (some g) := by
  have hlen : k * s + (cells x).length ≤ (l.flatMap cells).length := by
    rw [hs, flat_len_ hs]
    have := Nat.mul_le_mul_right s (show k + 1 ≤ l.length by omega)
    rw [Nat.succ_mul] at this
    exact this
  obtain ⟨h1, h2⟩ := own_setCells (cells x) (k * s) w _ h.2 hlen
  refine ⟨⟨by simpa using h.1, ?_⟩, h2⟩
  rw [hs] at h1
  rw [flat_set hs l k hk x]
  exact h1
end
/-- A whole struct is stored into a row. -/
theorem wpList_store_st {P : Program} {ops : Array Oper} {rest : List Oper} {op : Oper} {a : Act} {w : World} {Q : Exit → Act → World → Prop} (hgd : op.guard = none) (ty : TypeId) (x y : Operand) (ho : op.op = .store ty x y)
    (b o : Nat) (X : Array Value) (cs : List Value) (hX : cs.toArray = X) (hx : a.eval x = .pointer (some ⟨b, o, none⟩)) (hy : a.eval y = .agg X)
    (ht : w.there b o cs.length) (hi : (P.info? ty).map (·.size) = some cs.length) (h1 : ∀ v ∈ cs, v.oneCell' = true)
    (h : wpList P ops Q rest (a.put op.dst undef) (w.setCells b o cs)) : wpList P ops Q (op :: rest) a w := by
  subst hX
  exact wpList_store_mid hgd ty x y ho b o cs.toArray hx hy (by simpa using ht) (by simpa using hi) (all_oneCell_toArray h1) (by simpa using h)
theorem yields_sub {P : Program} {ops : Array Oper} {o : Oper} {a : Act} {t : TypeId} {x y : Operand} {p q r : Int} (ho : o.op = .binOp .sub t x y t) (hg : o.guard = none) (hx : a.eval x = .int .i64 p) (hy : a.eval y = .int .i64 q) (hr : IntKind.i64.wrap (p - q) = r) : Yields P ops o (.int .i64 r) a :=
  .inl ⟨by simp [Region.wanted, hg], fun w => by
    simp only [execOp, ho, hx, hy]
    simp [go_sem, hr]⟩

end Go.Proofs.Ytmlabgmigakcbaa
