/- Clone and DeleteFunc at [][]int. -/
import Derived.Test.YtgbfhkildbhhoaaA9
import Derived.Lib.Hide
namespace Go.Proofs.Ytgbfhkildbhhoaa
open Go.RowKit

theorem info_row : (Try.prog.info? 28).map (fun i => (i.zero, i.size, i.bytes)) = some (some (.slice none 0 0), 1, 24) := by kernel_rfl
theorem rows_one (l : List Row) : ∀ u ∈ l.flatMap rowCells, u.oneCell' = true := by
  intro u hu
  simp only [List.mem_flatMap, rowCells] at hu
  obtain ⟨x, _, hx⟩ := hu
  simp at hx
  subst hx
  rfl
theorem clone_row (rs : List Row) (A : Option Addr) (n c : Nat) (w : World) (h : RA rowCells 1 w w.heap.size A n c rs) (hn : n ≤ 1000) :
    Calls Try.prog 39 #[.slice A n c] w (ListRet rowCells 1 28 rs w) := by
  have hr := h.rd
  have hlen := h.len
  have heq := fun (w : World) (a : Option Addr) (n c n' c' : Nat) => Lib.run_eql_slice_nil (P := Try.prog) w 42 28 a n c n' c' Try.underlying42
  cases A with
  | none =>
    have h0 : n = 0 := by
      rcases Nat.eq_zero_or_pos n with h0 | h0
      · exact h0
      · obtain ⟨_, _, h, _⟩ := hr.2 h0
        cases h
    subst h0
    have hz : rs = [] := List.eq_nil_of_length_eq_zero hlen
    subst hz
    clear hr h hlen
    go_enter Try.func39, Try.ntmps39
    go_wp2
    go_ret
    exact ⟨_, rfl, World.ownsRow_nil _ _ _ _, (by repeat (first | exact Below.refl _ _ | assumption | refine Below.drew ?_ | refine below_drewN ?_ _ | refine bl_alloc ?_ _ | refine Below.setCell ?_ (by first | (simp; done) | omega | (simp; omega)) _ | refine bl_then ?_ (by assumption)))⟩
  | some ad =>
    obtain ⟨i0, hi, hz0, hz1, hz2⟩ := info_parts info_row
    have H1 := Lib.hid (rows_one rs)
    have HLEN := Lib.hid hlen
    generalize hxs : rs.flatMap rowCells = xs at hr H1
    have HXS := Lib.hid hxs
    have HR := Lib.hid (hr.alloc (Nat.le_refl _) (.cells #[] 28))
    clear hr h hlen hxs
    go_enter Try.func39, Try.ntmps39
    go_wp2_with (at_builtin; refine wpList_append_any _ rfl _ _ 42 rfl w.heap.size 28 i0 (.slice none 0 0) 1 24 Try.underlying42 hi hz0 hz1 hz2 rfl (by decide) _ 0 [] rfl (World.ownsRow_made w #[] 0 (Nat.le_refl _) (by unfold maxLen; omega) rfl) w.heap.size (some ad) n c xs rfl HR.out H1.out (by unfold maxLen; omega) (by omega) (by simp) ?_)
    intro v' w' hown hg hat
    go_wp2
    go_ret
    refine ⟨_, rfl, by rw [HXS.out, HLEN.out]; simpa using hown, ?_⟩
    exact (bl_alloc (Below.refl _ _) _).grown hg (by simp) (fun k hk => by simp [Value.ownBlock] at hk; omega)

theorem run_clearN {P : Program} (w : World) (t e ty : TypeId) (z : Value) (m : Nat) (ht : P.underlying t = some (.slice e)) (hv : ∀ w, (zeroValue e).run P w = .ok z w) (h1 : ∀ u ∈ (Builtin.zeroCells z.cells (m + 1)).toList, u.oneCell' = true) (g o c : Nat) (cur : Array Value) (et : TypeId)
    (hg : w.heap[g]? = some (.cells cur et (0, 0))) (hfit : o + (Builtin.zeroCells z.cells (m + 1)).toList.length ≤ cur.size) :
    (Builtin.clear_ #[t] ty #[.slice (some ⟨g, o, none⟩) (m + 1) c]).run P w = .ok (.tuple #[]) (w.setRow g (cur.toList.take o ++ (Builtin.zeroCells z.cells (m + 1)).toList ++ cur.toList.drop (o + (Builtin.zeroCells z.cells (m + 1)).toList.length)).toArray) := by
  have hst := run_storeCells_at P g o et (Builtin.zeroCells z.cells (m + 1)).toList 0 cur w hg (by simpa using hfit) h1
  simp only [Nat.add_zero] at hst
  simp [Builtin.clear_, run_underlying ht, hv, hst]
theorem zero_row (m : Nat) : (Builtin.zeroCells (Value.slice none 0 0).cells m).toList = List.replicate m (.slice none 0 0) := by
  simp only [Builtin.zeroCells, Value.cells, Array.toList_map, Array.toList_range, List.size_toArray, List.length_cons, List.length_nil, Nat.mul_one, Nat.zero_add, Nat.mod_one]
  rw [List.map_const', List.length_range]
  rfl
theorem idxA_spec {α : Type} (q : α → Bool) (l : List α) (k : Int) : (idxA q l k = -1 ∧ l.filter (fun x => !q x) = l) ∨ ∃ i : Nat, i < l.length ∧ idxA q l k = k + i ∧ (l.take (i + 1)).filter (fun x => !q x) = l.take i := by
  induction l generalizing k with
  | nil => exact .inl ⟨rfl, rfl⟩
  | cons x r ih =>
    cases hx : q x
    · rcases ih (k + 1) with ⟨h1, h2⟩ | ⟨i, h1, h2, h3⟩
      · exact .inl ⟨by simp [idxA, hx, h1], by simp [hx, h2]⟩
      · refine .inr ⟨i + 1, by simpa using h1, by simp [idxA, hx, h2]; omega, ?_⟩
        rw [List.take_succ_cons, List.take_succ_cons, List.filter_cons, hx, h3]
        rfl
    · exact .inr ⟨0, by simp, by simp [idxA, hx], by simp [hx]⟩
theorem RowS.putR {base g n c : Nat} {e : TypeId} {w : World} {l : List Row} (h : RowS rowCells 1 base e g n c w l) {k : Nat} (hk : k < l.length) (x : Row) : RowS rowCells 1 base e g n c (w.setCell ⟨g, k, none⟩ (.slice x.a x.n x.c)) (l.set k x) ∧ w.grownBy (w.setCell ⟨g, k, none⟩ (.slice x.a x.n x.c)) (some g) := by
  have := h.store row_len hk x
  simpa [rowCells, World.setCells] using this
theorem RowS.cellR {base g n c : Nat} {e : TypeId} {w : World} {l : List Row} (h : RowS rowCells 1 base e g n c w l) {k : Nat} (hk : k < l.length) : w.cell? ⟨g, k, none⟩ = some (.slice l[k].a l[k].n l[k].c) := by
  have := h.range row_len hk 0 (.slice l[k].a l[k].n l[k].c) rfl
  simpa using this
theorem wpList_clearK {P : Program} (w : World) {ops : Array Oper} {rest : List Oper} {o : Oper} {a : Act} {Q : Exit → Act → World → Prop} (hgd : o.guard = none) (d : Operand) (t : TypeId)
    (ho : o.op = .call { callee := .builtin .clear, args := #[d], argTypes := #[t] }) (v : Value) (hd : a.eval d = v) {v' : Value} {w' : World}
    (hr : (Builtin.clear_ #[t] o.type #[v]).run P w = .ok v' w') (h : wpList P ops Q rest (a.put o.dst v') w') : wpList P ops Q (o :: rest) a w := by
  refine wpList_plain hgd fun K hK => ?_
  unfold Oper.wp execOp
  simp only [ho, resolve, invoke, builtin, Sem.run_bind, Sem.run_pure, Result.andThen_ok, List.map_toArray, List.map_cons, List.map_nil, hd, hr]
  exact hK _ _ h
/-- The tail of a row is cleared; the head stays. -/
theorem clear_tail {w : World} {base g n c i : Nat} {l : List Row} (h : RowS rowCells 1 base 28 g n c w l) (hi : i < n) (ty : TypeId) :
    ∃ w', (Builtin.clear_ #[42] ty #[.slice (some ⟨g, i, none⟩) (n - i) (c - i)]).run Try.prog w = .ok (.tuple #[]) w' ∧ RowS rowCells 1 base 28 g i c w' (l.take i) ∧ w.grownBy w' (some g) := by
  rcases h.2.2 with ⟨hv, _⟩ | ⟨g', cap, cur, hv, hb, hg, h1, h2, h3, h4⟩
  · cases hv
  · injection hv with e1 _ e3
    injection e1 with e1
    injection e1 with e1 _ _
    subst e1 e3
    have hzv : ∀ w, (zeroValue 28).run Try.prog w = .ok (.slice none 0 0) w := fun _ => by kernel_rfl
    obtain ⟨m, hm⟩ : ∃ m, n - i = m + 1 := ⟨n - i - 1, by omega⟩
    have hz := zero_row (m + 1)
    have hr := run_clearN (P := Try.prog) w 42 28 ty (.slice none 0 0) m Try.underlying42 hzv (by rw [hz]; intro u hu; rw [List.mem_replicate] at hu; rw [hu.2]; rfl) g i (c - i) cur 28 hg (by rw [hz, List.length_replicate]; omega)
    rw [hz, ← hm] at hr
    have hcl : cur.toList.length = c := by rw [Array.length_toList]; omega
    have hfl : (l.flatMap rowCells).length = n := by have := h.2.1; omega
    have htk : (l.take i).flatMap rowCells = (l.flatMap rowCells).take i := by
      have : ∀ (l : List Row) i, (l.take i).flatMap rowCells = (l.flatMap rowCells).take i := by
        intro l
        induction l with
        | nil => intro i; simp
        | cons x r ih => intro i; cases i with
          | zero => simp
          | succ i => rw [List.take_succ_cons, List.flatMap_cons, List.flatMap_cons, ih]; rfl
      exact this l i
    refine ⟨_, hr, ⟨by rw [List.length_take, h.1]; omega, ?_, .inr ⟨g, c, _, rfl, hb, setRow_heap w g cur _ _ _ hg, by omega, h2, ?_, ?_⟩⟩, ⟨rfl, rfl, rfl, by simp, fun k _ hk => setRow_other w g k _ (fun e => hk (by simp [e]))⟩⟩
    · rw [htk, List.length_take, hfl]; omega
    · simp only [List.size_toArray, List.length_append, List.length_take, List.length_replicate, List.length_drop, hcl]; omega
    · rw [Nat.mul_one] at h4
      rw [htk, ← h4, Nat.mul_one, List.append_assoc, List.take_append_of_le_length (by rw [List.length_take, hcl]; omega), List.take_take, List.take_take, Nat.min_self, Nat.min_eq_left (by omega)]
end Go.Proofs.Ytgbfhkildbhhoaa
