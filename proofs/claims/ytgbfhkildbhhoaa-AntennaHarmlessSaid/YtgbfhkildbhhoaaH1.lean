/- Arguments, opened (printed by antenna_said.py). -/
import Derived.Test.YtgbfhkildbhhoaaR3
import Derived.Test.YtgbfhkildbhhoaaRows
import Derived.ProofKit
import Derived.OpenShut
import Derived.ChangeOld
import Derived.Below
import Derived.Deep.Slices
namespace Go.Proofs.Ytgbfhkildbhhoaa
open Go.ChangeShapes Go.WideShapes Go.ChangeAt Go.RowKit Go.Deep

theorem ownKn : ownKnob Try.prog.godebug = none := by kernel_rfl
theorem laidOut : laidOutB Try.prog = true := by kernel_rfl
theorem i64_of_wf {n : Int} (h : (Lit.int .i64 n).wf = true) : I64ok n := by
  simpa [I64ok, Lit.wf, IntKind.min, IntKind.max, IntKind.signed, IntKind.bits] using h
section
variable {H : Type} {enc : TypeId × Value → H} {W : World} {base : Nat} {spare : Nat → Bool} {held : Bool}
set_option maxRecDepth 100000 in
theorem open_T3 {cs : List Value} {n : Nat} {x : DataW H × List MemPlace} (h : DataW.trod enc Try.prog W base spare held n 77 cs = some x) : ∃ q : T3, q.ok ∧ cs = t3Cells q := by
  obtain ⟨xs, m, _, _, hlen, hxl, hg⟩ := DataW.trod_array Try.underlying77 h
  have hc4 : Try.prog.cellsOf 77 = 3 := by kernel_rfl
  have hc1 : Try.prog.cellsOf 3 = 1 := by kernel_rfl
  rw [hc4] at hlen
  match cs, hlen with
  | [c0, c1, c2], _ =>
    have g0 := hg 0 (by omega)
    have g1 := hg 1 (by omega)
    have g2 := hg 2 (by omega)
    rw [hc1] at g0 g1 g2
    match xs, hxl with
    | [y0, y1, y2], _ =>
      simp at g0 g1 g2
      obtain ⟨a0, e0, _, w0⟩ := DataW.trod_int Try.underlying3 g0
      obtain ⟨a1, e1, _, w1⟩ := DataW.trod_int Try.underlying3 g1
      obtain ⟨a2, e2, _, w2⟩ := DataW.trod_int Try.underlying3 g2
      simp at e0 e1 e2
      subst e0 e1 e2
      exact ⟨⟨a0, a1, a2⟩, ⟨i64_of_wf w0, i64_of_wf w1, i64_of_wf w2⟩, rfl⟩
theorem list_of {α : Type} {P : Nat → α → Prop} (n : Nat) (h : ∀ i, i < n → ∃ x, P i x) : ∃ l : List α, l.length = n ∧ ∀ i x, l[i]? = some x → P i x := by
  induction n with
  | zero => exact ⟨[], rfl, fun i x hx => by simp at hx⟩
  | succ n ih =>
    obtain ⟨l, hl, hp⟩ := ih fun i hi => h i (by omega)
    obtain ⟨x, hx⟩ := h n (by omega)
    refine ⟨l ++ [x], by simp [hl], fun i y hy => ?_⟩
    rw [List.getElem?_append] at hy
    split at hy
    · exact hp i y hy
    · rename_i hi
      have hi0 : i - l.length = 0 := by
        rcases Nat.eq_zero_or_pos (i - l.length) with e | e
        · exact e
        · rw [List.getElem?_eq_none (by simp; omega)] at hy; cases hy
      rw [hi0] at hy
      simp at hy
      subst hy
      have : i = n := by omega
      subst this
      exact hx
theorem open_rows {α : Type} {cells : α → List Value} {s : Nat} {t te : TypeId} {ok : α → Prop} (hu : Try.prog.underlying t = some (.slice te)) (hcs : Try.prog.cellsOf te = s) (hlen : ∀ q, (cells q).length = s) (h0 : 0 < s)
    (hop : ∀ (m : Nat) (cs : List Value) (x : DataW H × List MemPlace), DataW.trod enc Try.prog W base spare held m te cs = some x → ∃ q, ok q ∧ cs = cells q)
    {A : Option Addr} {n c : Nat} {d : DataW H} {p : List MemPlace} (h : DataW.Trod enc Try.prog W base spare held t (.slice A n c) d p) : ∃ xs, RA cells s W W.heap.size A n c xs ∧ ∀ x ∈ xs, ok x := by
  obtain ⟨fuel, hf⟩ := h
  rcases open_slice hu hf with ⟨hcs, _⟩ | ⟨a, len, cap, m, n', D, Pl, hcs2, hb, hl, hm, hmm, hx, hi⟩
  · simp [Value.cells] at hcs
    obtain ⟨rfl, rfl, rfl⟩ := hcs
    exact ⟨[], ⟨Reads.none_, rfl, Nat.le_refl _, Nat.zero_le _, Nat.zero_le _⟩, fun z hz => by cases hz⟩
  · simp [Value.cells] at hcs2
    obtain ⟨rfl, rfl, rfl⟩ := hcs2
    have hlm : n ≤ m := by rw [hmm]; split <;> omega
    obtain ⟨l, hll, hp⟩ := list_of (P := fun i (q : α) => ok q ∧ ∀ j, j < s → W.cell? (a.add (i * s + j)) = (cells q)[j]?) n (fun i hin => by
      obtain ⟨cs', h1, h2⟩ := hi i (by omega)
      rw [hcs] at h1
      obtain ⟨q, hok, rfl⟩ := hop _ _ _ h2
      obtain ⟨_, _, hat⟩ := World.cells?_some h1
      exact ⟨q, hok, fun j hj => by rw [← add_of_add]; exact hat j hj⟩)
    refine ⟨l, ⟨⟨by rw [flat_len hlen, hll], fun hn => ?_⟩, hll, hl, hm, Nat.le_trans hl (by unfold maxLen at hm; exact hm)⟩, fun x hx => ?_⟩
    · have hn : 0 < n := hn
      have hz := (hp 0 l[0] (List.getElem?_eq_getElem (by omega))).2 0 h0
      rw [List.getElem?_eq_getElem (by rw [hlen]; exact h0)] at hz
      obtain ⟨b, o, sp⟩ := a
      have hsp : sp = none := by simpa [Addr.add] using World.cell?_spot hz
      subst hsp
      have hlt := World.block_lt_of_cell? W _ hz
      refine ⟨b, o, rfl, by simpa [Addr.add] using hlt, fun j u hu => ?_⟩
      have hj : j < l.length * s := by
        rcases Nat.lt_or_ge j (l.length * s) with e | e
        · exact e
        · rw [List.getElem?_eq_none (by rw [flat_len hlen]; exact e)] at hu; cases hu
      have hdm := Nat.div_add_mod j s
      have hmd := Nat.mod_lt j h0
      have hjd : j / s < l.length := by rw [Nat.div_lt_iff_lt_mul h0]; exact hj
      have hcell := (hp (j / s) l[j / s] (List.getElem?_eq_getElem hjd)).2 (j % s) hmd
      have hg := flat_at hlen l (j / s) hjd (j % s) hmd
      rw [Nat.mul_comm (j / s) s, hdm] at hg hcell
      rw [Addr.add_lit] at hcell
      rw [hcell, ← hg, hu]
    · obtain ⟨i, hil, rfl⟩ := List.mem_iff_getElem.1 hx
      exact (hp i _ (List.getElem?_eq_getElem hil)).1
theorem open_Int {n : Nat} {cs : List Value} {x : DataW H × List MemPlace} (h : DataW.trod enc Try.prog W base spare held n 3 cs = some x) : ∃ q : Int, I64ok q ∧ cs = intCells q := by
  obtain ⟨a, rfl, _, wa⟩ := DataW.trod_int Try.underlying3 h
  exact ⟨a, i64_of_wf wa, rfl⟩
theorem open_T3s {A : Option Addr} {n c : Nat} {d : DataW H} {p : List MemPlace} (h : DataW.Trod enc Try.prog W base spare held 22 (.slice A n c) d p) : ∃ xs, RA t3Cells 3 W W.heap.size A n c xs ∧ ∀ x ∈ xs, T3.ok x :=
  open_rows (cells := t3Cells) (s := 3) Try.underlying22 (by kernel_rfl) (fun _ => rfl) (by decide) (fun _ _ _ h => open_T3 h) h
theorem open_Ints {A : Option Addr} {n c : Nat} {d : DataW H} {p : List MemPlace} (h : DataW.Trod enc Try.prog W base spare held 28 (.slice A n c) d p) : ∃ xs, RA intCells 1 W W.heap.size A n c xs ∧ ∀ x ∈ xs, I64ok x :=
  open_rows (cells := intCells) (s := 1) Try.underlying28 (by kernel_rfl) (fun _ => rfl) (by decide) (fun _ _ _ h => open_Int h) h
end
end Go.Proofs.Ytgbfhkildbhhoaa
