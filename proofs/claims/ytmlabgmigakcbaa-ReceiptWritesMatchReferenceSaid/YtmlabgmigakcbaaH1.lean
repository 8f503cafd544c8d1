/- Arguments, opened (printed by receipt_said.py). -/
import Derived.Test.YtmlabgmigakcbaaU7
import Derived.Test.YtmlabgmigakcbaaRows
import Derived.ProofKit
import Derived.OpenShut
import Derived.ChangeOld
import Derived.Below
import Derived.Deep.Slices
namespace Go.Proofs.Ytmlabgmigakcbaa
open Go.ChangeShapes Go.WideShapes Go.ChangeAt Go.RowKit Go.Deep

theorem ownKn : ownKnob Try.prog.godebug = none := by kernel_rfl
theorem laidOut : laidOutB Try.prog = true := by kernel_rfl
theorem i64_of_wf {n : Int} (h : (Lit.int .i64 n).wf = true) : I64ok n := by
  simpa [I64ok, Lit.wf, IntKind.min, IntKind.max, IntKind.signed, IntKind.bits] using h
section
variable {H : Type} {enc : TypeId × Value → H} {W : World} {base : Nat} {spare : Nat → Bool} {held : Bool}
set_option maxRecDepth 100000 in
theorem open_Tri {cs : List Value} {n : Nat} {x : DataW H × List MemPlace} (h : DataW.trod enc Try.prog W base spare held n 24 cs = some x) : ∃ q : Tri, q.ok ∧ cs = triCells q := by
  obtain ⟨xs, m, _, _, hlen, hxl, hg⟩ := DataW.trod_array Try.underlying24 h
  have hc4 : Try.prog.cellsOf 24 = 3 := by kernel_rfl
  have hc1 : Try.prog.cellsOf 3 = 1 := by kernel_rfl
  rw [hc4] at hlen
  match cs, hlen with
  | [c0, c1, c2], _ =>
    have g0 := hg 0 (by omega)
    have g1 := hg 1 (by omega)
    have g2 := hg 2 (by omega)
    rw [hc1] at g0 g1 g2
    match xs, hxl with
    | [y0, y1, y2], _ =>
      simp at g0 g1 g2
      obtain ⟨a0, e0, _, w0⟩ := DataW.trod_int Try.underlying3 g0
      obtain ⟨a1, e1, _, w1⟩ := DataW.trod_int Try.underlying3 g1
      obtain ⟨a2, e2, _, w2⟩ := DataW.trod_int Try.underlying3 g2
      simp at e0 e1 e2
      subst e0 e1 e2
      exact ⟨⟨a0, a1, a2⟩, ⟨i64_of_wf w0, i64_of_wf w1, i64_of_wf w2⟩, rfl⟩
theorem list_of {α : Type} {P : Nat → α → Prop} (n : Nat) (h : ∀ i, i < n → ∃ x, P i x) : ∃ l : List α, l.length = n ∧ ∀ i x, l[i]? = some x → P i x := by
  induction n with
  | zero => exact ⟨[], rfl, fun i x hx => by simp at hx⟩
  | succ n ih =>
    obtain ⟨l, hl, hp⟩ := ih fun i hi => h i (by omega)
    obtain ⟨x, hx⟩ := h n (by omega)
    refine ⟨l ++ [x], by simp [hl], fun i y hy => ?_⟩
    rw [List.getElem?_append] at hy
    split at hy
    · exact hp i y hy
    · rename_i hi
      have hi0 : i - l.length = 0 := by
        rcases Nat.eq_zero_or_pos (i - l.length) with e | e
        · exact e
        · rw [List.getElem?_eq_none (by simp; omega)] at hy; cases hy
      rw [hi0] at hy
      simp at hy
      subst hy
      have : i = n := by omega
      subst this
      exact hx
theorem open_rows {α : Type} {cells : α → List Value} {s : Nat} {t te : TypeId} {ok : α → Prop} (hu : Try.prog.underlying t = some (.slice te)) (hcs : Try.prog.cellsOf te = s) (hlen : ∀ q, (cells q).length = s) (h0 : 0 < s)
    (hop : ∀ (m : Nat) (cs : List Value) (x : DataW H × List MemPlace), DataW.trod enc Try.prog W base spare held m te cs = some x → ∃ q, ok q ∧ cs = cells q)
    {fuel : Nat} {v : Value} {z : DataW H × List MemPlace} (hf : DataW.trod enc Try.prog W base spare held fuel t [v] = some z) : ∃ A n c, v = .slice A n c ∧ ∃ xs, RA cells s W W.heap.size A n c xs ∧ (A = none → c = 0) ∧ ∀ x ∈ xs, ok x := by
  rcases open_slice hu hf with ⟨hcs, _⟩ | ⟨a, len, cap, m, n', D, Pl, hcs2, hb, hl, hm, hmm, hx, hi⟩
  · obtain rfl : v = .slice none 0 0 := by simpa using hcs
    exact ⟨none, 0, 0, rfl, [], ⟨Reads.none_, rfl, Nat.le_refl _, Nat.zero_le _, Nat.zero_le _⟩, fun _ => rfl, fun z hz => by cases hz⟩
  · obtain rfl : v = .slice (some a) len cap := by simpa using hcs2
    have hlm : len ≤ m := by rw [hmm]; split <;> omega
    obtain ⟨l, hll, hp⟩ := list_of (P := fun i (q : α) => ok q ∧ ∀ j, j < s → W.cell? (a.add (i * s + j)) = (cells q)[j]?) len (fun i hin => by
      obtain ⟨cs', h1, h2⟩ := hi i (by omega)
      rw [hcs] at h1
      obtain ⟨q, hok, rfl⟩ := hop _ _ _ h2
      obtain ⟨_, _, hat⟩ := World.cells?_some h1
      exact ⟨q, hok, fun j hj => by rw [← add_of_add]; exact hat j hj⟩)
    refine ⟨some a, len, cap, rfl, l, ⟨⟨by rw [flat_len hlen, hll], fun hn => ?_⟩, hll, hl, hm, Nat.le_trans hl (by unfold maxLen at hm; exact hm)⟩, fun e => (by cases e), fun x hx => ?_⟩
    · have hn : 0 < len := hn
      have hz := (hp 0 l[0] (List.getElem?_eq_getElem (by omega))).2 0 h0
      rw [List.getElem?_eq_getElem (by rw [hlen]; exact h0)] at hz
      obtain ⟨b, o, sp⟩ := a
      have hsp : sp = none := by simpa [Addr.add] using World.cell?_spot hz
      subst hsp
      have hlt := World.block_lt_of_cell? W _ hz
      refine ⟨b, o, rfl, by simpa [Addr.add] using hlt, fun j u hu => ?_⟩
      have hj : j < l.length * s := by
        rcases Nat.lt_or_ge j (l.length * s) with e | e
        · exact e
        · rw [List.getElem?_eq_none (by rw [flat_len hlen]; exact e)] at hu; cases hu
      have hdm := Nat.div_add_mod j s
      have hmd := Nat.mod_lt j h0
      have hjd : j / s < l.length := by rw [Nat.div_lt_iff_lt_mul h0]; exact hj
      have hcell := (hp (j / s) l[j / s] (List.getElem?_eq_getElem hjd)).2 (j % s) hmd
      have hg := flat_at hlen l (j / s) hjd (j % s) hmd
      rw [Nat.mul_comm (j / s) s, hdm] at hg hcell
      rw [Addr.add_lit] at hcell
      rw [hcell, ← hg, hu]
    · obtain ⟨i, hil, rfl⟩ := List.mem_iff_getElem.1 hx
      exact (hp i _ (List.getElem?_eq_getElem hil)).1
theorem open_Int {n : Nat} {cs : List Value} {x : DataW H × List MemPlace} (h : DataW.trod enc Try.prog W base spare held n 3 cs = some x) : ∃ q : Int, I64ok q ∧ cs = intCells q := by
  obtain ⟨a, rfl, _, wa⟩ := DataW.trod_int Try.underlying3 h
  exact ⟨a, i64_of_wf wa, rfl⟩
theorem one_cell {cs : List Value} (h : cs.length = 1) : ∃ v, cs = [v] := by
  match cs, h with
  | [v], _ => exact ⟨v, rfl⟩
set_option maxRecDepth 100000 in
theorem open_Nte {n : Nat} {cs : List Value} {x : DataW H × List MemPlace} (h : DataW.trod enc Try.prog W base spare held n 89 cs = some x) : ∃ q : Nte, (I64ok q.im ∧ I64ok q.slot) ∧ cs = nteCells q := by
  obtain ⟨xs, m, _, _, hlen, hxl, hg⟩ := DataW.trod_struct Try.underlying89 h
  have hc3 : Try.prog.cellsOf 89 = 3 := by kernel_rfl
  have hc1 : Try.prog.cellsOf 3 = 1 := by kernel_rfl
  have hcb : Try.prog.cellsOf 4 = 1 := by kernel_rfl
  rw [hc3] at hlen
  match cs, hlen with
  | [c0, c1, c2], _ =>
    have g0 : DataW.trod enc Try.prog W base spare held m 3 (([c0, c1, c2].drop 0).take (Try.prog.cellsOf 3)) = xs[0]? := hg 0 _ rfl
    have g1 : DataW.trod enc Try.prog W base spare held m 3 (([c0, c1, c2].drop 1).take (Try.prog.cellsOf 3)) = xs[1]? := hg 1 _ rfl
    have g2 : DataW.trod enc Try.prog W base spare held m 4 (([c0, c1, c2].drop 2).take (Try.prog.cellsOf 4)) = xs[2]? := hg 2 _ rfl
    rw [hc1] at g0 g1
    rw [hcb] at g2
    match xs, hxl with
    | [y0, y1, y2], _ =>
      simp at g0 g1 g2
      obtain ⟨a0, e0, _, w0⟩ := DataW.trod_int Try.underlying3 g0
      obtain ⟨a1, e1, _, w1⟩ := DataW.trod_int Try.underlying3 g1
      obtain ⟨a2, e2, _⟩ := DataW.trod_bool Try.underlying4 g2
      simp at e0 e1 e2
      subst e0 e1 e2
      exact ⟨⟨a0, a1, a2⟩, ⟨i64_of_wf w0, i64_of_wf w1⟩, rfl⟩
def RwOK (W : World) (q : Rw) : Prop := RA intCells 1 W W.heap.size q.a q.n q.c q.l ∧ (∀ x ∈ q.l, I64ok x) ∧ (q.a = none → q.c = 0)
theorem open_Rw {n : Nat} {cs : List Value} {x : DataW H × List MemPlace} (h : DataW.trod enc Try.prog W base spare held n 25 cs = some x) : ∃ q : Rw, RwOK W q ∧ cs = rwCells q := by
  have hl : cs.length = 1 := by
    rcases open_slice Try.underlying25 h with ⟨hcs, _⟩ | ⟨a, len, cap, m, n', D, Pl, hcs2, _⟩
    · rw [hcs]; rfl
    · rw [hcs2]; rfl
  obtain ⟨v, rfl⟩ := one_cell hl
  obtain ⟨A, k, c, rfl, xs, h1, h2, h3⟩ := open_rows (cells := intCells) (s := 1) Try.underlying25 (by kernel_rfl) (fun _ => rfl) (by decide) (fun _ _ _ h => open_Int h) h
  exact ⟨⟨A, k, c, xs⟩, ⟨h1, h3, h2⟩, rfl⟩
set_option maxRecDepth 100000 in
theorem open_Case {v : Value} {d : DataW H} {p : List MemPlace} {r : Reach} {b0 : Nat} (hv : Value.okWide Try.prog W r b0 27 v) (h : DataW.Trod enc Try.prog W base spare held 27 v d p) : ∃ c : Cas, v = casV c ∧ CasR W W.heap.size c := by
  obtain ⟨cs, rfl, hsz⟩ := okWide_struct Try.underlying27 hv
  obtain ⟨fuel, hf⟩ := h
  obtain ⟨xs, m, _, _, hlen, hxl, hg⟩ := DataW.trod_struct Try.underlying27 hf
  obtain ⟨cs⟩ := cs
  simp only [Value.cells] at hlen hg
  have hc7 : Try.prog.cellsOf 27 = 7 := by kernel_rfl
  have hcp : Try.prog.cellsOf 22 = 1 := by kernel_rfl
  have hco : Try.prog.cellsOf 23 = 1 := by kernel_rfl
  have hcs : Try.prog.cellsOf 24 = 3 := by kernel_rfl
  have hci : Try.prog.cellsOf 3 = 1 := by kernel_rfl
  have hcw : Try.prog.cellsOf 25 = 1 := by kernel_rfl
  rw [hc7] at hlen
  match cs, hlen with
  | [c0, c1, c2, c3, c4, c5, c6], _ =>
    have g0 : DataW.trod enc Try.prog W base spare held m 22 (([c0, c1, c2, c3, c4, c5, c6].drop 0).take (Try.prog.cellsOf 22)) = xs[0]? := hg 0 _ rfl
    have g1 : DataW.trod enc Try.prog W base spare held m 23 (([c0, c1, c2, c3, c4, c5, c6].drop 1).take (Try.prog.cellsOf 23)) = xs[1]? := hg 1 _ rfl
    have g2 : DataW.trod enc Try.prog W base spare held m 24 (([c0, c1, c2, c3, c4, c5, c6].drop 2).take (Try.prog.cellsOf 24)) = xs[2]? := hg 2 _ rfl
    have g3 : DataW.trod enc Try.prog W base spare held m 3 (([c0, c1, c2, c3, c4, c5, c6].drop 5).take (Try.prog.cellsOf 3)) = xs[3]? := hg 3 _ rfl
    have g4 : DataW.trod enc Try.prog W base spare held m 25 (([c0, c1, c2, c3, c4, c5, c6].drop 6).take (Try.prog.cellsOf 25)) = xs[4]? := hg 4 _ rfl
    rw [hcp] at g0
    rw [hco] at g1
    rw [hcs] at g2
    rw [hci] at g3
    rw [hcw] at g4
    match xs, hxl with
    | [y0, y1, y2, y3, y4], _ =>
      simp at g0 g1 g2 g3 g4
      obtain ⟨pa, pn, pc, rfl, ps, hp1, _, hp3⟩ := open_rows (cells := triCells) (s := 3) Try.underlying22 (by kernel_rfl) (fun _ => rfl) (by decide) (fun _ _ _ h => open_Tri h) g0
      obtain ⟨oa, on, oc, rfl, os, ho1, _, ho3⟩ := open_rows (cells := rwCells) (s := 1) Try.underlying23 (by kernel_rfl) (fun _ => rfl) (by decide) (fun _ _ _ h => open_Rw h) g1
      obtain ⟨sk, hs1, hs2⟩ := open_Tri g2
      obtain ⟨lo, hl1, hl2⟩ := open_Int g3
      obtain ⟨wa, wn, wc, rfl, wr, hw1, _, hw3⟩ := open_rows (cells := intCells) (s := 1) Try.underlying25 (by kernel_rfl) (fun _ => rfl) (by decide) (fun _ _ _ h => open_Int h) g4
      simp only [triCells, List.cons.injEq, and_true] at hs2
      obtain ⟨rfl, rfl, rfl⟩ := hs2
      obtain rfl : c5 = .int .i64 lo := by simpa [intCells] using hl2
      exact ⟨⟨ps, os, sk, lo, wr, pa, pn, pc, oa, on, oc, wa, wn, wc⟩, rfl, ⟨hp1, hp3, ⟨ho1, ho3⟩, hs1, hl1, hw1⟩⟩
theorem open_Ntes {A : Option Addr} {n c : Nat} {d : DataW H} {p : List MemPlace} (h : DataW.Trod enc Try.prog W base spare held 34 (.slice A n c) d p) : ∃ xs, RA nteCells 3 W W.heap.size A n c xs ∧ (A = none → c = 0) ∧ ∀ x ∈ xs, I64ok x.im ∧ I64ok x.slot := by
  obtain ⟨fuel, hf⟩ := h
  obtain ⟨A', n', c', e, xs, h1, h2, h3⟩ := open_rows (cells := nteCells) (s := 3) Try.underlying34 (by kernel_rfl) (fun _ => rfl) (by decide) (fun _ _ _ h => open_Nte h) hf
  injection e with e1 e2 e3
  subst e1 e2 e3
  exact ⟨xs, h1, h2, h3⟩
theorem open_Ints {A : Option Addr} {n c : Nat} {d : DataW H} {p : List MemPlace} (h : DataW.Trod enc Try.prog W base spare held 25 (.slice A n c) d p) : ∃ xs, RA intCells 1 W W.heap.size A n c xs ∧ (A = none → c = 0) ∧ ∀ x ∈ xs, I64ok x := by
  obtain ⟨fuel, hf⟩ := h
  obtain ⟨A', n', c', e, xs, h1, h2, h3⟩ := open_rows (cells := intCells) (s := 1) Try.underlying25 (by kernel_rfl) (fun _ => rfl) (by decide) (fun _ _ _ h => open_Int h) hf
  injection e with e1 e2 e3
  subst e1 e2 e3
  exact ⟨xs, h1, h2, h3⟩
end
end Go.Proofs.Ytmlabgmigakcbaa
