/- Arguments, opened: slices of integers, slices of four integers. -/
import Derived.Test.YtpddnkefggaigaaU1
import Derived.Test.YtpddnkefggaigaaRows
import Derived.ProofKit
import Derived.OpenShut
import Derived.ChangeOld
import Derived.Below
import Derived.Deep.Slices
namespace Go.Proofs.Ytpddnkefggaigaa
open Go.ChangeShapes Go.WideShapes Go.ChangeAt Go.RowKit Go.Deep

theorem ownKn : ownKnob Try.prog.godebug = none := by kernel_rfl
theorem laidOut : laidOutB Try.prog = true := by kernel_rfl
theorem i64_of_wf {n : Int} (h : (Lit.int .i64 n).wf = true) : -9223372036854775808 ≤ n ∧ n ≤ 9223372036854775807 := by
  simpa [Lit.wf, IntKind.min, IntKind.max, IntKind.signed, IntKind.bits] using h
section
variable {H : Type} {enc : TypeId × Value → H} {W : World} {base : Nat} {spare : Nat → Bool} {held : Bool}
theorem open_RW {A : Option Addr} {n c : Nat} {d : DataW H} {p : List MemPlace} (h : DataW.Trod enc Try.prog W base spare held 22 (.slice A n c) d p) : ∃ zs, RW_ W W.heap.size ⟨A, n, c⟩ zs ∧ okI zs := by
  obtain ⟨fuel, hf⟩ := h
  rcases open_ints Try.underlying22 Try.underlying3 (by kernel_rfl) hf with ⟨hcs, _⟩ | ⟨x, l, c', zs, hcs, _, hl, hm, hz, _, hcell, hwz⟩
  · simp [Value.cells] at hcs
    obtain ⟨rfl, rfl, rfl⟩ := hcs
    exact ⟨[], ⟨Reads.none_, Nat.le_refl _, Nat.zero_le _⟩, fun z hz => by cases hz⟩
  · simp [Value.cells] at hcs
    obtain ⟨rfl, rfl, rfl⟩ := hcs
    have hle : n ≤ zs.length := by rw [hz]; split <;> omega
    refine ⟨zs.take n, ⟨⟨by simp; omega, fun hn => ?_⟩, hl, hm⟩, fun z hz => i64_of_wf (hwz z (List.mem_of_mem_take hz))⟩
    have hn : 0 < n := hn
    obtain ⟨b, o, sp⟩ := x
    have hc0 := hcell 0 (by omega)
    have hsp : sp = none := by simpa [Addr.add] using World.cell?_spot hc0
    subst hsp
    have hlt := World.block_lt_of_cell? W _ hc0
    refine ⟨b, o, rfl, by simpa [Addr.add] using hlt, fun j u hu => ?_⟩
    rw [List.getElem?_map, List.getElem?_take] at hu
    split at hu
    · rename_i hj
      have hjl : j < zs.length := by omega
      have hcj := hcell j hjl
      rw [Addr.add_lit] at hcj
      rw [hcj]
      rw [List.getElem?_eq_getElem hjl] at hu
      simp only [Option.map_some, Option.some.injEq] at hu
      rw [← hu, List.getD_eq_getElem?_getD, List.getElem?_eq_getElem hjl]
      rfl
    · simp at hu
theorem list_of {α : Type} {P : Nat → α → Prop} (n : Nat) (h : ∀ i, i < n → ∃ x, P i x) : ∃ l : List α, l.length = n ∧ ∀ i x, l[i]? = some x → P i x := by
  induction n with
  | zero => exact ⟨[], rfl, fun i x hx => by simp at hx⟩
  | succ n ih =>
    obtain ⟨l, hl, hp⟩ := ih fun i hi => h i (by omega)
    obtain ⟨x, hx⟩ := h n (by omega)
    refine ⟨l ++ [x], by simp [hl], fun i y hy => ?_⟩
    rw [List.getElem?_append] at hy
    split at hy
    · exact hp i y hy
    · rename_i hi
      have hi0 : i - l.length = 0 := by
        rcases Nat.eq_zero_or_pos (i - l.length) with e | e
        · exact e
        · rw [List.getElem?_eq_none (by simp; omega)] at hy; cases hy
      rw [hi0] at hy
      simp at hy
      subst hy
      have : i = n := by omega
      subst this
      exact hx
theorem open_quad {cs : List Value} {n : Nat} {x : DataW H × List MemPlace} (h : DataW.trod enc Try.prog W base spare held n 53 cs = some x) : ∃ q : Quad, q.ok ∧ cs = quadCells q := by
  obtain ⟨xs, m, _, _, hlen, hxl, hg⟩ := DataW.trod_array Try.underlying53 h
  have hc4 : Try.prog.cellsOf 53 = 4 := by kernel_rfl
  have hc1 : Try.prog.cellsOf 3 = 1 := by kernel_rfl
  rw [hc4] at hlen
  match cs, hlen with
  | [c0, c1, c2, c3], _ =>
    have g0 := hg 0 (by omega)
    have g1 := hg 1 (by omega)
    have g2 := hg 2 (by omega)
    have g3 := hg 3 (by omega)
    rw [hc1] at g0 g1 g2 g3
    match xs, hxl with
    | [y0, y1, y2, y3], _ =>
      simp at g0 g1 g2 g3
      obtain ⟨a0, e0, _, w0⟩ := DataW.trod_int Try.underlying3 g0
      obtain ⟨a1, e1, _, w1⟩ := DataW.trod_int Try.underlying3 g1
      obtain ⟨a2, e2, _, w2⟩ := DataW.trod_int Try.underlying3 g2
      obtain ⟨a3, e3, _, w3⟩ := DataW.trod_int Try.underlying3 g3
      simp at e0 e1 e2 e3
      subst e0 e1 e2 e3
      exact ⟨⟨a0, a1, a2, a3⟩, ⟨i64_of_wf w0, i64_of_wf w1, i64_of_wf w2, i64_of_wf w3⟩, rfl⟩
theorem open_quadV {v : Value} {d : DataW H} {p : List MemPlace} {r : Reach} {b0 : Nat} (hv : Value.okWide Try.prog W r b0 53 v) (h : DataW.Trod enc Try.prog W base spare held 53 v d p) : ∃ z : Quad, v = quadV z ∧ z.ok := by
  obtain ⟨fuel, hf⟩ := h
  obtain ⟨q, hok, hcs⟩ := open_quad hf
  refine ⟨q, ?_, hok⟩
  cases v <;> simp [Value.cells, quadCells] at hcs
  rename_i xs
  obtain ⟨xs⟩ := xs
  simp at hcs
  rw [hcs]
theorem open_RQ {A : Option Addr} {n c : Nat} {d : DataW H} {p : List MemPlace} (h : DataW.Trod enc Try.prog W base spare held 23 (.slice A n c) d p) : ∃ xs, RQ W W.heap.size ⟨A, n, c⟩ xs ∧ ∀ x ∈ xs, x.ok := by
  obtain ⟨fuel, hf⟩ := h
  have hc4 : Try.prog.cellsOf 53 = 4 := by kernel_rfl
  rcases open_slice Try.underlying23 hf with ⟨hcs, _⟩ | ⟨a, len, cap, m, n', D, Pl, hcs, hb, hl, hm, hmm, hx, hi⟩
  · simp [Value.cells] at hcs
    obtain ⟨rfl, rfl, rfl⟩ := hcs
    exact ⟨[], ⟨Reads.none_, Nat.le_refl _, Nat.zero_le _, Nat.zero_le _⟩, fun z hz => by cases hz⟩
  · simp [Value.cells] at hcs
    obtain ⟨rfl, rfl, rfl⟩ := hcs
    have hlm : n ≤ m := by rw [hmm]; split <;> omega
    obtain ⟨l, hll, hp⟩ := list_of (P := fun i (q : Quad) => q.ok ∧ ∀ j, j < 4 → W.cell? (a.add (i * 4 + j)) = (quadCells q)[j]?) n (fun i hin => by
      obtain ⟨cs', h1, h2⟩ := hi i (by omega)
      rw [hc4] at h1
      obtain ⟨q, hok, rfl⟩ := open_quad h2
      obtain ⟨_, _, hat⟩ := World.cells?_some h1
      exact ⟨q, hok, fun j hj => by rw [← add_of_add]; exact hat j hj⟩)
    refine ⟨l, ⟨⟨by rw [len_flatQ]; show l.length * 4 = n * 4; rw [hll], fun hn => ?_⟩, hl, hm, Nat.le_trans hl (by unfold maxLen at hm; exact hm)⟩, fun x hx => ?_⟩
    · have hn : 0 < n := hn
      have h0 := (hp 0 l[0] (List.getElem?_eq_getElem (by omega))).2 0 (by omega)
      obtain ⟨b, o, sp⟩ := a
      have hsp : sp = none := by simpa [Addr.add] using World.cell?_spot (h0.trans rfl)
      subst hsp
      have hlt := World.block_lt_of_cell? W _ (h0.trans rfl)
      refine ⟨b, o, rfl, by simpa [Addr.add] using hlt, fun j u hu => ?_⟩
      have hj : j < l.length * 4 := by
        rcases Nat.lt_or_ge j (l.length * 4) with e | e
        · exact e
        · rw [List.getElem?_eq_none (by rw [len_flatQ]; exact e)] at hu; cases hu
      have hdm := Nat.div_add_mod j 4
      have hjd : j / 4 < l.length := by omega
      have hcell := (hp (j / 4) l[j / 4] (List.getElem?_eq_getElem hjd)).2 (j % 4) (by omega)
      have hg := get_flatQ l (j / 4) hjd
      rw [show j / 4 * 4 + j % 4 = j by omega, Addr.add_lit] at hcell
      rw [hcell, ← hu]
      generalize hq : l[j / 4] = q at hg
      have h4 : j % 4 = 0 ∨ j % 4 = 1 ∨ j % 4 = 2 ∨ j % 4 = 3 := by omega
      rcases h4 with e | e | e | e
      · have := hg.1; rw [show j / 4 * 4 = j by omega] at this; rw [e, this]; rfl
      · have := hg.2.1; rw [show j / 4 * 4 + 1 = j by omega] at this; rw [e, this]; rfl
      · have := hg.2.2.1; rw [show j / 4 * 4 + 2 = j by omega] at this; rw [e, this]; rfl
      · have := hg.2.2.2; rw [show j / 4 * 4 + 3 = j by omega] at this; rw [e, this]; rfl
    · obtain ⟨i, hil, rfl⟩ := List.mem_iff_getElem.1 hx
      exact (hp i _ (List.getElem?_eq_getElem hil)).1
end

end Go.Proofs.Ytpddnkefggaigaa
