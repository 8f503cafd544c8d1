/- Arguments, opened (printed by contact_said.py). -/
import Derived.Test.YtlmpmhfbjblhnaaC8
import Derived.Test.YtlmpmhfbjblhnaaRows
import Derived.ProofKit
import Derived.OpenShut
import Derived.ChangeOld
import Derived.Below
import Derived.Deep.Slices
namespace Go.Proofs.Ytlmpmhfbjblhnaa
open Go.ChangeShapes Go.WideShapes Go.ChangeAt Go.RowKit Go.Deep

theorem ownKn : ownKnob Try.prog.godebug = none := by kernel_rfl
theorem laidOut : laidOutB Try.prog = true := by kernel_rfl
theorem i64_of_wf {n : Int} (h : (Lit.int .i64 n).wf = true) : I64ok n := by
  simpa [I64ok, Lit.wf, IntKind.min, IntKind.max, IntKind.signed, IntKind.bits] using h
section
variable {H : Type} {enc : TypeId × Value → H} {W : World} {base : Nat} {spare : Nat → Bool} {held : Bool}
set_option maxRecDepth 100000 in
theorem open_A4 {cs : List Value} {n : Nat} {x : DataW H × List MemPlace} (h : DataW.trod enc Try.prog W base spare held n 66 cs = some x) : ∃ q : A4, q.ok ∧ cs = a4Cells q := by
  obtain ⟨xs, m, _, _, hlen, hxl, hg⟩ := DataW.trod_array Try.underlying66 h
  have hc4 : Try.prog.cellsOf 66 = 4 := by kernel_rfl
  have hc1 : Try.prog.cellsOf 3 = 1 := by kernel_rfl
  rw [hc4] at hlen
  match cs, hlen with
  | [c0, c1, c2, c3], _ =>
    have g0 := hg 0 (by omega)
    have g1 := hg 1 (by omega)
    have g2 := hg 2 (by omega)
    have g3 := hg 3 (by omega)
    rw [hc1] at g0 g1 g2 g3
    match xs, hxl with
    | [y0, y1, y2, y3], _ =>
      simp at g0 g1 g2 g3
      obtain ⟨a0, e0, _, w0⟩ := DataW.trod_int Try.underlying3 g0
      obtain ⟨a1, e1, _, w1⟩ := DataW.trod_int Try.underlying3 g1
      obtain ⟨a2, e2, _, w2⟩ := DataW.trod_int Try.underlying3 g2
      obtain ⟨a3, e3, _, w3⟩ := DataW.trod_int Try.underlying3 g3
      simp at e0 e1 e2 e3
      subst e0 e1 e2 e3
      exact ⟨⟨a0, a1, a2, a3⟩, ⟨i64_of_wf w0, i64_of_wf w1, i64_of_wf w2, i64_of_wf w3⟩, rfl⟩
set_option maxRecDepth 100000 in
theorem open_A4V {v : Value} {d : DataW H} {p : List MemPlace} {r : Reach} {b0 : Nat} (_hv : Value.okWide Try.prog W r b0 66 v) (h : DataW.Trod enc Try.prog W base spare held 66 v d p) : ∃ z : A4, v = .agg (a4Cells z).toArray ∧ z.ok := by
  obtain ⟨fuel, hf⟩ := h
  obtain ⟨q, hok, hcs⟩ := open_A4 hf
  refine ⟨q, ?_, hok⟩
  cases v <;> simp [Value.cells, a4Cells] at hcs
  rename_i xs
  obtain ⟨xs⟩ := xs
  simp at hcs
  rw [hcs]
  rfl
set_option maxRecDepth 100000 in
theorem open_A7 {cs : List Value} {n : Nat} {x : DataW H × List MemPlace} (h : DataW.trod enc Try.prog W base spare held n 65 cs = some x) : ∃ q : A7, q.ok ∧ cs = a7Cells q := by
  obtain ⟨xs, m, _, _, hlen, hxl, hg⟩ := DataW.trod_array Try.underlying65 h
  have hc4 : Try.prog.cellsOf 65 = 7 := by kernel_rfl
  have hc1 : Try.prog.cellsOf 3 = 1 := by kernel_rfl
  rw [hc4] at hlen
  match cs, hlen with
  | [c0, c1, c2, c3, c4, c5, c6], _ =>
    have g0 := hg 0 (by omega)
    have g1 := hg 1 (by omega)
    have g2 := hg 2 (by omega)
    have g3 := hg 3 (by omega)
    have g4 := hg 4 (by omega)
    have g5 := hg 5 (by omega)
    have g6 := hg 6 (by omega)
    rw [hc1] at g0 g1 g2 g3 g4 g5 g6
    match xs, hxl with
    | [y0, y1, y2, y3, y4, y5, y6], _ =>
      simp at g0 g1 g2 g3 g4 g5 g6
      obtain ⟨a0, e0, _, w0⟩ := DataW.trod_int Try.underlying3 g0
      obtain ⟨a1, e1, _, w1⟩ := DataW.trod_int Try.underlying3 g1
      obtain ⟨a2, e2, _, w2⟩ := DataW.trod_int Try.underlying3 g2
      obtain ⟨a3, e3, _, w3⟩ := DataW.trod_int Try.underlying3 g3
      obtain ⟨a4, e4, _, w4⟩ := DataW.trod_int Try.underlying3 g4
      obtain ⟨a5, e5, _, w5⟩ := DataW.trod_int Try.underlying3 g5
      obtain ⟨a6, e6, _, w6⟩ := DataW.trod_int Try.underlying3 g6
      simp at e0 e1 e2 e3 e4 e5 e6
      subst e0 e1 e2 e3 e4 e5 e6
      exact ⟨⟨a0, a1, a2, a3, a4, a5, a6⟩, ⟨i64_of_wf w0, i64_of_wf w1, i64_of_wf w2, i64_of_wf w3, i64_of_wf w4, i64_of_wf w5, i64_of_wf w6⟩, rfl⟩
set_option maxRecDepth 100000 in
theorem open_A7V {v : Value} {d : DataW H} {p : List MemPlace} {r : Reach} {b0 : Nat} (_hv : Value.okWide Try.prog W r b0 65 v) (h : DataW.Trod enc Try.prog W base spare held 65 v d p) : ∃ z : A7, v = .agg (a7Cells z).toArray ∧ z.ok := by
  obtain ⟨fuel, hf⟩ := h
  obtain ⟨q, hok, hcs⟩ := open_A7 hf
  refine ⟨q, ?_, hok⟩
  cases v <;> simp [Value.cells, a7Cells] at hcs
  rename_i xs
  obtain ⟨xs⟩ := xs
  simp at hcs
  rw [hcs]
  rfl
end
end Go.Proofs.Ytlmpmhfbjblhnaa
