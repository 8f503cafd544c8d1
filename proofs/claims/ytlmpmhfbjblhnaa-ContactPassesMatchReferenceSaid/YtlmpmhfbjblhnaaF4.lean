/- The law ContactPassesMatchReference of the contact layer: for every input the call returns true and each argument reads afterwards as it read before: Passes agrees with the reference implementation. No condition. -/
import Derived.Test.YtlmpmhfbjblhnaaC8
import Derived.Test.YtlmpmhfbjblhnaaRows
import Derived.ProofKit
import Derived.OpenShut
import Derived.ChangeOld
import Derived.Below
import Derived.Deep.Slices
import Derived.Test.YtlmpmhfbjblhnaaC9
import Derived.Test.YtlmpmhfbjblhnaaE12
namespace Go.Proofs.Ytlmpmhfbjblhnaa
open Go.ChangeShapes Go.WideShapes Go.ChangeAt Go.RowKit Go.Deep

theorem ownKn : ownKnob Try.prog.godebug = none := by kernel_rfl
theorem laidOut : laidOutB Try.prog = true := by kernel_rfl
theorem i64_of_wf {n : Int} (h : (Lit.int .i64 n).wf = true) : I64ok n := by
  simpa [I64ok, Lit.wf, IntKind.min, IntKind.max, IntKind.signed, IntKind.bits] using h
section
variable {H : Type} {enc : TypeId × Value → H} {W : World} {base : Nat} {spare : Nat → Bool} {held : Bool}
set_option maxRecDepth 100000 in
theorem open_A4 {cs : List Value} {n : Nat} {x : DataW H × List MemPlace} (h : DataW.trod enc Try.prog W base spare held n 66 cs = some x) : ∃ q : A4, q.ok ∧ cs = a4Cells q := by
  obtain ⟨xs, m, _, _, hlen, hxl, hg⟩ := DataW.trod_array Try.underlying66 h
  have hc4 : Try.prog.cellsOf 66 = 4 := by kernel_rfl
  have hc1 : Try.prog.cellsOf 3 = 1 := by kernel_rfl
  rw [hc4] at hlen
  match cs, hlen with
  | [c0, c1, c2, c3], _ =>
    have g0 := hg 0 (by omega)
    have g1 := hg 1 (by omega)
    have g2 := hg 2 (by omega)
    have g3 := hg 3 (by omega)
    rw [hc1] at g0 g1 g2 g3
    match xs, hxl with
    | [y0, y1, y2, y3], _ =>
      simp at g0 g1 g2 g3
      obtain ⟨a0, e0, _, w0⟩ := DataW.trod_int Try.underlying3 g0
      obtain ⟨a1, e1, _, w1⟩ := DataW.trod_int Try.underlying3 g1
      obtain ⟨a2, e2, _, w2⟩ := DataW.trod_int Try.underlying3 g2
      obtain ⟨a3, e3, _, w3⟩ := DataW.trod_int Try.underlying3 g3
      simp at e0 e1 e2 e3
      subst e0 e1 e2 e3
      exact ⟨⟨a0, a1, a2, a3⟩, ⟨i64_of_wf w0, i64_of_wf w1, i64_of_wf w2, i64_of_wf w3⟩, rfl⟩
set_option maxRecDepth 100000 in
theorem open_A7 {cs : List Value} {n : Nat} {x : DataW H × List MemPlace} (h : DataW.trod enc Try.prog W base spare held n 65 cs = some x) : ∃ q : A7, q.ok ∧ cs = a7Cells q := by
  obtain ⟨xs, m, _, _, hlen, hxl, hg⟩ := DataW.trod_array Try.underlying65 h
  have hc4 : Try.prog.cellsOf 65 = 7 := by kernel_rfl
  have hc1 : Try.prog.cellsOf 3 = 1 := by kernel_rfl
  rw [hc4] at hlen
  match cs, hlen with
  | [c0, c1, c2, c3, c4, c5, c6], _ =>
    have g0 := hg 0 (by omega)
    have g1 := hg 1 (by omega)
    have g2 := hg 2 (by omega)
    have g3 := hg 3 (by omega)
    have g4 := hg 4 (by omega)
    have g5 := hg 5 (by omega)
    have g6 := hg 6 (by omega)
    rw [hc1] at g0 g1 g2 g3 g4 g5 g6
    match xs, hxl with
    | [y0, y1, y2, y3, y4, y5, y6], _ =>
      simp at g0 g1 g2 g3 g4 g5 g6
      obtain ⟨a0, e0, _, w0⟩ := DataW.trod_int Try.underlying3 g0
      obtain ⟨a1, e1, _, w1⟩ := DataW.trod_int Try.underlying3 g1
      obtain ⟨a2, e2, _, w2⟩ := DataW.trod_int Try.underlying3 g2
      obtain ⟨a3, e3, _, w3⟩ := DataW.trod_int Try.underlying3 g3
      obtain ⟨a4, e4, _, w4⟩ := DataW.trod_int Try.underlying3 g4
      obtain ⟨a5, e5, _, w5⟩ := DataW.trod_int Try.underlying3 g5
      obtain ⟨a6, e6, _, w6⟩ := DataW.trod_int Try.underlying3 g6
      simp at e0 e1 e2 e3 e4 e5 e6
      subst e0 e1 e2 e3 e4 e5 e6
      exact ⟨⟨a0, a1, a2, a3, a4, a5, a6⟩, ⟨i64_of_wf w0, i64_of_wf w1, i64_of_wf w2, i64_of_wf w3, i64_of_wf w4, i64_of_wf w5, i64_of_wf w6⟩, rfl⟩
end
end Go.Proofs.Ytlmpmhfbjblhnaa
namespace Go.Proofs.Ytlmpmhfbjblhnaa
open Go.ChangeShapes Go.WideShapes Go.ChangeAt Go.RowKit Go.Deep

section
variable {H : Type} {enc : TypeId × Value → H} {W : World} {base : Nat} {spare : Nat → Bool} {held : Bool}
/-- What is read of this type are integers, cell by cell. -/
def AllInt (enc : TypeId × Value → H) (W : World) (base : Nat) (spare : Nat → Bool) (held : Bool) (t : TypeId) : Prop := ∀ (n : Nat) (cs : List Value) (x : DataW H × List MemPlace), DataW.trod enc Try.prog W base spare held n t cs = some x →
  cs.length = Try.prog.cellsOf t ∧ ∀ (j : Nat) (v : Value), cs[j]? = some v → ∃ a : Int, v = .int .i64 a ∧ I64ok a
theorem allInt_int : AllInt enc W base spare held 3 := by
  intro n cs x h
  obtain ⟨a, rfl, _, wa⟩ := DataW.trod_int Try.underlying3 h
  refine ⟨by kernel_rfl, fun j v hv => ?_⟩
  match j, hv with
  | 0, hv => exact ⟨a, by simpa using hv.symm, i64_of_wf wa⟩
  | j + 1, hv => simp at hv
theorem allInt_struct {t : TypeId} {fs : Array Field} (hs : Try.prog.underlying t = some (.struct fs)) (hf : ∀ (j : Nat) (f : Field), fs[j]? = some f → AllInt enc W base spare held f.type)
    (hc : ((List.range (Try.prog.cellsOf t)).all fun i => fs.toList.any fun f => decide (f.offset ≤ i) && decide (i < f.offset + Try.prog.cellsOf f.type)) = true) : AllInt enc W base spare held t := by
  intro n cs x h
  obtain ⟨xs, m, _, _, hlen, hxl, hg⟩ := DataW.trod_struct hs h
  refine ⟨hlen, fun j v hv => ?_⟩
  have hj : j < cs.length := by
    rcases Nat.lt_or_ge j cs.length with e | e
    · exact e
    · rw [List.getElem?_eq_none e] at hv; cases hv
  rw [List.all_eq_true] at hc
  have h1 := hc j (by rw [List.mem_range, ← hlen]; exact hj)
  rw [List.any_eq_true] at h1
  obtain ⟨f, hfm, h2⟩ := h1
  rw [Bool.and_eq_true, decide_eq_true_eq, decide_eq_true_eq] at h2
  obtain ⟨k, hk, rfl⟩ := List.mem_iff_getElem.1 hfm
  have hk2 : fs[k]? = some fs.toList[k] := by rw [← Array.getElem?_toList, List.getElem?_eq_getElem hk]
  have h3 := hg k _ hk2
  have hkx : k < xs.length := by rw [hxl]; simpa using hk
  rw [List.getElem?_eq_getElem hkx] at h3
  refine (hf k _ hk2 _ _ _ h3).2 (j - fs.toList[k].offset) v ?_
  rw [List.getElem?_take, if_pos (by omega), List.getElem?_drop, show fs.toList[k].offset + (j - fs.toList[k].offset) = j by omega]
  exact hv
theorem AllInt.ints {t : TypeId} (h : AllInt enc W base spare held t) {n : Nat} {cs : List Value} {x : DataW H × List MemPlace} (hx : DataW.trod enc Try.prog W base spare held n t cs = some x) : ∃ zs : List Int, zs.length = Try.prog.cellsOf t ∧ cs = zs.map (Value.int .i64) ∧ ∀ z ∈ zs, I64ok z := by
  obtain ⟨hl, hg⟩ := h n cs x hx
  rw [← hl]
  clear hl hx
  induction cs with
  | nil => exact ⟨[], rfl, rfl, by simp⟩
  | cons c r ih =>
    obtain ⟨zs, h1, h2, h3⟩ := ih (fun j v hv => hg (j + 1) v (by simpa using hv))
    obtain ⟨a, h4, h5⟩ := hg 0 c rfl
    exact ⟨a :: zs, by simp [h1], by simp [h2, h4], by intro z hz; rcases List.mem_cons.1 hz with rfl | hz; exact h5; exact h3 z hz⟩
theorem two_types {fs : Array Field} {P : TypeId → Prop} {t1 t2 : TypeId} (h : (fs.toList.all fun f => f.type == t1 || f.type == t2) = true) (h1 : P t1) (h2 : P t2) (j : Nat) (f : Field) (hj : fs[j]? = some f) : P f.type := by
  rw [List.all_eq_true] at h
  have hm : f ∈ fs.toList := by rw [← Array.getElem?_toList] at hj; exact List.mem_of_getElem? hj
  have := h f hm
  rw [Bool.or_eq_true, beq_iff_eq, beq_iff_eq] at this
  rcases this with e | e
  · rw [e]; exact h1
  · rw [e]; exact h2
theorem list_of {α : Type} {P : Nat → α → Prop} (n : Nat) (h : ∀ i, i < n → ∃ x, P i x) : ∃ l : List α, l.length = n ∧ ∀ i x, l[i]? = some x → P i x := by
  induction n with
  | zero => exact ⟨[], rfl, fun i x hx => by simp at hx⟩
  | succ n ih =>
    obtain ⟨l, hl, hp⟩ := ih fun i hi => h i (by omega)
    obtain ⟨x, hx⟩ := h n (by omega)
    refine ⟨l ++ [x], by simp [hl], fun i y hy => ?_⟩
    rw [List.getElem?_append] at hy
    split at hy
    · exact hp i y hy
    · rename_i hi
      have hi0 : i - l.length = 0 := by
        rcases Nat.eq_zero_or_pos (i - l.length) with e | e
        · exact e
        · rw [List.getElem?_eq_none (by simp; omega)] at hy; cases hy
      rw [hi0] at hy
      simp at hy
      subst hy
      have : i = n := by omega
      subst this
      exact hx
theorem open_rows {α : Type} {cells : α → List Value} {s : Nat} {t te : TypeId} {ok : α → Prop} (hu : Try.prog.underlying t = some (.slice te)) (hcs : Try.prog.cellsOf te = s) (hlen : ∀ q, (cells q).length = s) (h0 : 0 < s)
    (hop : ∀ (m : Nat) (cs : List Value) (x : DataW H × List MemPlace), DataW.trod enc Try.prog W base spare held m te cs = some x → ∃ q, ok q ∧ cs = cells q)
    {A : Option Addr} {n c : Nat} {d : DataW H} {p : List MemPlace} (h : DataW.Trod enc Try.prog W base spare held t (.slice A n c) d p) : ∃ xs, RA cells s W W.heap.size A n c xs ∧ ∀ x ∈ xs, ok x := by
  obtain ⟨fuel, hf⟩ := h
  rcases open_slice hu hf with ⟨hcs, _⟩ | ⟨a, len, cap, m, n', D, Pl, hcs2, hb, hl, hm, hmm, hx, hi⟩
  · simp [Value.cells] at hcs
    obtain ⟨rfl, rfl, rfl⟩ := hcs
    exact ⟨[], ⟨Reads.none_, rfl, Nat.le_refl _, Nat.zero_le _, Nat.zero_le _⟩, fun z hz => by cases hz⟩
  · simp [Value.cells] at hcs2
    obtain ⟨rfl, rfl, rfl⟩ := hcs2
    have hlm : n ≤ m := by rw [hmm]; split <;> omega
    obtain ⟨l, hll, hp⟩ := list_of (P := fun i (q : α) => ok q ∧ ∀ j, j < s → W.cell? (a.add (i * s + j)) = (cells q)[j]?) n (fun i hin => by
      obtain ⟨cs', h1, h2⟩ := hi i (by omega)
      rw [hcs] at h1
      obtain ⟨q, hok, rfl⟩ := hop _ _ _ h2
      obtain ⟨_, _, hat⟩ := World.cells?_some h1
      exact ⟨q, hok, fun j hj => by rw [← add_of_add]; exact hat j hj⟩)
    refine ⟨l, ⟨⟨by rw [flat_len hlen, hll], fun hn => ?_⟩, hll, hl, hm, Nat.le_trans hl (by unfold maxLen at hm; exact hm)⟩, fun x hx => ?_⟩
    · have hn : 0 < n := hn
      have hz := (hp 0 l[0] (List.getElem?_eq_getElem (by omega))).2 0 h0
      rw [List.getElem?_eq_getElem (by rw [hlen]; exact h0)] at hz
      obtain ⟨b, o, sp⟩ := a
      have hsp : sp = none := by simpa [Addr.add] using World.cell?_spot hz
      subst hsp
      have hlt := World.block_lt_of_cell? W _ hz
      refine ⟨b, o, rfl, by simpa [Addr.add] using hlt, fun j u hu => ?_⟩
      have hj : j < l.length * s := by
        rcases Nat.lt_or_ge j (l.length * s) with e | e
        · exact e
        · rw [List.getElem?_eq_none (by rw [flat_len hlen]; exact e)] at hu; cases hu
      have hdm := Nat.div_add_mod j s
      have hmd := Nat.mod_lt j h0
      have hjd : j / s < l.length := by rw [Nat.div_lt_iff_lt_mul h0]; exact hj
      have hcell := (hp (j / s) l[j / s] (List.getElem?_eq_getElem hjd)).2 (j % s) hmd
      have hg := flat_at hlen l (j / s) hjd (j % s) hmd
      rw [Nat.mul_comm (j / s) s, hdm] at hg hcell
      rw [Addr.add_lit] at hcell
      rw [hcell, ← hg, hu]
    · obtain ⟨i, hil, rfl⟩ := List.mem_iff_getElem.1 hx
      exact (hp i _ (List.getElem?_eq_getElem hil)).1
theorem allInt_Orbit : AllInt enc W base spare held 25 := allInt_struct Try.underlying25 (two_types (t1 := 3) (t2 := 3) (by kernel_rfl) allInt_int allInt_int) (by kernel_rfl)
theorem allInt_Cell : AllInt enc W base spare held 29 := allInt_struct Try.underlying29 (two_types (t1 := 3) (t2 := 3) (by kernel_rfl) allInt_int allInt_int) (by kernel_rfl)
theorem allInt_Spell : AllInt enc W base spare held 34 := allInt_struct Try.underlying34 (two_types (t1 := 3) (t2 := 3) (by kernel_rfl) allInt_int allInt_int) (by kernel_rfl)
theorem allInt_Sat : AllInt enc W base spare held 27 := allInt_struct Try.underlying27 (two_types (t1 := 3) (t2 := 25) (by kernel_rfl) allInt_int allInt_Orbit) (by kernel_rfl)
set_option maxRecDepth 100000 in
theorem open_Sat {cs : List Value} {n : Nat} {x : DataW H × List MemPlace} (h : DataW.trod enc Try.prog W base spare held n 27 cs = some x) : ∃ q : St, (∀ v ∈ satCells q, ∃ a : Int, v = .int .i64 a ∧ I64ok a) ∧ cs = satCells q := by
  obtain ⟨zs, hl, rfl, hw⟩ := allInt_Sat.ints h
  have hk : Try.prog.cellsOf 27 = 21 := by kernel_rfl
  rw [hk] at hl
  match zs, hl with
  | [a0, a1, a2, a3, a4, a5, a6, a7, a8, a9, a10, a11, a12, a13, a14, a15, a16, a17, a18, a19, a20], _ =>
    refine ⟨⟨a0, a1, ⟨a2, a3, a4, a5, a6, a7, a8⟩, a9, a10, a11, a12, a13, a14, a15, a16, a17, a18, a19, a20⟩, fun v hv => ?_, rfl⟩
    have hv : v ∈ List.map (Value.int .i64) [a0, a1, a2, a3, a4, a5, a6, a7, a8, a9, a10, a11, a12, a13, a14, a15, a16, a17, a18, a19, a20] := hv
    obtain ⟨z, hz, rfl⟩ := List.mem_map.1 hv
    exact ⟨z, rfl, hw z hz⟩
set_option maxRecDepth 100000 in
theorem open_SatV {v : Value} {d : DataW H} {p : List MemPlace} {r : Reach} {b0 : Nat} (hv : Value.okWide Try.prog W r b0 27 v) (h : DataW.Trod enc Try.prog W base spare held 27 v d p) : ∃ q : St, v = .agg (satCells q).toArray ∧ ∀ v ∈ satCells q, ∃ a : Int, v = .int .i64 a ∧ I64ok a := by
  obtain ⟨cs, rfl, hsz⟩ := okWide_struct Try.underlying27 hv
  obtain ⟨fuel, hf⟩ := h
  obtain ⟨q, hok, hcs⟩ := open_Sat hf
  obtain ⟨cs⟩ := cs
  simp only [Value.cells] at hcs
  exact ⟨q, by rw [hcs], hok⟩
theorem allInt_Station : AllInt enc W base spare held 31 := allInt_struct Try.underlying31 (two_types (t1 := 3) (t2 := 29) (by kernel_rfl) allInt_int allInt_Cell) (by kernel_rfl)
set_option maxRecDepth 100000 in
theorem open_Stn {cs : List Value} {n : Nat} {x : DataW H × List MemPlace} (h : DataW.trod enc Try.prog W base spare held n 31 cs = some x) : ∃ q : Stn, (∀ v ∈ stnCells q, ∃ a : Int, v = .int .i64 a ∧ I64ok a) ∧ cs = stnCells q := by
  obtain ⟨zs, hl, rfl, hw⟩ := allInt_Station.ints h
  have hk : Try.prog.cellsOf 31 = 6 := by kernel_rfl
  rw [hk] at hl
  match zs, hl with
  | [a0, a1, a2, a3, a4, a5], _ =>
    refine ⟨⟨a0, ⟨a1, a2⟩, a3, a4, a5⟩, fun v hv => ?_, rfl⟩
    have hv : v ∈ List.map (Value.int .i64) [a0, a1, a2, a3, a4, a5] := hv
    obtain ⟨z, hz, rfl⟩ := List.mem_map.1 hv
    exact ⟨z, rfl, hw z hz⟩
set_option maxRecDepth 100000 in
theorem open_StnV {v : Value} {d : DataW H} {p : List MemPlace} {r : Reach} {b0 : Nat} (hv : Value.okWide Try.prog W r b0 31 v) (h : DataW.Trod enc Try.prog W base spare held 31 v d p) : ∃ q : Stn, v = .agg (stnCells q).toArray ∧ ∀ v ∈ stnCells q, ∃ a : Int, v = .int .i64 a ∧ I64ok a := by
  obtain ⟨cs, rfl, hsz⟩ := okWide_struct Try.underlying31 hv
  obtain ⟨fuel, hf⟩ := h
  obtain ⟨q, hok, hcs⟩ := open_Stn hf
  obtain ⟨cs⟩ := cs
  simp only [Value.cells] at hcs
  exact ⟨q, by rw [hcs], hok⟩
theorem allInt_Pass : AllInt enc W base spare held 47 := allInt_struct Try.underlying47 (two_types (t1 := 3) (t2 := 34) (by kernel_rfl) allInt_int allInt_Spell) (by kernel_rfl)
set_option maxRecDepth 100000 in
theorem open_Spl {cs : List Value} {n : Nat} {x : DataW H × List MemPlace} (h : DataW.trod enc Try.prog W base spare held n 34 cs = some x) : ∃ q : Spl, (∀ v ∈ splCells q, ∃ a : Int, v = .int .i64 a ∧ I64ok a) ∧ cs = splCells q := by
  obtain ⟨zs, hl, rfl, hw⟩ := allInt_Spell.ints h
  have hk : Try.prog.cellsOf 34 = 2 := by kernel_rfl
  rw [hk] at hl
  match zs, hl with
  | [a0, a1], _ =>
    refine ⟨⟨a0, a1⟩, fun v hv => ?_, rfl⟩
    have hv : v ∈ List.map (Value.int .i64) [a0, a1] := hv
    obtain ⟨z, hz, rfl⟩ := List.mem_map.1 hv
    exact ⟨z, rfl, hw z hz⟩
set_option maxRecDepth 100000 in
theorem open_SplV {v : Value} {d : DataW H} {p : List MemPlace} {r : Reach} {b0 : Nat} (hv : Value.okWide Try.prog W r b0 34 v) (h : DataW.Trod enc Try.prog W base spare held 34 v d p) : ∃ q : Spl, v = .agg (splCells q).toArray ∧ ∀ v ∈ splCells q, ∃ a : Int, v = .int .i64 a ∧ I64ok a := by
  obtain ⟨cs, rfl, hsz⟩ := okWide_struct Try.underlying34 hv
  obtain ⟨fuel, hf⟩ := h
  obtain ⟨q, hok, hcs⟩ := open_Spl hf
  obtain ⟨cs⟩ := cs
  simp only [Value.cells] at hcs
  exact ⟨q, by rw [hcs], hok⟩
theorem open_A7s {A : Option Addr} {n c : Nat} {d : DataW H} {p : List MemPlace} (h : DataW.Trod enc Try.prog W base spare held 22 (.slice A n c) d p) : ∃ xs, RA a7Cells 7 W W.heap.size A n c xs ∧ ∀ x ∈ xs, A7.ok x :=
  open_rows (cells := a7Cells) (s := 7) Try.underlying22 (by kernel_rfl) (fun _ => rfl) (by decide) (fun _ _ _ h => open_A7 h) h
theorem open_A4s {A : Option Addr} {n c : Nat} {d : DataW H} {p : List MemPlace} (h : DataW.Trod enc Try.prog W base spare held 23 (.slice A n c) d p) : ∃ xs, RA a4Cells 4 W W.heap.size A n c xs ∧ ∀ x ∈ xs, A4.ok x :=
  open_rows (cells := a4Cells) (s := 4) Try.underlying23 (by kernel_rfl) (fun _ => rfl) (by decide) (fun _ _ _ h => open_A4 h) h
end
end Go.Proofs.Ytlmpmhfbjblhnaa
namespace Go.Proofs.Ytlmpmhfbjblhnaa
open Go.ChangeShapes Go.WideShapes Go.ChangeAt Go.RowKit Go.Deep
set_option linter.unusedVariables false
set_option maxRecDepth 100000 in
theorem contactPassesMatchReference_lifted (os : Os) (started : os.Started) (H : Type) (enc : TypeId × Value → H) :
    ReturnsInHanded {} Try.checked os 4 .any (Rows.contactPassesMatchReferenceSpec.pre6 enc Try.prog Try.f4 Rows.contactPassesMatchReferenceRow.domain false) (Rows.contactPassesMatchReferenceSpec.post enc Try.prog Try.f4 false true false false) := by
  refine returnsInHanded_of_change (C := Try.checked) ownKn started (by kernel_rfl) Try.func4
    (ChangeSpec.witness6 (enc := enc) (C := Try.checked) false ⟨#[], #[.slice none 0 0, .slice none 0 0, .slice none 0 0, .agg #[.int .i64 0, .int .i64 0, .int .i64 0, .int .i64 0, .int .i64 0, .int .i64 0, .int .i64 0, .int .i64 0, .int .i64 0, .int .i64 0, .int .i64 0, .int .i64 0, .int .i64 0, .int .i64 0, .int .i64 0, .int .i64 0, .int .i64 0, .int .i64 0, .int .i64 0, .int .i64 0, .int .i64 0], .agg #[.int .i64 0, .int .i64 0, .int .i64 0, .int .i64 0, .int .i64 0, .int .i64 0], .int .i64 0, .int .i64 0, .agg #[.int .i64 0, .int .i64 0]], []⟩ 8 (by kernel_rfl) (by kernel_rfl) (by kernel_rfl) (by kernel_rfl)) ?_
  intro W base args ds gs before hval0 hW hcnd _
  have hval : ∀ (j : Nat) t v, Try.f4.params[j]? = some t → args[j]? = some v → Value.okWide Try.prog W .any base t v := hval0
  have hW' := hW
  obtain ⟨p, q, hA0, hV, rfl, hfz, hnd⟩ := hW
  have hA : DataW.TrodAll enc Try.prog W 0 (fun _ => true) true Try.f4.params.toList args.toList ds p := hA0
  rw [Try.params4] at hA hval
  obtain ⟨v0, vs0, d0, ds0, p0, q0, hargs, rfl, rfl, h0, r0⟩ := trodAll_cons hA
  obtain ⟨v1, vs1, d1, ds1, p1, q1, rfl, rfl, rfl, h1, r1⟩ := trodAll_cons r0
  obtain ⟨v2, vs2, d2, ds2, p2, q2, rfl, rfl, rfl, h2, r2⟩ := trodAll_cons r1
  obtain ⟨v3, vs3, d3, ds3, p3, q3, rfl, rfl, rfl, h3, r3⟩ := trodAll_cons r2
  obtain ⟨v4, vs4, d4, ds4, p4, q4, rfl, rfl, rfl, h4, r4⟩ := trodAll_cons r3
  obtain ⟨v5, vs5, d5, ds5, p5, q5, rfl, rfl, rfl, h5, r5⟩ := trodAll_cons r4
  obtain ⟨v6, vs6, d6, ds6, p6, q6, rfl, rfl, rfl, h6, r6⟩ := trodAll_cons r5
  obtain ⟨v7, vs7, d7, ds7, p7, q7, rfl, rfl, rfl, h7, r7⟩ := trodAll_cons r6
  obtain ⟨rfl, rfl, rfl⟩ := trodAll_nil r7
  obtain rfl : args = #[v0, v1, v2, v3, v4, v5, v6, v7] := by cases args; simp_all
  obtain ⟨rfl, rfl⟩ := trodVars_none hV
  obtain ⟨a0, len0, cap0, rfl⟩ := okWide_slice Try.underlying22 (hval 0 22 v0 rfl rfl)
  have k0 := h0
  have lt0 : ∀ x ∈ p0, x.block < W.heap.size := by obtain ⟨m, hm⟩ := k0; exact DataW.trod_lt m _ _ _ hm
  obtain ⟨z0, g0, o0⟩ := open_A7s h0
  obtain ⟨a1, len1, cap1, rfl⟩ := okWide_slice Try.underlying23 (hval 1 23 v1 rfl rfl)
  have k1 := h1
  have lt1 : ∀ x ∈ p1, x.block < W.heap.size := by obtain ⟨m, hm⟩ := k1; exact DataW.trod_lt m _ _ _ hm
  obtain ⟨z1, g1, o1⟩ := open_A4s h1
  obtain ⟨a2, len2, cap2, rfl⟩ := okWide_slice Try.underlying23 (hval 2 23 v2 rfl rfl)
  have k2 := h2
  have lt2 : ∀ x ∈ p2, x.block < W.heap.size := by obtain ⟨m, hm⟩ := k2; exact DataW.trod_lt m _ _ _ hm
  obtain ⟨z2, g2, o2⟩ := open_A4s h2
  have k3 := h3
  have lt3 : ∀ x ∈ p3, x.block < W.heap.size := by obtain ⟨m, hm⟩ := k3; exact DataW.trod_lt m _ _ _ hm
  obtain ⟨z3, rfl, o3⟩ := open_SatV (hval 3 27 v3 rfl rfl) h3
  have k4 := h4
  have lt4 : ∀ x ∈ p4, x.block < W.heap.size := by obtain ⟨m, hm⟩ := k4; exact DataW.trod_lt m _ _ _ hm
  obtain ⟨z4, rfl, o4⟩ := open_StnV (hval 4 31 v4 rfl rfl) h4
  obtain ⟨a5, rfl, rfl, rfl, w5⟩ := open_int Try.underlying3 (hval 5 3 v5 rfl rfl) h5
  obtain ⟨a6, rfl, rfl, rfl, w6⟩ := open_int Try.underlying3 (hval 6 3 v6 rfl rfl) h6
  have k7 := h7
  have lt7 : ∀ x ∈ p7, x.block < W.heap.size := by obtain ⟨m, hm⟩ := k7; exact DataW.trod_lt m _ _ _ hm
  obtain ⟨z7, rfl, o7⟩ := open_SplV (hval 7 34 v7 rfl rfl) h7
  obtain ⟨f7, t7⟩ := z7
  have bf7 : I64ok f7 := by obtain ⟨a, e, h⟩ := o7 (.int .i64 f7) (by simp [splCells]); cases e; exact h
  have bt7 : I64ok t7 := by obtain ⟨a, e, h⟩ := o7 (.int .i64 t7) (by simp [splCells]); cases e; exact h
  clear hA0 hval0
  refine (passes_match_walk a0 a1 a2 len0 cap0 len1 cap1 len2 cap2 z0 z1 z2 z3 z4 a5 a6 f7 t7 W g0 g1 g2 o0 o1 o2 (i64_of_wf w5) (i64_of_wf w6)).mono fun e W' ⟨he, bel⟩ => ?_
  subst he
  exact ⟨_, rfl, _, _, _, [], _, [], hW', trodAll_mk1 (shut_bool Try.underlying4 _), (trodAll_cons_mk (Below.trod laidOut (by kernel_rfl) (of_decide_eq_true (by kernel_rfl)) k0 bel lt0) (trodAll_cons_mk (Below.trod laidOut (by kernel_rfl) (of_decide_eq_true (by kernel_rfl)) k1 bel lt1) (trodAll_cons_mk (Below.trod laidOut (by kernel_rfl) (of_decide_eq_true (by kernel_rfl)) k2 bel lt2) (trodAll_cons_mk (Below.trod laidOut (by kernel_rfl) (of_decide_eq_true (by kernel_rfl)) k3 bel lt3) (trodAll_cons_mk (Below.trod laidOut (by kernel_rfl) (of_decide_eq_true (by kernel_rfl)) k4 bel lt4) (trodAll_cons_mk (shut_int Try.underlying3 w5) (trodAll_cons_mk (shut_int Try.underlying3 w6) (trodAll_cons_mk (Below.trod laidOut (by kernel_rfl) (of_decide_eq_true (by kernel_rfl)) k7 bel lt7) trodAll_mk0)))))))), rfl, bel.frame _, fun h => by cases h⟩

theorem contactPassesMatchReference_over : Rows.contactPassesMatchReferenceRow.holds Try.pinned (OpenSpec.ofChange Rows.contactPassesMatchReferenceSpec) :=
  OpenClaim.holds_of_wide 4 Try.f4 rfl rfl rfl rfl rfl rfl rfl ⟨rfl, rfl, rfl, rfl, rfl⟩ rfl rfl rfl rfl rfl (by kernel_rfl) Try.func4 (by kernel_rfl)
    (of_decide_eq_true (by kernel_rfl)) (by unfold Func.isWrapper; first | (rw [if_pos (by decide +kernel)]; kernel_rfl) | (rw [if_neg (by decide +kernel)]; exact ⟨rfl, rfl⟩))
    (fun os started H enc _ => contactPassesMatchReference_lifted os started H enc)

theorem contactPassesMatchReference_proved : Rows.ContactPassesMatchReferenceSaid := contactPassesMatchReference_over
end Go.Proofs.Ytlmpmhfbjblhnaa
