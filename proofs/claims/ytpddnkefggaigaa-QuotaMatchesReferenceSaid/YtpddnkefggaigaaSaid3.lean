/- The law QuotaMatchesReference of the quota layer: for every input the call returns true and each argument reads afterwards as it read before: all functions agree with the reference implementation. No condition. -/
import Derived.Test.YtpddnkefggaigaaW3
import Derived.Test.YtpddnkefggaigaaW0
import Derived.Test.YtpddnkefggaigaaG1
import Derived.Lib.SmallJoins
import Derived.Deep.Fields
namespace Go.Proofs.Ytpddnkefggaigaa
open Go.ChangeShapes Go.WideShapes Go.ChangeAt Go.RowKit Go.Deep
set_option linter.unusedVariables false
section
variable {H : Type} {enc : TypeId × Value → H} {W : World} {base : Nat} {spare : Nat → Bool} {held : Bool}
theorem fields_int {t : TypeId} {fs : Array Field} {n : Nat} {cs : List Value} {x : DataW H × List MemPlace} (hs : Try.prog.underlying t = some (.struct fs)) (hone : oneCellFields Try.prog fs = true) (hC : Try.prog.cellsOf t = fs.size) (hint : ∀ (j : Nat) (f : Field), fs[j]? = some f → f.type = 3)
    (h : DataW.trod enc Try.prog W base spare held n t cs = some x) : cs.length = fs.size ∧ ∀ j, j < fs.size → ∃ a : Int, cs[j]? = some (.int .i64 a) ∧ (Lit.int .i64 a).wf = true := by
  obtain ⟨xs, m, _, _, hlen, hxl, hg⟩ := DataW.trod_struct hs h
  rw [hC] at hlen
  refine ⟨hlen, fun j hj => ?_⟩
  have hf : fs[j]? = some fs[j] := Array.getElem?_eq_getElem hj
  have h1 := hg j fs[j] hf
  obtain ⟨ho, hk⟩ := hone_of hone j fs[j] hf
  rw [ho, hk, hint j _ hf] at h1
  have hcs : (cs.drop j).take 1 = [cs[j]'(by omega)] := by
    rw [List.drop_eq_getElem_cons (by omega)]
    rfl
  rw [hcs, List.getElem?_eq_getElem (by omega)] at h1
  obtain ⟨a, e, _, wa⟩ := DataW.trod_int Try.underlying3 h1
  simp at e
  exact ⟨a, by rw [List.getElem?_eq_getElem (by omega), e], wa⟩
theorem loan_cells {n : Nat} {cs : List Value} {x : DataW H × List MemPlace} (h : DataW.trod enc Try.prog W base spare held n 28 cs = some x) : ∃ l : Loan, cs = loanCells l := by
  obtain ⟨hl, hg⟩ := fields_int Try.underlying28 (by kernel_rfl) (by kernel_rfl) (by intro j f hj; match j, hj with | 0, hj => (injection hj with hj; subst hj; rfl) | 1, hj => (injection hj with hj; subst hj; rfl) | 2, hj => (injection hj with hj; subst hj; rfl) | (k + 3), hj => simp at hj) h
  match cs, hl with
  | [c0, c1, c2], _ =>
    obtain ⟨a0, e0, _⟩ := hg 0 (by decide)
    obtain ⟨a1, e1, _⟩ := hg 1 (by decide)
    obtain ⟨a2, e2, _⟩ := hg 2 (by decide)
    simp at e0 e1 e2
    subst e0 e1 e2
    exact ⟨⟨a0, a1, a2⟩, rfl⟩
theorem open_loanV {v : Value} {d : DataW H} {p : List MemPlace} {r : Reach} {b0 : Nat} (hv : Value.okWide Try.prog W r b0 28 v) (h : DataW.Trod enc Try.prog W base spare held 28 v d p) : ∃ l1 l2 l3 : Int, v = .agg #[.int .i64 l1, .int .i64 l2, .int .i64 l3] := by
  obtain ⟨cs, rfl, hsz⟩ := okWide_struct Try.underlying28 hv
  obtain ⟨fuel, hf⟩ := h
  obtain ⟨l, hl⟩ := loan_cells hf
  obtain ⟨cs⟩ := cs
  simp [Value.cells] at hl
  exact ⟨l.fr, l.to, l.units, by rw [hl]; rfl⟩
theorem open_deedV {v : Value} {d : DataW H} {p : List MemPlace} {r : Reach} {b0 : Nat} (hv : Value.okWide Try.prog W r b0 30 v) (h : DataW.Trod enc Try.prog W base spare held 30 v d p) : ∃ q0 q1 q2 q3 q4 : Int, v = .agg #[.int .i64 q0, .int .i64 q1, .int .i64 q2, .int .i64 q3, .int .i64 q4] ∧ I64ok q0 ∧ I64ok q1 := by
  obtain ⟨cs, rfl, hsz⟩ := okWide_struct Try.underlying30 hv
  obtain ⟨fuel, hf⟩ := h
  obtain ⟨cs⟩ := cs
  obtain ⟨hl, hg⟩ := fields_int Try.underlying30 (by kernel_rfl) (by kernel_rfl) (by intro j f hj; match j, hj with | 0, hj => (injection hj with hj; subst hj; rfl) | 1, hj => (injection hj with hj; subst hj; rfl) | 2, hj => (injection hj with hj; subst hj; rfl) | 3, hj => (injection hj with hj; subst hj; rfl) | 4, hj => (injection hj with hj; subst hj; rfl) | (k + 5), hj => simp at hj) hf
  simp only [Value.cells] at hl hg
  match cs, hl with
  | [c0, c1, c2, c3, c4], _ =>
    obtain ⟨a0, e0, w0⟩ := hg 0 (by decide)
    obtain ⟨a1, e1, w1⟩ := hg 1 (by decide)
    obtain ⟨a2, e2, _⟩ := hg 2 (by decide)
    obtain ⟨a3, e3, _⟩ := hg 3 (by decide)
    obtain ⟨a4, e4, _⟩ := hg 4 (by decide)
    simp at e0 e1 e2 e3 e4
    subst e0 e1 e2 e3 e4
    exact ⟨a0, a1, a2, a3, a4, rfl, i64_of_wf w0, i64_of_wf w1⟩
theorem open_RWf {fuel : Nat} {v : Value} {x : DataW H × List MemPlace} (hf : DataW.trod enc Try.prog W base spare held fuel 22 [v] = some x) : ∃ A n c zs, v = .slice A n c ∧ RW_ W W.heap.size ⟨A, n, c⟩ zs := by
  have hform : ∃ A n c, v = .slice A n c := by
    rcases open_ints Try.underlying22 Try.underlying3 (by kernel_rfl) hf with ⟨hcs, _⟩ | ⟨y, l, c', zs, hcs, _⟩
    · simp at hcs; exact ⟨_, _, _, hcs⟩
    · simp at hcs; exact ⟨_, _, _, hcs⟩
  obtain ⟨A, n, c, rfl⟩ := hform
  obtain ⟨zs, h1, _⟩ := open_RW (d := x.1) (p := x.2) ⟨fuel, hf⟩
  exact ⟨A, n, c, zs, rfl, h1⟩
theorem open_RLf {fuel : Nat} {v : Value} {x : DataW H × List MemPlace} (hf : DataW.trod enc Try.prog W base spare held fuel 24 [v] = some x) : ∃ A n c ls, v = .slice A n c ∧ RLw W W.heap.size ⟨A, n, c⟩ ls := by
  have hc3 : Try.prog.cellsOf 28 = 3 := by kernel_rfl
  rcases open_slice Try.underlying24 hf with ⟨hcs, _⟩ | ⟨a, len, cap, m, n', D, Pl, hcs, hb, hl, hm, hmm, hx, hi⟩
  · simp at hcs
    exact ⟨none, 0, 0, [], hcs, Reads.none_, Nat.le_refl _, Nat.zero_le _⟩
  · simp at hcs
    have hlm : len ≤ m := by rw [hmm]; split <;> omega
    obtain ⟨l, hll, hp⟩ := list_of (P := fun i (q : Loan) => ∀ j, j < 3 → W.cell? (a.add (i * 3 + j)) = (loanCells q)[j]?) len (fun i hin => by
      obtain ⟨cs', h1, h2⟩ := hi i (by omega)
      rw [hc3] at h1
      obtain ⟨q, rfl⟩ := loan_cells h2
      obtain ⟨_, _, hat⟩ := World.cells?_some h1
      exact ⟨q, fun j hj => by rw [← add_of_add]; exact hat j hj⟩)
    refine ⟨some a, len, cap, l, hcs, ⟨by rw [len_flat]; show l.length * 3 = len * 3; rw [hll], fun hn => ?_⟩, hl, hm⟩
    have hn : 0 < len := hn
    have h0 := hp 0 l[0] (List.getElem?_eq_getElem (by omega)) 0 (by omega)
    obtain ⟨b, o, sp⟩ := a
    have hsp : sp = none := by simpa [Addr.add] using World.cell?_spot (h0.trans rfl)
    subst hsp
    have hlt := World.block_lt_of_cell? W _ (h0.trans rfl)
    refine ⟨b, o, rfl, by simpa [Addr.add] using hlt, fun j u hu => ?_⟩
    have hj : j < l.length * 3 := by
      rcases Nat.lt_or_ge j (l.length * 3) with e | e
      · exact e
      · rw [List.getElem?_eq_none (by rw [len_flat]; exact e)] at hu; cases hu
    have hdm := Nat.div_add_mod j 3
    have hjd : j / 3 < l.length := by omega
    have hcell := hp (j / 3) l[j / 3] (List.getElem?_eq_getElem hjd) (j % 3) (by omega)
    have hg := get_flat l (j / 3) hjd
    rw [show j / 3 * 3 + j % 3 = j by omega, Addr.add_lit] at hcell
    rw [hcell, ← hu]
    generalize hq : l[j / 3] = q at hg
    have h4 : j % 3 = 0 ∨ j % 3 = 1 ∨ j % 3 = 2 := by omega
    rcases h4 with e | e | e
    · have := hg.1; rw [show j / 3 * 3 = j by omega] at this; rw [e, this]; rfl
    · have := hg.2.1; rw [show j / 3 * 3 + 1 = j by omega] at this; rw [e, this]; rfl
    · have := hg.2.2; rw [show j / 3 * 3 + 2 = j by omega] at this; rw [e, this]; rfl
theorem open_poolV {v : Value} {d : DataW H} {p : List MemPlace} {r : Reach} {b0 : Nat} (hv : Value.okWide Try.prog W r b0 26 v) (h : DataW.Trod enc Try.prog W base spare held 26 v d p) :
    ∃ R1 R2 R3 R4 rn1 rc1 rn2 rc2 rn3 rc3 rn4 rc4 zr1 zr2 lr zr4, v = .agg #[.slice R1 rn1 rc1, .slice R2 rn2 rc2, .slice R3 rn3 rc3, .slice R4 rn4 rc4] ∧ RW_ W W.heap.size ⟨R1, rn1, rc1⟩ zr1 ∧ RW_ W W.heap.size ⟨R2, rn2, rc2⟩ zr2 ∧ RLw W W.heap.size ⟨R3, rn3, rc3⟩ lr ∧ RW_ W W.heap.size ⟨R4, rn4, rc4⟩ zr4 := by
  obtain ⟨v0, v1, v2, v3, y0, y1, y2, y3, m, rfl, _, _, t0, t1, t2, t3⟩ := Go.Joins.open_agg4 Try.underlying26 (by kernel_rfl) (by kernel_rfl) hv h
  obtain ⟨A0, n0, c0, z0, rfl, g0⟩ := open_RWf t0
  obtain ⟨A1, n1, c1, z1, rfl, g1⟩ := open_RWf t1
  obtain ⟨A2, n2, c2, z2, rfl, g2⟩ := open_RLf t2
  obtain ⟨A3, n3, c3, z3, rfl, g3⟩ := open_RWf t3
  exact ⟨A0, A1, A2, A3, n0, c0, n1, c1, n2, c2, n3, c3, z0, z1, z2, z3, rfl, g0, g1, g2, g3⟩
end
set_option maxRecDepth 100000 in
theorem quotaMatchesReference_lifted (os : Os) (started : os.Started) (H : Type) (enc : TypeId × Value → H) :
    ReturnsInHanded {} Try.checked os 3 .any (Rows.quotaMatchesReferenceSpec.pre6 enc Try.prog Try.f3 Rows.quotaMatchesReferenceRow.domain false) (Rows.quotaMatchesReferenceSpec.post enc Try.prog Try.f3 false true false false) := by
  refine returnsInHanded_of_change (C := Try.checked) ownKn started (by kernel_rfl) Try.func3
    (ChangeSpec.witness6 (enc := enc) (C := Try.checked) false ⟨#[], #[.slice none 0 0, .slice none 0 0, .agg #[.slice none 0 0, .slice none 0 0, .slice none 0 0, .slice none 0 0], .agg #[.int .i64 0, .int .i64 0, .int .i64 0], .int .i64 0, .int .i64 0, .agg #[.int .i64 0, .int .i64 0, .int .i64 0, .int .i64 0, .int .i64 0], .slice none 0 0], []⟩ 8 (by kernel_rfl) (by kernel_rfl) (by kernel_rfl) (by kernel_rfl)) ?_
  intro W base args ds gs before hval0 hW hcnd _
  have hval : ∀ (j : Nat) t v, Try.f3.params[j]? = some t → args[j]? = some v → Value.okWide Try.prog W .any base t v := hval0
  have hW' := hW
  obtain ⟨p, q, hA0, hV, rfl, hfz, hnd⟩ := hW
  have hA : DataW.TrodAll enc Try.prog W 0 (fun _ => true) true Try.f3.params.toList args.toList ds p := hA0
  rw [Try.params3] at hA hval
  obtain ⟨v0, vs0, d0, ds0, p0, q0, hargs, rfl, rfl, h0, r0⟩ := trodAll_cons hA
  obtain ⟨v1, vs1, d1, ds1, p1, q1, rfl, rfl, rfl, h1, r1⟩ := trodAll_cons r0
  obtain ⟨v2, vs2, d2, ds2, p2, q2, rfl, rfl, rfl, h2, r2⟩ := trodAll_cons r1
  obtain ⟨v3, vs3, d3, ds3, p3, q3, rfl, rfl, rfl, h3, r3⟩ := trodAll_cons r2
  obtain ⟨v4, vs4, d4, ds4, p4, q4, rfl, rfl, rfl, h4, r4⟩ := trodAll_cons r3
  obtain ⟨v5, vs5, d5, ds5, p5, q5, rfl, rfl, rfl, h5, r5⟩ := trodAll_cons r4
  obtain ⟨v6, vs6, d6, ds6, p6, q6, rfl, rfl, rfl, h6, r6⟩ := trodAll_cons r5
  obtain ⟨v7, vs7, d7, ds7, p7, q7, rfl, rfl, rfl, h7, r7⟩ := trodAll_cons r6
  obtain ⟨rfl, rfl, rfl⟩ := trodAll_nil r7
  obtain rfl : args = #[v0, v1, v2, v3, v4, v5, v6, v7] := by cases args; simp_all
  obtain ⟨rfl, rfl⟩ := trodVars_none hV
  obtain ⟨a0, len0, cap0, rfl⟩ := okWide_slice Try.underlying22 (hval 0 22 v0 rfl rfl)
  have k0 := h0
  have lt0 : ∀ x ∈ p0, x.block < W.heap.size := by obtain ⟨m, hm⟩ := k0; exact DataW.trod_lt m _ _ _ hm
  obtain ⟨z0, g0, o0⟩ := open_RW h0
  obtain ⟨a1, len1, cap1, rfl⟩ := okWide_slice Try.underlying23 (hval 1 23 v1 rfl rfl)
  have k1 := h1
  have lt1 : ∀ x ∈ p1, x.block < W.heap.size := by obtain ⟨m, hm⟩ := k1; exact DataW.trod_lt m _ _ _ hm
  obtain ⟨z1, g1, o1⟩ := open_RQ h1
  have k2 := h2
  have lt2 : ∀ x ∈ p2, x.block < W.heap.size := by obtain ⟨m, hm⟩ := k2; exact DataW.trod_lt m _ _ _ hm
  obtain ⟨R1, R2, R3, R4, rn1, rc1, rn2, rc2, rn3, rc3, rn4, rc4, zr1, zr2, lr, zr4, rfl, hr1, hr2, hr3, hr4⟩ := open_poolV (hval 2 26 v2 rfl rfl) h2
  have k3 := h3
  have lt3 : ∀ x ∈ p3, x.block < W.heap.size := by obtain ⟨m, hm⟩ := k3; exact DataW.trod_lt m _ _ _ hm
  obtain ⟨l1, l2, l3, rfl⟩ := open_loanV (hval 3 28 v3 rfl rfl) h3
  obtain ⟨a4, rfl, rfl, rfl, w4⟩ := open_int Try.underlying3 (hval 4 3 v4 rfl rfl) h4
  obtain ⟨a5, rfl, rfl, rfl, w5⟩ := open_int Try.underlying3 (hval 5 3 v5 rfl rfl) h5
  have k6 := h6
  have lt6 : ∀ x ∈ p6, x.block < W.heap.size := by obtain ⟨m, hm⟩ := k6; exact DataW.trod_lt m _ _ _ hm
  obtain ⟨q0, q1, q2, q3, q4, rfl, bo0, bo1⟩ := open_deedV (hval 6 30 v6 rfl rfl) h6
  obtain ⟨a7, len7, cap7, rfl⟩ := okWide_slice Try.underlying23 (hval 7 23 v7 rfl rfl)
  have k7 := h7
  have lt7 : ∀ x ∈ p7, x.block < W.heap.size := by obtain ⟨m, hm⟩ := k7; exact DataW.trod_lt m _ _ _ hm
  obtain ⟨z7, g7, o7⟩ := open_RQ h7
  clear hA0 hval0
  refine (matches_walk sane_any a0 len0 cap0 z0 a1 len1 cap1 z1 R1 R2 R3 R4 rn1 rc1 rn2 rc2 rn3 rc3 rn4 rc4 zr1 zr2 lr zr4 l1 l2 l3 a4 a5 q0 q1 q2 q3 q4 a7 len7 cap7 z7 W g0 o0 g1 o1 hr1 hr2 hr3 hr4 (i64_of_wf w5) bo0 bo1 g7 o7).mono fun e W' ⟨he, bel⟩ => ?_
  subst he
  exact ⟨_, rfl, _, _, _, [], _, [], hW', trodAll_mk1 (shut_bool Try.underlying4 _), (trodAll_cons_mk (Below.trod laidOut (by kernel_rfl) (of_decide_eq_true (by kernel_rfl)) k0 bel lt0) (trodAll_cons_mk (Below.trod laidOut (by kernel_rfl) (of_decide_eq_true (by kernel_rfl)) k1 bel lt1) (trodAll_cons_mk (Below.trod laidOut (by kernel_rfl) (of_decide_eq_true (by kernel_rfl)) k2 bel lt2) (trodAll_cons_mk (Below.trod laidOut (by kernel_rfl) (of_decide_eq_true (by kernel_rfl)) k3 bel lt3) (trodAll_cons_mk (shut_int Try.underlying3 w4) (trodAll_cons_mk (shut_int Try.underlying3 w5) (trodAll_cons_mk (Below.trod laidOut (by kernel_rfl) (of_decide_eq_true (by kernel_rfl)) k6 bel lt6) (trodAll_cons_mk (Below.trod laidOut (by kernel_rfl) (of_decide_eq_true (by kernel_rfl)) k7 bel lt7) trodAll_mk0)))))))), rfl, bel.frame _, fun h => by cases h⟩

theorem quotaMatchesReference_over : Rows.quotaMatchesReferenceRow.holds Try.pinned (OpenSpec.ofChange Rows.quotaMatchesReferenceSpec) :=
  OpenClaim.holds_of_wide 3 Try.f3 rfl rfl rfl rfl rfl rfl rfl ⟨rfl, rfl, rfl, rfl, rfl⟩ rfl rfl rfl rfl rfl (by kernel_rfl) Try.func3 (by kernel_rfl)
    (of_decide_eq_true (by kernel_rfl)) (by unfold Func.isWrapper; first | (rw [if_pos (by decide +kernel)]; kernel_rfl) | (rw [if_neg (by decide +kernel)]; exact ⟨rfl, rfl⟩))
    (fun os started H enc _ => quotaMatchesReference_lifted os started H enc)

theorem quotaMatchesReference_proved : Rows.QuotaMatchesReferenceSaid := quotaMatchesReference_over
end Go.Proofs.Ytpddnkefggaigaa
