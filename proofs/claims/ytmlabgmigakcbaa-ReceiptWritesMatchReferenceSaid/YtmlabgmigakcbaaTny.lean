/- Tiny frames: an operation of a region is walked alone, its operands replaced by their values, over a frame of one slot. -/
import Derived.Test.YtmlabgmigakcbaaReg
namespace Go.Proofs.Ytmlabgmigakcbaa
open Go.RowKit

def outChk (ops : Array Oper) (t : Nat) : Nat → Bool
  | 0 => true
  | i + 1 => !(dstAt ops i == some t) && outChk ops t i
theorem outChk_spec {ops : Array Oper} {t : Nat} : ∀ {i : Nat}, outChk ops t i = true → ∀ j, j < i → dstAt ops j ≠ some t
  | 0, _, j, hj => by omega
  | i + 1, h, j, hj => by
    simp only [outChk, Bool.and_eq_true, Bool.not_eq_true'] at h
    by_cases e : j = i
    · subst e
      intro e2
      rw [e2] at h
      simp at h
    · exact outChk_spec h.2 j (by omega)
def inChk (ops : Array Oper) (t j : Nat) : Nat → Bool
  | 0 => true
  | i + 1 => (decide (i ≤ j) || !(dstAt ops i == some t)) && inChk ops t j i
theorem inChk_spec {ops : Array Oper} {t j : Nat} : ∀ {i : Nat}, inChk ops t j i = true → ∀ k, j < k → k < i → dstAt ops k ≠ some t
  | 0, _, k, _, hk => by omega
  | i + 1, h, k, h1, h2 => by
    simp only [inChk, Bool.and_eq_true, Bool.or_eq_true, Bool.not_eq_true', decide_eq_true_eq] at h
    by_cases e : k = i
    · subst e
      intro e2
      rw [e2] at h
      rcases h.1 with h | h
      · omega
      · simp at h
    · exact inChk_spec h.2 k h1 (by omega)
section
variable {P : Program} {ops : Array Oper} {a0 : Act} {vals : Nat → Value}
theorem lf_out {i t : Nat} {v : Value} (h : outChk ops t i = true) (hv : a0.tmps[t]? = some v) : (Lf ops a0 vals i).tmps[t]? = some v := (Lf_outer vals i t (outChk_spec h)).trans hv
theorem lf_in {i t : Nat} {v : Value} (j : Nat) (hj : decide (j < i) = true) (hd : dstAt ops j = some t) (hdist : inChk ops t j i = true) (ht : decide (t < a0.tmps.size) = true) (hv : vals j = v) : (Lf ops a0 vals i).tmps[t]? = some v := by
  subst hv
  exact Lf_inner vals i j t (of_decide_eq_true hj) hd (inChk_spec hdist) (of_decide_eq_true ht)
def look (L : List (Nat × Value)) (t : Nat) : Option Value := match L with
  | [] => none
  | p :: r => if p.1 == t then some p.2 else look r t
def AllAt (A : Act) : List (Nat × Value) → Prop
  | [] => True
  | p :: r => A.tmps[p.1]? = some p.2 ∧ AllAt A r
theorem look_at {A : Act} : ∀ {L : List (Nat × Value)} {t : Nat} {v : Value}, AllAt A L → look L t = some v → A.tmps[t]? = some v
  | [], _, _, _, h => by cases h
  | p :: r, t, v, ⟨h1, h2⟩, h => by
    unfold look at h
    split at h
    · rename_i e
      have e : p.1 = t := by simpa using e
      subst e
      rw [h1, h]
    · exact look_at h2 h
abbrev tiny0 : Act := ⟨#[undef], []⟩
def rho (L : List (Nat × Value)) (x : Operand) : Value := match x with
  | .tmp t => (look L t).getD undef
  | x => tiny0.eval x
def covers (L : List (Nat × Value)) (o : Oper) : Bool := o.op.operands.all fun x => match x with | .tmp t => (look L t).isSome | _ => true
def wantV (v : Option Value) (b : Bool) : Bool := match v with | some (.bool c) => c == b | _ => false
/-- Whether an operation is wanted, by what is known of the slots. -/
def wantL (L : List (Nat × Value)) (ops : Array Oper) (o : Oper) : Option Bool := match o.guard with
  | none => some true
  | some (g, b) => match dstAt ops g with
    | some t => (match look L t with | some v => some (wantV (some v) b) | none => none)
    | none => none
theorem want_of {A : Act} {L : List (Nat × Value)} {o : Oper} {b : Bool} (hL : AllAt A L) (h : wantL L ops o = some b) : Region.wanted o (yielded ops A.tmps) = b := by
  unfold wantL at h
  unfold Region.wanted
  cases hg : o.guard with
  | none => rw [hg] at h; simpa using h
  | some gb =>
    obtain ⟨g, c⟩ := gb
    rw [hg] at h
    simp only at h ⊢
    unfold dstAt at h
    cases ht : (ops[g]?).bind (·.dst) with
    | none => rw [ht] at h; simp at h
    | some t =>
      rw [ht] at h
      simp only at h
      cases hl : look L t with
      | none => rw [hl] at h; simp at h
      | some v =>
        rw [hl] at h
        simp only [Option.some.injEq] at h
        rw [← h]
        unfold yielded
        rw [ht, Option.bind_some, look_at hL hl]
        cases v <;> simp [wantV]
theorem put_dst {A : Act} {t : Tmp} {v : Value} (h : t < A.tmps.size) : (A.put (some t) v).tmps.getD t undef = v := by simp [Act.put, h]
/-- An operation walked alone. -/
theorem tiny {i : Nat} {o : Oper} {R : Value → World → Prop} {w w0 : World} (L : List (Nat × Value)) (o' : Oper) (t : Nat) (ht : tameOp o = true) (hL : AllAt (Lf ops a0 vals i) L) (hc : covers L o = true) (hw : wantL L ops o = some true) (he : execOp (rho L) o = execOp tiny0.eval o')
    (hd : o.dst = some t) (htl : decide (t < a0.tmps.size) = true) (hd' : o'.dst = some 0) (hg' : o'.guard = none) (h : wpList P #[] (Qo tiny0 R o' w0) [o'] tiny0 w) : wpList P ops (Qo a0 R o w0) [o] (Lf ops a0 vals i) w := by
  have htl := of_decide_eq_true htl
  rw [← Lf_size (ops := ops) (vals := vals) i] at htl
  have hdf := Lf_defers (ops := ops) (a0 := a0) vals i
  generalize Lf ops a0 vals i = A at hL htl hdf ⊢
  have hs : ∀ cs b, o.op ≠ .select cs b := fun cs b e => by simp [tameOp, e] at ht
  have he1 : execOp A.eval o = execOp (rho L) o := execOp_congr o hs (fun x hx => by
    have hx2 := Array.all_eq_true'.1 hc x hx
    cases x with
    | tmp k =>
      simp only at hx2
      obtain ⟨v, hv⟩ := Option.isSome_iff_exists.1 hx2
      have := look_at hL hv
      simp only [Act.eval, rho, Array.getD_eq_getD_getElem?, this, hv]
    | _ => rfl)
  have hwd := want_of (ops := ops) hL hw
  have hw' : Region.wanted o' (yielded #[] tiny0.tmps) = true := by simp [Region.wanted, hg']
  have key : ∀ v w', Qo tiny0 R o' w0 .normal (tiny0.put o'.dst v) w' → Qo a0 R o w0 .normal (A.put o.dst v) w' := by
    rintro v w' ⟨_, h2, h3⟩
    rw [hd'] at h3
    rw [hd]
    refine ⟨hdf, h2, ?_⟩
    rw [hd]
    simp only [put_dst htl]
    have h4 : (tiny0.put (some 0) v).tmps.getD 0 undef = v := put_dst (by simp)
    simp only [h4] at h3
    exact h3
  unfold wpList at h ⊢
  rw [if_pos hw'] at h
  rw [if_pos hwd]
  rcases h with h | h
  · refine .inl ?_
    unfold Oper.wp at h ⊢
    rw [he1, he]
    generalize (execOp tiny0.eval o').run P w = r at h
    cases r with
    | ok n w' =>
      cases n <;> simp only [Oper.upon] at h ⊢
      case value v => unfold wpList at h ⊢; exact key _ _ h
      case skip => unfold wpList at h ⊢; exact key _ _ h
      case defer d =>
        unfold wpList at h
        have := h.1
        rw [hd'] at this
        simp [Act.put] at this
      case enter f args =>
        refine Calls.mono h fun e w'' hq => ?_
        cases e with
        | returned v => unfold wpList at hq ⊢; exact key _ _ hq
        | panicked ch => exact absurd hq (by simp [Qo])
        | outgrown => exact absurd hq (Qo_notOut _ _ _ _)
      case row row args =>
        exact Rows.mono h fun v w'' hq => by unfold wpList at hq ⊢; exact key _ _ hq
      all_goals first | exact h | exact h.elim
    | halt x w' => cases x <;> simp only [Oper.upon] at h ⊢ <;> first | exact h.elim | exact absurd h (by simp [Qo])
  · exact absurd h.2 (Qo_notOut _ _ _ _)
/-- An operation that is not wanted. -/
theorem tiny_no {i : Nat} {o : Oper} {R : Value → World → Prop} {w : World} (L : List (Nat × Value)) (hL : AllAt (Lf ops a0 vals i) L) (hw : wantL L ops o = some false) (t : Nat) (hd : o.dst = some t) (htl : decide (t < a0.tmps.size) = true) (hr : R undef w) :
    wpList P ops (Qo a0 R o w) [o] (Lf ops a0 vals i) w := by
  have htl := of_decide_eq_true htl
  rw [← Lf_size (ops := ops) (vals := vals) i] at htl
  have hdf := Lf_defers (ops := ops) (a0 := a0) vals i
  generalize Lf ops a0 vals i = A at hL htl hdf ⊢
  have hwd := want_of (ops := ops) hL hw
  unfold wpList
  rw [if_neg (by rw [hwd]; simp)]
  unfold wpList
  refine ⟨by rw [hd]; exact hdf, Ext.refl _, ?_⟩
  rw [hd]
  simp only [put_dst htl]
  exact hr
end
end Go.Proofs.Ytmlabgmigakcbaa
