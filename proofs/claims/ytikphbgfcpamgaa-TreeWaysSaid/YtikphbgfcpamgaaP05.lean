/- The region rule for regions in which one extract may come late, behind a store (printed by mk_reg4.py). -/
import Derived.Test.YtikphbgfcpamgaaP04
namespace Go.Proofs.Ytikphbgfcpamgaa
open Go.RowKit

def regM (ops : Array Oper) (m : Nat) : Bool :=
  decide (m ≤ ops.size) &&
  (List.range m).all (fun i => match ops[i]? with
    | none => false
    | some o => (depsOf o).all (fun d => decide (d < i)) &&
      (match o.dst with | none => true | some d => (List.range m).all (fun j => j == i || dstAt ops j != some d)) &&
      (o.looksAt ops).all (fun t => (List.range m).all (fun j => dstAt ops j != some t || (depsOf o).contains j)) && tameOp o)
def storeOp (o : Oper) : Bool := match o.op with | .store .. => true | _ => false
def lateOp (o : Oper) : Bool := (match o.op with | .extract (.tmp _) _ => true | _ => false) && o.guard.isNone
def regChk4 (ops : Array Oper) (m l : Nat) : Bool :=
  regM ops m && decide (l < m) && decide (m < ops.size) &&
  (match ops[l]? with | none => false | some o => lateOp o) &&
  (match ops[m]? with
    | none => false
    | some o => storeOp o && (o.looksAt ops).all (fun t => dstAt ops l != some t) && (o.dst.isNone || dstAt ops m != dstAt ops l) && (List.range m).all (fun j => j == l || (closeDown ops m (depsOf o)).contains j)) &&
  (match ops[l]? with | none => false | some o => (o.looksAt ops).all (fun t => dstAt ops m != some t)) &&
  (List.range (ops.size - m)).all (fun k => k == 0 || (match ops[m + k]? with
    | none => false
    | some o => (List.range m).all (fun j => (closeDown ops m (depsOf o)).contains j)))
def Qn (K : Act → World → Prop) (e : Exit) (a : Act) (w : World) : Prop := match e with | .normal => K a w | _ => False
theorem Qn_of {K : Act → World → Prop} {a : Act} {w : World} (h : K a w) : Qn K .normal a w := h
theorem Qn_notOut (K : Act → World → Prop) : ¬ LetsOut (Qn K) := by
  rintro ⟨_, _, h⟩
  exact h

section
variable {P : Program} {ops : Array Oper} {Q : Exit → Act → World → Prop} {a0 : Act} {w0 : World} {R : Nat → (Nat → Value) → Value → World → Prop} {own : Nat → Value → Option Nat} {m l : Nat}

theorem chk4_m (hc : regChk4 ops m l = true) : regM ops m = true := by
  unfold regChk4 at hc
  simp only [Bool.and_eq_true] at hc
  exact hc.1.1.1.1.1.1
theorem chk4_l (hc : regChk4 ops m l = true) : l < m ∧ m < ops.size := by
  unfold regChk4 at hc
  simp only [Bool.and_eq_true, decide_eq_true_iff] at hc
  exact ⟨hc.1.1.1.1.1.2, hc.1.1.1.1.2⟩
theorem chk4_late (hc : regChk4 ops m l = true) : ∃ o t n, ops[l]? = some o ∧ o.op = .extract (.tmp t) n ∧ o.guard = none ∧ dstAt ops m ≠ some t := by
  unfold regChk4 at hc
  simp only [Bool.and_eq_true] at hc
  have h := hc.1.1.1.2
  have h2 := hc.1.2
  cases ho : ops[l]? with
  | none => simp [ho] at h
  | some o =>
    simp only [ho, lateOp, Bool.and_eq_true, List.all_eq_true] at h h2
    obtain ⟨h3, h4⟩ := h
    cases hop : o.op <;> simp [hop] at h3
    rename_i x n
    cases x <;> simp at h3
    rename_i t
    refine ⟨o, t, n, rfl, hop, by simpa using h4, ?_⟩
    have := h2 t (by simp [Oper.looksAt, hop, Op.operands])
    simpa using this
theorem chk4_op (hc : regChk4 ops m l = true) : ∃ o, ops[m]? = some o ∧ storeOp o = true ∧ (∀ t ∈ o.looksAt ops, dstAt ops l ≠ some t) ∧ (∀ t, o.dst = some t → dstAt ops l ≠ some t) ∧ ∀ j, j < m → j ≠ l → j ∈ closeDown ops m (depsOf o) := by
  unfold regChk4 at hc
  simp only [Bool.and_eq_true] at hc
  have h := hc.1.1.2
  cases ho : ops[m]? with
  | none => simp [ho] at h
  | some o =>
    simp only [ho, Bool.and_eq_true, List.all_eq_true, List.mem_range] at h
    obtain ⟨⟨⟨h1, h2⟩, h3⟩, h4⟩ := h
    refine ⟨o, rfl, h1, fun t ht => by simpa using h2 t ht, fun t ht e => ?_, fun j hj hne => ?_⟩
    · rw [ht] at h3
      have hdm : dstAt ops m = some t := by simp [dstAt, ho, ht]
      rw [hdm, e] at h3
      simp at h3
    · have := h4 j hj
      simp [hne] at this
      exact this
theorem chk4_tail (hc : regChk4 ops m l = true) {i : Nat} (hi : m < i) (hn : i < ops.size) : ∃ o, ops[i]? = some o ∧ ∀ j, j < m → j ∈ closeDown ops m (depsOf o) := by
  unfold regChk4 at hc
  simp only [Bool.and_eq_true, List.all_eq_true, List.mem_range] at hc
  have h := hc.2 (i - m) (by omega)
  rw [show m + (i - m) = i by omega] at h
  have h0 : (i - m == 0) = false := by simp; omega
  rw [h0, Bool.false_or] at h
  cases ho : ops[i]? with
  | none => simp [ho] at h
  | some o =>
    simp only [ho, List.all_eq_true, List.mem_range] at h
    exact ⟨o, rfl, fun j hj => by simpa using h j hj⟩
theorem chk_op4 (hc : regM ops m = true) {i : Nat} (hi : i < m) : ∃ o, ops[i]? = some o ∧ (∀ d ∈ depsOf o, d < i) ∧ (∀ d, o.dst = some d → ∀ j, j < m → j ≠ i → dstAt ops j ≠ some d) ∧
    (∀ t ∈ o.looksAt ops, ∀ j, j < m → dstAt ops j = some t → j ∈ depsOf o) ∧ tameOp o = true := by
  unfold regM at hc
  simp only [Bool.and_eq_true, List.all_eq_true, List.mem_range] at hc
  have h := hc.2 i hi
  cases ho : ops[i]? with
  | none => simp [ho] at h
  | some o =>
    simp only [ho, Bool.and_eq_true, List.all_eq_true, decide_eq_true_iff] at h
    obtain ⟨⟨⟨h1, h2⟩, h3⟩, h4⟩ := h
    refine ⟨o, rfl, h1, ?_, ?_, h4⟩
    · intro d hd j hj hne
      rw [hd] at h2
      simp only [List.all_eq_true, List.mem_range] at h2
      have := h2 j hj
      simp [hne] at this
      exact this
    · intro t ht j hj hd
      have := h3 t ht j (List.mem_range.2 hj)
      simp [hd] at this
      exact this
theorem agree4 (hc : regM ops m = true) {listed : Array Bool} {vals : Nat → Value} {a : Act} {w : World} (hI : Inv ops a0 w0 R m listed vals a w) {i : Nat} (hi : i < m) {o : Oper} (ho : ops[i]? = some o)
    (hd : ∀ d ∈ depsOf o, listed.getD d false = true) : ∀ t ∈ o.looksAt ops, a.tmps[t]? = (Lf ops a0 vals i).tmps[t]? := by
  intro t ht
  obtain ⟨o', ho', h1, h2, h3, _⟩ := chk_op4 hc hi
  rw [ho] at ho'
  injection ho' with ho'
  subst ho'
  by_cases hj : ∃ j, j < m ∧ dstAt ops j = some t
  · obtain ⟨j, hjm, hjt⟩ := hj
    have hjd := h3 t ht j hjm hjt
    have hji := h1 j hjd
    obtain ⟨oj, hoj, _, h2j, _⟩ := chk_op4 hc hjm
    have hdj : oj.dst = some t := by simpa [dstAt, hoj] using hjt
    rcases Nat.lt_or_ge t a0.tmps.size with hlt | hge
    · rw [hI.inner j t hjm (hd j hjd) hjt hlt, Lf_inner vals i j t hji hjt (fun k hk1 hk2 => h2j t hdj k (by omega) (by omega)) hlt]
    · rw [Array.getElem?_eq_none (by rw [hI.tsize]; exact hge), Array.getElem?_eq_none (by rw [Lf_size]; exact hge)]
  · have hj' : ∀ j, j < m → dstAt ops j ≠ some t := fun j hjm hjt => hj ⟨j, hjm, hjt⟩
    rw [hI.outer t (fun j hjm _ => hj' j hjm), Lf_outer vals i t (fun j hji => hj' j (by omega))]

theorem no_defer {ρ : Operand → Value} {o : Oper} {w w' : World} {d : Deferred} (h : storeOp o = true) (hs : (execOp ρ o).run P w = .ok (.defer d) w') : False := by
  cases hop : o.op <;> simp [hop, storeOp] at h
  simp [execOp, hop] at hs
  rename_i a b c
  cases hr : Sem.run P (Instr.storeAt a (ρ b) (ρ c)) w <;> rw [hr] at hs <;> simp at hs
theorem tame_store {o : Oper} (h : storeOp o = true) : tameOp o = true := by
  cases hop : o.op <;> simp [hop, storeOp] at h
  simp [tameOp, hop]
theorem run_n {i : Nat} {o : Oper} {a b : Act} {w : World} {K1 : Act → World → Prop} (hst : storeOp o = true) (hab : ∀ t ∈ o.looksAt ops, a.tmps[t]? = b.tmps[t]?) (ho : ops[i]? = some o)
    {K : Act → World → Prop} (h : wpList P ops (Qn K1) [o] b w) (hK : ∀ v w', K1 (b.put o.dst v) w' → K (a.put o.dst v) w') : wpOp P ops Q i K a w := by
  have ht := tame_store hst
  have hs : ∀ cs b, o.op ≠ .select cs b := fun cs b e => by simp [tameOp, e] at ht
  have he : execOp a.eval o = execOp b.eval o := execOp_congr o hs (eval_agree hab)
  have hw := wanted_agree hab
  unfold wpOp
  simp only [ho]
  rw [hw]
  unfold wpList at h
  cases hwb : Region.wanted o (yielded ops b.tmps)
  · simp only [hwb, Bool.false_eq_true, if_false] at h ⊢
    unfold wpList at h
    exact hK _ _ h
  · simp only [hwb, if_true] at h ⊢
    rcases h with h | h
    · refine .inl ?_
      unfold Oper.wp at h ⊢
      rw [he]
      generalize hrun : (execOp b.eval o).run P w = r at h
      cases r with
      | ok n w' =>
        cases n <;> simp only [Oper.upon] at h ⊢
        case value v => unfold wpList at h; exact hK _ _ h
        case skip => unfold wpList at h; exact hK _ _ h
        case defer d =>
          exfalso
          exact no_defer hst hrun
        case enter f args =>
          refine Calls.mono h fun e w'' hq => ?_
          cases e with
          | returned v => unfold wpList at hq; exact hK _ _ hq
          | panicked ch => exact absurd hq (by simp [Qn])
          | outgrown => exact absurd hq (Qn_notOut _)
        case row row args =>
          exact Rows.mono h fun v w'' hq => by unfold wpList at hq; exact hK _ _ hq
        all_goals exact h
      | halt x w' => cases x <;> simp only [Oper.upon] at h ⊢ <;> first | exact h.elim | exact absurd h (by simp [Qn])
    · exact absurd h.2 (Qn_notOut _)

theorem extract_val {o : Oper} {t n : Nat} {b : Act} {w : World} {Ri : Value → World → Prop} (hop : o.op = .extract (.tmp t) n) (hg : o.guard = none) (h : wpList P ops (Qo a0 Ri o w) [o] b w) :
    ∃ v, Ri (slotOf o (b.put o.dst v)) w ∧ ∀ (i : Nat) (a : Act) (w' : World) (K : Act → World → Prop), ops[i]? = some o → a.tmps[t]? = b.tmps[t]? → K (a.put o.dst v) w' → wpOp P ops Q i K a w' := by
  have hwant : ∀ a : Act, Region.wanted o (yielded ops a.tmps) = true := fun a => by simp [Region.wanted, hg]
  unfold wpList at h
  rw [if_pos (hwant b)] at h
  rcases h with h | h
  · have he : ∀ a : Act, ∀ w : World, (execOp a.eval o).run P w = ((Instr.extract (a.eval (.tmp t)) n).run P w).andThen fun v w => .ok (.value v) w := fun a w => by
      simp [execOp, hop]
    unfold Oper.wp at h
    rw [he] at h
    cases hv : b.eval (.tmp t) with
    | tuple vs =>
      rw [hv] at h
      cases hn : vs[n]? with
      | none => simp [Instr.extract, hn, Oper.upon, stuck] at h
      | some v =>
        simp only [Instr.extract, hn, Sem.run_pure, Result.andThen_ok, Oper.upon] at h
        unfold wpList at h
        refine ⟨v, h.2.2, fun i a w' K ho hab hK => ?_⟩
        have hav : a.eval (.tmp t) = .tuple vs := by rw [← hv]; simp only [Act.eval, Array.getD_eq_getD_getElem?, hab]
        unfold wpOp
        simp only [ho, if_pos (hwant a)]
        refine .inl ?_
        unfold Oper.wp
        rw [he, hav]
        simp only [Instr.extract, hn, Sem.run_pure, Result.andThen_ok, Oper.upon]
        exact hK
    | _ => rw [hv] at h; simp [Instr.extract, Oper.upon, stuck] at h
  · exact absurd h.2 (Qo_notOut _ _ _ _)
theorem put_comm (a : Act) (d e : Option Tmp) (v u : Value) (h : ∀ t, d = some t → e ≠ some t) : (a.put d v).put e u = (a.put e u).put d v := by
  cases d with
  | none => cases e <;> rfl
  | some d =>
    cases e with
    | none => rfl
    | some e =>
      have hne : d ≠ e := fun x => h d rfl (by rw [x])
      simp only [Act.put]
      rw [Array.setIfInBounds_comm _ _ hne]
theorem wpAny_of_obl4 (hc : regChk4 ops m l = true) (hr1 : Region.ready .any ops (litL ops.size m) = [m]) (hr2 : Region.ready .any ops (((litL ops.size m).setIfInBounds l false).setIfInBounds m true) = [l]) (om : Oper) (hom : ops[m]? = some om) (hlt : ∀ i vals v w, i < m → R i vals v w → ∀ k, own i v = some k → k < w.heap.size) (hst : ∀ i vals v w w', i < m → R i vals v w → Ext w w' → R i vals v w') (hloc : ∀ i vals vals' v w, i < m → (∀ d, anc ops i d = true → vals d = vals' d) → R i vals v w → R i vals' v w) (hob : ∀ i o, i < m → ops[i]? = some o → Obl2 P ops a0 w0 R own i o)
    (hfin : ∀ (vals : Nat → Value) (w : World), Ext w0 w → (∀ i, i < m → R i vals (vals i) w) → Apart m own vals → wpList P ops (Qn (wpAny P .any ops Q (ops.size - m - 1) ((litL ops.size m).setIfInBounds m true))) [om] (Lf ops a0 vals m) w) :
    ∀ (c : Nat) (listed : Array Bool) (vals : Nat → Value) (a : Act) (w : World), unl listed m = c → Inv ops a0 w0 R m listed vals a w → ApartL m own listed vals → wpAny P .any ops Q (ops.size - m + c) listed a w := by
  obtain ⟨hlm, hms⟩ := chk4_l hc
  obtain ⟨om', hom', htm, hlookm, hdstm, hclm⟩ := chk4_op hc
  rw [hom] at hom'
  injection hom' with hom'
  subst hom'
  have hzero : ∀ (listed : Array Bool) (vals : Nat → Value) (a : Act) (w : World), unl listed m = 0 → Inv ops a0 w0 R m listed vals a w → ApartL m own listed vals → listed = litL ops.size m ∧ wpList P ops (Qn (wpAny P .any ops Q (ops.size - m - 1) ((litL ops.size m).setIfInBounds m true))) [om] a w := by
    intro listed vals a w hu hI hA
    have hall := unl_zero hu
    have hlit : listed = litL ops.size m := by
      apply Array.ext
      · simp [litL, hI.size]
      · intro i h1 h2
        have hg : listed.getD i false = listed[i] := by simp [Array.getD_eq_getD_getElem?, h1]
        rcases Nat.lt_or_ge i m with h | h
        · have := hall i h
          rw [hg] at this
          simp [litL, this, h]
        · have := hI.tail i h
          rw [hg] at this
          simp [litL, this, Nat.not_lt.2 h]
    have ha : a = Lf ops a0 vals m := by
      have ht : a.tmps = (Lf ops a0 vals m).tmps := by
        apply Array.ext_getElem?
        intro t
        by_cases hj : ∃ j, j < m ∧ dstAt ops j = some t
        · obtain ⟨j, hjm, hjt⟩ := hj
          obtain ⟨oj, hoj, _, h2j, _⟩ := chk_op4 (chk4_m hc) hjm
          have hdj : oj.dst = some t := by simpa [dstAt, hoj] using hjt
          rcases Nat.lt_or_ge t a0.tmps.size with hlt | hge
          · rw [hI.inner j t hjm (hall j hjm) hjt hlt, Lf_inner vals m j t hjm hjt (fun k hk1 hk2 => h2j t hdj k hk2 (by omega)) hlt]
          · rw [Array.getElem?_eq_none (by rw [hI.tsize]; exact hge), Array.getElem?_eq_none (by rw [Lf_size]; exact hge)]
        · have hj' : ∀ j, j < m → dstAt ops j ≠ some t := fun j hjm hjt => hj ⟨j, hjm, hjt⟩
          rw [hI.outer t (fun j hjm _ => hj' j hjm), Lf_outer vals m t (fun j hji => hj' j hji)]
      have hd : a.defers = (Lf ops a0 vals m).defers := by rw [Lf_defers, hI.defers]
      cases a
      cases hL : Lf ops a0 vals m
      simp_all
    refine ⟨hlit, ?_⟩
    rw [ha]
    exact hfin vals w hI.ext (fun i hi => hI.facts i hi (hall i hi)) fun i j hi hj hne => hA i j hi hj hne (hall i hi) (hall j hj)
  have hsm : ops.size - m = ops.size - m - 1 + 1 := by omega
  intro c
  induction c with
  | zero =>
    intro listed vals a w hu hI hA
    obtain ⟨hl, hw⟩ := hzero listed vals a w hu hI hA
    rw [Nat.add_zero, hsm, hl]
    refine ⟨fun e => (by rw [hr1] at e; cases e), fun j hj => ?_⟩
    rw [hr1] at hj
    obtain rfl : j = m := by simpa using hj
    exact run_n htm (fun _ _ => rfl) hom hw fun v w' h => h
  | succ c ih =>
    intro listed vals a w hu hI hA
    have hgt : ∀ i, i < listed.size → listed.getD i true = listed.getD i false := fun i hi => by simp [Array.getD_eq_getD_getElem?, hi]
    obtain ⟨i0, hi0, hun0, hall0⟩ := unl_pos (m := m) (listed := listed) (by omega)
    obtain ⟨o0, ho0, hd0, _⟩ := chk_op4 (chk4_m hc) hi0
    have hr0 : i0 ∈ Region.ready .any ops listed := ready_of (by omega) (by rw [hgt _ (by rw [hI.size]; omega)]; exact hun0) ho0 fun d hd => hall0 d (hd0 d hd)
    have hstep : ∀ i o, i < m → i ∈ Region.ready .any ops listed → ops[i]? = some o → ∀ v w', Ext w w' → (R i vals (slotOf o ((Lf ops a0 vals i).put o.dst v)) w' ∧ ∀ k, own i (slotOf o ((Lf ops a0 vals i).put o.dst v)) = some k → w.heap.size ≤ k) →
        ∃ vals', unl (listed.setIfInBounds i true) m = c ∧ Inv ops a0 w0 R m (listed.setIfInBounds i true) vals' (a.put o.dst v) w' ∧ ApartL m own (listed.setIfInBounds i true) vals' := by
      intro i o him hi ho0'
      obtain ⟨hin, hiu, o1, ho, hdl⟩ := ready_spec hi
      rw [ho0'] at ho
      injection ho with ho
      subst ho
      have ho := ho0'
      obtain ⟨o', ho', hdi, hdist, hlook, htame⟩ := chk_op4 (chk4_m hc) him
      rw [ho] at ho'
      injection ho' with ho'
      subst ho'
      have hiL : i < listed.size := by rw [hI.size]; exact hin
      have hiu' : listed.getD i false = false := by rw [← hgt i hiL]; exact hiu
      have hanc : ∀ d, anc ops i d = true → listed.getD d false = true := fun d hd => by
        unfold anc at hd
        refine close_listed hI.closed i _ (by omega) (fun d hd => ?_) d (by simpa using hd)
        exact hdl d (by simpa [depsAt, ho] using hd)
      have hltm : ∀ d, listed.getD d false = true → d < m := fun d hd => by
        rcases Nat.lt_or_ge d m with h | h
        · exact h
        · rw [hI.tail d h] at hd; cases hd
      rintro v w' hext ⟨hR, hfr⟩
      refine ⟨fun j => if j = i then slotOf o ((Lf ops a0 vals i).put o.dst v) else vals j, by have := unl_set listed i him hiL hiu'; omega, ?_, ?_⟩
      rotate_left
      · intro j j' hj hj' hne hl hl' k hk
        rw [getD_set listed i j hiL] at hl
        rw [getD_set listed i j' hiL] at hl'
        by_cases hji : j = i
        · subst hji
          have hj'i : j' ≠ j := fun e => hne e.symm
          rw [if_neg hj'i] at hl'
          simp only [if_true] at hk
          simp only [hj'i, if_false]
          intro hk'
          have h1 := hfr k hk
          have h2 := hlt j' vals _ w hj' (hI.facts j' hj' hl') k hk'
          omega
        · rw [if_neg hji] at hl
          simp only [hji, if_false] at hk
          by_cases hj'i : j' = i
          · subst hj'i
            simp only [if_true]
            intro hk'
            have h1 := hfr k hk'
            have h2 := hlt j vals _ w hj (hI.facts j hj hl) k hk
            omega
          · rw [if_neg hj'i] at hl'
            simp only [hj'i, if_false]
            exact hA j j' hj hj' hne hl hl' k hk
      have hdo : dstAt ops i = o.dst := by simp [dstAt, ho]
      constructor
      · exact hI.ext.trans hext
      · simp [hI.size]
      · intro j hj
        rw [getD_set listed i j hiL, if_neg (by omega)]
        exact hI.tail j hj
      · intro j hj hl d hd
        rw [getD_set listed i d hiL]
        rw [getD_set listed i j hiL] at hl
        by_cases hji : j = i
        · subst hji
          have : d ∈ depsOf o := by simpa [depsAt, ho] using hd
          rw [hdl d this]
          simp
        · rw [if_neg hji] at hl
          rw [hI.closed j hj hl d hd]
          simp
      · intro j hj hl
        rw [getD_set listed i j hiL] at hl
        by_cases hji : j = i
        · subst hji
          simp only [if_true]
          refine hloc j vals _ _ w' hj (fun d hd => ?_) hR
          have hdj : d ≠ j := fun e => by
            have := hanc d hd
            rw [e, hiu'] at this
            cases this
          simp [hdj]
        · rw [if_neg hji] at hl
          simp only [hji, if_false]
          refine hloc j vals _ _ w' hj (fun d hd => ?_) (hst j vals _ w w' hj (hI.facts j hj hl) hext)
          have hdl' : listed.getD d false = true := by
            unfold anc at hd
            exact close_listed hI.closed j _ (by omega) (fun d hd => hI.closed j hj hl d hd) d (by simpa using hd)
          have hdi' : d ≠ i := fun e => by
            rw [e, hiu'] at hdl'
            cases hdl'
          simp [hdi']
      · cases hd : o.dst <;> simp [Act.put, hI.defers]
      · cases hd : o.dst <;> simp [Act.put, hI.tsize]
      · intro t ht
        rw [put_get, if_neg (by rw [← hdo]; exact ht i him (by rw [getD_set listed i i hiL, if_pos rfl]))]
        refine hI.outer t fun j hj hl => ht j hj ?_
        rw [getD_set listed i j hiL]
        split
        · rfl
        · exact hl
      · intro j t hj hl hdj htl
        rw [put_get]
        by_cases hji : j = i
        · subst hji
          rw [hdo] at hdj
          rw [if_pos hdj, if_pos (by rw [hI.tsize]; exact htl)]
          have h2 := put_get (Lf ops a0 vals j) o.dst v t
          rw [if_pos hdj, if_pos (by rw [Lf_size]; exact htl)] at h2
          simp only [if_true, slotOf, hdj, Array.getD_eq_getD_getElem?]
          rw [hdj] at h2
          rw [h2]
          rfl
        · rw [getD_set listed i j hiL, if_neg hji] at hl
          rw [if_neg (fun e => hdist t e j hj hji hdj)]
          simp only [hji, if_false]
          exact hI.inner j t hj hl hdj htl
    show wpAny P .any ops Q ((ops.size - m + c) + 1) listed a w
    unfold wpAny
    refine ⟨fun hnil => absurd hr0 (by rw [hnil]; simp), fun i hi => ?_⟩
    obtain ⟨hin, hiu, o, ho, hdl⟩ := ready_spec hi
    rcases Nat.lt_or_ge i m with him | him
    · have hs := hstep i o him hi ho
      obtain ⟨o', ho', hdi, hdist, hlook, htame⟩ := chk_op4 (chk4_m hc) him
      rw [ho] at ho'
      injection ho' with ho'
      subst ho'
      have hiL : i < listed.size := by rw [hI.size]; exact hin
      have hiu' : listed.getD i false = false := by rw [← hgt i hiL]; exact hiu
      have hanc : ∀ d, anc ops i d = true → listed.getD d false = true := fun d hd => by
        unfold anc at hd
        refine close_listed hI.closed i _ (by omega) (fun d hd => ?_) d (by simpa using hd)
        exact hdl d (by simpa [depsAt, ho] using hd)
      have hltm : ∀ d, listed.getD d false = true → d < m := fun d hd => by
        rcases Nat.lt_or_ge d m with h | h
        · exact h
        · rw [hI.tail d h] at hd; cases hd
      refine run_obl htame (Lf_defers vals i) (agree4 (chk4_m hc) hI him ho hdl) ho (hob i o him ho vals w hI.ext (fun d hd => hI.facts d (by have := hdi d hd; omega) (hdl d hd)) (fun d hd => hI.facts d (hltm d (hanc d hd)) (hanc d hd))) ?_
      intro v w' hext hR
      obtain ⟨vals', h1, h2, h3⟩ := hs v w' hext hR
      exact ih _ vals' _ _ h1 h2 h3
    · have him' : i = m := by
        rcases Nat.lt_or_ge m i with h | h
        · obtain ⟨o', ho', ht⟩ := chk4_tail hc h hin
          rw [ho] at ho'
          injection ho' with ho'
          subst ho'
          have := close_listed hI.closed m _ (Nat.le_refl _) hdl i0 (ht i0 hi0)
          rw [hun0] at this
          cases this
        · omega
      subst him'
      rw [hom] at ho
      injection ho with ho
      subst ho
      have hlist : ∀ j, j < i → j ≠ l → listed.getD j false = true := fun j hj hne => close_listed hI.closed i _ (Nat.le_refl _) hdl j (hclm j hj hne)
      have hl0 : i0 = l := by
        by_cases e : i0 = l
        · exact e
        · have := hlist i0 hi0 e
          rw [hun0] at this
          cases this
      subst hl0
      obtain ⟨ol, t, n, hol, hop, hg, hdt⟩ := chk4_late hc
      obtain ⟨_, _, ol', hol', hdll⟩ := ready_spec hr0
      rw [hol] at hol'
      injection hol' with hol'
      subst hol'
      obtain ⟨ol', hol', hdil, _, _, _⟩ := chk_op4 (chk4_m hc) hi0
      rw [hol] at hol'
      injection hol' with hol'
      subst hol'
      have hltm : ∀ d, listed.getD d false = true → d < i := fun d hd => by
        rcases Nat.lt_or_ge d i with h | h
        · exact h
        · rw [hI.tail d h] at hd; cases hd
      have hancl : ∀ d, anc ops i0 d = true → listed.getD d false = true := fun d hd => by
        unfold anc at hd
        refine close_listed hI.closed i0 _ (by omega) (fun d hd => ?_) d (by simpa using hd)
        exact hdll d (by simpa [depsAt, hol] using hd)
      have hobl := hob i0 ol hi0 hol vals w hI.ext (fun d hd => hI.facts d (by have := hdil d hd; omega) (hdll d hd)) (fun d hd => hI.facts d (hltm d (hancl d hd)) (hancl d hd))
      obtain ⟨v, hRv, hpure⟩ := extract_val (P := P) (Q := Q) hop hg hobl
      obtain ⟨vals', h1, h2, h3⟩ := hstep i0 ol hi0 hr0 hol v w (Ext.refl w) hRv
      have hiL : i0 < listed.size := by rw [hI.size]; omega
      have hc0 : c = 0 := by
        rw [← h1]
        unfold unl
        rw [List.length_eq_zero_iff, List.filter_eq_nil_iff]
        intro j hj
        rw [getD_set listed i0 j hiL]
        by_cases e : j = i0
        · simp [e]
        · rw [if_neg e, hlist j (List.mem_range.1 hj) e]; simp
      rw [hc0] at h1
      obtain ⟨hlit, hw⟩ := hzero _ vals' _ w h1 h2 h3
      have hdl0 : dstAt ops i0 = ol.dst := by simp [dstAt, hol]
      refine run_n htm (fun t ht => ?_) hom hw ?_
      · rw [put_get, if_neg (by rw [← hdl0]; exact hlookm t ht)]
      intro u w2 hk
      rw [hc0, Nat.add_zero, hsm]
      have hlf : listed = (litL ops.size i).setIfInBounds i0 false := by
        rw [← hlit, Array.setIfInBounds_setIfInBounds]
        apply Array.ext_getElem?
        intro j
        rw [Array.getElem?_setIfInBounds]
        split
        · rename_i e
          subst e
          have := hun0
          rw [Array.getD_eq_getD_getElem?, Array.getElem?_eq_getElem hiL] at this
          rw [Array.getElem?_eq_getElem hiL]
          simpa using this
        · rfl
      have hr3 : Region.ready .any ops (listed.setIfInBounds i true) = [i0] := by rw [hlf]; exact hr2
      refine ⟨fun e => (by rw [hr3] at e; cases e), fun j hj => ?_⟩
      rw [hr3] at hj
      obtain rfl : j = i0 := by simpa using hj
      refine hpure j _ w2 _ hol ?_ ?_
      · have hdm : dstAt ops i = om.dst := by simp [dstAt, hom]
        rw [put_get, if_neg (by rw [← hdm]; exact hdt)]
        have hag := agree4 (chk4_m hc) hI hi0 hol hdll t (by simp [Oper.looksAt, hop, Op.operands])
        exact hag
      · rw [put_comm _ _ _ _ _ (fun t ht => by rw [← hdl0]; exact hdstm t ht)]
        have he : (listed.setIfInBounds i true).setIfInBounds j true = (litL ops.size i).setIfInBounds i true := by
          rw [Array.setIfInBounds_comm _ _ (by omega), hlit]
        rw [he]
        exact hk
theorem wp_region_late {id : Nat} {a : Act} {w : World} (m l : Nat) (R : Nat → (Nat → Value) → Value → World → Prop) (own : Nat → Value → Option Nat) (hm : P.follows .mixedOrders = true) (hc : regChk4 ops m l = true) (hr1 : Region.ready .any ops (litL ops.size m) = [m]) (hr2 : Region.ready .any ops (((litL ops.size m).setIfInBounds l false).setIfInBounds m true) = [l]) (om : Oper) (hom : ops[m]? = some om) (hlt : ∀ i vals v w, i < m → R i vals v w → ∀ k, own i v = some k → k < w.heap.size) (hst : ∀ i vals v w w', i < m → R i vals v w → Ext w w' → R i vals v w') (hloc : ∀ i vals vals' v w, i < m → (∀ d, anc ops i d = true → vals d = vals' d) → R i vals v w → R i vals' v w)
    (hob : Obls2 P ops a w.drew R own 0 (ops.toList.take m))
    (hfin : ∀ (vals : Nat → Value) (w' : World), Ext w.drew w' → (∀ i, i < m → R i vals (vals i) w') → Apart m own vals → wpList P ops (Qn (wpAny P .any ops Q (ops.size - m - 1) ((litL ops.size m).setIfInBounds m true))) [om] (Lf ops a vals m) w') : (Code.region id ops true).wp P Q a w := by
  refine wp_region_any hm ?_
  have hsz : m ≤ ops.size := by have := (chk4_l hc).2; omega
  have hunl : unl (Array.replicate ops.size false) m = m := by
    unfold unl
    rw [List.filter_eq_self.2 (fun i hi => by simp [Array.getD_eq_getD_getElem?, Array.getElem?_replicate]; split <;> rfl)]
    simp
  have h := wpAny_of_obl4 (P := P) (Q := Q) (a0 := a) (w0 := w.drew) hc hr1 hr2 om hom hlt hst hloc (fun i o hi ho => by
    have := obls_at2 (P := P) (ops := ops) (a0 := a) (w0 := w.drew) (R := R) (own := own) _ 0 hob i o (by rw [List.getElem?_take, if_pos hi]; simpa using ho)
    simpa using this) hfin m (Array.replicate ops.size false) (fun _ => undef) a w.drew hunl ?_ (fun i j _ _ _ h => by simp [Array.getD_eq_getD_getElem?, Array.getElem?_replicate] at h; split at h <;> cases h)
  · rw [show ops.size - m + m = ops.size by omega] at h
    exact h
  · have hf : ∀ i, (Array.replicate ops.size false).getD i false = false := fun i => by simp [Array.getD_eq_getD_getElem?, Array.getElem?_replicate]; split <;> rfl
    constructor
    · exact Ext.refl _
    · simp
    · intro i _; exact hf i
    · intro i _ h; rw [hf] at h; cases h
    · intro i _ h; rw [hf] at h; cases h
    · rfl
    · rfl
    · intro t _; rfl
    · intro i t _ h; rw [hf] at h; cases h

theorem wpList1_mono {o : Oper} {b : Act} {w : World} {Q1 Q2 : Exit → Act → World → Prop} (hq : ∀ e a w, Q1 e a w → Q2 e a w) (h : wpList P ops Q1 [o] b w) : wpList P ops Q2 [o] b w := by
  unfold wpList at h ⊢
  split at h
  · rename_i hw
    rw [if_pos hw]
    rcases h with h | ⟨h1, a, w', h2⟩
    · refine .inl ?_
      unfold Oper.wp at h ⊢
      generalize (execOp b.eval o).run P w = r at h
      cases r with
      | ok n w' =>
        cases n <;> simp only [Oper.upon] at h ⊢
        case value v => unfold wpList at h ⊢; exact hq _ _ _ h
        case skip => unfold wpList at h ⊢; exact hq _ _ _ h
        case defer d => unfold wpList at h ⊢; exact hq _ _ _ h
        case enter f args =>
          refine Calls.mono h fun e w'' hx => ?_
          cases e with
          | returned v => unfold wpList at hx ⊢; exact hq _ _ _ hx
          | panicked ch => exact hq _ _ _ hx
          | outgrown => obtain ⟨a, w', h2⟩ := hx; exact ⟨a, w', hq _ _ _ h2⟩
        case row row args =>
          exact Rows.mono h fun v w'' hx => by unfold wpList at hx ⊢; exact hq _ _ _ hx
        all_goals exact h
      | halt x w' => cases x <;> simp only [Oper.upon] at h ⊢ <;> first | exact h.elim | exact hq _ _ _ h
    · exact .inr ⟨h1, a, w', hq _ _ _ h2⟩
  · rename_i hw
    rw [if_neg hw]
    unfold wpList at h ⊢
    exact hq _ _ _ h
theorem plain1 {o : Oper} {b : Act} {w w1 : World} {Ri : Value → World → Prop} {f : Value → Option Nat} (hf : ∀ v, f v = none) (h : wpList P ops (Qo a0 Ri o w1) [o] b w) : wpList P ops (Qo a0 (fun v w' => Ri v w' ∧ ∀ k, f v = some k → w1.heap.size ≤ k) o w1) [o] b w := by
  refine wpList1_mono (fun e a w2 hx => ?_) h
  cases e with
  | normal => exact ⟨hx.1, hx.2.1, hx.2.2, fun k hk => by rw [hf] at hk; cases hk⟩
  | _ => exact hx
end
end Go.Proofs.Ytikphbgfcpamgaa
