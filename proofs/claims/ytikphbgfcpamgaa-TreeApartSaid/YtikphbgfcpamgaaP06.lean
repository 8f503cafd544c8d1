/- Whole structs in rows; comparisons of numbers, and of slots. -/
import Derived.Test.YtikphbgfcpamgaaP05
import Derived.Test.YtikphbgfcpamgaaP03
import Derived.Deep.MidRow
namespace Go.Proofs.Ytikphbgfcpamgaa
open Go.RowKit

theorem wpAny_qn {P : Program} {ops : Array Oper} {Q : Exit → Act → World → Prop} : ∀ (fuel : Nat) (listed : Array Bool) (a : Act) (w : World), wpAny P .any ops (Qn (Q .normal)) fuel listed a w → wpAny P .any ops Q fuel listed a w := by
  intro fuel
  induction fuel with
  | zero => intro listed a w h; exact ⟨h.1, h.2⟩
  | succ n ih =>
    intro listed a w h
    unfold wpAny at h ⊢
    refine ⟨fun e => h.1 e, fun i hi => ?_⟩
    have h2 := h.2 i hi
    unfold wpOp at h2 ⊢
    cases ho : ops[i]? with
    | none => rw [ho] at h2; exact ih _ _ _ h2
    | some o =>
      rw [ho] at h2
      simp only at h2 ⊢
      by_cases hw : Region.wanted o (yielded ops a.tmps) = true
      · rw [if_pos hw] at h2 ⊢
        rcases h2 with h2 | h2
        · refine .inl ?_
          unfold Oper.wp at h2 ⊢
          generalize (execOp a.eval o).run P w = r at h2
          cases r with
          | ok n w' =>
            cases n <;> simp only [Oper.upon] at h2 ⊢
            case value v => exact ih _ _ _ h2
            case skip => exact ih _ _ _ h2
            case defer d => exact ih _ _ _ h2
            case enter f args =>
              refine Calls.mono h2 fun e w'' hq => ?_
              cases e with
              | returned v => exact ih _ _ _ hq
              | panicked ch => exact absurd hq (by simp [Qn])
              | outgrown => exact absurd hq (Qn_notOut _)
            case row row args => exact Rows.mono h2 fun v w'' hq => ih _ _ _ hq
            all_goals exact h2
          | halt x w' => cases x <;> simp only [Oper.upon] at h2 ⊢ <;> first | exact h2.elim | exact absurd h2 (by simp [Qn])
        · exact absurd h2.2 (Qn_notOut _)
      · rw [if_neg hw] at h2 ⊢
        exact ih _ _ _ h2

def tailP (ops : Array Oper) (m : Nat) (pre : List Nat) : Bool :=
  (List.range (ops.size - m)).all (fun k => match ops[m + k]? with
    | none => false
    | some o => (List.range m).all (fun j => pre.contains j || (closeDown ops m (depsOf o)).contains j))
section
variable {P : Program} {ops : Array Oper} {Q : Exit → Act → World → Prop} {a0 : Act} {w0 : World} {R : Nat → (Nat → Value) → Value → World → Prop} {m : Nat} {pre : List Nat}
theorem chkP_tail (hc : tailP ops m pre = true) {i : Nat} (hi : m ≤ i) (hn : i < ops.size) : ∃ o, ops[i]? = some o ∧ ∀ j, j < m → j ∈ pre ∨ j ∈ closeDown ops m (depsOf o) := by
  unfold tailP at hc
  simp only [List.all_eq_true, List.mem_range] at hc
  have h := hc (i - m) (by omega)
  rw [show m + (i - m) = i by omega] at h
  cases ho : ops[i]? with
  | none => simp [ho] at h
  | some o =>
    simp only [ho, List.all_eq_true, List.mem_range] at h
    exact ⟨o, rfl, fun j hj => by simpa using h j hj⟩
theorem regM_size (hc : regM ops m = true) : m ≤ ops.size := by
  unfold regM at hc
  simp only [Bool.and_eq_true, decide_eq_true_iff] at hc
  exact hc.1

theorem wpAny_of_oblP (hc : regM ops m = true) (hT : tailP ops m pre = true) (hst : ∀ i vals v w w', i < m → R i vals v w → Ext w w' → R i vals v w') (hloc : ∀ i vals vals' v w, i < m → (∀ d, anc ops i d = true → vals d = vals' d) → R i vals v w → R i vals' v w) (hob : ∀ i o, i < m → ops[i]? = some o → Obl P ops a0 w0 R i o)
    (hfin : ∀ (vals : Nat → Value) (w : World), Ext w0 w → (∀ i, i < m → R i vals (vals i) w) → wpAny P .any ops Q (ops.size - m) (litL ops.size m) (Lf ops a0 vals m) w) :
    ∀ (c : Nat) (listed : Array Bool) (vals : Nat → Value) (a : Act) (w : World), unl listed m = c → (∀ j ∈ pre, listed.getD j false = true) → Inv ops a0 w0 R m listed vals a w → wpAny P .any ops Q (ops.size - m + c) listed a w := by
  intro c
  induction c with
  | zero =>
    intro listed vals a w hu hpre hI
    have hall := unl_zero hu
    have hsz := regM_size hc
    have hlit : listed = litL ops.size m := by
      apply Array.ext
      · simp [litL, hI.size]
      · intro i h1 h2
        have hg : listed.getD i false = listed[i] := by simp [Array.getD_eq_getD_getElem?, h1]
        rcases Nat.lt_or_ge i m with h | h
        · have := hall i h
          rw [hg] at this
          simp [litL, this, h]
        · have := hI.tail i h
          rw [hg] at this
          simp [litL, this, Nat.not_lt.2 h]
    have ha : a = Lf ops a0 vals m := by
      have ht : a.tmps = (Lf ops a0 vals m).tmps := by
        apply Array.ext_getElem?
        intro t
        by_cases hj : ∃ j, j < m ∧ dstAt ops j = some t
        · obtain ⟨j, hjm, hjt⟩ := hj
          obtain ⟨oj, hoj, _, h2j, _⟩ := chk_op4 hc hjm
          have hdj : oj.dst = some t := by simpa [dstAt, hoj] using hjt
          rcases Nat.lt_or_ge t a0.tmps.size with hlt | hge
          · rw [hI.inner j t hjm (hall j hjm) hjt hlt, Lf_inner vals m j t hjm hjt (fun k hk1 hk2 => h2j t hdj k hk2 (by omega)) hlt]
          · rw [Array.getElem?_eq_none (by rw [hI.tsize]; exact hge), Array.getElem?_eq_none (by rw [Lf_size]; exact hge)]
        · have hj' : ∀ j, j < m → dstAt ops j ≠ some t := fun j hjm hjt => hj ⟨j, hjm, hjt⟩
          rw [hI.outer t (fun j hjm _ => hj' j hjm), Lf_outer vals m t (fun j hji => hj' j hji)]
      have hd : a.defers = (Lf ops a0 vals m).defers := by rw [Lf_defers, hI.defers]
      cases a
      cases hL : Lf ops a0 vals m
      simp_all
    rw [hlit, ha]
    exact hfin vals w hI.ext fun i hi => hI.facts i hi (hall i hi)
  | succ c ih =>
    intro listed vals a w hu hpre hI
    have hsz := regM_size hc
    have hgt : ∀ i, i < listed.size → listed.getD i true = listed.getD i false := fun i hi => by simp [Array.getD_eq_getD_getElem?, hi]
    obtain ⟨i0, hi0, hun0, hall0⟩ := unl_pos (m := m) (listed := listed) (by omega)
    obtain ⟨o0, ho0, hd0, _⟩ := chk_op4 hc hi0
    have hr0 : i0 ∈ Region.ready .any ops listed := ready_of (by omega) (by rw [hgt _ (by rw [hI.size]; omega)]; exact hun0) ho0 fun d hd => hall0 d (hd0 d hd)
    show wpAny P .any ops Q ((ops.size - m + c) + 1) listed a w
    unfold wpAny
    refine ⟨fun hnil => absurd hr0 (by rw [hnil]; simp), fun i hi => ?_⟩
    obtain ⟨hin, hiu, o, ho, hdl⟩ := ready_spec hi
    have him : i < m := by
      rcases Nat.lt_or_ge i m with h | h
      · exact h
      · obtain ⟨o', ho', ht⟩ := chkP_tail hT h hin
        rw [ho] at ho'
        injection ho' with ho'
        subst ho'
        rcases ht i0 hi0 with hp | hp
        · have := hpre i0 hp
          rw [hun0] at this
          cases this
        · have := close_listed hI.closed m _ (Nat.le_refl _) hdl i0 hp
          rw [hun0] at this
          cases this
    obtain ⟨o', ho', hdi, hdist, hlook, htame⟩ := chk_op4 hc him
    rw [ho] at ho'
    injection ho' with ho'
    subst ho'
    have hiL : i < listed.size := by rw [hI.size]; exact hin
    have hiu' : listed.getD i false = false := by rw [← hgt i hiL]; exact hiu
    have hanc : ∀ d, anc ops i d = true → listed.getD d false = true := fun d hd => by
      unfold anc at hd
      refine close_listed hI.closed i _ (by omega) (fun d hd => ?_) d (by simpa using hd)
      exact hdl d (by simpa [depsAt, ho] using hd)
    have hltm : ∀ d, listed.getD d false = true → d < m := fun d hd => by
      rcases Nat.lt_or_ge d m with h | h
      · exact h
      · rw [hI.tail d h] at hd; cases hd
    refine run_obl htame (Lf_defers vals i) (agree4 hc hI him ho hdl) ho (hob i o him ho vals w hI.ext (fun d hd => hI.facts d (by have := hdi d hd; omega) (hdl d hd)) (fun d hd => hI.facts d (hltm d (hanc d hd)) (hanc d hd))) ?_
    intro v w' hext hR
    refine ih _ (fun j => if j = i then slotOf o ((Lf ops a0 vals i).put o.dst v) else vals j) _ _ (by have := unl_set listed i him hiL hiu'; omega) (fun j hj => by rw [getD_set listed i j hiL]; split; rfl; exact hpre j hj) ?_
    have hdo : dstAt ops i = o.dst := by simp [dstAt, ho]
    constructor
    · exact hI.ext.trans hext
    · simp [hI.size]
    · intro j hj
      rw [getD_set listed i j hiL, if_neg (by omega)]
      exact hI.tail j hj
    · intro j hj hl d hd
      rw [getD_set listed i d hiL]
      rw [getD_set listed i j hiL] at hl
      by_cases hji : j = i
      · subst hji
        have : d ∈ depsOf o := by simpa [depsAt, ho] using hd
        rw [hdl d this]
        simp
      · rw [if_neg hji] at hl
        rw [hI.closed j hj hl d hd]
        simp
    · intro j hj hl
      rw [getD_set listed i j hiL] at hl
      by_cases hji : j = i
      · subst hji
        simp only [if_true]
        refine hloc j vals _ _ w' hj (fun d hd => ?_) hR
        have hdj : d ≠ j := fun e => by
          have := hanc d hd
          rw [e, hiu'] at this
          cases this
        simp [hdj]
      · rw [if_neg hji] at hl
        simp only [hji, if_false]
        refine hloc j vals _ _ w' hj (fun d hd => ?_) (hst j vals _ w w' hj (hI.facts j hj hl) hext)
        have hdl' : listed.getD d false = true := by
          unfold anc at hd
          exact close_listed hI.closed j _ (by omega) (fun d hd => hI.closed j hj hl d hd) d (by simpa using hd)
        have hdi' : d ≠ i := fun e => by
          rw [e, hiu'] at hdl'
          cases hdl'
        simp [hdi']
    · cases hd : o.dst <;> simp [Act.put, hI.defers]
    · cases hd : o.dst <;> simp [Act.put, hI.tsize]
    · intro t ht
      rw [put_get, if_neg (by rw [← hdo]; exact ht i him (by rw [getD_set listed i i hiL, if_pos rfl]))]
      refine hI.outer t fun j hj hl => ht j hj ?_
      rw [getD_set listed i j hiL]
      split
      · rfl
      · exact hl
    · intro j t hj hl hdj htl
      rw [put_get]
      by_cases hji : j = i
      · subst hji
        rw [hdo] at hdj
        rw [if_pos hdj, if_pos (by rw [hI.tsize]; exact htl)]
        have h2 := put_get (Lf ops a0 vals j) o.dst v t
        rw [if_pos hdj, if_pos (by rw [Lf_size]; exact htl)] at h2
        simp only [if_true, slotOf, hdj, Array.getD_eq_getD_getElem?]
        rw [hdj] at h2
        rw [h2]
        rfl
      · rw [getD_set listed i j hiL, if_neg hji] at hl
        rw [if_neg (fun e => hdist t e j hj hji hdj)]
        simp only [hji, if_false]
        exact hI.inner j t hj hl hdj htl


def preVals : List (Nat × Value) → Nat → Value
  | [], _ => undef
  | (i, v) :: r, j => if j = i then v else preVals r j
def putPre (ops : Array Oper) : List (Nat × Value) → Act → Act
  | [], a => a
  | (i, v) :: r, a => putPre ops r (a.put (dstAt ops i) v)
def setPre : List (Nat × Value) → Array Bool → Array Bool
  | [], l => l
  | (i, _) :: r, l => setPre r (l.setIfInBounds i true)
theorem setPre_size (L : List (Nat × Value)) : ∀ l : Array Bool, (setPre L l).size = l.size := by
  induction L with
  | nil => intro l; rfl
  | cons x r ih => intro l; obtain ⟨i, v⟩ := x; unfold setPre; rw [ih]; simp
theorem setPre_get (L : List (Nat × Value)) : ∀ (l : Array Bool) (j : Nat), (∀ x ∈ L, x.1 < l.size) → (setPre L l).getD j false = (decide (j ∈ L.map (·.1)) || l.getD j false) := by
  induction L with
  | nil => intro l j _; simp [setPre]
  | cons x r ih =>
    intro l j h
    obtain ⟨i, v⟩ := x
    have hi : i < l.size := h _ (List.mem_cons_self ..)
    unfold setPre
    rw [ih _ _ (fun y hy => by simpa using h y (List.mem_cons_of_mem _ hy)), getD_set l i j hi]
    by_cases hji : j = i
    · simp [hji]
    · rw [if_neg hji]; congr 1; simp [hji]
theorem putPre_defers (L : List (Nat × Value)) : ∀ a : Act, (putPre ops L a).defers = a.defers := by
  induction L with
  | nil => intro a; rfl
  | cons x r ih => intro a; obtain ⟨i, v⟩ := x; unfold putPre; rw [ih]; cases dstAt ops i <;> simp [Act.put]
theorem putPre_size (L : List (Nat × Value)) : ∀ a : Act, (putPre ops L a).tmps.size = a.tmps.size := by
  induction L with
  | nil => intro a; rfl
  | cons x r ih => intro a; obtain ⟨i, v⟩ := x; unfold putPre; rw [ih]; cases dstAt ops i <;> simp [Act.put]
theorem putPre_outer (L : List (Nat × Value)) : ∀ (a : Act) (t : Nat), (∀ x ∈ L, dstAt ops x.1 ≠ some t) → (putPre ops L a).tmps[t]? = a.tmps[t]? := by
  induction L with
  | nil => intro a t _; rfl
  | cons x r ih =>
    intro a t h
    obtain ⟨i, v⟩ := x
    unfold putPre
    rw [ih _ _ (fun y hy => h y (List.mem_cons_of_mem _ hy)), put_get, if_neg (h _ (List.mem_cons_self ..))]
theorem putPre_inner (L : List (Nat × Value)) : ∀ (a : Act) (j t : Nat), j ∈ L.map (·.1) → dstAt ops j = some t → (∀ x ∈ L, x.1 ≠ j → dstAt ops x.1 ≠ some t) → t < a.tmps.size → (L.map (·.1)).Nodup → (putPre ops L a).tmps[t]? = some (preVals L j) := by
  induction L with
  | nil => intro a j t h; cases h
  | cons x r ih =>
    intro a j t hj hd hne ht hnd
    obtain ⟨i, v⟩ := x
    unfold putPre preVals
    have hn := List.nodup_cons.1 hnd
    by_cases hji : j = i
    · subst hji
      rw [if_pos rfl, putPre_outer r _ t (fun y hy => hne y (List.mem_cons_of_mem _ hy) (fun e => hn.1 (List.mem_map.2 ⟨y, hy, e⟩))), put_get, if_pos hd, if_pos ht]
    · rw [if_neg hji]
      have hj' : j ∈ r.map (·.1) := by simpa [hji] using hj
      exact ih _ j t hj' hd (fun y hy => hne y (List.mem_cons_of_mem _ hy)) (by cases dstAt ops i <;> simpa [Act.put] using ht) hn.2

def PreOK (P : Program) (ops : Array Oper) : List (Nat × Value) → Array Bool → Act → Prop
  | [], _, _ => True
  | (i, v) :: r, l, a => (∃ o, ops[i]? = some o ∧ Region.free .any ops l i = true ∧ (Region.ready .any ops l).contains i = true ∧ Yields P ops o v a) ∧ PreOK P ops r (l.setIfInBounds i true) (a.put (dstAt ops i) v)
theorem wpAny_pre (hs : Region.noSelect ops = true) {K : Act → World → Prop} (L : List (Nat × Value)) : ∀ (fuel : Nat) (l : Array Bool) (a : Act) (w : World), PreOK P ops L l a → wpAny P .any ops (Qn K) fuel (setPre L l) (putPre ops L a) w → wpAny P .any ops (Qn K) (fuel + L.length) l a w := by
  induction L with
  | nil => intro fuel l a w _ h; exact h
  | cons x r ih =>
    intro fuel l a w hp h
    obtain ⟨i, v⟩ := x
    obtain ⟨⟨o, ho, hf, hr, hy⟩, hp2⟩ := hp
    have hd : dstAt ops i = o.dst := by simp [dstAt, ho]
    rw [hd] at hp2
    refine wpAny_take (fuel := fuel + r.length) ho hs hf hr (fun c a w h => h) hy (ih fuel _ _ w hp2 ?_)
    unfold setPre putPre at h
    rw [hd] at h
    exact h

theorem filter_split {α : Type} (l : List α) (p : α → Bool) : l.length = (l.filter (fun i => !p i)).length + (l.filter p).length := by
  induction l with
  | nil => rfl
  | cons x r ih => cases h : p x <;> simp [h] <;> omega
def preChk (ops : Array Oper) (m : Nat) (js : List Nat) : Bool := js.all (fun j => decide (j < m) && (depsAt ops j).all (fun d => js.contains d)) && decide js.Nodup
theorem wp_region_pre {id : Nat} {a : Act} {w : World} (m : Nat) (L : List (Nat × Value)) (R : Nat → (Nat → Value) → Value → World → Prop) (hm : P.follows .mixedOrders = true) (hc : regM ops m = true) (hT : tailP ops m (L.map (·.1)) = true) (hs : Region.noSelect ops = true) (hpc : preChk ops m (L.map (·.1)) = true)
    (hpo : PreOK P ops L (Array.replicate ops.size false) a) (hpr : ∀ j ∈ L.map (·.1), ∀ vals w, R j vals (preVals L j) w)
    (hst : ∀ i vals v w w', i < m → R i vals v w → Ext w w' → R i vals v w') (hloc : ∀ i vals vals' v w, i < m → (∀ d, anc ops i d = true → vals d = vals' d) → R i vals v w → R i vals' v w)
    (hob : Obls P ops a w.drew R 0 (ops.toList.take m))
    (hfin : ∀ (vals : Nat → Value) (w' : World), Ext w.drew w' → (∀ i, i < m → R i vals (vals i) w') → wpAny P .any ops (Qn (Q .normal)) (ops.size - m) (litL ops.size m) (Lf ops a vals m) w') : (Code.region id ops true).wp P Q a w := by
  refine wp_region_any hm (wpAny_qn _ _ _ _ ?_)
  have hsz := regM_size hc
  unfold preChk at hpc
  simp only [Bool.and_eq_true, List.all_eq_true, decide_eq_true_iff] at hpc
  obtain ⟨hpc, hnd⟩ := hpc
  have hpm : ∀ x ∈ L, x.1 < m := fun x hx => (hpc x.1 (List.mem_map_of_mem hx)).1
  have hsize : ∀ x ∈ L, x.1 < (Array.replicate ops.size false).size := fun x hx => by have := hpm x hx; simp; omega
  have hf : ∀ i, (Array.replicate ops.size false).getD i false = false := fun i => by simp [Array.getD_eq_getD_getElem?, Array.getElem?_replicate]; split <;> rfl
  have hget : ∀ j, (setPre L (Array.replicate ops.size false)).getD j false = decide (j ∈ L.map (·.1)) := fun j => by rw [setPre_get L _ j hsize, hf, Bool.or_false]
  obtain ⟨c, hcu⟩ : ∃ c, c = unl (setPre L (Array.replicate ops.size false)) m := ⟨_, rfl⟩
  have hlen : ops.size = ops.size - m + c + L.length := by
    have h1 : (List.range m).length = ((List.range m).filter (fun i => !decide (i ∈ L.map (·.1)))).length + ((List.range m).filter (fun i => decide (i ∈ L.map (·.1)))).length := by
      exact filter_split _ _
    have h2 : c = ((List.range m).filter (fun i => !decide (i ∈ L.map (·.1)))).length := by rw [hcu, unl]; congr 1; exact List.filter_congr fun j _ => by rw [hget]
    have h3 : ((List.range m).filter (fun i => decide (i ∈ L.map (·.1)))).length = L.length := by
      have hp : ((List.range m).filter (fun i => decide (i ∈ L.map (·.1)))).Perm (L.map (·.1)) := by
        refine (List.perm_ext_iff_of_nodup (List.nodup_range.filter _) hnd).2 fun j => ?_
        rw [List.mem_filter, List.mem_range, decide_eq_true_iff]
        exact ⟨fun h => h.2, fun h => ⟨(hpc j h).1, h⟩⟩
      rw [hp.length_eq, List.length_map]
    rw [List.length_range] at h1
    omega
  have h := wpAny_of_oblP (P := P) (Q := Qn (Q .normal)) (a0 := a) (w0 := w.drew) (pre := L.map (·.1)) hc hT hst hloc (fun i o hi ho => by
    have := obls_at (P := P) (ops := ops) (a0 := a) (w0 := w.drew) (R := R) _ 0 hob i o (by rw [List.getElem?_take, if_pos hi]; simpa using ho)
    simpa using this) hfin c (setPre L (Array.replicate ops.size false)) (preVals L) (putPre ops L a) w.drew hcu.symm (fun j hj => by rw [hget]; simpa using hj) ?_
  · have h4 := wpAny_pre (P := P) hs L (ops.size - m + c) (Array.replicate ops.size false) a w.drew hpo h
    rw [← hlen] at h4
    exact h4
  · constructor
    · exact Ext.refl _
    · rw [setPre_size]; simp
    · intro i hi
      rw [hget]
      simp only [decide_eq_false_iff_not]
      intro hmem
      have := (hpc i hmem).1
      omega
    · intro i hi hl d hd
      rw [hget] at hl ⊢
      have := (hpc i (by simpa using hl)).2 d hd
      simpa using this
    · intro i hi hl
      rw [hget] at hl
      exact hpr i (by simpa using hl) _ _
    · exact putPre_defers _ _
    · exact putPre_size _ _
    · intro t ht
      refine putPre_outer L a t fun x hx => ?_
      exact ht x.1 (hpm x hx) (by rw [hget]; simpa using ⟨x.2, hx⟩)
    · intro i t hi hl hd htl
      rw [hget] at hl
      obtain ⟨oi, hoi, _, hdist, _⟩ := chk_op4 hc hi
      have hdi : oi.dst = some t := by simpa [dstAt, hoi] using hd
      exact putPre_inner L a i t (by simpa using hl) hd (fun x hx hne => hdist t hdi x.1 (hpm x hx) hne) htl hnd
end
theorem yields_move {P : Program} {ops : Array Oper} {o : Oper} {a : Act} {x : Operand} {v : Value} (ho : o.op = .move x) (hg : o.guard = none) (hv : a.eval x = v) : Yields P ops o v a :=
  .inl ⟨by simp [Region.wanted, hg], fun w => by simp [execOp, ho, hv]⟩
end Go.Proofs.Ytikphbgfcpamgaa
namespace Go.Proofs.Ytikphbgfcpamgaa
open Go.RowKit

section
variable {α : Type} {cells : α → List Value} {s : Nat} {w w' : World} {B n c : Nat} {A : Option Addr} {l : List α}
theorem RA.range (hs : ∀ x, (cells x).length = s) (h : RA cells s w B A n c l) {k : Nat} (hk : k < n) :
    ∃ (b o : Nat) (hz : k < l.length), A = some ⟨b, o, none⟩ ∧ b < B ∧ w.rangeAt b (o + k * s) (cells l[k]) := by
  obtain ⟨b, o, hz, hA, hb, hc⟩ := h.at_ hs hk
  refine ⟨b, o, hz, hA, hb, fun j v hv => ?_⟩
  have hj : j < s := by rw [← hs l[k]]; exact (List.getElem?_eq_some_iff.1 hv).1
  exact (hc j hj).trans hv
theorem RA.range2 {b o : Nat} {cs : List Value} (h : w.rangeAt b o cs) (hx : Ext w w') : w'.rangeAt b o cs := fun j v hv => ext_cell hx (h j v hv)
theorem Blk.range {g : Nat} {t : TypeId} {cs : Array Value} (h : Blk w g t cs) (l : List Value) (hl : cs.toList = l) : w.rangeAt g 0 l := fun j v hv => by
  rw [Nat.zero_add, h.cell, ← hv, ← hl]; simp
end
theorem setRow_new (w : World) (t : TypeId) (zs X : Array Value) : (w.alloc (.cells zs t)).setRow w.heap.size X = w.alloc (.cells X t) := by
  have hw : ∀ (a b : World), a.heap = b.heap → a = { b with heap := a.heap } → a = b := fun a b h1 h2 => by rw [h2, h1]
  refine hw _ _ ?_ rfl
  refine Array.ext_getElem? fun j => ?_
  by_cases hj : j = w.heap.size
  · subst hj
    rw [setRow_heap _ _ _ _ _ _ (heap_alloc_new w _), heap_alloc_new]
  · rw [setRow_other _ _ _ _ hj]
    rcases Nat.lt_or_ge j w.heap.size with h' | h'
    · rw [Below.heap_alloc _ _ _ h', Below.heap_alloc _ _ _ h']
    · rw [Array.getElem?_eq_none (by simp; omega), Array.getElem?_eq_none (by simp; omega)]
theorem wpList_load_st {P : Program} {ops : Array Oper} {rest : List Oper} {op : Oper} {a : Act} {w : World} {Q : Exit → Act → World → Prop} (hgd : op.guard = none) (ty : TypeId) (x : Operand) (ho : op.op = .load ty x)
    (b o : Nat) (hx : a.eval x = .pointer (some ⟨b, o, none⟩)) (X : Array Value) (cs : List Value) (hX : cs.toArray = X) (d : TypeDesc) (hc : w.rangeAt b o cs)
    (hu : P.underlying ty = some d) (hd : d.isRow = true) (hi : (P.info? ty).map (·.size) = some cs.length)
    (h : wpList P ops Q rest (a.put op.dst (.agg X)) w) : wpList P ops Q (op :: rest) a w := by
  subst hX
  exact wpList_load_mid hgd ty x ho b o hx cs d hc hu hd hi h
theorem wpList_load_stg {P : Program} {ops : Array Oper} {rest : List Oper} {op : Oper} {a : Act} {w : World} {Q : Exit → Act → World → Prop} (hw : Region.wanted op (yielded ops a.tmps) = true) (ty : TypeId) (x : Operand) (ho : op.op = .load ty x)
    (b o : Nat) (hx : a.eval x = .pointer (some ⟨b, o, none⟩)) (X : Array Value) (cs : List Value) (hX : cs.toArray = X) (d : TypeDesc) (hc : w.rangeAt b o cs)
    (hu : P.underlying ty = some d) (hd : d.isRow = true) (hi : (P.info? ty).map (·.size) = some cs.length)
    (h : wpList P ops Q rest (a.put op.dst (.agg X)) w) : wpList P ops Q (op :: rest) a w := by
  subst hX
  unfold wpList
  rw [if_pos hw]
  exact .inl (wp_load_mid ty x ho b o hx cs d hc hu hd hi h)
theorem wpList_store_new {P : Program} {ops : Array Oper} {rest : List Oper} {op : Oper} {a : Act} {w : World} {Q : Exit → Act → World → Prop} (hgd : op.guard = none) (ty : TypeId) (x y : Operand) (ho : op.op = .store ty x y)
    (zs X : Array Value) (hx : a.eval x = .pointer (some ⟨w.heap.size, 0, none⟩)) (hy : a.eval y = .agg X) (hi : (P.info? ty).map (·.size) = some X.size) (hz : zs.size = X.size) (h1 : X.all (·.oneCell') = true)
    (h : wpList P ops Q rest (a.put op.dst undef) (w.alloc (.cells X ty))) : wpList P ops Q (op :: rest) a (w.alloc (.cells zs ty)) := by
  refine wpList_store_row hgd ty x y ho w.heap.size X hx hy ty zs (heap_alloc_new w _) hi hz h1 ?_
  rw [setRow_new]
  exact h
theorem isNaN_any (a : Int) (w : World) : Calls Try.prog 69 #[.int .i64 a] w fun e w' => e = .returned (.bool false) ∧ w = w' := by
  go_enter Try.func69, Try.ntmps69
  go_wp2
  go_ret
  exact ⟨rfl, rfl⟩
theorem cmp_any (a b : Int) (w : World) : Calls Try.prog 64 #[.int .i64 a, .int .i64 b] w fun e w' => e = .returned (.int .i64 (cmpI a b)) ∧ w = w' := by
  by_cases h1 : a < b
  · have hc : cmpI a b = -1 := by simp [cmpI, h1]
    rw [hc]
    clear hc
    go_enter Try.func64, Try.ntmps64
    go_wp2_with (go_at_call 69; refine (isNaN_any _ _).mono ?_; rintro e w' ⟨rfl, rfl⟩)
    go_ret
    exact ⟨rfl, rfl⟩
  · by_cases h2 : b < a
    · have hc : cmpI a b = 1 := by simp [cmpI, h1, h2]
      rw [hc]
      clear hc
      go_enter Try.func64, Try.ntmps64
      go_wp2_with (go_at_call 69; refine (isNaN_any _ _).mono ?_; rintro e w' ⟨rfl, rfl⟩)
      go_ret
      exact ⟨rfl, rfl⟩
    · have hc : cmpI a b = 0 := by simp [cmpI, h1, h2]
      rw [hc]
      clear hc
      go_enter Try.func64, Try.ntmps64
      go_wp2_with (go_at_call 69; refine (isNaN_any _ _).mono ?_; rintro e w' ⟨rfl, rfl⟩)
      go_ret
      exact ⟨rfl, rfl⟩
def orL : List Int → Int
  | [] => 0
  | x :: r => if (x != 0) = true then x else orL r
theorem Blk.new_at {g : Nat} (w : World) (t : TypeId) (cs : Array Value) (h : w.heap.size = g) : Blk (w.alloc (.cells cs t)) g t cs := by subst h; exact Blk.new w t cs
theorem plc_from (x : Plc) (w : World) : Calls Try.prog 53 #[.agg (plcCells x).toArray] w fun e w' => e = .returned (.int .i64 x.fr) ∧ Below w.heap.size w w' := by
  obtain ⟨o, s, a, b⟩ := x
  show Calls Try.prog 53 #[.agg #[.int .i64 (o : Int), .int .i64 (s : Int), .int .i64 a, .int .i64 b]] w _
  go_enter Try.func53, Try.ntmps53
  go_wp2
  go_ret
  exact ⟨rfl, (by repeat (first | exact Below.refl _ _ | assumption | refine Below.drew ?_ | refine below_drewN ?_ _ | refine bl_alloc ?_ _ | refine Below.setCell ?_ (by first | (simp; done) | omega | (simp; omega)) _ | refine bl_then ?_ (by assumption)))⟩
def cmpPlc (a b : Plc) : Int := cmpI a.fr b.fr
set_option maxHeartbeats 1000000 in
theorem cmpPlc_any (gb : Nat) (a b : Plc) (w : World) (K : Blk w gb 106 #[.func (.func 53) #[] #[]]) :
    Calls Try.prog 63 #[.agg (plcCells a).toArray, .agg (plcCells b).toArray, .pointer (some ⟨gb, 0, none⟩)] w fun e w' => e = .returned (.int .i64 (cmpPlc a b)) ∧ Below w.heap.size w w' := by
  have ha := fun W => plc_from a W
  have hb := fun W => plc_from b W
  have hc : ∀ W, Calls Try.prog 64 #[.int .i64 a.fr, .int .i64 b.fr] W fun e w' => e = .returned (.int .i64 (cmpPlc a b)) ∧ W = w' := fun W => cmp_any a.fr b.fr W
  have k0 : w.cell? ⟨gb, 0, none⟩ = some (.func (.func 53) #[] #[]) := K.cell 0
  have hK := K.lt
  generalize cmpPlc a b = r at hc ⊢
  obtain ⟨ao, as_, af, at_⟩ := a
  obtain ⟨bo, bs, bf, bt⟩ := b
  have HA : Hid (∀ W, Calls Try.prog 53 #[.agg #[.int .i64 (ao : Int), .int .i64 (as_ : Int), .int .i64 af, .int .i64 at_]] W fun e w' => e = .returned (.int .i64 af) ∧ Below W.heap.size W w') := Lib.hid ha
  have HB : Hid (∀ W, Calls Try.prog 53 #[.agg #[.int .i64 (bo : Int), .int .i64 (bs : Int), .int .i64 bf, .int .i64 bt]] W fun e w' => e = .returned (.int .i64 bf) ∧ Below W.heap.size W w') := Lib.hid hb
  have HC := Lib.hid hc
  dsimp only at HC
  clear ha hb hc K
  show Calls Try.prog 63 #[.agg #[.int .i64 (ao : Int), .int .i64 (as_ : Int), .int .i64 af, .int .i64 at_], .agg #[.int .i64 (bo : Int), .int .i64 (bs : Int), .int .i64 bf, .int .i64 bt], .pointer (some ⟨gb, 0, none⟩)] w _
  go_enter Try.func63, Try.ntmps63
  go_wp2_with fail
  have K1 : Blk ((w.alloc (.cells #[.int .i64 (ao : Int), .int .i64 (as_ : Int), .int .i64 af, .int .i64 at_] 83)).alloc (.cells #[.int .i64 (bo : Int), .int .i64 (bs : Int), .int .i64 bf, .int .i64 bt] 83)) w.heap.size 83 #[.int .i64 (ao : Int), .int .i64 (as_ : Int), .int .i64 af, .int .i64 at_] := (Blk.new _ _ _).alloc _
  have K2 : Blk ((w.alloc (.cells #[.int .i64 (ao : Int), .int .i64 (as_ : Int), .int .i64 af, .int .i64 at_] 83)).alloc (.cells #[.int .i64 (bo : Int), .int .i64 (bs : Int), .int .i64 bf, .int .i64 bt] 83)) (w.heap.size + 1) 83 #[.int .i64 (bo : Int), .int .i64 (bs : Int), .int .i64 bf, .int .i64 bt] := Blk.new_at _ _ _ (by simp)
  have hB : Below w.heap.size w ((w.alloc (.cells #[.int .i64 (ao : Int), .int .i64 (as_ : Int), .int .i64 af, .int .i64 at_] 83)).alloc (.cells #[.int .i64 (bo : Int), .int .i64 (bs : Int), .int .i64 bf, .int .i64 bt] 83)) := (by repeat (first | exact Below.refl _ _ | assumption | refine Below.drew ?_ | refine below_drewN ?_ _ | refine bl_alloc ?_ _ | refine Below.setCell ?_ (by first | (simp; done) | omega | (simp; omega)) _ | refine bl_then ?_ (by assumption)))
  generalize (w.alloc (.cells #[.int .i64 (ao : Int), .int .i64 (as_ : Int), .int .i64 af, .int .i64 at_] 83)).alloc (.cells #[.int .i64 (bo : Int), .int .i64 (bs : Int), .int .i64 bf, .int .i64 bt] 83) = W at K1 K2 hB ⊢
  have k0 := ext_cell (hB) k0
  have g0 : W.cell? ⟨w.heap.size, 0, none⟩ = some (.int .i64 (ao : Int)) := K1.cell 0
  have g1 : W.cell? ⟨w.heap.size, 1, none⟩ = some (.int .i64 (as_ : Int)) := K1.cell 1
  have g2 : W.cell? ⟨w.heap.size, 2, none⟩ = some (.int .i64 af) := K1.cell 2
  have g3 : W.cell? ⟨w.heap.size, 3, none⟩ = some (.int .i64 at_) := K1.cell 3
  have h0 : W.cell? ⟨w.heap.size + 1, 0, none⟩ = some (.int .i64 (bo : Int)) := K2.cell 0
  have h1 : W.cell? ⟨w.heap.size + 1, 1, none⟩ = some (.int .i64 (bs : Int)) := K2.cell 1
  have h2 : W.cell? ⟨w.heap.size + 1, 2, none⟩ = some (.int .i64 bf) := K2.cell 2
  have h3 : W.cell? ⟨w.heap.size + 1, 3, none⟩ = some (.int .i64 bt) := K2.cell 3
  refine wp_region_obl 7 (fun ix vals v w1 => match ix with | 0 => v = .func (.func 53) #[] #[] | 1 => v = .agg #[.int .i64 (ao : Int), .int .i64 (as_ : Int), .int .i64 af, .int .i64 at_] | 2 => v = .int .i64 af | 3 => v = .func (.func 53) #[] #[] | 4 => v = .agg #[.int .i64 (bo : Int), .int .i64 (bs : Int), .int .i64 bf, .int .i64 bt] | 5 => v = .int .i64 bf | _ => v = .int .i64 r) (by kernel_rfl) (by kernel_rfl) ?_ ?_ ?_ ?_
  · intro ix vals v w1 w2 hi hr hx
    match ix, hr with
    | 0, hr => exact hr
    | 1, hr => exact hr
    | 2, hr => exact hr
    | 3, hr => exact hr
    | 4, hr => exact hr
    | 5, hr => exact hr
    | (kx + 6), hr => exact hr
  · intro ix vals vals_ v w1 hi hv hr
    exact hr
  · refine ⟨?_, ?_, ?_, ?_, ?_, ?_, ?_, trivial⟩
    · intro vals w1 hx hd ha
      clear hd ha
      simp only [Lf]
      have k0 := ext_cell hx k0
      go_wp2
      exact ⟨rfl, Ext.refl _, rfl⟩
    · intro vals w1 hx hd ha
      clear hd ha
      simp only [Lf, dstAt, Act.put, List.getElem?_toArray, List.getElem?_cons_zero, Option.bind_some, List.setIfInBounds_toArray, List.set_cons_zero, List.set_cons_succ]
      have g0 := ext_cell hx g0; have g1 := ext_cell hx g1; have g2 := ext_cell hx g2; have g3 := ext_cell hx g3
      go_wp2
      exact ⟨rfl, Ext.refl _, rfl⟩
    · intro vals w1 hx hd ha
      have e0 : vals 0 = .func (.func 53) #[] #[] := hd 0 (by decide)
      have e1 : vals 1 = .agg #[.int .i64 (ao : Int), .int .i64 (as_ : Int), .int .i64 af, .int .i64 at_] := hd 1 (by decide)
      clear hd ha
      simp only [Lf, dstAt, Act.put, List.getElem?_toArray, List.getElem?_cons_zero, List.getElem?_cons_succ, Option.bind_some, List.setIfInBounds_toArray, List.set_cons_zero, List.set_cons_succ]
      simp only [e0]
      simp only [e1]
      clear e0 e1
      go_wp2_with fail
      refine (HA.out _).mono ?_
      rintro e w2 ⟨rfl, hb2⟩
      go_wp2
      exact ⟨rfl, hb2, rfl⟩
    · intro vals w1 hx hd ha
      clear hd ha
      simp only [Lf, dstAt, Act.put, List.getElem?_toArray, List.getElem?_cons_zero, List.getElem?_cons_succ, Option.bind_some, List.setIfInBounds_toArray, List.set_cons_zero, List.set_cons_succ]
      have k0 := ext_cell hx k0
      go_wp2
      exact ⟨rfl, Ext.refl _, rfl⟩
    · intro vals w1 hx hd ha
      clear hd ha
      simp only [Lf, dstAt, Act.put, List.getElem?_toArray, List.getElem?_cons_zero, List.getElem?_cons_succ, Option.bind_some, List.setIfInBounds_toArray, List.set_cons_zero, List.set_cons_succ]
      have h0 := ext_cell hx h0; have h1 := ext_cell hx h1; have h2 := ext_cell hx h2; have h3 := ext_cell hx h3
      go_wp2
      exact ⟨rfl, Ext.refl _, rfl⟩
    · intro vals w1 hx hd ha
      have e2 : vals 2 = .int .i64 af := hd 2 (by decide)
      have e3 : vals 3 = .func (.func 53) #[] #[] := hd 3 (by decide)
      have e4 : vals 4 = .agg #[.int .i64 (bo : Int), .int .i64 (bs : Int), .int .i64 bf, .int .i64 bt] := hd 4 (by decide)
      clear hd ha
      simp only [Lf, dstAt, Act.put, List.getElem?_toArray, List.getElem?_cons_zero, List.getElem?_cons_succ, Option.bind_some, List.setIfInBounds_toArray, List.set_cons_zero, List.set_cons_succ]
      simp only [e2]
      simp only [e3]
      simp only [e4]
      clear e2 e3 e4
      go_wp2_with fail
      refine (HB.out _).mono ?_
      rintro e w2 ⟨rfl, hb2⟩
      go_wp2
      exact ⟨rfl, hb2, rfl⟩
    · intro vals w1 hx hd ha
      have e2 : vals 2 = .int .i64 af := hd 2 (by decide)
      have e5 : vals 5 = .int .i64 bf := hd 5 (by decide)
      clear hd ha
      simp only [Lf, dstAt, Act.put, List.getElem?_toArray, List.getElem?_cons_zero, List.getElem?_cons_succ, Option.bind_some, List.setIfInBounds_toArray, List.set_cons_zero, List.set_cons_succ]
      simp only [e2]
      simp only [e5]
      clear e2 e5
      go_wp2_with fail
      refine (HC.out _).mono ?_
      rintro e w2 ⟨rfl, rfl⟩
      go_wp2
      exact ⟨rfl, Ext.refl _, rfl⟩
  intro vals w5 hx hf
  have e6 : vals 6 = .int .i64 r := hf 6 (by omega)
  clear hf
  have hB5 : Below w.heap.size w w5 := bl_then hB hx.undrew
  clear hx
  refine tail1 7 _ (by kernel_rfl) (by kernel_rfl) rfl ?_
  simp only [Lf, dstAt, Act.put, List.getElem?_toArray, List.getElem?_cons_zero, List.getElem?_cons_succ, Option.bind_some, List.setIfInBounds_toArray, List.set_cons_zero, List.set_cons_succ]
  rw [e6]
  go_wp2
  go_ret
  exact ⟨rfl, hB5⟩
theorem ltP_cmp : (fun a b => decide (cmpPlc a b < 0)) = ltP := by
  funext a b
  unfold cmpPlc cmpI ltP
  by_cases h : a.fr < b.fr
  · simp [h]
  · by_cases h2 : b.fr < a.fr <;> simp [h, h2]
end Go.Proofs.Ytikphbgfcpamgaa
