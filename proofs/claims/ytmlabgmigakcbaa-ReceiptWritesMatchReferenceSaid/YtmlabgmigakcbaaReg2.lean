/- The region rule, with rows that lie apart: what two operations make lies in two blocks (printed by mk_reg2.py). -/
import Derived.Test.YtmlabgmigakcbaaReg
namespace Go.Proofs.Ytmlabgmigakcbaa
open Go.RowKit

section
variable {P : Program} {ops : Array Oper} {Q : Exit → Act → World → Prop} {a0 : Act} {w0 : World} {R : Nat → (Nat → Value) → Value → World → Prop} {own : Nat → Value → Option Nat} {m : Nat}

def Obl2 (P : Program) (ops : Array Oper) (a0 : Act) (w0 : World) (R : Nat → (Nat → Value) → Value → World → Prop) (own : Nat → Value → Option Nat) (i : Nat) (o : Oper) : Prop :=
  ∀ (vals : Nat → Value) (w : World), Ext w0 w → (∀ d ∈ depsOf o, R d vals (vals d) w) → (∀ d, anc ops i d = true → R d vals (vals d) w) → wpList P ops (Qo a0 (fun v w' => R i vals v w' ∧ ∀ k, own i v = some k → w.heap.size ≤ k) o w) [o] (Lf ops a0 vals i) w
def Apart (m : Nat) (own : Nat → Value → Option Nat) (vals : Nat → Value) : Prop := ∀ i j, i < m → j < m → i ≠ j → ∀ k, own i (vals i) = some k → own j (vals j) ≠ some k
def ApartL (m : Nat) (own : Nat → Value → Option Nat) (listed : Array Bool) (vals : Nat → Value) : Prop := ∀ i j, i < m → j < m → i ≠ j → listed.getD i false = true → listed.getD j false = true → ∀ k, own i (vals i) = some k → own j (vals j) ≠ some k

theorem wpAny_of_obl2 (hc : regChk ops m = true) (hlt : ∀ i vals v w, i < m → R i vals v w → ∀ k, own i v = some k → k < w.heap.size) (hst : ∀ i vals v w w', i < m → R i vals v w → Ext w w' → R i vals v w') (hloc : ∀ i vals vals' v w, i < m → (∀ d, anc ops i d = true → vals d = vals' d) → R i vals v w → R i vals' v w) (hob : ∀ i o, i < m → ops[i]? = some o → Obl2 P ops a0 w0 R own i o)
    (hfin : ∀ (vals : Nat → Value) (w : World), Ext w0 w → (∀ i, i < m → R i vals (vals i) w) → Apart m own vals → wpAny P .any ops Q (ops.size - m) (litL ops.size m) (Lf ops a0 vals m) w) :
    ∀ (c : Nat) (listed : Array Bool) (vals : Nat → Value) (a : Act) (w : World), unl listed m = c → Inv ops a0 w0 R m listed vals a w → ApartL m own listed vals → wpAny P .any ops Q (ops.size - m + c) listed a w := by
  intro c
  induction c with
  | zero =>
    intro listed vals a w hu hI hA
    have hall := unl_zero hu
    have hsz := chk_size hc
    have hlit : listed = litL ops.size m := by
      apply Array.ext
      · simp [litL, hI.size]
      · intro i h1 h2
        have hg : listed.getD i false = listed[i] := by simp [Array.getD_eq_getD_getElem?, h1]
        rcases Nat.lt_or_ge i m with h | h
        · have := hall i h
          rw [hg] at this
          simp [litL, this, h]
        · have := hI.tail i h
          rw [hg] at this
          simp [litL, this, Nat.not_lt.2 h]
    have ha : a = Lf ops a0 vals m := by
      have ht : a.tmps = (Lf ops a0 vals m).tmps := by
        apply Array.ext_getElem?
        intro t
        by_cases hj : ∃ j, j < m ∧ dstAt ops j = some t
        · obtain ⟨j, hjm, hjt⟩ := hj
          obtain ⟨oj, hoj, _, h2j, _⟩ := chk_op hc hjm
          have hdj : oj.dst = some t := by simpa [dstAt, hoj] using hjt
          rcases Nat.lt_or_ge t a0.tmps.size with hlt | hge
          · rw [hI.inner j t hjm (hall j hjm) hjt hlt, Lf_inner vals m j t hjm hjt (fun k hk1 hk2 => h2j t hdj k hk2 (by omega)) hlt]
          · rw [Array.getElem?_eq_none (by rw [hI.tsize]; exact hge), Array.getElem?_eq_none (by rw [Lf_size]; exact hge)]
        · have hj' : ∀ j, j < m → dstAt ops j ≠ some t := fun j hjm hjt => hj ⟨j, hjm, hjt⟩
          rw [hI.outer t (fun j hjm _ => hj' j hjm), Lf_outer vals m t (fun j hji => hj' j hji)]
      have hd : a.defers = (Lf ops a0 vals m).defers := by rw [Lf_defers, hI.defers]
      cases a
      cases hL : Lf ops a0 vals m
      simp_all
    rw [hlit, ha]
    exact hfin vals w hI.ext (fun i hi => hI.facts i hi (hall i hi)) fun i j hi hj hne => hA i j hi hj hne (hall i hi) (hall j hj)
  | succ c ih =>
    intro listed vals a w hu hI hA
    have hsz := chk_size hc
    have hgt : ∀ i, i < listed.size → listed.getD i true = listed.getD i false := fun i hi => by simp [Array.getD_eq_getD_getElem?, hi]
    obtain ⟨i0, hi0, hun0, hall0⟩ := unl_pos (m := m) (listed := listed) (by omega)
    obtain ⟨o0, ho0, hd0, _⟩ := chk_op hc hi0
    have hr0 : i0 ∈ Region.ready .any ops listed := ready_of (by omega) (by rw [hgt _ (by rw [hI.size]; omega)]; exact hun0) ho0 fun d hd => hall0 d (hd0 d hd)
    show wpAny P .any ops Q ((ops.size - m + c) + 1) listed a w
    unfold wpAny
    refine ⟨fun hnil => absurd hr0 (by rw [hnil]; simp), fun i hi => ?_⟩
    obtain ⟨hin, hiu, o, ho, hdl⟩ := ready_spec hi
    have him : i < m := by
      rcases Nat.lt_or_ge i m with h | h
      · exact h
      · obtain ⟨o', ho', ht⟩ := chk_tail hc h hin
        rw [ho] at ho'
        injection ho' with ho'
        subst ho'
        rcases ht with ⟨d, h1, h2⟩ | ht
        · have := hdl d h1
          rw [hI.tail d h2] at this
          cases this
        have := close_listed hI.closed m _ (Nat.le_refl _) hdl i0 (ht i0 hi0)
        rw [hun0] at this
        cases this
    obtain ⟨o', ho', hdi, hdist, hlook, htame⟩ := chk_op hc him
    rw [ho] at ho'
    injection ho' with ho'
    subst ho'
    have hiL : i < listed.size := by rw [hI.size]; exact hin
    have hiu' : listed.getD i false = false := by rw [← hgt i hiL]; exact hiu
    have hanc : ∀ d, anc ops i d = true → listed.getD d false = true := fun d hd => by
      unfold anc at hd
      refine close_listed hI.closed i _ (by omega) (fun d hd => ?_) d (by simpa using hd)
      exact hdl d (by simpa [depsAt, ho] using hd)
    have hltm : ∀ d, listed.getD d false = true → d < m := fun d hd => by
      rcases Nat.lt_or_ge d m with h | h
      · exact h
      · rw [hI.tail d h] at hd; cases hd
    refine run_obl htame (Lf_defers vals i) (agree hc hI him ho hdl) ho (hob i o him ho vals w hI.ext (fun d hd => hI.facts d (by have := hdi d hd; omega) (hdl d hd)) (fun d hd => hI.facts d (hltm d (hanc d hd)) (hanc d hd))) ?_
    rintro v w' hext ⟨hR, hfr⟩
    refine ih _ (fun j => if j = i then slotOf o ((Lf ops a0 vals i).put o.dst v) else vals j) _ _ (by have := unl_set listed i him hiL hiu'; omega) ?_ ?_
    rotate_left
    · intro j j' hj hj' hne hl hl' k hk
      rw [getD_set listed i j hiL] at hl
      rw [getD_set listed i j' hiL] at hl'
      by_cases hji : j = i
      · subst hji
        have hj'i : j' ≠ j := fun e => hne e.symm
        rw [if_neg hj'i] at hl'
        simp only [if_true] at hk
        simp only [hj'i, if_false]
        intro hk'
        have h1 := hfr k hk
        have h2 := hlt j' vals _ w hj' (hI.facts j' hj' hl') k hk'
        omega
      · rw [if_neg hji] at hl
        simp only [hji, if_false] at hk
        by_cases hj'i : j' = i
        · subst hj'i
          simp only [if_true]
          intro hk'
          have h1 := hfr k hk'
          have h2 := hlt j vals _ w hj (hI.facts j hj hl) k hk
          omega
        · rw [if_neg hj'i] at hl'
          simp only [hj'i, if_false]
          exact hA j j' hj hj' hne hl hl' k hk
    have hdo : dstAt ops i = o.dst := by simp [dstAt, ho]
    constructor
    · exact hI.ext.trans hext
    · simp [hI.size]
    · intro j hj
      rw [getD_set listed i j hiL, if_neg (by omega)]
      exact hI.tail j hj
    · intro j hj hl d hd
      rw [getD_set listed i d hiL]
      rw [getD_set listed i j hiL] at hl
      by_cases hji : j = i
      · subst hji
        have : d ∈ depsOf o := by simpa [depsAt, ho] using hd
        rw [hdl d this]
        simp
      · rw [if_neg hji] at hl
        rw [hI.closed j hj hl d hd]
        simp
    · intro j hj hl
      rw [getD_set listed i j hiL] at hl
      by_cases hji : j = i
      · subst hji
        simp only [if_true]
        refine hloc j vals _ _ w' hj (fun d hd => ?_) hR
        have hdj : d ≠ j := fun e => by
          have := hanc d hd
          rw [e, hiu'] at this
          cases this
        simp [hdj]
      · rw [if_neg hji] at hl
        simp only [hji, if_false]
        refine hloc j vals _ _ w' hj (fun d hd => ?_) (hst j vals _ w w' hj (hI.facts j hj hl) hext)
        have hdl' : listed.getD d false = true := by
          unfold anc at hd
          exact close_listed hI.closed j _ (by omega) (fun d hd => hI.closed j hj hl d hd) d (by simpa using hd)
        have hdi' : d ≠ i := fun e => by
          rw [e, hiu'] at hdl'
          cases hdl'
        simp [hdi']
    · cases hd : o.dst <;> simp [Act.put, hI.defers]
    · cases hd : o.dst <;> simp [Act.put, hI.tsize]
    · intro t ht
      rw [put_get, if_neg (by rw [← hdo]; exact ht i him (by rw [getD_set listed i i hiL, if_pos rfl]))]
      refine hI.outer t fun j hj hl => ht j hj ?_
      rw [getD_set listed i j hiL]
      split
      · rfl
      · exact hl
    · intro j t hj hl hdj htl
      rw [put_get]
      by_cases hji : j = i
      · subst hji
        rw [hdo] at hdj
        rw [if_pos hdj, if_pos (by rw [hI.tsize]; exact htl)]
        have h2 := put_get (Lf ops a0 vals j) o.dst v t
        rw [if_pos hdj, if_pos (by rw [Lf_size]; exact htl)] at h2
        simp only [if_true, slotOf, hdj, Array.getD_eq_getD_getElem?]
        rw [hdj] at h2
        rw [h2]
        rfl
      · rw [getD_set listed i j hiL, if_neg hji] at hl
        rw [if_neg (fun e => hdist t e j hj hji hdj)]
        simp only [hji, if_false]
        exact hI.inner j t hj hl hdj htl

def Obls2 (P : Program) (ops : Array Oper) (a0 : Act) (w0 : World) (R : Nat → (Nat → Value) → Value → World → Prop) (own : Nat → Value → Option Nat) : Nat → List Oper → Prop
  | _, [] => True
  | k, o :: rest => Obl2 P ops a0 w0 R own k o ∧ Obls2 P ops a0 w0 R own (k + 1) rest
theorem obls_at2 : ∀ (l : List Oper) (k : Nat), Obls2 P ops a0 w0 R own k l → ∀ j o, l[j]? = some o → Obl2 P ops a0 w0 R own (k + j) o
  | [], _, _, _, _, h => by simp at h
  | x :: l, k, ⟨h1, h2⟩, j, o, hj => by
    cases j with
    | zero =>
      simp at hj
      subst hj
      exact h1
    | succ j =>
      have := obls_at2 l (k + 1) h2 j o (by simpa using hj)
      rwa [show k + 1 + j = k + (j + 1) by omega] at this

theorem wp_region_obl2 {id : Nat} {a : Act} {w : World} (m : Nat) (R : Nat → (Nat → Value) → Value → World → Prop) (own : Nat → Value → Option Nat) (hm : P.follows .mixedOrders = true) (hc : regChk ops m = true) (hlt : ∀ i vals v w, i < m → R i vals v w → ∀ k, own i v = some k → k < w.heap.size) (hst : ∀ i vals v w w', i < m → R i vals v w → Ext w w' → R i vals v w') (hloc : ∀ i vals vals' v w, i < m → (∀ d, anc ops i d = true → vals d = vals' d) → R i vals v w → R i vals' v w)
    (hob : Obls2 P ops a w.drew R own 0 (ops.toList.take m))
    (hfin : ∀ (vals : Nat → Value) (w' : World), Ext w.drew w' → (∀ i, i < m → R i vals (vals i) w') → Apart m own vals → wpAny P .any ops Q (ops.size - m) (litL ops.size m) (Lf ops a vals m) w') : (Code.region id ops true).wp P Q a w := by
  refine wp_region_any hm ?_
  have hsz := chk_size hc
  have hunl : unl (Array.replicate ops.size false) m = m := by
    unfold unl
    rw [List.filter_eq_self.2 (fun i hi => by simp [Array.getD_eq_getD_getElem?, Array.getElem?_replicate]; split <;> rfl)]
    simp
  have h := wpAny_of_obl2 (P := P) (Q := Q) (a0 := a) (w0 := w.drew) hc hlt hst hloc (fun i o hi ho => by
    have := obls_at2 (P := P) (ops := ops) (a0 := a) (w0 := w.drew) (R := R) (own := own) _ 0 hob i o (by rw [List.getElem?_take, if_pos hi]; simpa using ho)
    simpa using this) hfin m (Array.replicate ops.size false) (fun _ => undef) a w.drew hunl ?_ (fun i j _ _ _ h => by simp [Array.getD_eq_getD_getElem?, Array.getElem?_replicate] at h; split at h <;> cases h)
  · rw [show ops.size - m + m = ops.size by omega] at h
    exact h
  · have hf : ∀ i, (Array.replicate ops.size false).getD i false = false := fun i => by simp [Array.getD_eq_getD_getElem?, Array.getElem?_replicate]; split <;> rfl
    constructor
    · exact Ext.refl _
    · simp
    · intro i _; exact hf i
    · intro i _ h; rw [hf] at h; cases h
    · intro i _ h; rw [hf] at h; cases h
    · rfl
    · rfl
    · intro t _; rfl
    · intro i t _ h; rw [hf] at h; cases h

end
end Go.Proofs.Ytmlabgmigakcbaa
