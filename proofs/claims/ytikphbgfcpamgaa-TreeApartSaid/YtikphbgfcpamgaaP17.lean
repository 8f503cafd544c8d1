/- Worlds in which one block alone turns into given cells. -/
import Derived.Test.YtikphbgfcpamgaaP04
import Derived.Test.YtikphbgfcpamgaaP03
namespace Go.Proofs.Ytikphbgfcpamgaa
open Go.RowKit
namespace RB

structure Tr (T : World → World → Prop) : Prop where
  refl : ∀ w, T w w
  trans : ∀ {a b c}, T a b → T b c → T a c
section
variable {P : Program} {ops : Array Oper} {Q : Exit → Act → World → Prop} {a0 : Act} {w0 : World} {R : Nat → (Nat → Value) → Value → World → Prop} {m : Nat} {T : World → World → Prop}
def Qo (T : World → World → Prop) (a0 : Act) (R : Value → World → Prop) (o : Oper) (w : World) (e : Exit) (a' : Act) (w' : World) : Prop :=
  match e with
  | .normal => a'.defers = a0.defers ∧ T w w' ∧ R (match o.dst with | some t => a'.tmps.getD t undef | none => undef) w'
  | _ => False

def Obl (T : World → World → Prop) (P : Program) (ops : Array Oper) (a0 : Act) (w0 : World) (R : Nat → (Nat → Value) → Value → World → Prop) (i : Nat) (o : Oper) : Prop :=
  ∀ (vals : Nat → Value) (w : World), T w0 w → (∀ d ∈ depsOf o, R d vals (vals d) w) → (∀ d, anc ops i d = true → R d vals (vals d) w) → wpList P ops (Qo T a0 (R i vals) o w) [o] (Lf ops a0 vals i) w

structure Inv (T : World → World → Prop) (ops : Array Oper) (a0 : Act) (w0 : World) (R : Nat → (Nat → Value) → Value → World → Prop) (m : Nat) (listed : Array Bool) (vals : Nat → Value) (a : Act) (w : World) : Prop where
  ext : T w0 w
  size : listed.size = ops.size
  tail : ∀ i, m ≤ i → listed.getD i false = false
  closed : ∀ i, i < m → listed.getD i false = true → ∀ d ∈ depsAt ops i, listed.getD d false = true
  facts : ∀ i, i < m → listed.getD i false = true → R i vals (vals i) w
  defers : a.defers = a0.defers
  tsize : a.tmps.size = a0.tmps.size
  outer : ∀ t, (∀ i, i < m → listed.getD i false = true → dstAt ops i ≠ some t) → a.tmps[t]? = a0.tmps[t]?
  inner : ∀ i t, i < m → listed.getD i false = true → dstAt ops i = some t → t < a0.tmps.size → a.tmps[t]? = some (vals i)

theorem agree (hc : regChk ops m = true) {listed : Array Bool} {vals : Nat → Value} {a : Act} {w : World} (hI : Inv T ops a0 w0 R m listed vals a w) {i : Nat} (hi : i < m) {o : Oper} (ho : ops[i]? = some o)
    (hd : ∀ d ∈ depsOf o, listed.getD d false = true) : ∀ t ∈ o.looksAt ops, a.tmps[t]? = (Lf ops a0 vals i).tmps[t]? := by
  intro t ht
  obtain ⟨o', ho', h1, h2, h3, _⟩ := chk_op hc hi
  rw [ho] at ho'
  injection ho' with ho'
  subst ho'
  by_cases hj : ∃ j, j < m ∧ dstAt ops j = some t
  · obtain ⟨j, hjm, hjt⟩ := hj
    have hjd := h3 t ht j hjm hjt
    have hji := h1 j hjd
    obtain ⟨oj, hoj, _, h2j, _⟩ := chk_op hc hjm
    have hdj : oj.dst = some t := by simpa [dstAt, hoj] using hjt
    rcases Nat.lt_or_ge t a0.tmps.size with hlt | hge
    · rw [hI.inner j t hjm (hd j hjd) hjt hlt, Lf_inner vals i j t hji hjt (fun k hk1 hk2 => h2j t hdj k (by omega) (by omega)) hlt]
    · rw [Array.getElem?_eq_none (by rw [hI.tsize]; exact hge), Array.getElem?_eq_none (by rw [Lf_size]; exact hge)]
  · have hj' : ∀ j, j < m → dstAt ops j ≠ some t := fun j hjm hjt => hj ⟨j, hjm, hjt⟩
    rw [hI.outer t (fun j hjm _ => hj' j hjm), Lf_outer vals i t (fun j hji => hj' j (by omega))]

theorem Qo_notOut (a0 : Act) (R : Value → World → Prop) (o : Oper) (w : World) : ¬ LetsOut (Qo T a0 R o w) := by
  rintro ⟨_, _, h⟩
  exact h

theorem run_obl {i : Nat} {o : Oper} {a b : Act} {w : World} {Ri : Value → World → Prop} (ht : tameOp o = true) (hb : b.defers = a0.defers) (hab : ∀ t ∈ o.looksAt ops, a.tmps[t]? = b.tmps[t]?) (ho : ops[i]? = some o)
    {K : Act → World → Prop} (h : wpList P ops (Qo T a0 Ri o w) [o] b w) (hK : ∀ v w', T w w' → Ri (slotOf o (b.put o.dst v)) w' → K (a.put o.dst v) w') : wpOp P ops Q i K a w := by
  have hs : ∀ cs b, o.op ≠ .select cs b := fun cs b e => by simp [tameOp, e] at ht
  have he : execOp a.eval o = execOp b.eval o := execOp_congr o hs (eval_agree hab)
  have hw := wanted_agree hab
  unfold wpOp
  simp only [ho]
  rw [hw]
  unfold wpList at h
  cases hwb : Region.wanted o (yielded ops b.tmps)
  · simp only [hwb, Bool.false_eq_true, if_false] at h ⊢
    unfold wpList at h
    exact hK _ _ h.2.1 h.2.2
  · simp only [hwb, if_true] at h ⊢
    rcases h with h | h
    · refine .inl ?_
      unfold Oper.wp at h ⊢
      rw [he]
      generalize (execOp b.eval o).run P w = r at h
      cases r with
      | ok n w' =>
        cases n <;> simp only [Oper.upon] at h ⊢
        case value v => unfold wpList at h; exact hK _ _ h.2.1 h.2.2
        case skip => unfold wpList at h; exact hK _ _ h.2.1 h.2.2
        case defer d =>
          unfold wpList at h
          have := h.1
          cases hd : o.dst <;> simp [Act.put, hd, hb] at this
        case enter f args =>
          refine Calls.mono h fun e w'' hq => ?_
          cases e with
          | returned v => unfold wpList at hq; exact hK _ _ hq.2.1 hq.2.2
          | panicked ch => exact absurd hq (by simp [Qo])
          | outgrown => exact absurd hq (Qo_notOut _ _ _ _)
        case row row args =>
          exact Rows.mono h fun v w'' hq => by unfold wpList at hq; exact hK _ _ hq.2.1 hq.2.2
        all_goals exact h
      | halt x w' => cases x <;> simp only [Oper.upon] at h ⊢ <;> first | exact h.elim | exact absurd h (by simp [Qo])
    · exact absurd h.2 (Qo_notOut _ _ _ _)

theorem wpAny_of_obl (hT : Tr T) (hc : regChk ops m = true) (hst : ∀ i vals v w w', i < m → R i vals v w → T w w' → R i vals v w') (hloc : ∀ i vals vals' v w, i < m → (∀ d, anc ops i d = true → vals d = vals' d) → R i vals v w → R i vals' v w) (hob : ∀ i o, i < m → ops[i]? = some o → Obl T P ops a0 w0 R i o)
    (hfin : ∀ (vals : Nat → Value) (w : World), T w0 w → (∀ i, i < m → R i vals (vals i) w) → wpAny P .any ops Q (ops.size - m) (litL ops.size m) (Lf ops a0 vals m) w) :
    ∀ (c : Nat) (listed : Array Bool) (vals : Nat → Value) (a : Act) (w : World), unl listed m = c → Inv T ops a0 w0 R m listed vals a w → wpAny P .any ops Q (ops.size - m + c) listed a w := by
  intro c
  induction c with
  | zero =>
    intro listed vals a w hu hI
    have hall := unl_zero hu
    have hsz := chk_size hc
    have hlit : listed = litL ops.size m := by
      apply Array.ext
      · simp [litL, hI.size]
      · intro i h1 h2
        have hg : listed.getD i false = listed[i] := by simp [Array.getD_eq_getD_getElem?, h1]
        rcases Nat.lt_or_ge i m with h | h
        · have := hall i h
          rw [hg] at this
          simp [litL, this, h]
        · have := hI.tail i h
          rw [hg] at this
          simp [litL, this, Nat.not_lt.2 h]
    have ha : a = Lf ops a0 vals m := by
      have ht : a.tmps = (Lf ops a0 vals m).tmps := by
        apply Array.ext_getElem?
        intro t
        by_cases hj : ∃ j, j < m ∧ dstAt ops j = some t
        · obtain ⟨j, hjm, hjt⟩ := hj
          obtain ⟨oj, hoj, _, h2j, _⟩ := chk_op hc hjm
          have hdj : oj.dst = some t := by simpa [dstAt, hoj] using hjt
          rcases Nat.lt_or_ge t a0.tmps.size with hlt | hge
          · rw [hI.inner j t hjm (hall j hjm) hjt hlt, Lf_inner vals m j t hjm hjt (fun k hk1 hk2 => h2j t hdj k hk2 (by omega)) hlt]
          · rw [Array.getElem?_eq_none (by rw [hI.tsize]; exact hge), Array.getElem?_eq_none (by rw [Lf_size]; exact hge)]
        · have hj' : ∀ j, j < m → dstAt ops j ≠ some t := fun j hjm hjt => hj ⟨j, hjm, hjt⟩
          rw [hI.outer t (fun j hjm _ => hj' j hjm), Lf_outer vals m t (fun j hji => hj' j hji)]
      have hd : a.defers = (Lf ops a0 vals m).defers := by rw [Lf_defers, hI.defers]
      cases a
      cases hL : Lf ops a0 vals m
      simp_all
    rw [hlit, ha]
    exact hfin vals w hI.ext fun i hi => hI.facts i hi (hall i hi)
  | succ c ih =>
    intro listed vals a w hu hI
    have hsz := chk_size hc
    have hgt : ∀ i, i < listed.size → listed.getD i true = listed.getD i false := fun i hi => by simp [Array.getD_eq_getD_getElem?, hi]
    obtain ⟨i0, hi0, hun0, hall0⟩ := unl_pos (m := m) (listed := listed) (by omega)
    obtain ⟨o0, ho0, hd0, _⟩ := chk_op hc hi0
    have hr0 : i0 ∈ Region.ready .any ops listed := ready_of (by omega) (by rw [hgt _ (by rw [hI.size]; omega)]; exact hun0) ho0 fun d hd => hall0 d (hd0 d hd)
    show wpAny P .any ops Q ((ops.size - m + c) + 1) listed a w
    unfold wpAny
    refine ⟨fun hnil => absurd hr0 (by rw [hnil]; simp), fun i hi => ?_⟩
    obtain ⟨hin, hiu, o, ho, hdl⟩ := ready_spec hi
    have him : i < m := by
      rcases Nat.lt_or_ge i m with h | h
      · exact h
      · obtain ⟨o', ho', ht⟩ := chk_tail hc h hin
        rw [ho] at ho'
        injection ho' with ho'
        subst ho'
        rcases ht with ⟨d, h1, h2⟩ | ht
        · have := hdl d h1
          rw [hI.tail d h2] at this
          cases this
        have := close_listed hI.closed m _ (Nat.le_refl _) hdl i0 (ht i0 hi0)
        rw [hun0] at this
        cases this
    obtain ⟨o', ho', hdi, hdist, hlook, htame⟩ := chk_op hc him
    rw [ho] at ho'
    injection ho' with ho'
    subst ho'
    have hiL : i < listed.size := by rw [hI.size]; exact hin
    have hiu' : listed.getD i false = false := by rw [← hgt i hiL]; exact hiu
    have hanc : ∀ d, anc ops i d = true → listed.getD d false = true := fun d hd => by
      unfold anc at hd
      refine close_listed hI.closed i _ (by omega) (fun d hd => ?_) d (by simpa using hd)
      exact hdl d (by simpa [depsAt, ho] using hd)
    have hltm : ∀ d, listed.getD d false = true → d < m := fun d hd => by
      rcases Nat.lt_or_ge d m with h | h
      · exact h
      · rw [hI.tail d h] at hd; cases hd
    refine run_obl htame (Lf_defers vals i) (agree hc hI him ho hdl) ho (hob i o him ho vals w hI.ext (fun d hd => hI.facts d (by have := hdi d hd; omega) (hdl d hd)) (fun d hd => hI.facts d (hltm d (hanc d hd)) (hanc d hd))) ?_
    intro v w' hext hR
    refine ih _ (fun j => if j = i then slotOf o ((Lf ops a0 vals i).put o.dst v) else vals j) _ _ (by have := unl_set listed i him hiL hiu'; omega) ?_
    have hdo : dstAt ops i = o.dst := by simp [dstAt, ho]
    constructor
    · exact hT.trans hI.ext hext
    · simp [hI.size]
    · intro j hj
      rw [getD_set listed i j hiL, if_neg (by omega)]
      exact hI.tail j hj
    · intro j hj hl d hd
      rw [getD_set listed i d hiL]
      rw [getD_set listed i j hiL] at hl
      by_cases hji : j = i
      · subst hji
        have : d ∈ depsOf o := by simpa [depsAt, ho] using hd
        rw [hdl d this]
        simp
      · rw [if_neg hji] at hl
        rw [hI.closed j hj hl d hd]
        simp
    · intro j hj hl
      rw [getD_set listed i j hiL] at hl
      by_cases hji : j = i
      · subst hji
        simp only [if_true]
        refine hloc j vals _ _ w' hj (fun d hd => ?_) hR
        have hdj : d ≠ j := fun e => by
          have := hanc d hd
          rw [e, hiu'] at this
          cases this
        simp [hdj]
      · rw [if_neg hji] at hl
        simp only [hji, if_false]
        refine hloc j vals _ _ w' hj (fun d hd => ?_) (hst j vals _ w w' hj (hI.facts j hj hl) hext)
        have hdl' : listed.getD d false = true := by
          unfold anc at hd
          exact close_listed hI.closed j _ (by omega) (fun d hd => hI.closed j hj hl d hd) d (by simpa using hd)
        have hdi' : d ≠ i := fun e => by
          rw [e, hiu'] at hdl'
          cases hdl'
        simp [hdi']
    · cases hd : o.dst <;> simp [Act.put, hI.defers]
    · cases hd : o.dst <;> simp [Act.put, hI.tsize]
    · intro t ht
      rw [put_get, if_neg (by rw [← hdo]; exact ht i him (by rw [getD_set listed i i hiL, if_pos rfl]))]
      refine hI.outer t fun j hj hl => ht j hj ?_
      rw [getD_set listed i j hiL]
      split
      · rfl
      · exact hl
    · intro j t hj hl hdj htl
      rw [put_get]
      by_cases hji : j = i
      · subst hji
        rw [hdo] at hdj
        rw [if_pos hdj, if_pos (by rw [hI.tsize]; exact htl)]
        have h2 := put_get (Lf ops a0 vals j) o.dst v t
        rw [if_pos hdj, if_pos (by rw [Lf_size]; exact htl)] at h2
        simp only [if_true, slotOf, hdj, Array.getD_eq_getD_getElem?]
        rw [hdj] at h2
        rw [h2]
        rfl
      · rw [getD_set listed i j hiL, if_neg hji] at hl
        rw [if_neg (fun e => hdist t e j hj hji hdj)]
        simp only [hji, if_false]
        exact hI.inner j t hj hl hdj htl

def Obls (T : World → World → Prop) (P : Program) (ops : Array Oper) (a0 : Act) (w0 : World) (R : Nat → (Nat → Value) → Value → World → Prop) : Nat → List Oper → Prop
  | _, [] => True
  | k, o :: rest => Obl T P ops a0 w0 R k o ∧ Obls T P ops a0 w0 R (k + 1) rest
theorem obls_at : ∀ (l : List Oper) (k : Nat), Obls T P ops a0 w0 R k l → ∀ j o, l[j]? = some o → Obl T P ops a0 w0 R (k + j) o
  | [], _, _, _, _, h => by simp at h
  | x :: l, k, ⟨h1, h2⟩, j, o, hj => by
    cases j with
    | zero =>
      simp at hj
      subst hj
      exact h1
    | succ j =>
      have := obls_at l (k + 1) h2 j o (by simpa using hj)
      rwa [show k + 1 + j = k + (j + 1) by omega] at this

theorem wp_region_obl {id : Nat} {a : Act} {w : World} (hT : Tr T) (m : Nat) (R : Nat → (Nat → Value) → Value → World → Prop) (hm : P.follows .mixedOrders = true) (hc : regChk ops m = true) (hst : ∀ i vals v w w', i < m → R i vals v w → T w w' → R i vals v w') (hloc : ∀ i vals vals' v w, i < m → (∀ d, anc ops i d = true → vals d = vals' d) → R i vals v w → R i vals' v w)
    (hob : Obls T P ops a w.drew R 0 (ops.toList.take m))
    (hfin : ∀ (vals : Nat → Value) (w' : World), T w.drew w' → (∀ i, i < m → R i vals (vals i) w') → wpAny P .any ops Q (ops.size - m) (litL ops.size m) (Lf ops a vals m) w') : (Code.region id ops true).wp P Q a w := by
  refine wp_region_any hm ?_
  have hsz := chk_size hc
  have hunl : unl (Array.replicate ops.size false) m = m := by
    unfold unl
    rw [List.filter_eq_self.2 (fun i hi => by simp [Array.getD_eq_getD_getElem?, Array.getElem?_replicate]; split <;> rfl)]
    simp
  have h := wpAny_of_obl (P := P) (Q := Q) (a0 := a) (w0 := w.drew) hT hc hst hloc (fun i o hi ho => by
    have := obls_at (P := P) (ops := ops) (a0 := a) (w0 := w.drew) (R := R) _ 0 hob i o (by rw [List.getElem?_take, if_pos hi]; simpa using ho)
    simpa using this) hfin m (Array.replicate ops.size false) (fun _ => undef) a w.drew hunl ?_
  · rw [show ops.size - m + m = ops.size by omega] at h
    exact h
  · have hf : ∀ i, (Array.replicate ops.size false).getD i false = false := fun i => by simp [Array.getD_eq_getD_getElem?, Array.getElem?_replicate]; split <;> rfl
    constructor
    · exact hT.refl _
    · simp
    · intro i _; exact hf i
    · intro i _ h; rw [hf] at h; cases h
    · intro i _ h; rw [hf] at h; cases h
    · rfl
    · rfl
    · intro t _; rfl
    · intro i t _ h; rw [hf] at h; cases h

end
end RB
end Go.Proofs.Ytikphbgfcpamgaa
namespace Go.Proofs.Ytikphbgfcpamgaa
open Go.RowKit

def TG (g : Nat) (o : Obj) (w w' : World) : Prop := w.grownBy w' (some g) ∧ (w'.heap[g]? = w.heap[g]? ∨ w'.heap[g]? = some o)
theorem tg_tr (g : Nat) (o : Obj) : RB.Tr (TG g o) :=
  ⟨fun w => ⟨World.grownBy.refl w _, .inl rfl⟩, fun {a b c} h k => ⟨⟨k.1.os.trans h.1.os, k.1.tape.trans h.1.tape, k.1.output.trans h.1.output, Nat.le_trans h.1.size k.1.size, fun i hi hne => (k.1.block i (Nat.lt_of_lt_of_le hi h.1.size) hne).trans (h.1.block i hi hne)⟩, by
    rcases k.2 with k2 | k2
    · rcases h.2 with h2 | h2
      · exact .inl (k2.trans h2)
      · exact .inr (k2.trans h2)
    · exact .inr k2⟩⟩
theorem TG.of_ext {g : Nat} {o : Obj} {w w' : World} (h : Ext w w') (hg : g < w.heap.size) : TG g o w w' := ⟨⟨h.os, h.tape, h.output, h.size, fun i hi _ => h.block i hi⟩, .inl (h.block g hg)⟩
theorem TG.undrew {g : Nat} {o : Obj} {w w' : World} (h : TG g o w.drew w') : TG g o w w' := ⟨⟨h.1.os, h.1.tape, h.1.output, h.1.size, h.1.block⟩, h.2⟩
theorem TG.cell {g : Nat} {o : Obj} {w w' : World} (h : TG g o w w') {p : Addr} {v : Value} (hc : w.cell? p = some v) (hp : p.block ≠ g) : w'.cell? p = some v :=
  (World.cell?_of_block (h.1.block p.block (World.block_lt_of_cell? w _ hc) (by intro e; injection e with e; exact hp e))).trans hc
theorem TG.blk {g g' : Nat} {o : Obj} {w w' : World} {t : TypeId} {cs : Array Value} (h : TG g o w w') (hb : Blk w g' t cs) (hp : g' ≠ g) : Blk w' g' t cs := (h.1.block g' hb.lt (by intro e; injection e with e; exact hp e)).trans hb
def putC (cur : Array Value) (k : Nat) (news : List Value) : Array Value := (cur.toList.take k ++ news ++ cur.toList.drop (k + news.length)).toArray
theorem putC_size {cur : Array Value} {k : Nat} {news : List Value} (h : k + news.length ≤ cur.size) : (putC cur k news).size = cur.size := by
  simp only [putC, List.size_toArray, List.length_append, List.length_take, List.length_drop, Array.length_toList]
  omega
theorem putC_twice {cur : Array Value} {k : Nat} {news : List Value} (h : k + news.length ≤ cur.size) : putC (putC cur k news) k news = putC cur k news := by
  unfold putC
  congr 1
  have e1 : (cur.toList.take k).length = k := by rw [List.length_take, Array.length_toList]; omega
  have e2 : (cur.toList.take k ++ news).length = k + news.length := by rw [List.length_append, e1]
  congr 1
  · congr 1
    rw [List.append_assoc]
    simp only [List.take_append, e1]
    simp [List.take_take]
  · rw [List.drop_append, e2, List.drop_of_length_le (by rw [e2]; exact Nat.le_refl _), Nat.sub_self, List.drop_zero, List.nil_append]
theorem putC_take {cur : Array Value} {k : Nat} {news : List Value} (h : k + news.length ≤ cur.size) : (putC cur k news).toList.take (k + news.length) = cur.toList.take k ++ news := by
  unfold putC
  have e2 : (cur.toList.take k ++ news).length = k + news.length := by rw [List.length_append, List.length_take, Array.length_toList]; omega
  simp only
  rw [List.take_append_of_le_length (by omega), List.take_of_length_le (by omega)]
end Go.Proofs.Ytikphbgfcpamgaa
