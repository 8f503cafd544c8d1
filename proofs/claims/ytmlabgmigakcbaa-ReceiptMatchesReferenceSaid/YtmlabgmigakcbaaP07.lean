/- Whether a receipt fits an option; fates and discords of all, plainly. -/
import Derived.Test.YtmlabgmigakcbaaP02
import Derived.Test.YtmlabgmigakcbaaP06
import Derived.Laws.Rows
namespace Go.Proofs.Ytmlabgmigakcbaa
open Go.RowKit
namespace RB
structure Tr (T : World → World → Prop) : Prop where
 refl : ∀ w, T w w
 trans : ∀ {a b c}, T a b → T b c → T a c
section
variable {P : Program} {ops : Array Oper} {Q : Exit → Act → World → Prop} {a0 : Act} {w0 : World} {R : Nat → (Nat → Value) → Value → World → Prop} {m : Nat} {T : World → World → Prop}
def Qo (T : World → World → Prop) (a0 : Act) (R : Value → World → Prop) (o : Oper) (w : World) (e : Exit) (a' : Act) (w' : World) : Prop :=
 match e with
 | .normal => a'.defers = a0.defers ∧ T w w' ∧ R (match o.dst with | some t => a'.tmps.getD t undef | none => undef) w'
 | _ => False
def Obl (T : World → World → Prop) (P : Program) (ops : Array Oper) (a0 : Act) (w0 : World) (R : Nat → (Nat → Value) → Value → World → Prop) (i : Nat) (o : Oper) : Prop :=
 ∀ (vals : Nat → Value) (w : World), T w0 w → (∀ d ∈ depsOf o, R d vals (vals d) w) → (∀ d, anc ops i d = true → R d vals (vals d) w) → wpList P ops (Qo T a0 (R i vals) o w) [o] (Lf ops a0 vals i) w
structure Inv (T : World → World → Prop) (ops : Array Oper) (a0 : Act) (w0 : World) (R : Nat → (Nat → Value) → Value → World → Prop) (m : Nat) (listed : Array Bool) (vals : Nat → Value) (a : Act) (w : World) : Prop where
 ext : T w0 w
 size : listed.size = ops.size
 tail : ∀ i, m ≤ i → listed.getD i false = false
 closed : ∀ i, i < m → listed.getD i false = true → ∀ d ∈ depsAt ops i, listed.getD d false = true
 facts : ∀ i, i < m → listed.getD i false = true → R i vals (vals i) w
 defers : a.defers = a0.defers
 tsize : a.tmps.size = a0.tmps.size
 outer : ∀ t, (∀ i, i < m → listed.getD i false = true → dstAt ops i ≠ some t) → a.tmps[t]? = a0.tmps[t]?
 inner : ∀ i t, i < m → listed.getD i false = true → dstAt ops i = some t → t < a0.tmps.size → a.tmps[t]? = some (vals i)
theorem agree (hc : regChk ops m = true) {listed : Array Bool} {vals : Nat → Value} {a : Act} {w : World} (hI : Inv T ops a0 w0 R m listed vals a w) {i : Nat} (hi : i < m) {o : Oper} (ho : ops[i]? = some o)
  (hd : ∀ d ∈ depsOf o, listed.getD d false = true) : ∀ t ∈ o.looksAt ops, a.tmps[t]? = (Lf ops a0 vals i).tmps[t]? := by
 intro t ht
 obtain ⟨o', ho', h1, h2, h3, _⟩ := chk_op hc hi
 rw [ho] at ho'
 injection ho' with ho'
 subst ho'
 by_cases hj : ∃ j, j < m ∧ dstAt ops j = some t
 ·obtain ⟨j, hjm, hjt⟩ := hj
  have hjd := h3 t ht j hjm hjt
  have hji := h1 j hjd
  obtain ⟨oj, hoj, _, h2j, _⟩ := chk_op hc hjm
  have hdj : oj.dst = some t := by simpa [dstAt, hoj] using hjt
  rcases Nat.lt_or_ge t a0.tmps.size with hlt | hge
  ·rw [hI.inner j t hjm (hd j hjd) hjt hlt, Lf_inner vals i j t hji hjt (fun k hk1 hk2 => h2j t hdj k (by omega) (by omega)) hlt]
  ·rw [Array.getElem?_eq_none (by rw [hI.tsize]; exact hge), Array.getElem?_eq_none (by rw [Lf_size]; exact hge)]
 ·have hj' : ∀ j, j < m → dstAt ops j ≠ some t := fun j hjm hjt => hj ⟨j, hjm, hjt⟩
  rw [hI.outer t (fun j hjm _ => hj' j hjm), Lf_outer vals i t (fun j hji => hj' j (by omega))]
theorem Qo_notOut (a0 : Act) (R : Value → World → Prop) (o : Oper) (w : World) : ¬ LetsOut (Qo T a0 R o w) := by
 rintro ⟨_, _, h⟩
 exact h
theorem run_obl {i : Nat} {o : Oper} {a b : Act} {w : World} {Ri : Value → World → Prop} (ht : tameOp o = true) (hb : b.defers = a0.defers) (hab : ∀ t ∈ o.looksAt ops, a.tmps[t]? = b.tmps[t]?) (ho : ops[i]? = some o)
  {K : Act → World → Prop} (h : wpList P ops (Qo T a0 Ri o w) [o] b w) (hK : ∀ v w', T w w' → Ri (slotOf o (b.put o.dst v)) w' → K (a.put o.dst v) w') : wpOp P ops Q i K a w := by
 have hs : ∀ cs b, o.op ≠ .select cs b := fun cs b e => by simp [tameOp, e] at ht
 have he : execOp a.eval o = execOp b.eval o := execOp_congr o hs (eval_agree hab)
 have hw := wanted_agree hab
 unfold wpOp
 simp only [ho]
 rw [hw]
 unfold wpList at h
 cases hwb : Region.wanted o (yielded ops b.tmps)
 ·simp only [hwb, Bool.false_eq_true, if_false] at h ⊢
  unfold wpList at h
  exact hK _ _ h.2.1 h.2.2
 ·simp only [hwb, if_true] at h ⊢
  rcases h with h | h
  ·refine .inl ?_
   unfold Oper.wp at h ⊢
   rw [he]
   generalize (execOp b.eval o).run P w = r at h
   cases r with
   | ok n w' =>
    cases n <;> simp only [Oper.upon] at h ⊢
    case value v => unfold wpList at h; exact hK _ _ h.2.1 h.2.2
    case skip => unfold wpList at h; exact hK _ _ h.2.1 h.2.2
    case defer d =>
     unfold wpList at h
     have := h.1
     cases hd : o.dst <;> simp [Act.put, hd, hb] at this
    case enter f args =>
     refine Calls.mono h fun e w'' hq => ?_
     cases e with
     | returned v => unfold wpList at hq; exact hK _ _ hq.2.1 hq.2.2
     | panicked ch => exact absurd hq (by simp [Qo])
     | outgrown => exact absurd hq (Qo_notOut _ _ _ _)
    case row row args =>
     exact Rows.mono h fun v w'' hq => by unfold wpList at hq; exact hK _ _ hq.2.1 hq.2.2
    all_goals exact h
   | halt x w' => cases x <;> simp only [Oper.upon] at h ⊢ <;> first | exact h.elim | exact absurd h (by simp [Qo])
  ·exact absurd h.2 (Qo_notOut _ _ _ _)
theorem wpAny_of_obl (hT : Tr T) (hc : regChk ops m = true) (hst : ∀ i vals v w w', i < m → R i vals v w → T w w' → R i vals v w') (hloc : ∀ i vals vals' v w, i < m → (∀ d, anc ops i d = true → vals d = vals' d) → R i vals v w → R i vals' v w) (hob : ∀ i o, i < m → ops[i]? = some o → Obl T P ops a0 w0 R i o)
  (hfin : ∀ (vals : Nat → Value) (w : World), T w0 w → (∀ i, i < m → R i vals (vals i) w) → wpAny P .any ops Q (ops.size - m) (litL ops.size m) (Lf ops a0 vals m) w) :
  ∀ (c : Nat) (listed : Array Bool) (vals : Nat → Value) (a : Act) (w : World), unl listed m = c → Inv T ops a0 w0 R m listed vals a w → wpAny P .any ops Q (ops.size - m + c) listed a w := by
 intro c
 induction c with
 | zero =>
  intro listed vals a w hu hI
  have hall := unl_zero hu
  have hsz := chk_size hc
  have hlit : listed = litL ops.size m := by
   apply Array.ext
   ·simp [litL, hI.size]
   ·intro i h1 h2
    have hg : listed.getD i false = listed[i] := by simp [Array.getD_eq_getD_getElem?, h1]
    rcases Nat.lt_or_ge i m with h | h
    ·have := hall i h
     rw [hg] at this
     simp [litL, this, h]
    ·have := hI.tail i h
     rw [hg] at this
     simp [litL, this, Nat.not_lt.2 h]
  have ha : a = Lf ops a0 vals m := by
   have ht : a.tmps = (Lf ops a0 vals m).tmps := by
    apply Array.ext_getElem?
    intro t
    by_cases hj : ∃ j, j < m ∧ dstAt ops j = some t
    ·obtain ⟨j, hjm, hjt⟩ := hj
     obtain ⟨oj, hoj, _, h2j, _⟩ := chk_op hc hjm
     have hdj : oj.dst = some t := by simpa [dstAt, hoj] using hjt
     rcases Nat.lt_or_ge t a0.tmps.size with hlt | hge
     ·rw [hI.inner j t hjm (hall j hjm) hjt hlt, Lf_inner vals m j t hjm hjt (fun k hk1 hk2 => h2j t hdj k hk2 (by omega)) hlt]
     ·rw [Array.getElem?_eq_none (by rw [hI.tsize]; exact hge), Array.getElem?_eq_none (by rw [Lf_size]; exact hge)]
    ·have hj' : ∀ j, j < m → dstAt ops j ≠ some t := fun j hjm hjt => hj ⟨j, hjm, hjt⟩
     rw [hI.outer t (fun j hjm _ => hj' j hjm), Lf_outer vals m t (fun j hji => hj' j hji)]
   have hd : a.defers = (Lf ops a0 vals m).defers := by rw [Lf_defers, hI.defers]
   cases a
   cases hL : Lf ops a0 vals m
   simp_all
  rw [hlit, ha]
  exact hfin vals w hI.ext fun i hi => hI.facts i hi (hall i hi)
 | succ c ih =>
  intro listed vals a w hu hI
  have hsz := chk_size hc
  have hgt : ∀ i, i < listed.size → listed.getD i true = listed.getD i false := fun i hi => by simp [Array.getD_eq_getD_getElem?, hi]
  obtain ⟨i0, hi0, hun0, hall0⟩ := unl_pos (m := m) (listed := listed) (by omega)
  obtain ⟨o0, ho0, hd0, _⟩ := chk_op hc hi0
  have hr0 : i0 ∈ Region.ready .any ops listed := ready_of (by omega) (by rw [hgt _ (by rw [hI.size]; omega)]; exact hun0) ho0 fun d hd => hall0 d (hd0 d hd)
  show wpAny P .any ops Q ((ops.size - m + c) + 1) listed a w
  unfold wpAny
  refine ⟨fun hnil => absurd hr0 (by rw [hnil]; simp), fun i hi => ?_⟩
  obtain ⟨hin, hiu, o, ho, hdl⟩ := ready_spec hi
  have him : i < m := by
   rcases Nat.lt_or_ge i m with h | h
   ·exact h
   ·obtain ⟨o', ho', ht⟩ := chk_tail hc h hin
    rw [ho] at ho'
    injection ho' with ho'
    subst ho'
    rcases ht with ⟨d, h1, h2⟩ | ht
    ·have := hdl d h1
     rw [hI.tail d h2] at this
     cases this
    have := close_listed hI.closed m _ (Nat.le_refl _) hdl i0 (ht i0 hi0)
    rw [hun0] at this
    cases this
  obtain ⟨o', ho', hdi, hdist, hlook, htame⟩ := chk_op hc him
  rw [ho] at ho'
  injection ho' with ho'
  subst ho'
  have hiL : i < listed.size := by rw [hI.size]; exact hin
  have hiu' : listed.getD i false = false := by rw [← hgt i hiL]; exact hiu
  have hanc : ∀ d, anc ops i d = true → listed.getD d false = true := fun d hd => by
   unfold anc at hd
   refine close_listed hI.closed i _ (by omega) (fun d hd => ?_) d (by simpa using hd)
   exact hdl d (by simpa [depsAt, ho] using hd)
  have hltm : ∀ d, listed.getD d false = true → d < m := fun d hd => by
   rcases Nat.lt_or_ge d m with h | h
   ·exact h
   ·rw [hI.tail d h] at hd; cases hd
  refine run_obl htame (Lf_defers vals i) (agree hc hI him ho hdl) ho (hob i o him ho vals w hI.ext (fun d hd => hI.facts d (by have := hdi d hd; omega) (hdl d hd)) (fun d hd => hI.facts d (hltm d (hanc d hd)) (hanc d hd))) ?_
  intro v w' hext hR
  refine ih _ (fun j => if j = i then slotOf o ((Lf ops a0 vals i).put o.dst v) else vals j) _ _ (by have := unl_set listed i him hiL hiu'; omega) ?_
  have hdo : dstAt ops i = o.dst := by simp [dstAt, ho]
  constructor
  ·exact hT.trans hI.ext hext
  ·simp [hI.size]
  ·intro j hj
   rw [getD_set listed i j hiL, if_neg (by omega)]
   exact hI.tail j hj
  ·intro j hj hl d hd
   rw [getD_set listed i d hiL]
   rw [getD_set listed i j hiL] at hl
   by_cases hji : j = i
   ·subst hji
    have : d ∈ depsOf o := by simpa [depsAt, ho] using hd
    rw [hdl d this]
    simp
   ·rw [if_neg hji] at hl
    rw [hI.closed j hj hl d hd]
    simp
  ·intro j hj hl
   rw [getD_set listed i j hiL] at hl
   by_cases hji : j = i
   ·subst hji
    simp only [if_true]
    refine hloc j vals _ _ w' hj (fun d hd => ?_) hR
    have hdj : d ≠ j := fun e => by
     have := hanc d hd
     rw [e, hiu'] at this
     cases this
    simp [hdj]
   ·rw [if_neg hji] at hl
    simp only [hji, if_false]
    refine hloc j vals _ _ w' hj (fun d hd => ?_) (hst j vals _ w w' hj (hI.facts j hj hl) hext)
    have hdl' : listed.getD d false = true := by
     unfold anc at hd
     exact close_listed hI.closed j _ (by omega) (fun d hd => hI.closed j hj hl d hd) d (by simpa using hd)
    have hdi' : d ≠ i := fun e => by
     rw [e, hiu'] at hdl'
     cases hdl'
    simp [hdi']
  ·cases hd : o.dst <;> simp [Act.put, hI.defers]
  ·cases hd : o.dst <;> simp [Act.put, hI.tsize]
  ·intro t ht
   rw [put_get, if_neg (by rw [← hdo]; exact ht i him (by rw [getD_set listed i i hiL, if_pos rfl]))]
   refine hI.outer t fun j hj hl => ht j hj ?_
   rw [getD_set listed i j hiL]
   split
   ·rfl
   ·exact hl
  ·intro j t hj hl hdj htl
   rw [put_get]
   by_cases hji : j = i
   ·subst hji
    rw [hdo] at hdj
    rw [if_pos hdj, if_pos (by rw [hI.tsize]; exact htl)]
    have h2 := put_get (Lf ops a0 vals j) o.dst v t
    rw [if_pos hdj, if_pos (by rw [Lf_size]; exact htl)] at h2
    simp only [if_true, slotOf, hdj, Array.getD_eq_getD_getElem?]
    rw [hdj] at h2
    rw [h2]
    rfl
   ·rw [getD_set listed i j hiL, if_neg hji] at hl
    rw [if_neg (fun e => hdist t e j hj hji hdj)]
    simp only [hji, if_false]
    exact hI.inner j t hj hl hdj htl
def Obls (T : World → World → Prop) (P : Program) (ops : Array Oper) (a0 : Act) (w0 : World) (R : Nat → (Nat → Value) → Value → World → Prop) : Nat → List Oper → Prop
 | _, [] => True
 | k, o :: rest => Obl T P ops a0 w0 R k o ∧ Obls T P ops a0 w0 R (k + 1) rest
theorem obls_at : ∀ (l : List Oper) (k : Nat), Obls T P ops a0 w0 R k l → ∀ j o, l[j]? = some o → Obl T P ops a0 w0 R (k + j) o
 | [], _, _, _, _, h => by simp at h
 | x :: l, k, ⟨h1, h2⟩, j, o, hj => by
  cases j with
  | zero =>
   simp at hj
   subst hj
   exact h1
  | succ j =>
   have := obls_at l (k + 1) h2 j o (by simpa using hj)
   rwa [show k + 1 + j = k + (j + 1) by omega] at this
theorem wp_region_obl {id : Nat} {a : Act} {w : World} (hT : Tr T) (m : Nat) (R : Nat → (Nat → Value) → Value → World → Prop) (hm : P.follows .mixedOrders = true) (hc : regChk ops m = true) (hst : ∀ i vals v w w', i < m → R i vals v w → T w w' → R i vals v w') (hloc : ∀ i vals vals' v w, i < m → (∀ d, anc ops i d = true → vals d = vals' d) → R i vals v w → R i vals' v w)
  (hob : Obls T P ops a w.drew R 0 (ops.toList.take m))
  (hfin : ∀ (vals : Nat → Value) (w' : World), T w.drew w' → (∀ i, i < m → R i vals (vals i) w') → wpAny P .any ops Q (ops.size - m) (litL ops.size m) (Lf ops a vals m) w') : (Code.region id ops true).wp P Q a w := by
 refine wp_region_any hm ?_
 have hsz := chk_size hc
 have hunl : unl (Array.replicate ops.size false) m = m := by
  unfold unl
  rw [List.filter_eq_self.2 (fun i hi => by simp [Array.getD_eq_getD_getElem?, Array.getElem?_replicate]; split <;> rfl)]
  simp
 have h := wpAny_of_obl (P := P) (Q := Q) (a0 := a) (w0 := w.drew) hT hc hst hloc (fun i o hi ho => by
  have := obls_at (P := P) (ops := ops) (a0 := a) (w0 := w.drew) (R := R) _ 0 hob i o (by rw [List.getElem?_take, if_pos hi]; simpa using ho)
  simpa using this) hfin m (Array.replicate ops.size false) (fun _ => undef) a w.drew hunl ?_
 ·rw [show ops.size - m + m = ops.size by omega] at h
  exact h
 ·have hf : ∀ i, (Array.replicate ops.size false).getD i false = false := fun i => by simp [Array.getD_eq_getD_getElem?, Array.getElem?_replicate]; split <;> rfl
  constructor
  ·exact hT.refl _
  ·simp
  ·intro i _; exact hf i
  ·intro i _ h; rw [hf] at h; cases h
  ·intro i _ h; rw [hf] at h; cases h
  ·rfl
  ·rfl
  ·intro t _; rfl
  ·intro i t _ h; rw [hf] at h; cases h
end
end RB
end Go.Proofs.Ytmlabgmigakcbaa
namespace Go.Proofs.Ytmlabgmigakcbaa
open Go.RowKit
def One (g : Nat) (w w' : World) : Prop := w.grownBy w' (some g)
section
variable {g g' : Nat} {w w' w'' : World}
theorem One.refl (g : Nat) (w : World) : One g w w := ⟨rfl, rfl, rfl, Nat.le_refl _, fun _ _ _ => rfl⟩
theorem One.trans (h : One g w w') (k : One g w' w'') : One g w w'' := ⟨k.os.trans h.os, k.tape.trans h.tape, k.output.trans h.output, Nat.le_trans h.size k.size, fun i hi hr => (k.block i (Nat.lt_of_lt_of_le hi h.size) hr).trans (h.block i hi hr)⟩
theorem One.set (h : One g w w') (i : Nat) (v : Value) : One g w (w'.setCell ⟨g, i, none⟩ v) :=
 h.trans ⟨rfl, rfl, rfl, by simp [World.setCell], fun k _ hk => Below.heap_setCell _ _ _ k (fun e => hk (by rw [e]))⟩
theorem One.row (h : One g w w') (cs : Array Value) : One g w (w'.setRow g cs) :=
 h.trans ⟨rfl, rfl, rfl, by simp, fun k _ hk => setRow_other _ _ _ _ (fun e => hk (by rw [e]))⟩
theorem One.cell (h : One g w w') {p : Addr} {v : Value} (hc : w.cell? p = some v) (hp : p.block ≠ g) : w'.cell? p = some v := World.grownBy.cell h hc (fun e => hp (by injection e))
theorem One.blk (h : One g w w') {t : TypeId} {cs : Array Value} (hb : Blk w g' t cs) (hp : g' ≠ g) : Blk w' g' t cs := hb.grown h (fun e => hp (by injection e))
theorem One.own (h : One g w w') {b s n : Nat} {t t' : TypeId} {v : Value} {xs : List Value} {cs : Array Value} (ho : w.ownsRow b t s v n xs) (hb : Blk w g t' cs) (hne : t ≠ t') : w'.ownsRow b t s v n xs := by
 have hne := own_blk_ne ho hb hne
 refine ⟨ho.1, ?_⟩
 rcases ho.2 with hn | ⟨k, cap, cur, rfl, hb2, hgg, r⟩
 ·exact .inl hn
 ·exact .inr ⟨k, cap, cur, rfl, hb2, (h.block k (Array.getElem?_eq_some_iff.1 hgg).1 (fun e => hne (by rw [← e]; rfl))).trans hgg, r⟩
theorem One.ds (h : One g w w') {gd B : Nat} {ds : List Dsc} {t' : TypeId} {cs : Array Value} (hd : DS w gd B ds) (hb : Blk w g t' cs) (hne : 83 ≠ t') (hg : g ≠ gd) : DS w' gd B ds := by
 obtain ⟨v, h1, h2⟩ := hd
 exact ⟨v, h.blk h1 (fun e => hg e.symm), h.own h2 hb hne⟩
theorem One.tel (k : One g w' w'') {B gd : Nat} (h : Tel B gd w w') (hg : w.heap.size ≤ g) (hB : B ≤ w.heap.size) : Tel B gd w w'' :=
 ⟨h.bl.grown k (Nat.le_trans hB h.size) (fun q e => by injection e with e; omega), fun i hi h1 h2 => (k.block i (Nat.lt_of_lt_of_le hi h.size) (fun e => by injection e with e; omega)).trans (h.blk i hi h1 h2)⟩
theorem One.ext (k : One g w' w'') (h : Ext w w') (hg : w.heap.size ≤ g) : Ext w w'' := h.grown k (Below.size h) (fun q e => by injection e with e; omega)
theorem Blk.row {t : TypeId} {cs : Array Value} (h : Blk w g t cs) (X : Array Value) : Blk (w.setRow g X) g t X := setRow_heap w g cs X t _ h
end
structure TF (g : Nat) (c0 c1 c2 fr tt : Value) (w w' : World) : Prop where
 gr : One g w w'
 bx : ∀ a b, Blk w g 76 #[c0, c1, c2, a, b] → ∃ a' b', Blk w' g 76 #[c0, c1, c2, a', b'] ∧ (a = fr → a' = fr) ∧ (b = tt → b' = tt)
theorem tf_tr (g : Nat) (c0 c1 c2 fr tt : Value) : RB.Tr (TF g c0 c1 c2 fr tt) :=
 ⟨fun w => ⟨One.refl g w, fun a b h => ⟨a, b, h, fun e => e, fun e => e⟩⟩, fun h k => ⟨h.gr.trans k.gr, fun a b hb => by
  obtain ⟨a1, b1, h1, h2, h3⟩ := h.bx a b hb
  obtain ⟨a2, b2, k1, k2, k3⟩ := k.bx a1 b1 h1
  exact ⟨a2, b2, k1, fun e => k2 (h2 e), fun e => k3 (h3 e)⟩⟩⟩
section
variable {g : Nat} {c0 c1 c2 fr tt a b : Value} {w w' : World}
theorem TF.undrew (h : TF g c0 c1 c2 fr tt w.drew w') : TF g c0 c1 c2 fr tt w w' := ⟨⟨h.gr.os, h.gr.tape, h.gr.output, h.gr.size, h.gr.block⟩, h.bx⟩
theorem TF.set3 : TF g c0 c1 c2 fr tt w (w.setCell ⟨g, 3, none⟩ fr) :=
 ⟨(One.refl g w).set 3 fr, fun _ b' h' => ⟨fr, b', h'.set_ 3 fr, fun _ => rfl, fun e => e⟩⟩
theorem TF.set4 : TF g c0 c1 c2 fr tt w (w.setCell ⟨g, 4, none⟩ tt) :=
 ⟨(One.refl g w).set 4 tt, fun a' _ h' => ⟨a', tt, h'.set_ 4 tt, fun e => e, fun _ => rfl⟩⟩
end
theorem fate_size : (Try.prog.info? 76).map (·.size) = some 5 := by kernel_rfl
theorem fate_app {w : World} {g base c3 : Nat} {x0 x1 x3 x4 : Value} {A3 : Option Addr} {l : List Nat} (y : Nat) (gx : Nat) (jx : Blk w gx 3 #[.int .i64 (y : Int)]) (hj : Blk w g 76 #[x0, x1, .slice A3 l.length c3, x3, x4]) (ho : OwnN w base (.slice A3 l.length c3) l) (hn : l.length ≤ 900) (hb : base ≤ g) :
  ∃ A7 c7 W7, (Builtin.append_ #[25, 25] 25 #[.slice A3 l.length c3, .slice (some ⟨gx, 0, none⟩) 1 1]).run Try.prog w = .ok (.slice A7 (l.length + 1) c7) W7 ∧ W7.cell? ⟨g, 2, none⟩ = some (.slice A3 l.length c3) ∧ W7.frozen? ⟨g, 2, none⟩ = false ∧
   Blk (W7.setCell ⟨g, 2, none⟩ (.slice A7 (l.length + 1) c7)) g 76 #[x0, x1, .slice A7 (l.length + 1) c7, x3, x4] ∧ OwnN (W7.setCell ⟨g, 2, none⟩ (.slice A7 (l.length + 1) c7)) base (.slice A7 (l.length + 1) c7) (l ++ [y]) ∧
   ∀ w0, Ext w0 w → w0.heap.size ≤ base → Ext w0 (W7.setCell ⟨g, 2, none⟩ (.slice A7 (l.length + 1) c7)) := by
 obtain ⟨v7, W7, hrun, hg7, ho7⟩ := snoc_nat 25 l (.slice A3 l.length c3) y base gx jx ho hn (Nat.le_trans hb (Nat.le_of_lt hj.lt))
 obtain ⟨A7, c7, hv7, _, _⟩ := own_slice ho7
 rw [List.length_append, List.length_singleton] at hv7
 subst hv7
 have hj7 := hj.grown hg7 (fun e => own_blk_ne ho hj (by decide) e.symm)
 refine ⟨A7, c7, W7, hrun, hj7.cell 2, hj7.frozen 2, hj7.set_ 2 _, One.own ((One.refl g W7).set 2 _) ho7 hj7 (by decide), fun w0 h0 h1 => ?_⟩
 exact (h0.grown hg7 (Below.size h0) (fun q e => Nat.le_trans h1 (World.ownsRow.lt ho q e).1)).setCell (p := ⟨g, 2, none⟩) (Nat.le_trans h1 hb) _
theorem OwnN.at_ {W : World} {b : Nat} {A : Option Addr} {n c : Nat} {l : List Nat} (h : OwnN W b (.slice A n c) l) (hl : l ≠ []) : ∃ gs, A = some ⟨gs, 0, none⟩ ∧ n = l.length ∧ b ≤ gs ∧ l.length ≤ c ∧ c ≤ maxLen ∧ (∃ cs, Blk W gs 3 cs) ∧ ∀ k (hk : k < l.length), W.cell? ⟨gs, k, none⟩ = some (.int .i64 (l[k] : Int)) := by
 rcases h.2 with ⟨_, h0⟩ | ⟨g, cap, cur, hv, hb, hgg, h1, h2, h3, h4⟩
 ·exact absurd (List.eq_nil_of_length_eq_zero h0) hl
 ·injection hv with e1 e2 e3
  subst e1 e2 e3
  refine ⟨g, rfl, rfl, hb, h1, h2, ⟨cur, hgg⟩, fun k hk => ?_⟩
  have hfl : ∀ l : List Nat, l.flatMap natCells = l.map (fun (x : Nat) => Value.int .i64 (x : Int)) := fun l => by
   induction l with
   | nil => rfl
   | cons x l ih => simp [List.flatMap_cons, natCells, ih]
  rw [hfl, Nat.mul_one] at h4
  have hk2 : k < cur.size := by omega
  have e : (cur.toList.take l.length)[k]? = (l.map (fun (x : Nat) => Value.int .i64 (x : Int)))[k]? := by rw [h4]
  rw [List.getElem?_take_of_lt hk, Array.getElem?_toList, List.getElem?_map, List.getElem?_eq_getElem hk] at e
  show W.cell? ⟨g, k, none⟩ = _
  rw [cell_of_row W g k cur _ (0, 0) hgg, e]
  rfl
theorem setL_mem {S k : Nat} (h : k ∈ setL S) : k < 6 ∧ S.testBit k = true := by simpa [setL] using h
theorem setL_nil : ∀ S : Fin 64, setL S.val = [] ↔ S.val = 0 := by decide +kernel
theorem Blk.inj {w : World} {g : Nat} {t : TypeId} {cs cs' : Array Value} (h : Blk w g t cs) (h' : Blk w g t cs') : cs = cs' := by
 unfold Blk at h h'
 rw [h] at h'
 injection h' with h'
 injection h' with h'
theorem fate_two {w : World} {g : Nat} {c0 c1 c2 fr tt y1 y2 : Value} (h1 : Blk w g 76 #[c0, c1, c2, fr, y1]) (h2 : Blk w g 76 #[c0, c1, c2, y2, tt]) : Blk w g 76 #[c0, c1, c2, fr, tt] := by
 have e := h1.inj h2
 injection e with e
 injection e with _ e
 injection e with _ e
 injection e with _ e
 injection e with _ e
 injection e with e _
 rw [← e]
 exact h1
def LB (n left : Nat) : Prop := left < 64 ∧ left < 2 ^ n
theorem LB.zero (n : Nat) : LB n 0 := ⟨by omega, Nat.two_pow_pos n⟩
theorem LB.and_ {n a : Nat} (h : LB n a) (b : Nat) : LB n (a &&& b) := ⟨Nat.lt_of_le_of_lt Nat.and_le_left h.1, Nat.lt_of_le_of_lt Nat.and_le_left h.2⟩
theorem fitsA_bd (q : Slt → Bool) (m : Nat) : ∀ l acc i, acc < 2 ^ m → i + l.length ≤ m → fitsA q acc i l < 2 ^ m
 | [], acc, _, h, _ => by rw [fitsA]; exact h
 | s :: r, acc, i, h, hl => by
  rw [fitsA_cons]
  simp only [List.length_cons] at hl
  refine fitsA_bd q m r _ _ ?_ (by omega)
  split
  ·exact Nat.or_lt_two_pow h (Nat.pow_lt_pow_right (by decide) (by omega))
  ·exact h
theorem fitsP_lb {ps : List Pas} {f : Int → Option Int} {now id : Int} {l : List Slt} {r : Rcp} {n : Nat} (h : SlOK ps l) (hn : l.length = n) : LB n (fitsP ps f now id l r) := by
 refine ⟨fitsP_lt h, ?_⟩
 unfold fitsP
 split
 ·exact fitsA_bd _ n l 0 0 (Nat.two_pow_pos n) (by omega)
 ·exact Nat.two_pow_pos n
theorem LB.mem {n left x : Nat} (h : LB n left) (hx : x ∈ setL left) : x < n := by
 obtain ⟨_, h2⟩ := setL_mem hx
 by_cases hh : x < n
 ·exact hh
 ·have h3 : left < 2 ^ x := Nat.lt_of_lt_of_le h.2 (Nat.pow_le_pow_right (by decide) (by omega))
  rw [Nat.testBit_lt_two_pow h3] at h2
  cases h2
def openK (now : Int) (sl : List Slt) (k : Nat) : List Nat := (List.range k).filter (fun i => decide (now < ttAt sl i))
theorem openK_succ (now : Int) (sl : List Slt) (k : Nat) : openK now sl (k + 1) = openK now sl k ++ if now < ttAt sl k then [k] else [] := by
 unfold openK
 rw [List.range_succ, List.filter_append]
 congr 1
 by_cases h : now < ttAt sl k <;> simp [h]
theorem openK_len (now : Int) (sl : List Slt) (k : Nat) : (openK now sl k).length ≤ k := Nat.le_trans (List.length_filter_le _ _) (by simp)
theorem openK_mem {now : Int} {sl : List Slt} {k x : Nat} (h : x ∈ openK now sl k) : x < k := by simpa using (List.mem_filter.1 h).1
theorem ttAt_eq {sl : List Slt} {k : Nat} (h : k < sl.length) : ttAt sl k = sl[k].tt := by unfold ttAt; rw [List.getElem?_eq_getElem h]
theorem results_row {P : Program} {fn : Func} {p : Tmp} {t : TypeId} (h : fn.results = #[.cell p t]) (tmps : Array Value) (w : World) (g : Nat) (X : Array Value) (hp : tmps.getD p undef = .pointer (some ⟨g, 0, none⟩)) (J : Blk w g t X) (d : TypeDesc) (hu : P.underlying t = some d) (hd : d.isRow = true) (hi : (P.info? t).map (·.size) = some X.size) :
  (results fn tmps).run P w = .ok (.agg X) w := by
 have hl : (loadVar t ⟨g, 0, none⟩).run P w = .ok (.agg X) w := run_loadVar_row w g t t X (0, 0) d J hu (by cases d <;> first | rfl | exact hd) hi
 have hp' : tmps[p]?.getD undef = .pointer (some ⟨g, 0, none⟩) := by simpa using hp
 simp only [results, h]
 simp [hp', asAddr, hl]
end Go.Proofs.Ytmlabgmigakcbaa
namespace Go.Proofs.Ytmlabgmigakcbaa
open Go.RowKit
def noneP (q : Opt → Rcp → Nat) (os : List Opt) (r : Rcp) : Bool := os.all (fun o => decide (q o r = 0))
def strL (q : Opt → Rcp → Nat) (os : List Opt) : Nat → List Dsc → List Rcp → List Dsc
 | _, ds, [] => ds
 | i, ds, r :: l => strL q os (i + 1) (if noneP q os r then ds ++ [⟨1, r.im, i⟩] else ds) l
theorem strL_cons (q : Opt → Rcp → Nat) (os : List Opt) (i : Nat) (ds : List Dsc) (r : Rcp) (l : List Rcp) : strL q os i ds (r :: l) = strL q os (i + 1) (if noneP q os r then ds ++ [⟨1, r.im, i⟩] else ds) l := by rw [strL]
def recP (q : Opt → Rcp → Nat) (now : Int) (rs : List Rcp) (ns : List Nte) : List Dsc → List Opt → List FteP × List Dsc
 | ds, [] => ([], ds)
 | ds, o :: r => ((fateP (q o) now o.l o.id rs ns ds).1 :: (recP q now rs ns (fateP (q o) now o.l o.id rs ns ds).2 r).1, (recP q now rs ns (fateP (q o) now o.l o.id rs ns ds).2 r).2)
theorem recP_cons (q : Opt → Rcp → Nat) (now : Int) (rs : List Rcp) (ns : List Nte) (ds : List Dsc) (o : Opt) (r : List Opt) : recP q now rs ns ds (o :: r) = ((fateP (q o) now o.l o.id rs ns ds).1 :: (recP q now rs ns (fateP (q o) now o.l o.id rs ns ds).2 r).1, (recP q now rs ns (fateP (q o) now o.l o.id rs ns ds).2 r).2) := by rw [recP]
def qOf (ps : List Pas) (f : Int → Option Int) (now : Int) (o : Opt) (r : Rcp) : Nat := fitsP ps f now o.id o.l r
def recOK (os : List Opt) (ps : List Pas) (sts : List Stn) (rs : List Rcp) (ns : List Nte) (now : Int) : Bool := decide (rs.length ≤ 60) && (decide (ns.length ≤ 60) && (decide (0 ≤ now ∧ now ≤ 1000000) && validP os ps sts))
def recV (os : List Opt) (ps : List Pas) (sts : List Stn) (rs : List Rcp) (ns : List Nte) (now : Int) : (List FteP × List Dsc) × Int :=
 if recOK os ps sts rs ns now then (recP (qOf ps (skewF sts) now) now rs ns (strL (qOf ps (skewF sts) now) os 0 [] rs) os, 0) else (([], []), 300)
theorem noteP_len (now : Int) (sl : List Slt) (id : Int) : ∀ (l : List Nte) i left slot done ds, (noteP now sl id i left slot done ds l).2.length ≤ ds.length + l.length
 | [], _, _, _, _, ds => by rw [noteP]; simp
 | n :: l, i, left, slot, done, ds => by
  rw [noteP_cons]
  simp only [List.length_cons]
  split
  ·have := noteP_len now sl id l (i + 1) left slot done ds; omega
  ·split
   ·simp
   ·split
    ·have := noteP_len now sl id l (i + 1) left (slot + 1) n.is_ (ds ++ [⟨4, id, i⟩]); simp at this; omega
    ·have := noteP_len now sl id l (i + 1) (nextP n.is_ left slot) (slot + 1) n.is_ ds; omega
theorem fateP_len (q : Rcp → Nat) (now : Int) (sl : List Slt) (id : Int) (rs : List Rcp) (ns : List Nte) (ds : List Dsc) : (fateP q now sl id rs ns ds).2.length ≤ ds.length + rs.length + ns.length := by
 unfold fateP
 have h1 := recvP_len q id rs 0 0 ds
 have h2 := noteP_len now sl id ns 0 (recvP q id 0 0 ds rs).1 0 false (recvP q id 0 0 ds rs).2
 dsimp only
 omega
set_option maxRecDepth 100000 in
set_option maxHeartbeats 4000000 in
theorem rec2_any (o : Opt) (ps : List Pas) (f : Int → Option Int) (now : Int) (r : Rcp) (PA : Option Addr) (pn pc gm gD gR : Nat) (w : World) (ho : RA sltCells 3 w w.heap.size o.a o.n o.c o.l) (hp : RA pasCells 6 w w.heap.size PA pn pc ps) (hm : MapI w gm (iM f)) (hD : Blk w gD 104 #[.slice PA pn pc, .map (some gm), .int .i64 now]) (hR : Blk w gR 63 (rcpCells r).toArray) (hs : SlOK ps o.l) (hf : SkOK f) :
  Calls Try.prog 49 #[.agg (optCells o).toArray, .pointer (some ⟨gD, 0, none⟩), .pointer (some ⟨gR, 0, none⟩)] w fun e w' => e = .returned (.bool (decide (qOf ps f now o r ≠ 0))) ∧ Ext w w' := by
 have hC : ∀ W, Ext w W → Calls Try.prog 50 #[.agg #[.slice PA pn pc, .map (some gm), .int .i64 now], .agg (optCells o).toArray, .agg (rcpCells r).toArray] W fun e w' => e = .returned (.int .u64 (qOf ps f now o r : Nat)) ∧ Ext W w' := fun W hW => fits_any o ps f now r PA pn pc gm W (ra_ext ho hW) (ra_ext hp hW) (hm.ext hW) hs hf
 generalize qOf ps f now o r = S at hC ⊢
 have HC := Lib.hid hC
 clear hC ho hp hm hs hf
 obtain ⟨id, i1, i2, i3, i4, i5, i6, i7, a, n, c, l⟩ := o
 obtain ⟨rsn, rim, rat⟩ := r
 show Calls Try.prog 49 #[.agg #[.int .i64 id, .int .i64 i1, .int .i64 i2, .int .i64 i3, .int .i64 i4, .int .i64 i5, .int .i64 i6, .int .i64 i7, .slice a n c], .pointer (some ⟨gD, 0, none⟩), .pointer (some ⟨gR, 0, none⟩)] w _
 go_enter Try.func49, Try.ntmps49
 go_upto_region 1 with (fail)
 have hx : Ext w (w.alloc (.cells #[.int .i64 id, .int .i64 i1, .int .i64 i2, .int .i64 i3, .int .i64 i4, .int .i64 i5, .int .i64 i6, .int .i64 i7, .slice a n c] 32)) := bl_alloc (Below.refl _ _) _
 have J := Blk.new w 32 #[.int .i64 id, .int .i64 i1, .int .i64 i2, .int .i64 i3, .int .i64 i4, .int .i64 i5, .int .i64 i6, .int .i64 i7, .slice a n c]
 generalize w.heap.size = g3 at J ⊢
 generalize w.alloc (.cells #[.int .i64 id, .int .i64 i1, .int .i64 i2, .int .i64 i3, .int .i64 i4, .int .i64 i5, .int .i64 i6, .int .i64 i7, .slice a n c] 32) = W1 at hx J ⊢
 have hD := hD.ext hx
 have hR := hR.ext hx
 have t0 : W1.cell? ⟨gD, 0, none⟩ = some (.slice PA pn pc) := hD.cell 0
 have t1 : W1.cell? ⟨gD, 1, none⟩ = some (.map (some gm)) := hD.cell 1
 have t2 : W1.cell? ⟨gD, 2, none⟩ = some (.int .i64 now) := hD.cell 2
 have r0 : W1.cell? ⟨gR, 0, none⟩ = some (.int .i64 rsn) := hR.cell 0
 have r1 : W1.cell? ⟨gR, 1, none⟩ = some (.int .i64 rim) := hR.cell 1
 have r2 : W1.cell? ⟨gR, 2, none⟩ = some (.int .i64 rat) := hR.cell 2
 have d0 : W1.cell? ⟨g3, 0, none⟩ = some (.int .i64 id) := J.cell 0
 have d1 : W1.cell? ⟨g3, 1, none⟩ = some (.int .i64 i1) := J.cell 1
 have d2 : W1.cell? ⟨g3, 2, none⟩ = some (.int .i64 i2) := J.cell 2
 have d3 : W1.cell? ⟨g3, 3, none⟩ = some (.int .i64 i3) := J.cell 3
 have d4 : W1.cell? ⟨g3, 4, none⟩ = some (.int .i64 i4) := J.cell 4
 have d5 : W1.cell? ⟨g3, 5, none⟩ = some (.int .i64 i5) := J.cell 5
 have d6 : W1.cell? ⟨g3, 6, none⟩ = some (.int .i64 i6) := J.cell 6
 have d7 : W1.cell? ⟨g3, 7, none⟩ = some (.int .i64 i7) := J.cell 7
 have d8 : W1.cell? ⟨g3, 8, none⟩ = some (.slice a n c) := J.cell 8
 have HK := Lib.hid (HC.out W1 hx)
 clear HC J hD hR
 go_wp2_with fail
 refine HK.out.mono ?_
 rintro e W2 ⟨rfl, hy⟩
 have HX := Lib.hid (Ext.trans hx hy)
 clear t0 t1 t2 r0 r1 r2 d0 d1 d2 d3 d4 d5 d6 d7 d8 HK hx hy
 by_cases hS : S = 0
 ·subst hS
  go_wp2
  go_ret
  exact ⟨rfl, HX.out⟩
 ·have h1 : ((S : Int) != 0) = true := by simpa using hS
  have h2 : ((S : Int) == 0) = false := by simpa using hS
  have h3 : ¬ (S : Int) = 0 := by omega
  have h4 : decide (S ≠ 0) = true := by simpa using hS
  go_wp2
  go_ret
  exact ⟨by rw [h4]; rfl, HX.out⟩
set_option maxRecDepth 100000 in
set_option maxHeartbeats 4000000 in
theorem index_any (os : List Opt) (ps : List Pas) (f : Int → Option Int) (now : Int) (r : Rcp) (OA PA : Option Addr) (n c pn pc gm gD gR : Nat) (w : World) (ho : Ops w w.heap.size OA n c os) (hp : RA pasCells 6 w w.heap.size PA pn pc ps) (hm : MapI w gm (iM f)) (hD : Blk w gD 104 #[.slice PA pn pc, .map (some gm), .int .i64 now]) (hR : Blk w gR 63 (rcpCells r).toArray) (hs : ∀ o ∈ os, SlOK ps o.l) (hf : SkOK f) :
  Calls Try.prog 81 #[.slice OA n c, .func (.func 49) #[] #[.pointer (some ⟨gD, 0, none⟩), .pointer (some ⟨gR, 0, none⟩)]] w fun e w' => ∃ z : Int, e = .returned (.int .i64 z) ∧ decide (z ≥ 0) = !noneP (qOf ps f now) os r ∧ Ext w w' := by
 have hle := ho.out.le
 have HR2 := Lib.hid (fun (o : Opt) (hin : o ∈ os) (W : World) (hW : Ext w W) => rec2_any o ps f now r PA pn pc gm gD gR W (ra_ext (ho.each o hin) hW) (ra_ext hp hW) (hm.ext hW) (hD.ext hW) (hR.ext hW) (hs o hin) hf)
 have HO := Lib.hid ho.out
 have HL := Lib.hid ho.out.len
 obtain ⟨fin, hfin⟩ : ∃ x, x = !noneP (qOf ps f now) os r := ⟨_, rfl⟩
 rw [← hfin]
 have HF0 : Hid (fin = !noneP (qOf ps f now) (os.drop 0) r) := Lib.hid hfin
 clear hfin ho hp hm hD hR hs hf
 go_enter Try.func81, Try.ntmps81
 go_wp2
 go_loopw [8] (fun i wr => ∃ k : Nat, k ≤ n ∧ i = .int .i64 k ∧ Hid (fin = !noneP (qOf ps f now) (os.drop k) r) ∧ Ext w wr) (fun i _ => n - (intOf i).toNat)
 case atStart => exact ⟨0, Nat.zero_le _, rfl, HF0, Ext.refl _⟩
 case round =>
  clear HF0
  obtain ⟨k, hk, rfl, HF, hx⟩ := hrel
  by_cases hkn : k < n
  ·obtain ⟨b, ob, hz, hA, _, hc⟩ := (HO.out.below hx).at_ opt_len hkn
   have hcall := HR2.out os[k] (List.getElem_mem hz) wr hx
   have hst := HF.out
   rw [List.drop_eq_getElem_cons hz] at hst
   have hst2 : fin = (!decide (qOf ps f now os[k] r = 0) || !noneP (qOf ps f now) (os.drop (k + 1)) r) := by rw [hst]; simp only [noneP, List.all_cons, Bool.not_and]
   generalize os[k] = o at hcall hc hst2
   generalize qOf ps f now o r = S at hcall hst2
   obtain ⟨id, i1, i2, i3, i4, i5, i6, i7, a, m, d, l⟩ := o
   have c0 : wr.cell? ⟨b, ob + k * 9, none⟩ = some (.int .i64 id) := hc 0 (by omega)
   have c1 : wr.cell? ⟨b, ob + k * 9 + 1, none⟩ = some (.int .i64 i1) := hc 1 (by omega)
   have c2 : wr.cell? ⟨b, ob + k * 9 + 2, none⟩ = some (.int .i64 i2) := hc 2 (by omega)
   have c3 : wr.cell? ⟨b, ob + k * 9 + 3, none⟩ = some (.int .i64 i3) := hc 3 (by omega)
   have c4 : wr.cell? ⟨b, ob + k * 9 + 4, none⟩ = some (.int .i64 i4) := hc 4 (by omega)
   have c5 : wr.cell? ⟨b, ob + k * 9 + 5, none⟩ = some (.int .i64 i5) := hc 5 (by omega)
   have c6 : wr.cell? ⟨b, ob + k * 9 + 6, none⟩ = some (.int .i64 i6) := hc 6 (by omega)
   have c7 : wr.cell? ⟨b, ob + k * 9 + 7, none⟩ = some (.int .i64 i7) := hc 7 (by omega)
   have c8 : wr.cell? ⟨b, ob + k * 9 + 8, none⟩ = some (.slice a m d) := hc 8 (by omega)
   have HC := Lib.hid hcall
   have HS := Lib.hid hst2
   subst hA
   clear hc hz hst hst2 hcall HF
   go_wp2_with fail
   refine HC.out.mono ?_
   rintro e W2 ⟨rfl, hy⟩
   have HX := Lib.hid (Ext.trans hx hy)
   clear HC c0 c1 c2 c3 c4 c5 c6 c7 c8 hy hx
   by_cases hS : S = 0
   ·have HN : Hid (fin = !noneP (qOf ps f now) (os.drop (k + 1)) r) := Lib.hid (by rw [HS.out, decide_eq_true hS]; rfl)
    have hd : decide (S ≠ 0) = false := by simpa using hS
    rw [hd]
    clear HS hd
    go_wp2
    go_roundw
    case rel => exact ⟨k + 1, by omega, by go_num, HN, HX.out⟩
    case measure => simp [intOf]; omega
   ·have hd : decide (S ≠ 0) = true := by simpa using hS
    have hft : fin = true := by rw [HS.out, decide_eq_false hS]; rfl
    have HFT := Lib.hid hft
    rw [hd]
    clear HS hd hft
    go_wp2
    go_ret
    exact ⟨k, rfl, by rw [HFT.out]; simp, HX.out⟩
  ·have hff : fin = false := by rw [HF.out, List.drop_of_length_le (by rw [HL.out]; omega)]; rfl
   have HFF := Lib.hid hff
   clear hff HF
   go_wp2
   go_ret
   exact ⟨-1, rfl, by rw [HFF.out]; rfl, hx⟩
theorem contains_opt (os : List Opt) (ps : List Pas) (f : Int → Option Int) (now : Int) (r : Rcp) (OA PA : Option Addr) (n c pn pc gm gD gR : Nat) (w : World) (ho : Ops w w.heap.size OA n c os) (hp : RA pasCells 6 w w.heap.size PA pn pc ps) (hm : MapI w gm (iM f)) (hD : Blk w gD 104 #[.slice PA pn pc, .map (some gm), .int .i64 now]) (hR : Blk w gR 63 (rcpCells r).toArray) (hs : ∀ o ∈ os, SlOK ps o.l) (hf : SkOK f) :
  Calls Try.prog 48 #[.slice OA n c, .func (.func 49) #[] #[.pointer (some ⟨gD, 0, none⟩), .pointer (some ⟨gR, 0, none⟩)]] w fun e w' => e = .returned (.bool (!noneP (qOf ps f now) os r)) ∧ Ext w w' := by
 have HI := Lib.hid (index_any os ps f now r OA PA n c pn pc gm gD gR w ho hp hm hD hR hs hf)
 generalize (!noneP (qOf ps f now) os r) = q at HI ⊢
 clear ho hp hm hD hR hs hf
 go_enter Try.func48, Try.ntmps48
 go_wp2_with fail
 refine HI.out.mono ?_
 rintro e W ⟨z, rfl, hz, hx⟩
 have HZ := Lib.hid hz
 clear HI hz
 go_wp2
 go_ret
 exact ⟨by rw [← HZ.out]; rfl, hx⟩
end Go.Proofs.Ytmlabgmigakcbaa
