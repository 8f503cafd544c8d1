/- stand. -/
import Derived.Test.YtjidhhfabfnhnaaGreatK01
import Derived.Test.YtjidhhfabfnhnaaGreatK25
namespace Go.Proofs.YtjidhhfabfnhnaaGreat
open Go.RowKit
namespace RB
structure Tr (T : World → World → Prop) : Prop where
 refl : ∀ w,T w w
 trans : ∀ {a b c},T a b → T b c → T a c
section
variable {P : Program} {ops : Array Oper} {Q : Exit → Act → World → Prop} {a0 : Act} {w0 : World} {R : Nat → (Nat → Value) → Value → World → Prop} {m : Nat} {T : World → World → Prop}
def Qo (T : World → World → Prop) (a0 : Act) (R : Value → World → Prop) (o : Oper) (w : World) (e : Exit) (a' : Act) (w' : World) : Prop :=
 match e with
 | .normal => a'.defers = a0.defers ∧ T w w' ∧ R (match o.dst with | some t => a'.tmps.getD t undef | none => undef) w'
 | _ => False
def Obl (T : World → World → Prop) (P : Program) (ops : Array Oper) (a0 : Act) (w0 : World) (R : Nat → (Nat → Value) → Value → World → Prop) (i : Nat) (o : Oper) : Prop :=
 ∀ (vals : Nat → Value) (w : World),T w0 w → (∀ d ∈ depsOf o,R d vals (vals d) w) → (∀ d,anc ops i d = true → R d vals (vals d) w) → wpList P ops (Qo T a0 (R i vals) o w) [o] (Lf ops a0 vals i) w
structure Inv (T : World → World → Prop) (ops : Array Oper) (a0 : Act) (w0 : World) (R : Nat → (Nat → Value) → Value → World → Prop) (m : Nat) (listed : Array Bool) (vals : Nat → Value) (a : Act) (w : World) : Prop where
 ext : T w0 w
 size : listed.size = ops.size
 tail : ∀ i,m ≤ i → listed.getD i false = false
 closed : ∀ i,i < m → listed.getD i false = true → ∀ d ∈ depsAt ops i,listed.getD d false = true
 facts : ∀ i,i < m → listed.getD i false = true → R i vals (vals i) w
 defers : a.defers = a0.defers
 tsize : a.tmps.size = a0.tmps.size
 outer : ∀ t,(∀ i,i < m → listed.getD i false = true → dstAt ops i ≠ some t) → a.tmps[t]? = a0.tmps[t]?
 inner : ∀ i t,i < m → listed.getD i false = true → dstAt ops i = some t → t < a0.tmps.size → a.tmps[t]? = some (vals i)
theorem agree (hc : regChk ops m = true) {listed : Array Bool} {vals : Nat → Value} {a : Act} {w : World} (hI : Inv T ops a0 w0 R m listed vals a w) {i : Nat} (hi : i < m) {o : Oper} (ho : ops[i]? = some o)
  (hd : ∀ d ∈ depsOf o,listed.getD d false = true) : ∀ t ∈ o.looksAt ops,a.tmps[t]? = (Lf ops a0 vals i).tmps[t]?:=by
 intro t ht
 obtain ⟨o',ho',h1,h2,h3,_⟩:=chk_op hc hi
 rw [ho] at ho'
 injection ho' with ho'
 subst ho'
 by_cases hj : ∃ j,j < m ∧ dstAt ops j = some t
 ·obtain ⟨j,hjm,hjt⟩:=hj
  have hjd:=h3 t ht j hjm hjt
  have hji:=h1 j hjd
  obtain ⟨oj,hoj,_,h2j,_⟩:=chk_op hc hjm
  have hdj : oj.dst = some t:=by simpa [dstAt,hoj] using hjt
  rcases Nat.lt_or_ge t a0.tmps.size with hlt | hge
  ·rw [hI.inner j t hjm (hd j hjd) hjt hlt,Lf_inner vals i j t hji hjt (fun k hk1 hk2 => h2j t hdj k (by omega) (by omega)) hlt]
  ·rw [Array.getElem?_eq_none (by rw [hI.tsize]; exact hge),Array.getElem?_eq_none (by rw [Lf_size]; exact hge)]
 ·have hj' : ∀ j,j < m → dstAt ops j ≠ some t:=fun j hjm hjt => hj ⟨j,hjm,hjt⟩
  rw [hI.outer t (fun j hjm _ => hj' j hjm),Lf_outer vals i t (fun j hji => hj' j (by omega))]
theorem Qo_notOut (a0 : Act) (R : Value → World → Prop) (o : Oper) (w : World) : ¬ LetsOut (Qo T a0 R o w):=by
 rintro ⟨_,_,h⟩
 exact h
theorem run_obl {i : Nat} {o : Oper} {a b : Act} {w : World} {Ri : Value → World → Prop} (ht : tameOp o = true) (hb : b.defers = a0.defers) (hab : ∀ t ∈ o.looksAt ops,a.tmps[t]? = b.tmps[t]?) (ho : ops[i]? = some o)
  {K : Act → World → Prop} (h : wpList P ops (Qo T a0 Ri o w) [o] b w) (hK : ∀ v w',T w w' → Ri (slotOf o (b.put o.dst v)) w' → K (a.put o.dst v) w') : wpOp P ops Q i K a w:=by
 have hs : ∀ cs b,o.op ≠ .select cs b:=fun cs b e => by simp [tameOp,e] at ht
 have he : execOp a.eval o = execOp b.eval o:=execOp_congr o hs (eval_agree hab)
 have hw:=wanted_agree hab
 unfold wpOp
 simp only [ho]
 rw [hw]
 unfold wpList at h
 cases hwb : Region.wanted o (yielded ops b.tmps)
 ·simp only [hwb,Bool.false_eq_true,if_false] at h ⊢
  unfold wpList at h
  exact hK _ _ h.2.1 h.2.2
 ·simp only [hwb,if_true] at h ⊢
  rcases h with h | h
  ·refine .inl ?_
   unfold Oper.wp at h ⊢
   rw [he]
   generalize (execOp b.eval o).run P w = r at h
   cases r with
   | ok n w' =>
    cases n <;> simp only [Oper.upon] at h ⊢
    case value v => unfold wpList at h; exact hK _ _ h.2.1 h.2.2
    case skip => unfold wpList at h; exact hK _ _ h.2.1 h.2.2
    case defer d =>
     unfold wpList at h
     have:=h.1
     cases hd : o.dst <;> simp [Act.put,hd,hb] at this
    case enter f args =>
     refine Calls.mono h fun e w'' hq => ?_
     cases e with
     | returned v => unfold wpList at hq; exact hK _ _ hq.2.1 hq.2.2
     | panicked ch => exact absurd hq (by simp [Qo])
     | outgrown => exact absurd hq (Qo_notOut _ _ _ _)
    case row row args =>
     exact Rows.mono h fun v w'' hq => by unfold wpList at hq; exact hK _ _ hq.2.1 hq.2.2
    all_goals exact h
   | halt x w' => cases x <;> simp only [Oper.upon] at h ⊢ <;> first | exact h.elim | exact absurd h (by simp [Qo])
  ·exact absurd h.2 (Qo_notOut _ _ _ _)
theorem wpAny_of_obl (hT : Tr T) (hc : regChk ops m = true) (hst : ∀ i vals v w w',i < m → R i vals v w → T w w' → R i vals v w') (hloc : ∀ i vals vals' v w,i < m → (∀ d,anc ops i d = true → vals d = vals' d) → R i vals v w → R i vals' v w) (hob : ∀ i o,i < m → ops[i]? = some o → Obl T P ops a0 w0 R i o)
  (hfin : ∀ (vals : Nat → Value) (w : World),T w0 w → (∀ i,i < m → R i vals (vals i) w) → wpAny P .any ops Q (ops.size - m) (litL ops.size m) (Lf ops a0 vals m) w) :
  ∀ (c : Nat) (listed : Array Bool) (vals : Nat → Value) (a : Act) (w : World),unl listed m = c → Inv T ops a0 w0 R m listed vals a w → wpAny P .any ops Q (ops.size - m + c) listed a w:=by
 intro c
 induction c with
 | zero =>
  intro listed vals a w hu hI
  have hall:=unl_zero hu
  have hsz:=chk_size hc
  have hlit : listed = litL ops.size m:=by
   apply Array.ext
   ·simp [litL,hI.size]
   ·intro i h1 h2
    have hg : listed.getD i false = listed[i]:=by simp [Array.getD_eq_getD_getElem?,h1]
    rcases Nat.lt_or_ge i m with h | h
    ·have:=hall i h
     rw [hg] at this
     simp [litL,this,h]
    ·have:=hI.tail i h
     rw [hg] at this
     simp [litL,this,Nat.not_lt.2 h]
  have ha : a = Lf ops a0 vals m:=by
   have ht : a.tmps = (Lf ops a0 vals m).tmps:=by
    apply Array.ext_getElem?
    intro t
    by_cases hj : ∃ j,j < m ∧ dstAt ops j = some t
    ·obtain ⟨j,hjm,hjt⟩:=hj
     obtain ⟨oj,hoj,_,h2j,_⟩:=chk_op hc hjm
     have hdj : oj.dst = some t:=by simpa [dstAt,hoj] using hjt
     rcases Nat.lt_or_ge t a0.tmps.size with hlt | hge
     ·rw [hI.inner j t hjm (hall j hjm) hjt hlt,Lf_inner vals m j t hjm hjt (fun k hk1 hk2 => h2j t hdj k hk2 (by omega)) hlt]
     ·rw [Array.getElem?_eq_none (by rw [hI.tsize]; exact hge),Array.getElem?_eq_none (by rw [Lf_size]; exact hge)]
    ·have hj' : ∀ j,j < m → dstAt ops j ≠ some t:=fun j hjm hjt => hj ⟨j,hjm,hjt⟩
     rw [hI.outer t (fun j hjm _ => hj' j hjm),Lf_outer vals m t (fun j hji => hj' j hji)]
   have hd : a.defers = (Lf ops a0 vals m).defers:=by rw [Lf_defers,hI.defers]
   cases a
   cases hL : Lf ops a0 vals m
   simp_all
  rw [hlit,ha]
  exact hfin vals w hI.ext fun i hi => hI.facts i hi (hall i hi)
 | succ c ih =>
  intro listed vals a w hu hI
  have hsz:=chk_size hc
  have hgt : ∀ i,i < listed.size → listed.getD i true = listed.getD i false:=fun i hi => by simp [Array.getD_eq_getD_getElem?,hi]
  obtain ⟨i0,hi0,hun0,hall0⟩:=unl_pos (m:=m) (listed:=listed) (by omega)
  obtain ⟨o0,ho0,hd0,_⟩:=chk_op hc hi0
  have hr0 : i0 ∈ Region.ready .any ops listed:=ready_of (by omega) (by rw [hgt _ (by rw [hI.size]; omega)]; exact hun0) ho0 fun d hd => hall0 d (hd0 d hd)
  show wpAny P .any ops Q ((ops.size - m + c) + 1) listed a w
  unfold wpAny
  refine ⟨fun hnil => absurd hr0 (by rw [hnil]; simp),fun i hi => ?_⟩
  obtain ⟨hin,hiu,o,ho,hdl⟩:=ready_spec hi
  have him : i < m:=by
   rcases Nat.lt_or_ge i m with h | h
   ·exact h
   ·obtain ⟨o',ho',ht⟩:=chk_tail hc h hin
    rw [ho] at ho'
    injection ho' with ho'
    subst ho'
    rcases ht with ⟨d,h1,h2⟩ | ht
    ·have:=hdl d h1
     rw [hI.tail d h2] at this
     cases this
    have:=close_listed hI.closed m _ (Nat.le_refl _) hdl i0 (ht i0 hi0)
    rw [hun0] at this
    cases this
  obtain ⟨o',ho',hdi,hdist,hlook,htame⟩:=chk_op hc him
  rw [ho] at ho'
  injection ho' with ho'
  subst ho'
  have hiL : i < listed.size:=by rw [hI.size]; exact hin
  have hiu' : listed.getD i false = false:=by rw [← hgt i hiL]; exact hiu
  have hanc : ∀ d,anc ops i d = true → listed.getD d false = true:=fun d hd => by
   unfold anc at hd
   refine close_listed hI.closed i _ (by omega) (fun d hd => ?_) d (by simpa using hd)
   exact hdl d (by simpa [depsAt,ho] using hd)
  have hltm : ∀ d,listed.getD d false = true → d < m:=fun d hd => by
   rcases Nat.lt_or_ge d m with h | h
   ·exact h
   ·rw [hI.tail d h] at hd; cases hd
  refine run_obl htame (Lf_defers vals i) (agree hc hI him ho hdl) ho (hob i o him ho vals w hI.ext (fun d hd => hI.facts d (by have:=hdi d hd; omega) (hdl d hd)) (fun d hd => hI.facts d (hltm d (hanc d hd)) (hanc d hd))) ?_
  intro v w' hext hR
  refine ih _ (fun j => if j = i then slotOf o ((Lf ops a0 vals i).put o.dst v) else vals j) _ _ (by have:=unl_set listed i him hiL hiu'; omega) ?_
  have hdo : dstAt ops i = o.dst:=by simp [dstAt,ho]
  constructor
  ·exact hT.trans hI.ext hext
  ·simp [hI.size]
  ·intro j hj
   rw [getD_set listed i j hiL,if_neg (by omega)]
   exact hI.tail j hj
  ·intro j hj hl d hd
   rw [getD_set listed i d hiL]
   rw [getD_set listed i j hiL] at hl
   by_cases hji : j = i
   ·subst hji
    have : d ∈ depsOf o:=by simpa [depsAt,ho] using hd
    rw [hdl d this]
    simp
   ·rw [if_neg hji] at hl
    rw [hI.closed j hj hl d hd]
    simp
  ·intro j hj hl
   rw [getD_set listed i j hiL] at hl
   by_cases hji : j = i
   ·subst hji
    simp only [if_true]
    refine hloc j vals _ _ w' hj (fun d hd => ?_) hR
    have hdj : d ≠ j:=fun e => by
     have:=hanc d hd
     rw [e,hiu'] at this
     cases this
    simp [hdj]
   ·rw [if_neg hji] at hl
    simp only [hji,if_false]
    refine hloc j vals _ _ w' hj (fun d hd => ?_) (hst j vals _ w w' hj (hI.facts j hj hl) hext)
    have hdl' : listed.getD d false = true:=by
     unfold anc at hd
     exact close_listed hI.closed j _ (by omega) (fun d hd => hI.closed j hj hl d hd) d (by simpa using hd)
    have hdi' : d ≠ i:=fun e => by
     rw [e,hiu'] at hdl'
     cases hdl'
    simp [hdi']
  ·cases hd : o.dst <;> simp [Act.put,hI.defers]
  ·cases hd : o.dst <;> simp [Act.put,hI.tsize]
  ·intro t ht
   rw [put_get,if_neg (by rw [← hdo]; exact ht i him (by rw [getD_set listed i i hiL,if_pos rfl]))]
   refine hI.outer t fun j hj hl => ht j hj ?_
   rw [getD_set listed i j hiL]
   split
   ·rfl
   ·exact hl
  ·intro j t hj hl hdj htl
   rw [put_get]
   by_cases hji : j = i
   ·subst hji
    rw [hdo] at hdj
    rw [if_pos hdj,if_pos (by rw [hI.tsize]; exact htl)]
    have h2:=put_get (Lf ops a0 vals j) o.dst v t
    rw [if_pos hdj,if_pos (by rw [Lf_size]; exact htl)] at h2
    simp only [if_true,slotOf,hdj,Array.getD_eq_getD_getElem?]
    rw [hdj] at h2
    rw [h2]
    rfl
   ·rw [getD_set listed i j hiL,if_neg hji] at hl
    rw [if_neg (fun e => hdist t e j hj hji hdj)]
    simp only [hji,if_false]
    exact hI.inner j t hj hl hdj htl
def Obls (T : World → World → Prop) (P : Program) (ops : Array Oper) (a0 : Act) (w0 : World) (R : Nat → (Nat → Value) → Value → World → Prop) : Nat → List Oper → Prop
 | _,[] => True
 | k,o :: rest => Obl T P ops a0 w0 R k o ∧ Obls T P ops a0 w0 R (k + 1) rest
theorem obls_at : ∀ (l : List Oper) (k : Nat),Obls T P ops a0 w0 R k l → ∀ j o,l[j]? = some o → Obl T P ops a0 w0 R (k + j) o
 | [],_,_,_,_,h => by simp at h
 | x :: l,k,⟨h1,h2⟩,j,o,hj => by
  cases j with
  | zero =>
   simp at hj
   subst hj
   exact h1
  | succ j =>
   have:=obls_at l (k + 1) h2 j o (by simpa using hj)
   rwa [show k + 1 + j = k + (j + 1) by omega] at this
theorem wp_region_obl {id : Nat} {a : Act} {w : World} (hT : Tr T) (m : Nat) (R : Nat → (Nat → Value) → Value → World → Prop) (hm : P.follows .mixedOrders = true) (hc : regChk ops m = true) (hst : ∀ i vals v w w',i < m → R i vals v w → T w w' → R i vals v w') (hloc : ∀ i vals vals' v w,i < m → (∀ d,anc ops i d = true → vals d = vals' d) → R i vals v w → R i vals' v w)
  (hob : Obls T P ops a w.drew R 0 (ops.toList.take m))
  (hfin : ∀ (vals : Nat → Value) (w' : World),T w.drew w' → (∀ i,i < m → R i vals (vals i) w') → wpAny P .any ops Q (ops.size - m) (litL ops.size m) (Lf ops a vals m) w') : (Code.region id ops true).wp P Q a w:=by
 refine wp_region_any hm ?_
 have hsz:=chk_size hc
 have hunl : unl (Array.replicate ops.size false) m = m:=by
  unfold unl
  rw [List.filter_eq_self.2 (fun i hi => by simp [Array.getD_eq_getD_getElem?,Array.getElem?_replicate]; split <;> rfl)]
  simp
 have h:=wpAny_of_obl (P:=P) (Q:=Q) (a0:=a) (w0:=w.drew) hT hc hst hloc (fun i o hi ho => by
  have:=obls_at (P:=P) (ops:=ops) (a0:=a) (w0:=w.drew) (R:=R) _ 0 hob i o (by rw [List.getElem?_take,if_pos hi]; simpa using ho)
  simpa using this) hfin m (Array.replicate ops.size false) (fun _ => undef) a w.drew hunl ?_
 ·rw [show ops.size - m + m = ops.size by omega] at h
  exact h
 ·have hf : ∀ i,(Array.replicate ops.size false).getD i false = false:=fun i => by simp [Array.getD_eq_getD_getElem?,Array.getElem?_replicate]; split <;> rfl
  constructor
  ·exact hT.refl _
  ·simp
  ·intro i _; exact hf i
  ·intro i _ h; rw [hf] at h; cases h
  ·intro i _ h; rw [hf] at h; cases h
  ·rfl
  ·rfl
  ·intro t _; rfl
  ·intro i t _ h; rw [hf] at h; cases h
end
end RB
end Go.Proofs.YtjidhhfabfnhnaaGreat
namespace Go.Proofs.YtjidhhfabfnhnaaGreat
open Go.RowKit Go.Shelf
attribute [local go_sem] Oper.semAt_some
structure EOpt where
 id : Int
 ord : Int
 cla : Int
 sat : Int
 a : Int
 b : Int
 look : Int
 size : Int
 slots : List Slt
def optArr (o : EOpt) (LA : Option Addr) (ln lc : Nat) : Array Value:=#[.int .i64 o.id,.int .i64 o.ord,.int .i64 o.cla,.int .i64 o.sat,.int .i64 o.a,.int .i64 o.b,.int .i64 o.look,.int .i64 o.size,.slice LA ln lc]
def standP (sats : List St) (l : List Upd) (o : EOpt) (old now : List Pas) (kn : Int) : Option (List Int × List Int):=match sats.find? (fun x => x.id == o.sat) with
 | none => none
 | some x => match strP (orbE x l kn) o.a (o.b - o.a).toNat with
  | [] => none
  | s :: _ => if s.sp = ⟨o.a,o.b⟩ then (match stripP s.orb o.a o.b o.look with
   | none => none
   | some r => if o.slots.any (lostP old now) = true then none else some r) else none
def StdRet (r : Option (List Int × List Int)) (w : World) (e : Ending) (w' : World) : Prop:=match r with
 | none => (∃ B1 m1 d1 B2 m2 d2,e = .returned (.tuple #[.agg #[.slice B1 m1 d1,.slice B2 m2 d2],.bool false])) ∧ Ext w w'
 | some (S,C) => (∃ v,e = .returned (.tuple #[v,.bool true]) ∧ StpV w' w.heap.size v S C) ∧ Ext w w'
theorem idx_find (p : St → Bool) : ∀ (l : List St) (k : Int),0 ≤ k → (l.find? p = none ∧ idxA p l k = -1) ∨ ∃ (i : Nat) (h : i < l.length),l.find? p = some l[i] ∧ idxA p l k = k + i:=by
 intro l
 induction l with
 | nil => intro k _; exact .inl ⟨rfl,rfl⟩
 | cons x r ih =>
  intro k hk
  rw [idxA,List.find?_cons]
  by_cases hx : p x = true
  ·rw [if_pos hx,hx]
   exact .inr ⟨0,by simp,by simp,by omega⟩
  ·have hf : p x = false:=by simpa using hx
   rw [if_neg hx,hf]
   rcases ih (k + 1) (by omega) with ⟨h1,h2⟩ | ⟨i,h,h1,h2⟩
   ·exact .inl ⟨by simpa using h1,h2⟩
   ·exact .inr ⟨i + 1,by simpa using h,by simpa using h1,by rw [h2]; omega⟩
structure SB (w : World) (g8 g9 g10 g12 : Nat) (O X Y : Array Value) (W : World) : Prop where
 k8 : Blk W g8 49 O
 k9 : Blk W g9 36 X
 k10 : Blk W g10 36 Y
 k12 : Blk W g12 60 #[.slice none 0 0,.slice none 0 0]
 below : Ext w W
theorem SB.ext {w W W' : World} {g8 g9 g10 g12 : Nat} {O X Y : Array Value} (h : SB w g8 g9 g10 g12 O X Y W) (hx : Ext W W') : SB w g8 g9 g10 g12 O X Y W' :=
 ⟨h.k8.ext hx,h.k9.ext hx,h.k10.ext hx,h.k12.ext hx,Ext.trans h.below hx⟩
theorem SB.kept {B : Nat} {w W W' : World} {g8 g9 g10 g12 : Nat} {O X Y : Array Value} {row : Option Nat} (h : SB w g8 g9 g10 g12 O X Y W) (hw : w.heap.size ≤ B) (hgr : W.grownBy W' row) (hr : ∀ r,row = some r → B ≤ r ∧ ∃ o : Obj,W.heap[r]? = some o ∧ o.isCells = false) : SB w g8 g9 g10 g12 O X Y W' :=
 ⟨blk_kept h.k8 hgr hr,blk_kept h.k9 hgr hr,blk_kept h.k10 hgr hr,blk_kept h.k12 hgr hr,h.below.grown hgr h.below.size (fun k e => Nat.le_trans hw (hr k e).1)⟩
def SBx (w : World) (g8 g9 g10 g12 g15 B0 : Nat) (O X Y : Array Value) (c : Code) (pre : List BStr) (W : World) : Prop:=c = .exit 0 ∧ SB w g8 g9 g10 g12 O X Y W ∧ B0 ≤ W.heap.size ∧ ∃ x : BStr,pre = [x] ∧ Blk W g15 96 (strCells x.1).toArray
def SB0 (w : World) (g8 g9 g10 g12 g15 B0 : Nat) (O X Y : Array Value) (pre : List BStr) (W : World) : Prop:=pre = [] ∧ SB w g8 g9 g10 g12 O X Y W ∧ B0 ≤ W.heap.size ∧ Blk W g15 96 #[.int .i64 0,.int .i64 0,.int .i64 0,.int .i64 0,.int .i64 0,.int .i64 0,.int .i64 0,.int .i64 0,.int .i64 0]
structure T12 (g : Nat) (V : Array Value) (X Y : World) : Prop where
 gr : X.grownBy Y (some g)
 at_ : Y.heap[g]? = X.heap[g]? ∨ Blk Y g 60 V
theorem t12_tr (g : Nat) (V : Array Value) : RB.Tr (T12 g V):=⟨fun w => ⟨grown_refl w _,.inl rfl⟩,fun h k => ⟨gb_trans h.gr k.gr,by
 rcases k.at_ with e | e
 ·rcases h.at_ with e2 | e2
  ·exact .inl (e.trans e2)
  ·exact .inr (e.trans e2)
 ·exact .inr e⟩⟩
theorem T12.undrew {g : Nat} {V : Array Value} {X Y : World} (h : T12 g V X.drew Y) : T12 g V X Y:=⟨⟨h.gr.os,h.gr.tape,h.gr.output,h.gr.size,h.gr.block⟩,h.at_⟩
theorem T12.ext {g : Nat} {V : Array Value} {X Y : World} (h : Ext X Y) (hg : g < X.heap.size) : T12 g V X Y:=⟨grown_ext h,.inl (h.block g hg)⟩
theorem T12.keepV {g : Nat} {V : Array Value} {X Y : World} (h : T12 g V X Y) (k : Blk X g 60 V) : Blk Y g 60 V:=by
 rcases h.at_ with e | e
 ·exact e.trans k
 ·exact e
theorem T12.two {g : Nat} {V : Array Value} {X Y : World} (h : T12 g V X Y) (hV : V.size = 2) {C : Array Value} (hC : C.size = 2) (k : Blk X g 60 C) : ∃ cs,cs.size = 2 ∧ Blk Y g 60 cs:=by
 rcases h.at_ with e | e
 ·exact ⟨C,hC,e.trans k⟩
 ·exact ⟨V,hV,e⟩
theorem T12.row {g : Nat} {V cs : Array Value} {X : World} (k : Blk X g 60 cs) : T12 g V X (X.setRow g V) ∧ Blk (X.setRow g V) g 60 V:=⟨⟨setRow_gr22 X g V,.inr (k.row V)⟩,k.row V⟩
theorem sb0_own {w : World} {g8 g9 g10 g12 g15 B0 : Nat} {O X Y : Array Value} (h : w.heap.size ≤ B0) : OwnFrom B0 (SB0 w g8 g9 g10 g12 g15 B0 O X Y):=by
 rintro pre A B row ⟨h1,h2,h3,h4⟩ hgr hr
 exact ⟨h1,h2.kept h hgr hr,Nat.le_trans h3 hgr.size,blk_kept h4 hgr hr⟩
theorem sbx_own {w : World} {g8 g9 g10 g12 g15 B0 : Nat} {O X Y : Array Value} (h : w.heap.size ≤ B0) (c : Code) : OwnFrom B0 (SBx w g8 g9 g10 g12 g15 B0 O X Y c):=by
 rintro pre A B row ⟨h1,h2,h3,x,h4,h5⟩ hgr hr
 exact ⟨h1,h2.kept h hgr hr,Nat.le_trans h3 hgr.size,x,h4,blk_kept h5 hgr hr⟩
theorem str_blk {w : World} {g : Nat} (s : Str) (h : Blk w g 96 #[.int .i64 0,.int .i64 0,.int .i64 0,.int .i64 0,.int .i64 0,.int .i64 0,.int .i64 0,.int .i64 0,.int .i64 0]) : Blk (w.setCells g 0 (strCells s)) g 96 (strCells s).toArray:=by
 obtain ⟨⟨a,b⟩,⟨p,f,lo,hi,no,tu,sl⟩⟩:=s
 have h2:=((((((((h.set_ 0 (.int .i64 a)).set_ 1 (.int .i64 b)).set_ 2 (.int .i64 p)).set_ 3 (.int .i64 f)).set_ 4 (.int .i64 lo)).set_ 5 (.int .i64 hi)).set_ 6 (.int .i64 no)).set_ 7 (.int .i64 tu)).set_ 8 (.int .i64 sl)
 simp only [List.setIfInBounds_toArray,List.set_cons_zero,List.set_cons_succ] at h2
 exact h2
theorem setCells_grown (w : World) (g : Nat) : ∀ (cs : List Value) (o : Nat),w.grownBy (w.setCells g o cs) (some g):=by
 intro cs
 induction cs generalizing w with
 | nil => intro o; exact grown_refl w (some g)
 | cons v r ih => intro o; exact gb_trans (grownBy_setCellG w ⟨g,o,none⟩ v) (ih (w.setCell ⟨g,o,none⟩ v) (o + 1))
theorem ko_setCells (w : World) (g : Nat) : ∀ (cs : List Value) (o : Nat),KeepsOthers w (w.setCells g o cs):=by
 intro cs
 induction cs generalizing w with
 | nil => intro o; exact KeepsOthers.refl w
 | cons v r ih => intro o; exact (KeepsOthers.setCell w ⟨g,o,none⟩ v).trans (ih (w.setCell ⟨g,o,none⟩ v) (o + 1))
theorem str_ne (f : Int → Orb) (t : Int) (n : Nat) (h : 0 < n) : strP f t n ≠ []:=by
 obtain ⟨m,rfl⟩ : ∃ m,n = m + 1:=⟨n - 1,by omega⟩
 rw [strP]
 cases strP f (t + 1) m with
 | nil => simp
 | cons s r =>
  dsimp only
  split <;> simp
theorem str_ones (s : Str) : ∀ u ∈ strCells s,u.oneCell' = true:=by simp [strCells,Value.oneCell']
set_option maxRecDepth 100000 in
set_option maxHeartbeats 2000000 in
theorem Stand_in (sats : List St) (l : List Upd) (o : EOpt) (old now : List Pas) (kn : Int) (SA A LA OA NA : Option Addr) (sn sc un uc ln lc on oc nn nc : Nat) (w : World) (hS : RA satCells 21 w w.heap.size SA sn sc sats) (hU : RA updCells 10 w w.heap.size A un uc l) (hL : RA sltCells 3 w w.heap.size LA ln lc o.slots) (hO : RA pasCells 6 w w.heap.size OA on oc old) (hN : RA pasCells 6 w w.heap.size NA nn nc now)
  (ha : 0 ≤ o.a) (hab : o.a < o.b) (hb : o.b ≤ 1000000) :
  CallsIn Fence.wide 10 Tryz.prog 45 #[.slice SA sn sc,.slice A un uc,.agg (optArr o LA ln lc),.slice OA on oc,.slice NA nn nc,.int .i64 kn] w (StdRet (standP sats l o old now kn) w):=by
 obtain ⟨id,ord,cla,sat,a,b,look,size,slots⟩:=o
 dsimp only [optArr] at *
 obtain ⟨R,hR⟩ : ∃ R,R = standP sats l ⟨id,ord,cla,sat,a,b,look,size,slots⟩ old now kn:=⟨_,rfl⟩
 rw [← hR]
 have HR:=Lib.hid hR
 have HS:=Lib.hid hS
 have HU:=Lib.hid hU
 have HL:=Lib.hid hL
 have HO:=Lib.hid hO
 have HN:=Lib.hid hN
 have HSN:=Lib.hid hS.len
 clear hR hS hU hL hO hN
 refine callsIn_of_wp_marks Tryz.func45 rfl trivial ?_ rfl
 simp only [Tryz.ntmps45,List.size_toArray,List.length_cons,List.length_nil,Nat.reduceAdd,Nat.reduceSub,Array.replicate_succ,Array.replicate_zero,List.push_toArray,List.append_toArray,List.nil_append,List.cons_append]
 refine wpIn_wide.2 ?_
 go_upto_region 1 with (fail)
 obtain ⟨O,hOa⟩ : ∃ O,(#[.int .i64 id,.int .i64 ord,.int .i64 cla,.int .i64 sat,.int .i64 a,.int .i64 b,.int .i64 look,.int .i64 size,.slice LA ln lc] : Array Value) = O:=⟨_,rfl⟩
 generalize hW0 : ((((w.alloc (.cells #[.int .i64 id,.int .i64 ord,.int .i64 cla,.int .i64 sat,.int .i64 a,.int .i64 b,.int .i64 look,.int .i64 size,.slice LA ln lc] 49)).alloc (.cells #[.slice OA on oc] 36)).alloc (.cells #[.slice NA nn nc] 36)).alloc (.cells #[.slice none 0 0,.slice none 0 0] 60)) = W0
 obtain ⟨g8,hg8⟩ : ∃ k,k = w.heap.size:=⟨_,rfl⟩
 obtain ⟨g9,hg9⟩ : ∃ k,k = w.heap.size + 1:=⟨_,rfl⟩
 obtain ⟨g10,hg10⟩ : ∃ k,k = w.heap.size + 1 + 1:=⟨_,rfl⟩
 obtain ⟨g12,hg12⟩ : ∃ k,k = w.heap.size + 1 + 1 + 1:=⟨_,rfl⟩
 have K0 : SB w g8 g9 g10 g12 O #[.slice OA on oc] #[.slice NA nn nc] W0:=by
  subst hW0 hOa
  exact ⟨(((Blk.new_at _ _ _ (by simp [hg8])).alloc _).alloc _).alloc _,((Blk.new_at _ _ _ (by simp [hg9])).alloc _).alloc _,(Blk.new_at _ _ _ (by simp [hg10])).alloc _,Blk.new_at _ _ _ (by simp [hg12]),bl_alloc (bl_alloc (bl_alloc (bl_alloc (Below.refl _ _) _) _) _) _⟩
 have HG12 : Hid (w.heap.size ≤ g12 ∧ w.heap.size ≤ g8 ∧ g8 < g9 ∧ g9 < g10 ∧ g10 < g12):=Lib.hid (by omega)
 rw [← hg12,← hg10,← hg9,← hg8]
 clear hW0 hg8 hg9 hg10 hg12
 have HOA:=Lib.hid hOa
 clear hOa
 have hidx:=index_St (fun x => x.id == sat) 99 #[.pointer (some ⟨g8,0,none⟩)] (enters_of Tryz.func99 (by kernel_rfl) rfl) sats SA sn sc W0 (ra_ext HS.out K0.below) (fun x W hW => ofsat_any x g8 sat W O (K0.k8.ext hW) (by rw [← HOA.out]; rfl))
 have HIDX:=Lib.hid hidx
 have HK0:=Lib.hid K0
 clear hidx K0
 go_wp2_with fail
 refine HIDX.out.mono ?_
 rintro e W1 ⟨rfl,hy⟩
 have K1:=HK0.out.ext hy
 clear hy HK0 HIDX
 rcases idx_find (fun x => x.id == sat) sats 0 (Int.le_refl _) with ⟨hf,hi⟩ | ⟨i,hi0,hf,hi⟩
 ·rw [hi]
  have HR0 : Hid (R = none):=Lib.hid (by rw [HR.out,standP]; simp only [hf])
  have HK:=Lib.hid K1.k12
  have HKN:=Lib.hid (K1.k12.row #[.slice none 0 0,.slice none 0 0])
  have HB:=Lib.hid (below_setRow K1.below (g:=g12) HG12.out.1 #[.slice none 0 0,.slice none 0 0])
  clear hf hi K1 HR HS HU HL HO HN
  go_wp2_with (refine wpList_store_row rfl 60 _ _ rfl g12 #[.slice none 0 0,.slice none 0 0] rfl rfl 60 _ HK.out strip_size rfl (by simp [Value.oneCell']) ?_)
  exact ⟨_,results_row1 Tryz.results45 _ _ g12 _ (.bool false) rfl rfl HKN.out _ Tryz.underlying60 rfl strip_size,by rw [HR0.out]; exact ⟨⟨_,_,_,_,_,_,rfl⟩,HB.out⟩⟩
 ·rw [hi,Int.zero_add]
  have hin : i < sn:=by rw [← HSN.out]; exact hi0
  have hiz : ¬ (i : Int) < 0:=by omega
  have hinz : (i : Int) < (sn : Int):=by omega
  obtain ⟨bb,oo,hz,hA,hbl,hc⟩:=RA.range sat_len (HS.out.below K1.below) hin
  generalize hsi : sats[i] = s at hc hf
  clear hsi
  obtain ⟨P,hP⟩ : ∃ P,(satCells s).toArray = P:=⟨_,rfl⟩
  have hbu:=pth_built s A un uc kn
  obtain ⟨Z,hZ⟩ : ∃ Z,(pthCells s A un uc kn).toArray = Z:=⟨_,rfl⟩
  rw [hP,hZ] at hbu
  have HRS : Hid (R = match strP (orbE s l kn) a (b - a).toNat with
   | [] => none
   | s :: _ => if s.sp = ⟨a,b⟩ then (match stripP s.orb a b look with
    | none => none
    | some r => if slots.any (lostP old now) = true then none else some r) else none):=Lib.hid (by rw [HR.out,standP]; simp only [hf])
  subst hA
  have HCC:=Lib.hid hc
  have HPP:=Lib.hid hP
  have HZZ:=Lib.hid hZ
  have HBU:=Lib.hid hbu
  have HK1:=Lib.hid K1
  have K15:=Blk.new W1 96 #[.int .i64 0,.int .i64 0,.int .i64 0,.int .i64 0,.int .i64 0,.int .i64 0,.int .i64 0,.int .i64 0,.int .i64 0]
  have hx15 : Ext W1 (W1.alloc (.cells #[.int .i64 0,.int .i64 0,.int .i64 0,.int .i64 0,.int .i64 0,.int .i64 0,.int .i64 0,.int .i64 0,.int .i64 0] 96)):=bl_alloc (Below.refl _ _) _
  clear hc hP hZ hbu hi hf hz K1 HR
  go_upto_region 5 with (fail)
  obtain ⟨g15,hg15⟩ : ∃ k,k = W1.heap.size:=⟨_,rfl⟩
  rw [← hg15] at K15 ⊢
  generalize W1.alloc (.cells #[.int .i64 0,.int .i64 0,.int .i64 0,.int .i64 0,.int .i64 0,.int .i64 0,.int .i64 0,.int .i64 0,.int .i64 0] 96) = W2 at K15 hx15 ⊢
  have K2:=HK1.out.ext hx15
  have hg15w : w.heap.size ≤ g15:=by rw [hg15]; exact HK1.out.below.size
  have HCC:=Lib.hid (RA.range2 HCC.out hx15)
  have s0 : W2.cell? ⟨g8,4,none⟩ = some (.int .i64 a):=by rw [K2.k8.cell,← HOA.out]; rfl
  have s1 : W2.cell? ⟨g8,5,none⟩ = some (.int .i64 b):=by rw [K2.k8.cell,← HOA.out]; rfl
  have HK2:=Lib.hid K2
  clear hx15 HK1 hg15 K2
  refine wp_region_obl 10 (fun ix vals v w1 => match ix with | 0 => v = .slice (some ⟨bb,oo,none⟩) sn sc | 1 => v = .int .i64 i | 2 => v = .pointer (some ⟨bb,oo + i * 21,none⟩) | 3 => v = .agg P | 4 => v = .slice A un uc | 5 => v = .int .i64 kn | 6 => v = .agg Z | 7 => v = .pointer (some ⟨g8,4,none⟩) | 8 => v = .agg #[.int .i64 a,.int .i64 b] | _ => ∃ g,v = .func (.func 105) #[] #[.pointer (some ⟨g + 1,0,none⟩),.pointer (some ⟨g,0,none⟩)] ∧ W2.heap.size ≤ g ∧ Blk w1 g 117 Z ∧ Blk w1 (g + 1) 32 #[.int .i64 a,.int .i64 b]) (by kernel_rfl) (by kernel_rfl) ?_ ?_ ?_ ?_
  ·intro ix vals v w1 w2 hi hr hx
   match ix,hr with
   | 0,hr => exact hr
   | 1,hr => exact hr
   | 2,hr => exact hr
   | 3,hr => exact hr
   | 4,hr => exact hr
   | 5,hr => exact hr
   | 6,hr => exact hr
   | 7,hr => exact hr
   | 8,hr => exact hr
   | (kx + 9),hr => obtain ⟨g,h1,h2,h3,h4⟩:=hr; exact ⟨g,h1,h2,h3.ext hx,h4.ext hx⟩
  ·intro ix vals vals_ v w1 hi hv hr
   exact hr
  ·refine ⟨?_,?_,?_,?_,?_,?_,?_,?_,?_,?_,trivial⟩
   ·intro vals w1 hx hd ha
    clear hd ha
    simp only [Lf]
    go_wp2
    exact q_
   ·intro vals w1 hx hd ha
    clear hd ha
    simp only [Lf,dstAt,Act.put,FR_]
    go_wp2
    exact q_
   ·intro vals w1 hx hd ha
    have e0 : vals 0 = .slice (some ⟨bb,oo,none⟩) sn sc:=hd 0 (by decide)
    have e1 : vals 1 = .int .i64 i:=hd 1 (by decide)
    clear hd ha
    simp only [Lf,dstAt,Act.put,FR_,e0,e1]
    clear e0 e1
    go_wp2
    exact q_
   ·intro vals w1 hx hd ha
    have e2 : vals 2 = .pointer (some ⟨bb,oo + i * 21,none⟩):=hd 2 (by decide)
    clear hd ha
    simp only [Lf,dstAt,Act.put,FR_,e2]
    clear e2
    refine wpList_load_stg rfl _ _ rfl bb (oo + i * 21) rfl P (satCells s) HPP.out _ (RA.range2 HCC.out hx.undrew) Tryz.underlying53 rfl sat_size ?_
    go_wp2
    exact q_
   ·intro vals w1 hx hd ha
    clear hd ha
    simp only [Lf,dstAt,Act.put,FR_]
    go_wp2
    exact q_
   ·intro vals w1 hx hd ha
    clear hd ha
    simp only [Lf,dstAt,Act.put,FR_]
    go_wp2
    exact q_
   ·intro vals w1 hx hd ha
    have e3 : vals 3 = .agg P:=hd 3 (by decide)
    have e4 : vals 4 = .slice A un uc:=hd 4 (by decide)
    have e5 : vals 5 = .int .i64 kn:=hd 5 (by decide)
    clear hd ha
    simp only [Lf,dstAt,Act.put,FR_,e3]
    simp only [e4]
    simp only [e5]
    clear e3 e4 e5
    refine wpList_build3 rfl _ _ _ _ rfl Z rfl rfl rfl HBU.out ?_
    go_wp2
    exact q_
   ·intro vals w1 hx hd ha
    clear hd ha
    simp only [Lf,dstAt,Act.put,FR_]
    go_wp2
    exact q_
   ·intro vals w1 hx hd ha
    have e7 : vals 7 = .pointer (some ⟨g8,4,none⟩):=hd 7 (by decide)
    clear hd ha
    simp only [Lf,dstAt,Act.put,FR_,e7]
    clear e7
    have s0:=ext_cell hx s0
    have s1:=ext_cell hx s1
    go_wp2
    exact q_
   ·intro vals w1 hx hd ha
    have e6 : vals 6 = .agg Z:=hd 6 (by decide)
    have e8 : vals 8 = .agg #[.int .i64 a,.int .i64 b]:=hd 8 (by decide)
    clear hd ha
    simp only [Lf,dstAt,Act.put,FR_,e6]
    simp only [e8]
    clear e6 e8
    have hz:=Below.size hx.undrew
    go_wp2_with fail
    refine (strs_fn Z a b _).mono ?_
    rintro e w2 ⟨rfl,hw2⟩
    subst hw2
    go_wp2
    exact ⟨rfl,(by repeat (first | exact Below.refl _ _ | assumption | refine Below.drew ?_ | refine below_drewN ?_ _ | refine bl_alloc ?_ _ | refine Below.setCell ?_ (by first | (simp; done) | omega | (simp; omega)) _ | refine bl_then ?_ (by assumption))),_,rfl,by omega,(Blk.new _ _ _).alloc _,Blk.new_at _ _ _ (by simp)⟩
  intro vals W3 hx3 hf
  obtain ⟨gp,e9,hgp,kp,ks⟩ : ∃ g,vals 9 = .func (.func 105) #[] #[.pointer (some ⟨g + 1,0,none⟩),.pointer (some ⟨g,0,none⟩)] ∧ W2.heap.size ≤ g ∧ Blk W3 g 117 Z ∧ Blk W3 (g + 1) 32 #[.int .i64 a,.int .i64 b]:=hf 9 (by omega)
  clear hf s0 s1
  have hx3:=hx3.undrew
  have K3:=HK2.out.ext hx3
  have hg15l:=K15.lt
  have K15:=K15.ext hx3
  refine tail0 (by kernel_rfl) ?_
  simp only [Lf,dstAt,Act.put,FR_]
  rw [e9]
  clear e9
  rw [← HZZ.out] at kp
  have hws:=K3.below.size
  have hub:=HU.out.below K3.below
  have hs0 : SB0 w g8 g9 g10 g12 g15 W3.heap.size O #[.slice OA on oc] #[.slice NA nn nc] [] W3:=⟨rfl,K3,Nat.le_refl _,K15⟩
  have hne : g8 ≠ g15 ∧ g9 ≠ g15 ∧ g10 ≠ g15 ∧ g12 ≠ g15:=⟨K3.k8.ne_ K15 (by decide),K3.k9.ne_ K15 (by decide),K3.k10.ne_ K15 (by decide),K3.k12.ne_ K15 (by decide)⟩
  have HNE:=Lib.hid hne
  have HG15:=Lib.hid hg15w
  clear K3 K15 hx3 HBU hne
  go_wp2_with fail
  refine wpIn_wide.1 (wp_range_str (fun q => q = g15) w.heap.size (gp + 1) gp s l A un uc kn a b 10 (by omega) hws hub ks kp (by omega) (by omega) (by omega) (by omega) (by omega) rfl (SB0 w g8 g9 g10 g12 g15 W3.heap.size O #[.slice OA on oc] #[.slice NA nn nc]) (SBx w g8 g9 g10 g12 g15 W3.heap.size O #[.slice OA on oc] #[.slice NA nn nc]) (sb0_own hws) (sbx_own hws) (fun _ _ h => h.2.2.1) hs0
   (fun t x Bx => (t.setIfInBounds 36 (.agg (strCells x.1).toArray)).setIfInBounds 16 (.pointer (some ⟨Bx,0,none⟩))) ?hassign ?hbody ?hdone ?hstop)
  case hassign =>
   intro ly s W K hK
   obtain ⟨X,hX⟩ : ∃ X,(strCells s.1).toArray = X:=⟨_,rfl⟩
   obtain ⟨hXs,hX1⟩:=str_lit _ X hX
   rw [hX] at hK ⊢
   have HXS:=Lib.hid hXs
   have HX1:=Lib.hid hX1
   clear hX hXs hX1
   simp only [List.setIfInBounds_toArray,List.set_cons_zero,List.set_cons_succ] at hK ⊢
   gi_wp2_with (refine wpListIn_store_new rfl 96 _ _ rfl _ X rfl rfl (by rw [HXS.out]; exact str_size) (by rw [HXS.out]; rfl) HX1.out ?_)
   exact hK
  case hbody =>
   intro ly pre x Bx W hI hBx KX hlen
   obtain ⟨rfl,hsb,hsz,k15⟩:=hI
   obtain ⟨X,hX⟩ : ∃ X,(strCells x.1).toArray = X:=⟨_,rfl⟩
   rw [hX] at KX ⊢
   simp only [List.setIfInBounds_toArray,List.set_cons_zero,List.set_cons_succ]
   have HXX:=Lib.hid hX
   have HKX:=Lib.hid KX
   have HTH:=Lib.hid (k15.there_ 0 9 (by decide))
   have HK : Hid (KeepsOthers W (W.setCells g15 0 (strCells x.1))):=Lib.hid (ko_setCells W g15 _ 0)
   have hgr:=setCells_grown W g15 (strCells x.1) 0
   have hn:=HNE.out
   have HI : Hid (SBx w g8 g9 g10 g12 g15 W3.heap.size O #[.slice OA on oc] #[.slice NA nn nc] (.exit 0) [x] (W.setCells g15 0 (strCells x.1))):=Lib.hid ⟨rfl,⟨hsb.k8.grown hgr (fun e => hn.1 (by injection e)),hsb.k9.grown hgr (fun e => hn.2.1 (by injection e)),hsb.k10.grown hgr (fun e => hn.2.2.1 (by injection e)),hsb.k12.grown hgr (fun e => hn.2.2.2 (by injection e)),hsb.below.grown hgr hsb.below.size (fun q e => by cases e; exact HG15.out)⟩,Nat.le_trans hsz HK.out.size,x,rfl,str_blk x.1 k15⟩
   clear hsb hsz k15 hgr hn hX KX hs0 ks kp hub hlen
   gi_wp2_with (first | (refine wpListIn_load_st rfl _ _ rfl Bx 0 rfl X (strCells x.1) HXX.out _ ?_ Tryz.underlying96 rfl str_size ?_; exact Blk.range HKX.out (strCells x.1) (by rw [← HXX.out])) | (refine wpListIn_store_st rfl 96 _ _ rfl g15 0 X (strCells x.1) HXX.out rfl rfl ?_ str_size (str_ones _) ?_; exact HTH.out))
   exact ⟨HK.out.from _,HI.out⟩
  case hdone =>
   intro D xs W hD hxs hI hK
   obtain ⟨rfl,-,-,-⟩:=hI
   have h:=str_ne (orbE s l kn) a (b - a).toNat (by omega)
   exact absurd hxs.symm h
  case hstop =>
   intro D c pre W hD hpre hX hK
   obtain ⟨rfl,hsb,hsz,x,rfl,k15⟩:=hX
   obtain ⟨⟨⟨x1,x2⟩,⟨p,f,lo,hi,no,tu,sl⟩⟩,hbd⟩:=x
   obtain ⟨rest,hrest⟩:=hpre
   have hRx : R = if (⟨x1,x2⟩ : Spl) = ⟨a,b⟩ then (match stripP ⟨p,f,lo,hi,no,tu,sl⟩ a b look with
    | none => none
    | some r => if slots.any (lostP old now) = true then none else some r) else none:=by
    rw [HRS.out,← hrest]
    rfl
   have HRX:=Lib.hid hRx
   have HSB:=Lib.hid hsb
   have HKD:=Lib.hid hK
   have HDW : Hid (w.heap.size ≤ D ∧ g12 < D):=Lib.hid ⟨Nat.le_trans hws hD,Nat.lt_of_lt_of_le (by have:=hs0.2.1.k12.lt; exact this) hD⟩
   have c0 : W.cell? ⟨g15,0,none⟩ = some (.int .i64 x1):=k15.cell 0
   have c1 : W.cell? ⟨g15,1,none⟩ = some (.int .i64 x2):=k15.cell 1
   have o4 : W.cell? ⟨g8,4,none⟩ = some (.int .i64 a):=by rw [hsb.k8.cell,← HOA.out]; rfl
   have o5 : W.cell? ⟨g8,5,none⟩ = some (.int .i64 b):=by rw [hsb.k8.cell,← HOA.out]; rfl
   have K15:=Lib.hid k15
   clear hRx hsb hK k15 hrest ks kp hub hs0 HRS
   refine wpIn_wide.2 ?_
   by_cases he : (⟨x1,x2⟩ : Spl) = ⟨a,b⟩
   ·injection he with e1 e2
    subst e1 e2
    have hnq : ∀ w,(binOp .neq 32 (.agg #[.int .i64 x1,.int .i64 x2]) (.agg #[.int .i64 x1,.int .i64 x2])).run Tryz.prog w = .ok (.bool false) w:=fun w => by rw [neq_spl ⟨x1,x2⟩ ⟨x1,x2⟩ w,decide_eq_true rfl]; rfl
    have HRY : Hid (R = match stripP ⟨p,f,lo,hi,no,tu,sl⟩ x1 x2 look with
     | none => none
     | some r => if slots.any (lostP old now) = true then none else some r):=Lib.hid (HRX.out.trans (if_pos rfl))
    clear HRX
    have c2 : W.cell? ⟨g15,2,none⟩ = some (.int .i64 p):=K15.out.cell 2
    have c3 : W.cell? ⟨g15,3,none⟩ = some (.int .i64 f):=K15.out.cell 3
    have c4 : W.cell? ⟨g15,4,none⟩ = some (.int .i64 lo):=K15.out.cell 4
    have c5 : W.cell? ⟨g15,5,none⟩ = some (.int .i64 hi):=K15.out.cell 5
    have c6 : W.cell? ⟨g15,6,none⟩ = some (.int .i64 no):=K15.out.cell 6
    have c7 : W.cell? ⟨g15,7,none⟩ = some (.int .i64 tu):=K15.out.cell 7
    have c8 : W.cell? ⟨g15,8,none⟩ = some (.int .i64 sl):=K15.out.cell 8
    have o6 : W.cell? ⟨g8,6,none⟩ = some (.int .i64 look):=by rw [HSB.out.k8.cell,← HOA.out]; rfl
    have hst:=swStrip_any p f lo hi no tu sl x1 x2 look W
    generalize stripP ⟨p,f,lo,hi,no,tu,sl⟩ x1 x2 look = Q at hst HRY
    have HST:=Lib.hid hst
    clear hst
    go_wp2_with fail
    refine HST.out.mono ?_
    intro e W4 hsp
    cases Q with
    | none =>
     have HR0 : Hid (R = none):=Lib.hid HRY.out
     obtain ⟨rfl,hy⟩:=hsp
     have hy_:=Lib.hid hy
     have hz : Ext W4 (W4.alloc (.cells #[.slice none 0 0,.slice none 0 0] 60)):=bl_alloc (Below.refl _ _) _
     have K17:=Blk.new W4 60 #[.slice none 0 0,.slice none 0 0]
     have HSB5:=Lib.hid (HSB.out.ext (Ext.trans hy hz))
     have hkd5:=((Ext.trans hy hz).block D (Array.getElem?_eq_some_iff.1 HKD.out).1).trans HKD.out
     have HKD5:=Lib.hid hkd5
     clear c0 c1 c2 c3 c4 c5 c6 c7 c8 o4 o5 o6 hnq hy HST hkd5 HRY
     go_upto_region 12 with (fail)
     have HG17 : Hid (g12 < W4.heap.size):=Lib.hid (Nat.lt_of_lt_of_le HSB.out.k12.lt hy_.out.size)
     generalize W4.heap.size = g17 at K17 HG17 ⊢
     generalize W4.alloc (.cells #[.slice none 0 0,.slice none 0 0] 60) = W5 at K17 hz HSB5 HKD5 ⊢
     have hT:=t12_tr g12 #[.slice none 0 0,.slice none 0 0]
     have h12:=HSB5.out.k12
     have hn17 : g17 ≠ g12:=by have h1:=h12.lt; have h2:=HG17.out; omega
     have h12l:=h12.lt
     clear hz
     refine RB.wp_region_obl (T:=_) hT 12 (fun ix vals v w1 => match ix with | 0 => v = .agg #[.slice none 0 0,.slice none 0 0] | 1 => v = .int .i64 80 | 2 => v = .bool false | 3 => v = .bool false | 4 => v = undef | 5 => v = undef | 6 => v = undef | 7 => v = undef | 8 => v = undef | 9 => v = .bool false | 10 => Blk w1 g12 60 #[.slice none 0 0,.slice none 0 0] | _ => v = .bool false) (by kernel_rfl) (by kernel_rfl) ?_ ?_ ?_ ?_
     ·intro ix vals v w1 w2 hi hr hx
      match ix,hr with
      | 0,hr => exact hr
      | 1,hr => exact hr
      | 2,hr => exact hr
      | 3,hr => exact hr
      | 4,hr => exact hr
      | 5,hr => exact hr
      | 6,hr => exact hr
      | 7,hr => exact hr
      | 8,hr => exact hr
      | 9,hr => exact hr
      | 10,hr => exact hx.keepV hr
      | (kx + 11),hr => exact hr
     ·intro ix vals vals_ v w1 hi hv hr
      exact hr
     ·refine ⟨?_,?_,?_,?_,?_,?_,?_,?_,?_,?_,?_,?_,trivial⟩
      ·intro vals w1 hx hd ha
       clear hd ha
       simp only [Lf]
       have z0:=(K17.grown hx.undrew.gr (fun e => by injection e with e; exact hn17 e)).cell 0
       have z1:=(K17.grown hx.undrew.gr (fun e => by injection e with e; exact hn17 e)).cell 1
       go_wp2
       exact ⟨rfl,hT.refl _,rfl⟩
      ·intro vals w1 hx hd ha
       clear hd ha
       simp only [Lf,dstAt,Act.put,FR_]
       go_wp2
       exact ⟨rfl,hT.refl _,rfl⟩
      ·intro vals w1 hx hd ha
       have e1 : vals 1 = .int .i64 80:=hd 1 (by decide)
       clear hd ha
       simp only [Lf,dstAt,Act.put,FR_,e1]
       clear e1
       go_wp2
       exact ⟨rfl,hT.refl _,rfl⟩
      ·intro vals w1 hx hd ha
       have e2 : vals 2 = .bool false:=hd 2 (by decide)
       clear hd ha
       simp only [Lf,dstAt,Act.put,FR_,e2]
       clear e2
       go_wp2
       exact ⟨rfl,hT.refl _,rfl⟩
      ·intro vals w1 hx hd ha
       have e3 : vals 3 = .bool false:=hd 3 (by decide)
       clear hd ha
       simp only [Lf,dstAt,Act.put,FR_,e3]
       clear e3
       go_wp2
       exact ⟨rfl,hT.refl _,rfl⟩
      ·intro vals w1 hx hd ha
       have e3 : vals 3 = .bool false:=hd 3 (by decide)
       have e4 : vals 4 = undef:=hd 4 (by decide)
       clear hd ha
       simp only [Lf,dstAt,Act.put,FR_,e3,e4]
       clear e3 e4
       go_wp2
       exact ⟨rfl,hT.refl _,rfl⟩
      ·intro vals w1 hx hd ha
       have e3 : vals 3 = .bool false:=hd 3 (by decide)
       clear hd ha
       simp only [Lf,dstAt,Act.put,FR_,e3]
       clear e3
       go_wp2
       exact ⟨rfl,hT.refl _,rfl⟩
      ·intro vals w1 hx hd ha
       have e3 : vals 3 = .bool false:=hd 3 (by decide)
       have e5 : vals 5 = undef:=hd 5 (by decide)
       have e6 : vals 6 = undef:=hd 6 (by decide)
       clear hd ha
       simp only [Lf,dstAt,Act.put,FR_,e3,e5,e6]
       clear e3 e5 e6
       go_wp2
       exact ⟨rfl,hT.refl _,rfl⟩
      ·intro vals w1 hx hd ha
       have e3 : vals 3 = .bool false:=hd 3 (by decide)
       have e7 : vals 7 = undef:=hd 7 (by decide)
       clear hd ha
       simp only [Lf,dstAt,Act.put,FR_,e3,e7]
       clear e3 e7
       go_wp2
       exact ⟨rfl,hT.refl _,rfl⟩
      ·intro vals w1 hx hd ha
       have e3 : vals 3 = .bool false:=hd 3 (by decide)
       have e8 : vals 8 = undef:=hd 8 (by decide)
       clear hd ha
       simp only [Lf,dstAt,Act.put,FR_,e3,e8]
       clear e3 e8
       go_wp2
       exact ⟨rfl,hT.refl _,rfl⟩
      ·intro vals w1 hx hd ha
       have e0 : vals 0 = .agg #[.slice none 0 0,.slice none 0 0]:=hd 0 (by decide)
       have e7 : vals 7 = undef:=hd 7 (by decide)
       clear hd ha
       simp only [Lf,dstAt,Act.put,FR_,e0]
       simp only [e7]
       clear e0 e7
       obtain ⟨cs,hcs,hbk⟩:=hx.undrew.two rfl rfl h12
       refine wpList_store_row rfl 60 _ _ rfl g12 #[.slice none 0 0,.slice none 0 0] rfl rfl 60 _ hbk strip_size (by rw [hcs]; rfl) (by simp [Value.oneCell']) ?_
       go_wp2
       exact ⟨rfl,(T12.row hbk).1,(T12.row hbk).2⟩
      ·intro vals w1 hx hd ha
       have e0 : vals 0 = .agg #[.slice none 0 0,.slice none 0 0]:=hd 0 (by decide)
       have e1 : vals 1 = .int .i64 80:=hd 1 (by decide)
       have e2 : vals 2 = .bool false:=hd 2 (by decide)
       have e3 : vals 3 = .bool false:=hd 3 (by decide)
       have e4 : vals 4 = undef:=hd 4 (by decide)
       have e5 : vals 5 = undef:=hd 5 (by decide)
       have e6 : vals 6 = undef:=hd 6 (by decide)
       have e7 : vals 7 = undef:=hd 7 (by decide)
       have e8 : vals 8 = undef:=hd 8 (by decide)
       have e9 : vals 9 = .bool false:=hd 9 (by decide)
       have r10 : (fun v w1 => Blk w1 g12 60 #[.slice none 0 0,.slice none 0 0]) (vals 10) w1:=hd 10 (by decide)
       dsimp only at r10
       clear hd ha
       simp only [Lf,dstAt,Act.put,FR_,e0,e1,e2,e3,e4,e5,e6,e7,e8,e9]
       clear e0 e1 e2 e3 e4 e5 e6 e7 e8 e9
       go_wp2
       exact ⟨rfl,hT.refl _,rfl⟩
     intro vals W6 hx6 hf
     have e11 : vals 11 = .bool false:=hf 11 (by omega)
     have k10 : Blk W6 g12 60 #[.slice none 0 0,.slice none 0 0]:=hf 10 (by omega)
     clear hf
     have hx6:=hx6.undrew
     have hDl:=(Array.getElem?_eq_some_iff.1 HKD5.out).1
     have HKS : Hid (W6.heap[D]? = some (.deferred (some []))):=Lib.hid ((hx6.gr.block D hDl (fun e => by injection e with e; have:=HDW.out; omega)).trans HKD5.out)
     have HKN:=Lib.hid k10
     have HB : Hid (Ext w W6):=Lib.hid (HSB5.out.below.grown hx6.gr HSB5.out.below.size (fun q e => by cases e; exact HG12.out.1))
     clear hx6 k10 hT h12 hn17 h12l K17 hDl
     refine tail0 (by kernel_rfl) ?_
     simp only [Lf,dstAt,Act.put,FR_]
     rw [e11]
     clear e11
     go_wp2
     refine ⟨by simp,.inl ⟨_,_,rfl,run_takeDeferred HKS.out,?_⟩⟩
     have hgr:=grownBy_putObj' W6 D (.deferred none)
     have hrr : ∀ r,some D = some r → w.heap.size ≤ r ∧ ∃ o : Obj,W6.heap[r]? = some o ∧ o.isCells = false:=fun r e => by cases e; exact ⟨HDW.out.1,_,HKS.out,rfl⟩
     exact ⟨_,results_row1 Tryz.results45 _ _ g12 _ (.bool false) rfl rfl (blk_kept HKN.out hgr hrr) _ Tryz.underlying60 rfl strip_size,by rw [HR0.out]; exact ⟨⟨_,_,_,_,_,_,rfl⟩,HB.out.grown hgr HB.out.size (fun k e => by cases e; exact HDW.out.1)⟩⟩
    | some SC =>
     obtain ⟨S,C⟩:=SC
     obtain ⟨⟨v,rfl,hst⟩,hy⟩:=hsp
     obtain ⟨gs,gc,c,rfl,r1,r2,hne2⟩:=hst.it
     have hy_:=Lib.hid hy
     have HRZ : Hid (R = if slots.any (lostP old now) = true then none else some (S,C)):=Lib.hid HRY.out
     have hz : Ext W4 (W4.alloc (.cells #[.slice (some ⟨gs,0,none⟩) 24 24,.slice (some ⟨gc,0,none⟩) 24 c] 60)):=bl_alloc (Below.refl _ _) _
     have K17:=Blk.new W4 60 #[.slice (some ⟨gs,0,none⟩) 24 24,.slice (some ⟨gc,0,none⟩) 24 c]
     have HSB5:=Lib.hid (HSB.out.ext (Ext.trans hy hz))
     have hkd5:=((Ext.trans hy hz).block D (Array.getElem?_eq_some_iff.1 HKD.out).1).trans HKD.out
     have HKD5:=Lib.hid hkd5
     have HR1:=Lib.hid (r1.ext hz)
     have HR2:=Lib.hid (r2.ext hz)
     have hCON : ∀ W',Ext w W' → Blk W' g9 36 #[.slice OA on oc] → Blk W' g10 36 #[.slice NA nn nc] → Calls Tryz.prog 102 #[.slice LA ln lc,.func (.func 100) #[] #[.pointer (some ⟨g9,0,none⟩),.pointer (some ⟨g10,0,none⟩)]] W' fun e w' => e = .returned (.bool (slots.any (lostP old now))) ∧ Ext W' w':=fun W' hx h9 h10 =>
      contains_Slt (lostP old now) 100 #[.pointer (some ⟨g9,0,none⟩),.pointer (some ⟨g10,0,none⟩)] (enters_of Tryz.func100 (by kernel_rfl) rfl) slots LA ln lc W' (ra_ext HL.out hx) (fun s W'' hW => lost_any s g9 g10 old now OA NA on nn oc nc W'' (h9.ext hW) (h10.ext hW) (ra_ext HO.out (Ext.trans hx hW)) (ra_ext HN.out (Ext.trans hx hW)))
     generalize slots.any (lostP old now) = zz at hCON HRZ
     have HCON:=Lib.hid hCON
     have HGS : Hid (W.heap.size ≤ gs ∧ W.heap.size ≤ gc):=Lib.hid ⟨(World.ownsRow.lt r1.2 gs rfl).1,(World.ownsRow.lt r2.2 gc rfl).1⟩
     have HWS : Hid (w.heap.size ≤ W.heap.size ∧ g12 < W.heap.size):=Lib.hid ⟨HSB.out.below.size,HSB.out.k12.lt⟩
     clear c0 c1 c2 c3 c4 c5 c6 c7 c8 o4 o5 o6 hnq hy HST hkd5 HRY hCON r1 r2 hst
     go_upto_region 12 with (fail)
     have HG17 : Hid (g12 < W4.heap.size):=Lib.hid (Nat.lt_of_lt_of_le HSB.out.k12.lt hy_.out.size)
     generalize W4.heap.size = g17 at K17 HG17 ⊢
     generalize W4.alloc (.cells #[.slice (some ⟨gs,0,none⟩) 24 24,.slice (some ⟨gc,0,none⟩) 24 c] 60) = W5 at K17 hz HSB5 HKD5 HR1 HR2 ⊢
     have hT:=t12_tr g12 #[.slice (some ⟨gs,0,none⟩) 24 24,.slice (some ⟨gc,0,none⟩) 24 c]
     have h12:=HSB5.out.k12
     have hn17 : g17 ≠ g12:=by have h2:=HG17.out; omega
     have h12l:=h12.lt
     have hn8 : g8 ≠ g12 ∧ g9 ≠ g12 ∧ g10 ≠ g12:=by have:=HG12.out; omega
     clear hz
     refine RB.wp_region_obl (T:=_) hT 12 (fun ix vals v w1 => match ix with | 0 => v = .agg #[.slice (some ⟨gs,0,none⟩) 24 24,.slice (some ⟨gc,0,none⟩) 24 c] | 1 => v = .int .i64 0 | 2 => v = .bool true | 3 => v = .bool true | 4 => v = .pointer (some ⟨g8,8,none⟩) | 5 => v = .slice LA ln lc | 6 => v = .func (.func 100) #[] #[.pointer (some ⟨g9,0,none⟩),.pointer (some ⟨g10,0,none⟩)] | 7 => v = .bool zz | 8 => v = .bool (!zz) | 9 => v = .bool (!zz) | 10 => Blk w1 g12 60 #[.slice (some ⟨gs,0,none⟩) 24 24,.slice (some ⟨gc,0,none⟩) 24 c] | _ => v = .bool (!zz)) (by kernel_rfl) (by kernel_rfl) ?_ ?_ ?_ ?_
     ·intro ix vals v w1 w2 hi hr hx
      match ix,hr with
      | 0,hr => exact hr
      | 1,hr => exact hr
      | 2,hr => exact hr
      | 3,hr => exact hr
      | 4,hr => exact hr
      | 5,hr => exact hr
      | 6,hr => exact hr
      | 7,hr => exact hr
      | 8,hr => exact hr
      | 9,hr => exact hr
      | 10,hr => exact hx.keepV hr
      | (kx + 11),hr => exact hr
     ·intro ix vals vals_ v w1 hi hv hr
      exact hr
     ·refine ⟨?_,?_,?_,?_,?_,?_,?_,?_,?_,?_,?_,?_,trivial⟩
      ·intro vals w1 hx hd ha
       clear hd ha
       simp only [Lf]
       have z0:=(K17.grown hx.undrew.gr (fun e => by injection e with e; exact hn17 e)).cell 0
       have z1:=(K17.grown hx.undrew.gr (fun e => by injection e with e; exact hn17 e)).cell 1
       go_wp2
       exact ⟨rfl,hT.refl _,rfl⟩
      ·intro vals w1 hx hd ha
       clear hd ha
       simp only [Lf,dstAt,Act.put,FR_]
       go_wp2
       exact ⟨rfl,hT.refl _,rfl⟩
      ·intro vals w1 hx hd ha
       have e1 : vals 1 = .int .i64 0:=hd 1 (by decide)
       clear hd ha
       simp only [Lf,dstAt,Act.put,FR_,e1]
       clear e1
       go_wp2
       exact ⟨rfl,hT.refl _,rfl⟩
      ·intro vals w1 hx hd ha
       have e2 : vals 2 = .bool true:=hd 2 (by decide)
       clear hd ha
       simp only [Lf,dstAt,Act.put,FR_,e2]
       clear e2
       go_wp2
       exact ⟨rfl,hT.refl _,rfl⟩
      ·intro vals w1 hx hd ha
       have e3 : vals 3 = .bool true:=hd 3 (by decide)
       clear hd ha
       simp only [Lf,dstAt,Act.put,FR_,e3]
       clear e3
       go_wp2
       exact ⟨rfl,hT.refl _,rfl⟩
      ·intro vals w1 hx hd ha
       have e3 : vals 3 = .bool true:=hd 3 (by decide)
       have e4 : vals 4 = .pointer (some ⟨g8,8,none⟩):=hd 4 (by decide)
       clear hd ha
       simp only [Lf,dstAt,Act.put,FR_,e3,e4]
       clear e3 e4
       have o8 : w1.cell? ⟨g8,8,none⟩ = some (.slice LA ln lc):=by rw [(HSB5.out.k8.grown hx.undrew.gr (fun e => by injection e with e; exact hn8.1 e)).cell,← HOA.out]; rfl
       go_wp2
       exact ⟨rfl,hT.refl _,rfl⟩
      ·intro vals w1 hx hd ha
       have e3 : vals 3 = .bool true:=hd 3 (by decide)
       clear hd ha
       simp only [Lf,dstAt,Act.put,FR_,e3]
       clear e3
       go_wp2
       exact ⟨rfl,hT.refl _,rfl⟩
      ·intro vals w1 hx hd ha
       have e3 : vals 3 = .bool true:=hd 3 (by decide)
       have e5 : vals 5 = .slice LA ln lc:=hd 5 (by decide)
       have e6 : vals 6 = .func (.func 100) #[] #[.pointer (some ⟨g9,0,none⟩),.pointer (some ⟨g10,0,none⟩)]:=hd 6 (by decide)
       clear hd ha
       simp only [Lf,dstAt,Act.put,FR_,e3]
       simp only [e5]
       simp only [e6]
       clear e3 e5 e6
       have hg:=hx.undrew.gr
       go_wp2_with fail
       refine (HCON.out _ (HSB5.out.below.grown hg HSB5.out.below.size (fun q e => by cases e; exact HG12.out.1)) (HSB5.out.k9.grown hg (fun e => by injection e with e; exact hn8.2.1 e)) (HSB5.out.k10.grown hg (fun e => by injection e with e; exact hn8.2.2 e))).mono ?_
       rintro e w2 ⟨rfl,hb2⟩
       go_wp2
       exact ⟨rfl,T12.ext hb2 (Nat.lt_of_lt_of_le h12l hg.size),rfl⟩
      ·intro vals w1 hx hd ha
       have e3 : vals 3 = .bool true:=hd 3 (by decide)
       have e7 : vals 7 = .bool zz:=hd 7 (by decide)
       clear hd ha
       simp only [Lf,dstAt,Act.put,FR_,e3,e7]
       clear e3 e7
       go_wp2
       exact ⟨rfl,hT.refl _,rfl⟩
      ·intro vals w1 hx hd ha
       have e3 : vals 3 = .bool true:=hd 3 (by decide)
       have e8 : vals 8 = .bool (!zz):=hd 8 (by decide)
       clear hd ha
       simp only [Lf,dstAt,Act.put,FR_,e3,e8]
       clear e3 e8
       go_wp2
       exact ⟨rfl,hT.refl _,rfl⟩
      ·intro vals w1 hx hd ha
       have e0 : vals 0 = .agg #[.slice (some ⟨gs,0,none⟩) 24 24,.slice (some ⟨gc,0,none⟩) 24 c]:=hd 0 (by decide)
       have e7 : vals 7 = .bool zz:=hd 7 (by decide)
       clear hd ha
       simp only [Lf,dstAt,Act.put,FR_,e0]
       simp only [e7]
       clear e0 e7
       obtain ⟨cs,hcs,hbk⟩:=hx.undrew.two rfl rfl h12
       refine wpList_store_row rfl 60 _ _ rfl g12 #[.slice (some ⟨gs,0,none⟩) 24 24,.slice (some ⟨gc,0,none⟩) 24 c] rfl rfl 60 _ hbk strip_size (by rw [hcs]; rfl) (by simp [Value.oneCell']) ?_
       go_wp2
       exact ⟨rfl,(T12.row hbk).1,(T12.row hbk).2⟩
      ·intro vals w1 hx hd ha
       have e0 : vals 0 = .agg #[.slice (some ⟨gs,0,none⟩) 24 24,.slice (some ⟨gc,0,none⟩) 24 c]:=hd 0 (by decide)
       have e1 : vals 1 = .int .i64 0:=hd 1 (by decide)
       have e2 : vals 2 = .bool true:=hd 2 (by decide)
       have e3 : vals 3 = .bool true:=hd 3 (by decide)
       have e4 : vals 4 = .pointer (some ⟨g8,8,none⟩):=hd 4 (by decide)
       have e5 : vals 5 = .slice LA ln lc:=hd 5 (by decide)
       have e6 : vals 6 = .func (.func 100) #[] #[.pointer (some ⟨g9,0,none⟩),.pointer (some ⟨g10,0,none⟩)]:=hd 6 (by decide)
       have e7 : vals 7 = .bool zz:=hd 7 (by decide)
       have e8 : vals 8 = .bool (!zz):=hd 8 (by decide)
       have e9 : vals 9 = .bool (!zz):=hd 9 (by decide)
       have r10 : (fun v w1 => Blk w1 g12 60 #[.slice (some ⟨gs,0,none⟩) 24 24,.slice (some ⟨gc,0,none⟩) 24 c]) (vals 10) w1:=hd 10 (by decide)
       dsimp only at r10
       clear hd ha
       simp only [Lf,dstAt,Act.put,FR_,e0,e1,e2,e3,e4,e5,e6,e7,e8,e9]
       clear e0 e1 e2 e3 e4 e5 e6 e7 e8 e9
       go_wp2
       exact ⟨rfl,hT.refl _,rfl⟩
     intro vals W6 hx6 hf
     have e11 : vals 11 = .bool (!zz):=hf 11 (by omega)
     have k10 : Blk W6 g12 60 #[.slice (some ⟨gs,0,none⟩) 24 24,.slice (some ⟨gc,0,none⟩) 24 c]:=hf 10 (by omega)
     clear hf
     have hx6:=hx6.undrew
     have hDl:=(Array.getElem?_eq_some_iff.1 HKD5.out).1
     have HKS : Hid (W6.heap[D]? = some (.deferred (some []))):=Lib.hid ((hx6.gr.block D hDl (fun e => by injection e with e; have:=HDW.out; omega)).trans HKD5.out)
     have HKN:=Lib.hid k10
     have HB : Hid (Ext w W6):=Lib.hid (HSB5.out.below.grown hx6.gr HSB5.out.below.size (fun q e => by cases e; exact HG12.out.1))
     have hgg:=HGS.out
     have hww:=HWS.out
     have HR3:=Lib.hid (rowI_keep HR1.out (hx6.gr.block gs HR1.out.lt (fun e => by injection e with e; omega)))
     have HR4:=Lib.hid (rowI_keep HR2.out (hx6.gr.block gc HR2.out.lt (fun e => by injection e with e; omega)))
     clear hx6 k10 hT h12 hn17 h12l K17 hDl hn8
     refine tail0 (by kernel_rfl) ?_
     simp only [Lf,dstAt,Act.put,FR_]
     rw [e11]
     clear e11
     go_wp2
     refine ⟨by simp,.inl ⟨_,_,rfl,run_takeDeferred HKS.out,?_⟩⟩
     have hgr:=grownBy_putObj' W6 D (.deferred none)
     have hrr : ∀ r,some D = some r → w.heap.size ≤ r ∧ ∃ o : Obj,W6.heap[r]? = some o ∧ o.isCells = false:=fun r e => by cases e; exact ⟨HDW.out.1,_,HKS.out,rfl⟩
     refine ⟨_,results_row1 Tryz.results45 _ _ g12 _ (.bool (!zz)) rfl rfl (blk_kept HKN.out hgr hrr) _ Tryz.underlying60 rfl strip_size,?_⟩
     have hbe:=HB.out.grown hgr HB.out.size (fun k e => by cases e; exact HDW.out.1)
     rw [HRZ.out]
     cases zz
     ·exact ⟨⟨_,rfl,⟨gs,gc,c,rfl,⟨HR3.out.1,own_base (own_kept HR3.out.2 hgr hrr) hww.1⟩,⟨HR4.out.1,own_base (own_kept HR4.out.2 hgr hrr) hww.1⟩,hne2⟩⟩,hbe⟩
     ·exact ⟨⟨_,_,_,_,_,_,rfl⟩,hbe⟩
   ·have HR0 : Hid (R = none):=Lib.hid (HRX.out.trans (if_neg he))
    have hnq : ∀ w,(binOp .neq 32 (.agg #[.int .i64 x1,.int .i64 x2]) (.agg #[.int .i64 a,.int .i64 b])).run Tryz.prog w = .ok (.bool true) w:=fun w => by rw [neq_spl ⟨x1,x2⟩ ⟨a,b⟩ w,decide_eq_false he]; rfl
    have HK12:=Lib.hid HSB.out.k12
    have HKN:=Lib.hid (HSB.out.k12.row #[.slice none 0 0,.slice none 0 0])
    have HB:=Lib.hid (below_setRow HSB.out.below (g:=g12) HG12.out.1 #[.slice none 0 0,.slice none 0 0])
    have HKS : Hid ((W.setRow g12 #[.slice none 0 0,.slice none 0 0]).heap[D]? = some (.deferred (some []))):=Lib.hid ((setRow_other W g12 D _ (by have:=HDW.out; omega)).trans HKD.out)
    clear he HRX
    go_wp2_with (refine wpList_store_row rfl 60 _ _ rfl g12 #[.slice none 0 0,.slice none 0 0] rfl rfl 60 _ HK12.out strip_size rfl (by simp [Value.oneCell']) ?_)
    refine ⟨by simp,.inl ⟨_,_,rfl,run_takeDeferred HKS.out,?_⟩⟩
    have hgr:=grownBy_putObj' (W.setRow g12 #[.slice none 0 0,.slice none 0 0]) D (.deferred none)
    have hrr : ∀ r,some D = some r → w.heap.size ≤ r ∧ ∃ o : Obj,(W.setRow g12 #[.slice none 0 0,.slice none 0 0]).heap[r]? = some o ∧ o.isCells = false:=fun r e => by cases e; exact ⟨HDW.out.1,_,HKS.out,rfl⟩
    exact ⟨_,results_row1 Tryz.results45 _ _ g12 _ (.bool false) rfl rfl (blk_kept HKN.out hgr hrr) _ Tryz.underlying60 rfl strip_size,by rw [HR0.out]; exact ⟨⟨_,_,_,_,_,_,rfl⟩,HB.out.grown hgr HB.out.size (fun k e => by cases e; exact HDW.out.1)⟩⟩
theorem stand_any (sats : List St) (l : List Upd) (o : EOpt) (old now : List Pas) (kn : Int) (SA A LA OA NA : Option Addr) (sn sc un uc ln lc on oc nn nc : Nat) (w : World) (hS : RA satCells 21 w w.heap.size SA sn sc sats) (hU : RA updCells 10 w w.heap.size A un uc l) (hL : RA sltCells 3 w w.heap.size LA ln lc o.slots) (hO : RA pasCells 6 w w.heap.size OA on oc old) (hN : RA pasCells 6 w w.heap.size NA nn nc now)
  (ha : 0 ≤ o.a) (hab : o.a < o.b) (hb : o.b ≤ 1000000) :
  Calls Tryz.prog 45 #[.slice SA sn sc,.slice A un uc,.agg (optArr o LA ln lc),.slice OA on oc,.slice NA nn nc,.int .i64 kn] w (StdRet (standP sats l o old now kn) w) :=
 callsIn_wide.1 (Stand_in sats l o old now kn SA A LA OA NA sn sc un uc ln lc on oc nn nc w hS hU hL hO hN ha hab hb)
end Go.Proofs.YtjidhhfabfnhnaaGreat
