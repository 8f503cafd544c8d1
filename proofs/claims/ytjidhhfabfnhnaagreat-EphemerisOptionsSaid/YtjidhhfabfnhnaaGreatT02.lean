/- The iterator over spells. -/
import Derived.Test.YtjidhhfabfnhnaaGreatT01
import Derived.RangeFuncNested
import Derived.RangeFuncBound
import Derived.RangeFuncCalls
import Derived.RangeFuncLeaves
import Derived.Shelf.Abstract
import Derived.Shelf.RegionOpen
import Derived.WalkKit
import Derived.OwnWalkIn
import Derived.TacticsInMore
import Derived.LoopNIn
import Derived.LoopIn
namespace Go.Proofs.YtjidhhfabfnhnaaGreat
open Go.RowKit
namespace RB
structure Tr (T:World→World→Prop):Prop where
 refl:∀w,T w w
 trans:∀ {a b c},T a b→T b c→T a c
section
variable {P:Program} {ops:Array Oper} {Q:Exit→Act→World→Prop} {a0:Act} {w0:World} {R:Nat→(Nat→Value)→Value→World→Prop} {m:Nat} {T:World→World→Prop}
def Qo (T:World→World→Prop) (a0:Act) (R:Value→World→Prop) (o:Oper) (w:World) (e:Exit) (a':Act) (w':World):Prop :=
 match e with
 |.normal=>a'.defers=a0.defers∧T w w'∧R (match o.dst with | some t=>a'.tmps.getD t undef | none=>undef) w'
 |_=>False
def M_ (T:World→World→Prop) (P:Program) (ops:Array Oper) (a0:Act) (w0:World) (R:Nat→(Nat→Value)→Value→World→Prop) (i:Nat) (o:Oper):Prop :=
 ∀(vals:Nat→Value) (w:World),T w0 w→(∀d∈bZ o,R d vals (vals d) w)→(∀d,zC ops i d=true→R d vals (vals d) w)→wpList P ops (Qo T a0 (R i vals) o w) [o] (Lf ops a0 vals i) w
structure Inv (T:World→World→Prop) (ops:Array Oper) (a0:Act) (w0:World) (R:Nat→(Nat→Value)→Value→World→Prop) (m:Nat) (listed:Array Bool) (vals:Nat→Value) (a:Act) (w:World):Prop where
 ext:T w0 w
 size:listed.size=ops.size
 tail:∀i,m≤i→listed.getD i false=false
 closed:∀i,i<m→listed.getD i false=true→∀d∈lQ ops i,listed.getD d false=true
 facts:∀i,i<m→listed.getD i false=true→R i vals (vals i) w
 defers:a.defers=a0.defers
 oJ:a.tmps.size=a0.tmps.size
 outer:∀t,(∀i,i<m→listed.getD i false=true→au ops i≠some t)→a.tmps[t]?=a0.tmps[t]?
 inner:∀i t,i<m→listed.getD i false=true→au ops i=some t→t<a0.tmps.size→a.tmps[t]?=some (vals i)
theorem agree (hc:iG ops m=true) {listed:Array Bool} {vals:Nat→Value} {a:Act} {w:World} (hI:Inv T ops a0 w0 R m listed vals a w) {i:Nat} (hi:i<m) {o:Oper} (ho:ops[i]?=some o)
  (hd:∀d∈bZ o,listed.getD d false=true):∀t∈o.looksAt ops,a.tmps[t]?=(Lf ops a0 vals i).tmps[t]?:=by
 intro t ht;obtain⟨o',ho',h1,h2,h3,_⟩:=jw hc hi;rw[ho]at ho';injection ho' with ho';subst ho';by_cases hj:∃j,j<m∧au ops j=some t
 ·obtain⟨j,hjm,hjt⟩:=hj;have hjd:=h3 t ht j hjm hjt;have hji:=h1 j hjd;obtain⟨oj,hoj,_,Dp,_⟩:=jw hc hjm;have hdj:oj.dst=some t:=by simpa [au,hoj]using hjt
  rcases Nat.lt_or_ge t a0.tmps.size with hlt | hge
  ·rw[hI.inner j t hjm (hd j hjd) hjt hlt,gY vals i j t hji hjt (fun k hk1 hk2=>Dp t hdj k (by omega) (by omega)) hlt]
  ·rw[Array.getElem?_eq_none (by rw[hI.oJ];exact hge),Array.getElem?_eq_none (by rw[dV];exact hge)]
 ·have hj':∀j,j<m→au ops j≠some t:=fun j hjm hjt=>hj ⟨j,hjm,hjt⟩;rw[hI.outer t (fun j hjm _=>hj' j hjm),gX vals i t (fun j hji=>hj' j (by omega))]
theorem fM (a0:Act) (R:Value→World→Prop) (o:Oper) (w:World):¬LetsOut (Qo T a0 R o w):=by
 rintro⟨_,_,h⟩;exact h
theorem yY {i:Nat} {o:Oper} {a b:Act} {w:World} {Ri:Value→World→Prop} (ht:gQ o=true) (hb:b.defers=a0.defers) (hab:∀t∈o.looksAt ops,a.tmps[t]?=b.tmps[t]?) (ho:ops[i]?=some o)
  {K:Act→World→Prop} (h:wpList P ops (Qo T a0 Ri o w) [o] b w) (hK:∀v w',T w w'→Ri (rF o (b.put o.dst v)) w'→K (a.put o.dst v) w'):wpOp P ops Q i K a w:=by
 have hs:∀cs b,o.op≠.select cs b:=fun cs b e=>by simp[gQ,e]at ht
 have he:execOp a.eval o=execOp b.eval o:=execOp_congr o hs (mJ hab);have hw:=jS hab;unfold wpOp;simp only[ho];rw[hw];unfold wpList at h;cases hwb:Region.wanted o (yielded ops b.tmps)
 ·simp only[hwb,Bool.false_eq_true,if_false]at h⊢;unfold wpList at h;exact hK _ _ h.2.1 h.2.2
 ·simp only[hwb,if_true]at h⊢;rcases h with h | h
  ·refine .inl ?_;unfold Oper.wp at h⊢;rw[he];generalize (execOp b.eval o).run P w=r at h;cases r with
   |ok n w' =>
    cases n<;>simp only[Oper.upon]at h ⊢
    case value v=>unfold wpList at h;exact hK _ _ h.2.1 h.2.2
    case skip=>unfold wpList at h;exact hK _ _ h.2.1 h.2.2
    case defer d =>
     unfold wpList at h;have:=h.1;cases hd:o.dst<;>simp[Act.put,hd,hb]at this
    case enter f args =>
     refine Calls.mono h fun e w'' hq=>?_;cases e with
     |returned v=>unfold wpList at hq;exact hK _ _ hq.2.1 hq.2.2
     |panicked ch=>exact absurd hq (by simp[Qo])
     |outgrown=>exact absurd hq (fM _ _ _ _)
    case row row args =>
     exact Rows.mono h fun v w'' hq=>by unfold wpList at hq;exact hK _ _ hq.2.1 hq.2.2
    all_goals exact h
   |halt x w'=>cases x<;>simp only[Oper.upon]at h⊢<;> first | exact h.elim | exact absurd h (by simp[Qo])
  ·exact absurd h.2 (fM _ _ _ _)
theorem lW (hT:Tr T) (hc:iG ops m=true) (hst:∀i vals v w w',i<m→R i vals v w→T w w'→R i vals v w') (hloc:∀i vals vals' v w,i<m→(∀d,zC ops i d=true→vals d=vals' d)→R i vals v w→R i vals' v w) (hob:∀i o,i<m→ops[i]?=some o→M_ T P ops a0 w0 R i o)
  (hfin:∀(vals:Nat→Value) (w:World),T w0 w→(∀i,i<m→R i vals (vals i) w)→wpAny P .any ops Q (ops.size-m) (mM ops.size m) (Lf ops a0 vals m) w) :
  ∀(c:Nat) (listed:Array Bool) (vals:Nat→Value) (a:Act) (w:World),Gn listed m=c→Inv T ops a0 w0 R m listed vals a w→wpAny P .any ops Q (ops.size-m+c) listed a w:=by
 intro c
 induction c with
 |zero =>
  intro listed vals a w hu hI;have hall:=zF hu;have hsz:=mG hc;have hlit:listed=mM ops.size m:=by
   apply Array.ext
   ·simp[mM,hI.size]
   ·intro i h1 h2;have hg:listed.getD i false=listed[i]:=by simp[Array.getD_eq_getD_getElem?,h1]
    rcases Nat.lt_or_ge i m with h | h
    ·have:=hall i h;rw[hg]at this;simp[mM,this,h]
    ·have:=hI.tail i h;rw[hg]at this;simp[mM,this,Nat.not_lt.2 h]
  have ha:a=Lf ops a0 vals m:=by
   have ht:a.tmps=(Lf ops a0 vals m).tmps:=by
    apply Array.ext_getElem?;intro t;by_cases hj:∃j,j<m∧au ops j=some t
    ·obtain⟨j,hjm,hjt⟩:=hj;obtain⟨oj,hoj,_,Dp,_⟩:=jw hc hjm;have hdj:oj.dst=some t:=by simpa [au,hoj]using hjt
     rcases Nat.lt_or_ge t a0.tmps.size with hlt | hge
     ·rw[hI.inner j t hjm (hall j hjm) hjt hlt,gY vals m j t hjm hjt (fun k hk1 hk2=>Dp t hdj k hk2 (by omega)) hlt]
     ·rw[Array.getElem?_eq_none (by rw[hI.oJ];exact hge),Array.getElem?_eq_none (by rw[dV];exact hge)]
    ·have hj':∀j,j<m→au ops j≠some t:=fun j hjm hjt=>hj ⟨j,hjm,hjt⟩;rw[hI.outer t (fun j hjm _=>hj' j hjm),gX vals m t (fun j hji=>hj' j hji)]
   have hd:a.defers=(Lf ops a0 vals m).defers:=by rw[fD,hI.defers]
   cases a;cases hL:Lf ops a0 vals m
   simp_all
  rw[hlit,ha];exact hfin vals w hI.ext fun i hi=>hI.facts i hi (hall i hi)
 |succ c ih =>
  intro listed vals a w hu hI;have hsz:=mG hc;have hgt:∀i,i<listed.size→listed.getD i true=listed.getD i false:=fun i hi=>by simp[Array.getD_eq_getD_getElem?,hi]
  obtain⟨i0,hi0,Ez,hall0⟩:=Ey (m:=m) (listed:=listed) (by omega);obtain⟨o0,ho0,hd0,_⟩:=jw hc hi0;have hr0:i0∈Region.ready .any ops listed:=zD (by omega) (by rw[hgt _ (by rw[hI.size];omega)];exact Ez) ho0 fun d hd=>hall0 d (hd0 d hd)
  show wpAny P .any ops Q ((ops.size-m+c)+1) listed a w
  unfold wpAny;refine⟨fun hnil=>absurd hr0 (by rw[hnil];simp),fun i hi=>?_⟩;obtain⟨hin,hiu,o,ho,hdl⟩:=uJ hi;have him:i<m:=by
   rcases Nat.lt_or_ge i m with h | h
   ·exact h
   ·obtain⟨o',ho',ht⟩:=Gy hc h hin;rw[ho]at ho';injection ho' with ho';subst ho';rcases ht with ⟨d,h1,h2⟩ | ht
    ·have:=hdl d h1;rw[hI.tail d h2]at this;cases this
    have:=gB hI.closed m _ (Nat.le_refl _) hdl i0 (ht i0 hi0);rw[Ez]at this;cases this
  obtain⟨o',ho',hdi,hdist,hlook,GH⟩:=jw hc him;rw[ho]at ho';injection ho' with ho';subst ho';have hiL:i<listed.size:=by rw[hI.size];exact hin
  have zG:listed.getD i false=false:=by rw[←hgt i hiL];exact hiu
  have zH:∀d,zC ops i d=true→listed.getD d false=true:=fun d hd=>by
   unfold zC at hd;refine gB hI.closed i _ (by omega) (fun d hd=>?_) d (by simpa using hd);exact hdl d (by simpa [lQ,ho]using hd)
  have QC:∀d,listed.getD d false=true→d<m:=fun d hd=>by
   rcases Nat.lt_or_ge d m with h | h
   ·exact h
   ·rw[hI.tail d h]at hd;cases hd
  refine yY GH (fD vals i) (agree hc hI him ho hdl) ho (hob i o him ho vals w hI.ext (fun d hd=>hI.facts d (by have:=hdi d hd;omega) (hdl d hd)) (fun d hd=>hI.facts d (QC d (zH d hd)) (zH d hd))) ?_;intro v w' hext hR;refine ih _ (fun j=>if j=i then rF o ((Lf ops a0 vals i).put o.dst v) else vals j) _ _ (by have:=Ew listed i him hiL zG;omega) ?_;have hdo:au ops i=o.dst:=by simp[au,ho]
  constructor
  ·exact hT.trans hI.ext hext
  ·simp[hI.size]
  ·intro j hj;rw[dK listed i j hiL,if_neg (by omega)];exact hI.tail j hj
  ·intro j hj hl d hd;rw[dK listed i d hiL];rw[dK listed i j hiL]at hl;by_cases hji:j=i
   ·subst hji;have:d∈bZ o:=by simpa [lQ,ho]using hd
    rw[hdl d this];simp
   ·rw[if_neg hji]at hl;rw[hI.closed j hj hl d hd];simp
  ·intro j hj hl;rw[dK listed i j hiL]at hl;by_cases hji:j=i
   ·subst hji;simp only[if_true];refine hloc j vals _ _ w' hj (fun d hd=>?_) hR;have hdj:d≠j:=fun e=>by
     have:=zH d hd;rw[e,zG]at this;cases this
    simp[hdj]
   ·rw[if_neg hji]at hl;simp only[hji,if_false];refine hloc j vals _ _ w' hj (fun d hd=>?_) (hst j vals _ w w' hj (hI.facts j hj hl) hext);have GI:listed.getD d false=true:=by
     unfold zC at hd;exact gB hI.closed j _ (by omega) (fun d hd=>hI.closed j hj hl d hd) d (by simpa using hd)
    have QD:d≠i:=fun e=>by
     rw[e,zG]at GI;cases GI
    simp[QD]
  ·cases hd:o.dst<;>simp[Act.put,hI.defers]
  ·cases hd:o.dst<;>simp[Act.put,hI.oJ]
  ·intro t ht;rw[gy,if_neg (by rw[←hdo];exact ht i him (by rw[dK listed i i hiL,if_pos rfl]))];refine hI.outer t fun j hj hl=>ht j hj ?_;rw[dK listed i j hiL]
   split
   ·rfl
   ·exact hl
  ·intro j t hj hl hdj htl;rw[gy];by_cases hji:j=i
   ·subst hji;rw[hdo]at hdj;rw[if_pos hdj,if_pos (by rw[hI.oJ];exact htl)];have h2:=gy (Lf ops a0 vals j) o.dst v t;rw[if_pos hdj,if_pos (by rw[dV];exact htl)]at h2;simp only[if_true,rF,hdj,Array.getD_eq_getD_getElem?];rw[hdj]at h2;rw[h2];rfl
   ·rw[dK listed i j hiL,if_neg hji]at hl;rw[if_neg (fun e=>hdist t e j hj hji hdj)];simp only[hji,if_false];exact hI.inner j t hj hl hdj htl
def uK (T:World→World→Prop) (P:Program) (ops:Array Oper) (a0:Act) (w0:World) (R:Nat→(Nat→Value)→Value→World→Prop):Nat→List Oper→Prop
 |_,[]=>True
 |k,o::rest=>M_ T P ops a0 w0 R k o∧uK T P ops a0 w0 R (k+1) rest
theorem qh:∀(l:List Oper) (k:Nat),uK T P ops a0 w0 R k l→∀j o,l[j]?=some o→M_ T P ops a0 w0 R (k+j) o
 |[],_,_,_,_,h=>by simp at h
 |x::l,k,⟨h1,h2⟩,j,o,hj=>by
  cases j with
  |zero =>
   simp at hj;subst hj;exact h1
  |succ j =>
   have:=qh l (k+1) h2 j o (by simpa using hj);rwa[show k+1+j=k+(j+1) by omega]at this
theorem iw {id:Nat} {a:Act} {w:World} (hT:Tr T) (m:Nat) (R:Nat→(Nat→Value)→Value→World→Prop) (hm:P.follows .mixedOrders=true) (hc:iG ops m=true) (hst:∀i vals v w w',i<m→R i vals v w→T w w'→R i vals v w') (hloc:∀i vals vals' v w,i<m→(∀d,zC ops i d=true→vals d=vals' d)→R i vals v w→R i vals' v w)
  (hob:uK T P ops a w.drew R 0 (ops.toList.take m))
  (hfin:∀(vals:Nat→Value) (w':World),T w.drew w'→(∀i,i<m→R i vals (vals i) w')→wpAny P .any ops Q (ops.size-m) (mM ops.size m) (Lf ops a vals m) w'):(Code.region id ops true).wp P Q a w:=by
 refine wp_region_any hm ?_;have hsz:=mG hc;have QE:Gn (Array.replicate ops.size false) m=m:=by
  unfold Gn;rw[List.filter_eq_self.2 (fun i hi=>by simp[Array.getD_eq_getD_getElem?,Array.getElem?_replicate];split<;>rfl)];simp
 have h:=lW (P:=P) (Q:=Q) (a0:=a) (w0:=w.drew) hT hc hst hloc (fun i o hi ho=>by
  have:=qh (P:=P) (ops:=ops) (a0:=a) (w0:=w.drew) (R:=R) _ 0 hob i o (by rw[List.getElem?_take,if_pos hi];simpa using ho);simpa using this) hfin m (Array.replicate ops.size false) (fun _=>undef) a w.drew QE ?_
 ·rw[show ops.size-m+m=ops.size by omega]at h;exact h
 ·have hf:∀i,(Array.replicate ops.size false).getD i false=false:=fun i=>by simp[Array.getD_eq_getD_getElem?,Array.getElem?_replicate];split<;>rfl
  constructor
  ·exact hT.refl _
  ·simp
  ·intro i _;exact hf i
  ·intro i _ h;rw[hf]at h;cases h
  ·intro i _ h;rw[hf]at h;cases h
  ·rfl
  ·rfl
  ·intro t _;rfl
  ·intro i t _ h;rw[hf]at h;cases h
end
end RB
end Go.Proofs.YtjidhhfabfnhnaaGreat
namespace Go.Proofs.YtjidhhfabfnhnaaGreat
open Go.RowKit
namespace RB
def okB (T:World→World→Prop) (ops:Array Oper) (i:Nat) (r:Rl):Prop:=match r with
 |.w r=>∀v w w',r v w→T w w'→r v w'
 |.v r=>(∀vals v w w',r vals v w→T w w'→r vals v w')∧∀vals vals' v w,(∀d,zC ops i d=true→vals d=vals' d)→r vals v w→r vals' v w
def rG (T:World→World→Prop) (ops:Array Oper):List (Nat×Rl)→Prop
 |[]=>True
 |p::r=>okB T ops p.1 p.2∧rG T ops r
theorem jU {T:World→World→Prop} {ops:Array Oper} {i:Nat} {r:Rl} : ∀ {L:List (Nat×Rl)},rG T ops L→jT L i=some r→okB T ops i r
 |[],_,h=>by cases h
 |p::l,⟨h1,h2⟩,h=>by
  unfold jT at h
  split at h
  ·rename_i e
   have e:p.1=i:=by simpa using e
   injection h with h;subst e h;exact h1
  ·exact jU h2 h
section
variable {T:World→World→Prop} {P:Program} {ops:Array Oper} {Q:Exit→Act→World→Prop} {a0:Act}
theorem lF {o:Oper} {a b:Act} {w w0:World} {Ri:Value→World→Prop} (ht:gQ o=true) (ha:a.defers=a0.defers) (hb:b.defers=a0.defers) (hsz:a.tmps.size=b.tmps.size) (hab:∀t∈o.looksAt ops,a.tmps[t]?=b.tmps[t]?)
  (h:wpList P ops (Qo T a0 Ri o w0) [o] b w):wpList P ops (Qo T a0 Ri o w0) [o] a w:=by
 have hs:∀cs b,o.op≠.select cs b:=fun cs b e=>by simp[gQ,e]at ht
 have he:execOp a.eval o=execOp b.eval o:=execOp_congr o hs (mJ hab);have hw:=jS hab;have key:∀v w',Qo T a0 Ri o w0 .normal (b.put o.dst v) w'→Qo T a0 Ri o w0 .normal (a.put o.dst v) w':=by
  rintro v w' ⟨h1,h2,h3⟩;refine⟨?_,h2,?_⟩
  ·cases hd:o.dst<;>simp[Act.put,ha]
  ·cases hd:o.dst with
   |none=>rw[hd]at h3;exact h3
   |some t =>
    rw[hd]at h3;have e1:=gy a (some t) v t;have e2:=gy b (some t) v t;simp only[Array.getD_eq_getD_getElem?,e2,if_true,←hsz]at h3;simp only[Array.getD_eq_getD_getElem?,e1,if_true];exact h3
 unfold wpList at h⊢;rw[hw];cases hwb:Region.wanted o (yielded ops b.tmps)
 ·simp only[hwb,Bool.false_eq_true,if_false]at h⊢;unfold wpList at h⊢;exact key _ _ h
 ·simp only[hwb,if_true]at h⊢;rcases h with h | h
  ·refine .inl ?_;unfold Oper.wp at h⊢;rw[he];generalize (execOp b.eval o).run P w=r at h;cases r with
   |ok n w' =>
    cases n<;>simp only[Oper.upon]at h ⊢
    case value v=>unfold wpList at h⊢;exact key _ _ h
    case skip=>unfold wpList at h⊢;exact key _ _ h
    case defer d =>
     unfold wpList at h;have:=h.1;cases hd:o.dst<;>simp[Act.put,hd,hb]at this
    case enter f args =>
     refine Calls.mono h fun e w'' hq=>?_;cases e with
     |returned v=>unfold wpList at hq⊢;exact key _ _ hq
     |panicked ch=>exact absurd hq (by simp[Qo])
     |outgrown=>exact absurd hq (fM _ _ _ _)
    case row row args =>
     exact Rows.mono h fun v w'' hq=>by unfold wpList at hq⊢;exact key _ _ hq
    all_goals first | exact h | exact h.elim
   |halt x w'=>cases x<;>simp only[Oper.upon]at h⊢<;> first | exact h.elim | exact absurd h (by simp[Qo])
  ·exact absurd h.2 (fM _ _ _ _)
def Na (T:World→World→Prop) (P:Program) (ops:Array Oper) (a0:Act) (w0:World) (TT:List (Option Value)) (L:List (Nat×Rl)) (k:Nat) (o:Oper):Prop:=match iU TT k with
 |some u=>∀(vals:Nat→Value) (w:World),T w0 w→(∀d∈bZ o,iU TT d=none→qW TT L d vals (vals d) w)→wpList P ops (Qo T a0 (fun v _=>v=u) o w) [o] (Lf ops a0 (uY TT vals) k) w
 |none=>match jT L k with
  |some r=>∀(vals:Nat→Value) (w:World),T w0 w→(∀d∈bZ o,iU TT d=none→qW TT L d vals (vals d) w)→wpList P ops (Qo T a0 (r.is vals) o w) [o] (Lf ops a0 (uY TT vals) k) w
  |none=>∀(vals:Nat→Value) (w:World),T w0 w→(∀d∈bZ o,iU TT d=none→qW TT L d vals (vals d) w)→wpList P ops (Qo T a0 (fun _ _=>True) o w) [o] (Lf ops a0 (uY TT vals) k) w
def zI (T:World→World→Prop) (P:Program) (ops:Array Oper) (a0:Act) (w0:World) (TT:List (Option Value)) (L:List (Nat×Rl)):Nat→List Oper→Prop
 |_,[]=>True
 |k,o::rest=>Na T P ops a0 w0 TT L k o∧zI T P ops a0 w0 TT L (k+1) rest
theorem nP {w0:World} {TT:List (Option Value)} {L:List (Nat×Rl)} : ∀(l:List Oper) (k:Nat),zI T P ops a0 w0 TT L k l→∀j o,l[j]?=some o→Na T P ops a0 w0 TT L (k+j) o
 |[],_,_,_,_,h=>by simp at h
 |x::l,k,⟨h1,h2⟩,j,o,hj=>by
  cases j with
  |zero =>
   simp at hj;subst hj;exact h1
  |succ j =>
   have:=nP l (k+1) h2 j o (by simpa using hj);rwa[show k+1+j=k+(j+1) by omega]at this
theorem nR:∀(l:List Oper) (k:Nat) {w0:World} {R:Nat→(Nat→Value)→Value→World→Prop},(∀j o,l[j]?=some o→M_ T P ops a0 w0 R (k+j) o)→uK T P ops a0 w0 R k l
 |[],_,_,_,_=>trivial
 |x::l,k,w0,R,h=>⟨h 0 x rfl,nR l (k+1) fun j o hj=>by have:=h (j+1) o (by simpa using hj);rwa[show k+(j+1)=k+1+j by omega]at this⟩
theorem u_ {w0:World} {TT:List (Option Value)} {L:List (Nat×Rl)} {m k:Nat} {o:Oper} (hc:iG ops m=true) (hk:k<m) (ho:ops[k]?=some o) (h:Na T P ops a0 w0 TT L k o):M_ T P ops a0 w0 (qW TT L) k o:=by
 intro vals w hx hd _;obtain⟨o',ho',h1,h2,h3,h4⟩:=jw hc hk;rw[ho]at ho';injection ho' with ho';subst ho';have hv:∀d∈bZ o,uY TT vals d=vals d:=fun d hm=>by
  have:=hd d hm;unfold qW at this;unfold uY;cases ht:iU TT d with
  |none=>rfl
  |some u=>rw[ht]at this;exact this.symm
 have hab:∀t∈o.looksAt ops,(Lf ops a0 vals k).tmps[t]?=(Lf ops a0 (uY TT vals) k).tmps[t]?:=by
  intro t ht;by_cases hj:∃j,j<m∧au ops j=some t
  ·obtain⟨j,hjm,hjt⟩:=hj;have hjd:=h3 t ht j hjm hjt;have hjk:=h1 j hjd;obtain⟨oj,hoj,_,Dp,_⟩:=jw hc hjm;have hdj:oj.dst=some t:=by simpa [au,hoj]using hjt
   rcases Nat.lt_or_ge t a0.tmps.size with hlt | hge
   ·rw[gY vals k j t hjk hjt (fun q hq1 hq2=>Dp t hdj q (by omega) (by omega)) hlt,gY (uY TT vals) k j t hjk hjt (fun q hq1 hq2=>Dp t hdj q (by omega) (by omega)) hlt,hv j hjd]
   ·rw[Array.getElem?_eq_none (by rw[dV];exact hge),Array.getElem?_eq_none (by rw[dV];exact hge)]
  ·have hj':∀j,j<m→au ops j≠some t:=fun j hjm hjt=>hj ⟨j,hjm,hjt⟩;rw[gX vals k t (fun j hjk=>hj' j (by omega)),gX (uY TT vals) k t (fun j hjk=>hj' j (by omega))]
 refine lF h4 (fD vals k) (fD (uY TT vals) k) (by rw[dV,dV]) hab ?_;have hR:(qW TT L k vals)=(match iU TT k with | some u=>fun v _=>v=u | none=>match jT L k with | some r=>r.is vals | none=>fun _ _=>True):=by
  funext v w
  unfold qW;cases iU TT k with
  |some u=>rfl
  |none=>cases jT L k<;>rfl
 rw[hR];have hd':∀d∈bZ o,iU TT d=none→qW TT L d vals (vals d) w:=fun d hm _=>hd d hm;unfold Na at h;cases ht:iU TT k with
 |some u=>rw[ht]at h;exact h vals w hx hd'
 |none =>
  rw[ht]at h;cases hr:jT L k with
  |some r=>rw[hr]at h;exact h vals w hx hd'
  |none=>rw[hr]at h;exact h vals w hx hd'
theorem aF {id:Nat} {a:Act} {w:World} (hT:Tr T) (m:Nat) (TT:List (Option Value)) (L:List (Nat×Rl)) (hst:rG T ops L) (hob:zI T P ops a w.drew TT L 0 (ops.toList.take m))
  (hfin:∀(vals:Nat→Value) (w':World),T w.drew w'→(∀i,i<m→qW TT L i vals (vals i) w')→wpAny P .any ops Q (ops.size-m) (mM ops.size m) (Lf ops a vals m) w')
  (hm:P.follows .mixedOrders=true:=by kernel_rfl) (hc:iG ops m=true:=by kernel_rfl):(Code.region id ops true).wp P Q a w:=by
 refine iw hT m (qW TT L) hm hc ?_ ?_ ?_ hfin
 ·intro i vals v w1 w2 _ hr hx;unfold qW at hr⊢;cases ht:iU TT i with
  |some u=>rw[ht]at hr;exact hr
  |none =>
   rw[ht]at hr;cases hl:jT L i with
   |none=>trivial
   |some r =>
    rw[hl]at hr;have:=jU hst hl;cases r with
    |w r=>exact this v w1 w2 hr hx
    |v r=>exact this.1 vals v w1 w2 hr hx
 ·intro i vals vals' v w1 _ hv hr;unfold qW at hr⊢;cases ht:iU TT i with
  |some u=>rw[ht]at hr;exact hr
  |none =>
   rw[ht]at hr;cases hl:jT L i with
   |none=>trivial
   |some r =>
    rw[hl]at hr;have:=jU hst hl;cases r with
    |w r=>exact hr
    |v r=>exact this.2 vals vals' v w1 hv hr
 ·refine nR _ 0 fun j o hj=>?_;have hjm:j<m:=by
   have:=(List.getElem?_eq_some_iff.1 hj).1;simp at this;omega
  have hjo:ops[j]?=some o:=by rw[List.getElem?_take,if_pos hjm]at hj;simpa using hj
  rw[Nat.zero_add];have:=nP _ 0 hob j o hj;rw[Nat.zero_add]at this;exact u_ hc hjm hjo this
end
end RB
end Go.Proofs.YtjidhhfabfnhnaaGreat
namespace Go.Proofs.YtjidhhfabfnhnaaGreat
open Go.RowKit
section
variable {P:Program} {ops:Array Oper} {Q:Exit→Act→World→Prop} {a0:Act} {w0:World} {R:Nat→(Nat→Value)→Value→World→Prop} {own:Nat→Value→Option Nat} {m:Nat}
def Obl2 (P:Program) (ops:Array Oper) (a0:Act) (w0:World) (R:Nat→(Nat→Value)→Value→World→Prop) (own:Nat→Value→Option Nat) (i:Nat) (o:Oper):Prop :=
 ∀(vals:Nat→Value) (w:World),Ext w0 w→(∀d∈bZ o,R d vals (vals d) w)→(∀d,zC ops i d=true→R d vals (vals d) w)→wpList P ops (Qo a0 (fun v w'=>R i vals v w'∧∀k,own i v=some k→w.heap.size≤k) o w) [o] (Lf ops a0 vals i) w
def Apart (m:Nat) (own:Nat→Value→Option Nat) (vals:Nat→Value):Prop:=∀i j,i<m→j<m→i≠j→∀k,own i (vals i)=some k→own j (vals j)≠some k
def ApartL (m:Nat) (own:Nat→Value→Option Nat) (listed:Array Bool) (vals:Nat→Value):Prop:=∀i j,i<m→j<m→i≠j→listed.getD i false=true→listed.getD j false=true→∀k,own i (vals i)=some k→own j (vals j)≠some k
def Obls2 (P:Program) (ops:Array Oper) (a0:Act) (w0:World) (R:Nat→(Nat→Value)→Value→World→Prop) (own:Nat→Value→Option Nat):Nat→List Oper→Prop
 |_,[]=>True
 |k,o::rest=>Obl2 P ops a0 w0 R own k o∧Obls2 P ops a0 w0 R own (k+1) rest
end
end Go.Proofs.YtjidhhfabfnhnaaGreat
namespace Go.Proofs.YtjidhhfabfnhnaaGreat
open Go.RowKit
def GK (ops:Array Oper) (m:Nat):Bool :=
 decide (m≤ops.size) &&
 (List.range m).all (fun i=>match ops[i]? with
  |none=>false
  |some o=>(bZ o).all (fun d=>decide (d<i)) &&
   (match o.dst with | none=>true | some d=>(List.range m).all (fun j=>j==i||au ops j != some d)) &&
   (o.looksAt ops).all (fun t=>(List.range m).all (fun j=>au ops j != some t||(bZ o).contains j))&&gQ o)
def VN (o:Oper):Bool:=match o.op with | .store ..=>true | _=>false
def Zw (o:Oper):Bool:=(match o.op with | .extract (.tmp _) _=>true | _=>false)&&o.guard.isNone
def regChk4 (ops:Array Oper) (m l:Nat):Bool :=
 GK ops m&&decide (l<m)&&decide (m<ops.size) &&
 (match ops[l]? with | none=>false | some o=>Zw o) &&
 (match ops[m]? with
  |none=>false
  |some o=>VN o&&(o.looksAt ops).all (fun t=>au ops l != some t)&&(o.dst.isNone||au ops m != au ops l)&&(List.range m).all (fun j=>j==l||(iF ops m (bZ o)).contains j)) &&
 (match ops[l]? with | none=>false | some o=>(o.looksAt ops).all (fun t=>au ops m != some t)) &&
 (List.range (ops.size-m)).all (fun k=>k==0||(match ops[m+k]? with
  |none=>false
  |some o=>(List.range m).all (fun j=>(iF ops m (bZ o)).contains j)))
def Qn (K:Act→World→Prop) (e:Exit) (a:Act) (w:World):Prop:=match e with | .normal=>K a w | _=>False
theorem Dq {K:Act→World→Prop} {a:Act} {w:World} (h:K a w):Qn K .normal a w:=h
theorem sW (K:Act→World→Prop):¬LetsOut (Qn K):=by
 rintro⟨_,_,h⟩;exact h
section
variable {P:Program} {ops:Array Oper} {Q:Exit→Act→World→Prop} {a0:Act} {w0:World} {R:Nat→(Nat→Value)→Value→World→Prop} {own:Nat→Value→Option Nat} {m l:Nat}
theorem sZ (hc:GK ops m=true) {i:Nat} (hi:i<m):∃o,ops[i]?=some o∧(∀d∈bZ o,d<i)∧(∀d,o.dst=some d→∀j,j<m→j≠i→au ops j≠some d) ∧
  (∀t∈o.looksAt ops,∀j,j<m→au ops j=some t→j∈bZ o)∧gQ o=true:=by
 unfold GK at hc;simp only[Bool.and_eq_true,List.all_eq_true,List.mem_range]at hc;have h:=hc.2 i hi;cases ho:ops[i]? with
 |none=>simp[ho]at h
 |some o =>
  simp only[ho,Bool.and_eq_true,List.all_eq_true,decide_eq_true_iff]at h;obtain⟨⟨⟨h1,h2⟩,h3⟩,h4⟩:=h;refine⟨o,rfl,h1,?_,?_,h4⟩
  ·intro d hd j hj hne;rw[hd]at h2;simp only[List.all_eq_true,List.mem_range]at h2;have:=h2 j hj;simp[hne]at this;exact this
  ·intro t ht j hj hd;have:=h3 t ht j (List.mem_range.2 hj);simp[hd]at this;exact this
theorem Zx (hc:GK ops m=true) {listed:Array Bool} {vals:Nat→Value} {a:Act} {w:World} (hI:Inv ops a0 w0 R m listed vals a w) {i:Nat} (hi:i<m) {o:Oper} (ho:ops[i]?=some o)
  (hd:∀d∈bZ o,listed.getD d false=true):∀t∈o.looksAt ops,a.tmps[t]?=(Lf ops a0 vals i).tmps[t]?:=by
 intro t ht;obtain⟨o',ho',h1,h2,h3,_⟩:=sZ hc hi;rw[ho]at ho';injection ho' with ho';subst ho';by_cases hj:∃j,j<m∧au ops j=some t
 ·obtain⟨j,hjm,hjt⟩:=hj;have hjd:=h3 t ht j hjm hjt;have hji:=h1 j hjd;obtain⟨oj,hoj,_,Dp,_⟩:=sZ hc hjm;have hdj:oj.dst=some t:=by simpa [au,hoj]using hjt
  rcases Nat.lt_or_ge t a0.tmps.size with hlt | hge
  ·rw[hI.inner j t hjm (hd j hjd) hjt hlt,gY vals i j t hji hjt (fun k hk1 hk2=>Dp t hdj k (by omega) (by omega)) hlt]
  ·rw[Array.getElem?_eq_none (by rw[hI.oJ];exact hge),Array.getElem?_eq_none (by rw[dV];exact hge)]
 ·have hj':∀j,j<m→au ops j≠some t:=fun j hjm hjt=>hj ⟨j,hjm,hjt⟩;rw[hI.outer t (fun j hjm _=>hj' j hjm),gX vals i t (fun j hji=>hj' j (by omega))]
end
end Go.Proofs.YtjidhhfabfnhnaaGreat
namespace Go.Proofs.YtjidhhfabfnhnaaGreat
def inB (n lo hi:Int):Bool:=decide (lo≤n∧n≤hi)
theorem jf {n lo hi:Int} : inB n lo hi=true↔lo≤n∧n≤hi:=by simp[inB]
def iL (a b:Int):Int:=if a<b then -1 else if b<a then 1 else 0
structure iM where
 period:Int
 phase:Int
 low:Int
 high:Int
 node:Int
 turn:Int
 dP:Int
structure Vg where
 x:Int
 y:Int
structure iO where
 fr:Int
 tt:Int
structure iD where
 id:Int
 cell:Vg
 reach:Int
 GL:Int
 skew:Int
structure St where
 id:Int
 owner:Int
 aY:iM
 wide:Int
 store:Int
 QF:Int
 Yp:Int
 idle:Int
 Yq:Int
 send:Int
 warm:Int
 cool:Int
 hot:Int
 slew:Int
 rate:Int
structure bP where
 sat:Int
 dh:Int
 sure:iO
 can:iO
instance:DecidableEq iO:=fun a b=>decidable_of_iff (a.fr=b.fr∧a.tt=b.tt) (by cases a;cases b;simp)
instance:DecidableEq bP:=fun a b=>decidable_of_iff (a.sat=b.sat∧a.dh=b.dh∧a.sure=b.sure∧a.can=b.can) (by cases a;cases b;simp)
def dw (o:iM):Bool:=inB o.period 20 2000&&(o.period % 2==0)&&inB o.phase 0 (o.period-1)&&inB o.low 0 23999&&inB o.high 0 23999&&decide (o.low<o.high)&&inB o.node 0 47999&&inB o.turn (-2000) 2000&&inB o.dP 0 10
def rowP (o:iM) (t:Int):Int:=o.low+(o.high-o.low)*2*min ((t+o.phase) % o.period) (o.period-(t+o.phase) % o.period) / o.period
def qX (o:iM) (t:Int):Int:=(o.node+o.turn*t) % 48000
def Nb (o:iM) (t late:Int):Option Vg:=if (inB t 0 1000000&&inB late (-10) 10&&dw o)=true then some ⟨qX o (t-late) / 1000,rowP o (t-late) / 1000⟩ else none
def jk (c:Vg):Bool:=inB c.x 0 47&&inB c.y 0 23
def vg (n:Int):Int:=max n (-n)
def jB (a b:Vg):Int:=if (jk a&&jk b)=true then max (vg (a.y-b.y)) (min (vg (a.x-b.x)) (48-vg (a.x-b.x))) else -1
def fZ (s:iD):Bool:=jk s.cell&&inB s.id 0 11&&inB s.reach 0 6&&inB s.GL 1 8&&inB s.skew 0 30
def dQ (s:St):Bool:=dw s.aY&&inB s.id 0 23&&inB s.owner 0 15&&inB s.wide 0 4&&inB s.store 1 1000000&&inB s.slew 0 60&&inB s.rate 1 1000&&inB s.QF 1 1000000&&inB s.Yp 0 10000&&inB s.idle 0 10000&&inB s.Yq 0 10000&&inB s.send 0 10000&&inB s.warm 0 10000&&inB s.cool 0 10000&&inB s.hot 1 1000000
def dH {α:Type} (ok:α→Bool) (id:α→Int):Option α→List α→Bool
 |_,[]=>true
 |p,x::r=>ok x&&(match p with | none=>true | some y=>decide (id y<id x))&&dH ok id (some x) r
def eH (l:List St):Bool:=decide (l.length≤24)&&dH dQ (·.id) none l
def gU (l:List iD):Bool:=decide (l.length≤12)&&dH fZ (·.id) none l
def gV (s:iO):Bool:=decide (0≤s.fr∧s.fr<s.tt∧s.tt≤1000001∧s.tt-s.fr≤4320)
def zJ (o:iM) (s:iD) (t late:Int):Option Bool:=match Nb o t late with
 |none=>none
 |some c=>if fZ s=true then some (decide (jB c s.cell≤s.reach)) else none
def bK (is:Int→Bool) (t:Int):Nat→List iO
 |0=>[]
 |n+1=>if is t then (match bK is (t+1) n with
   |[]=>[⟨t,t+1⟩]
   |s::r=>if s.fr=t+1 then ⟨t,s.tt⟩::r else ⟨t,t+1⟩::s::r)
  else bK is (t+1) n
def contactsP (o:iM) (s:iD) (span:iO) (late:Int):Option (List iO) :=
 if (dw o&&fZ s&&gV span&&inB late (-o.dP) o.dP)=true then some (bK (fun t=>zJ o s t late==some true) span.fr (span.tt-span.fr).toNat) else none
def iy (s:iO) (by_:Int) (span:iO):iO :=
 let a:=max (s.fr-by_) span.fr
 let b:=min (s.tt+by_) span.tt
 if b≤a then ⟨0,0⟩ else ⟨a,b⟩
def Nc (a b:iO):Bool:=decide (b.fr≤a.fr∧a.fr<a.tt∧a.tt≤b.tt)
def fQ (p:bP):Bool:=inB p.sat 0 23&&inB p.dh 0 11&&decide (0≤p.can.fr∧p.can.fr<p.can.tt∧p.can.tt≤1000001)&&(decide (p.sure=⟨0,0⟩)||Nc p.sure p.can)
def Nh (a b:Int):Int:=if a≠0 then a else b
def aU (a b:bP):Int:=Nh (iL a.can.fr b.can.fr) (Nh (iL a.sat b.sat) (Nh (iL a.dh b.dh) (Nh (iL a.sure.fr b.sure.fr) (iL a.can.tt b.can.tt))))
def sendP (s:St) (p:bP):Int:=if (dQ s&&fQ p&&decide (s.id=p.sat))=true then (p.sure.tt-p.sure.fr)*s.rate else 0
end Go.Proofs.YtjidhhfabfnhnaaGreat
namespace Go.Proofs.YtjidhhfabfnhnaaGreat
open Go.RowKit
theorem JG (is:Int→Bool) (n:Nat):∀(t:Int) (s:iO),s∈bK is t n→t≤s.fr:=by
 induction n with
 |zero=>intro t s h;cases h
 |succ n ih =>
  intro t s h;unfold bK at h
  split at h
  ·split at h
   ·rcases List.mem_cons.1 h with rfl | h
    ·exact Int.le_refl _
    ·cases h
   ·rename_i x r hx
    have hr:∀y∈r,t+1≤y.fr:=fun y hy=>ih (t+1) y (by rw[hx];exact List.mem_cons_of_mem _ hy);have hx1:=ih (t+1) x (by rw[hx];exact List.mem_cons_self ..)
    split at h
    ·rcases List.mem_cons.1 h with rfl | h
     ·exact Int.le_refl _
     ·have:=hr _ h;omega
    ·rcases List.mem_cons.1 h with rfl | h
     ·exact Int.le_refl _
     ·rcases List.mem_cons.1 h with rfl | h
      ·omega
      ·have:=hr _ h;omega
  ·have:=ih (t+1) s h;omega
theorem lG {is:Int→Bool} {t:Int} (n:Nat) (h:is t=false):bK is t (n+1)=bK is (t+1) n:=by
 rw[bK,h];rfl
theorem uM (is:Int→Bool) (k:Nat):∀(n:Nat) (t:Int),1≤k→k≤n→(∀i:Nat,i<k→is (t+i)=true)→(k=n∨is (t+k)=false) →
  bK is t n=⟨t,t+k⟩::bK is (t+k) (n-k):=by
 induction k with
 |zero=>intro n t h;omega
 |succ k ih =>
  intro n t _ hn hi hs;obtain⟨n,rfl⟩:∃m,n=m+1:=⟨n-1,by omega⟩;have h0:=hi 0 (by omega);rw[show t+((0:Nat):Int)=t by omega]at h0;rw[bK,h0,if_pos rfl];rcases Nat.eq_zero_or_pos k with rfl | hk
  ·have e1:t+((0+1:Nat):Int)=t+1:=by omega
   rw[e1]at hs⊢;rw[show n+1-(0+1)=n by omega];have hne:∀y∈bK is (t+1) n,y.fr≠t+1:=by
    intro y hy;rcases hs with hs | hs
    ·have:n=0:=by omega
     subst this;cases hy
    ·rcases n with _ | n
     ·cases hy
     ·rw[lG n hs]at hy;have:=JG is n _ _ hy;omega
   cases hL:bK is (t+1) n with
   |nil=>rfl
   |cons x r =>
    rw[hL]at hne;dsimp only;rw[if_neg (hne x (List.mem_cons_self ..))]
  ·have hrec:=ih n (t+1) hk (by omega) (fun i hik=>by have:=hi (i+1) (by omega);rw[show t+1+(i:Int)=t+((i+1:Nat):Int) by omega];exact this) (by
    rcases hs with hs | hs
    ·exact .inl (by omega)
    ·refine .inr ?_;rw[show t+1+(k:Int)=t+((k+1:Nat):Int) by omega];exact hs)
   rw[hrec,show t+1+(k:Int)=t+((k+1:Nat):Int) by omega,show n+1-(k+1)=n-k by omega];simp
abbrev uN:={ s:iO // -1000000≤s.fr∧s.fr≤10000000∧-1000000≤s.tt∧s.tt≤10000000 }
structure oL (ex:Nat→Prop) (B0:Nat) (W W':World):Prop where
 size:W.heap.size≤W'.heap.size
 blk:∀k cs t,W.heap[k]?=some (.cells cs t (0,0))→¬ex k→(k<B0∨cs.size=2)→W'.heap[k]?=W.heap[k]?
section
variable {ex:Nat→Prop} {B0:Nat} {A B C:World}
theorem oL.refl (W:World):oL ex B0 W W:=⟨Nat.le_refl _,fun _ _ _ _ _ _=>rfl⟩
theorem oL.trans (h:oL ex B0 A B) (k:oL ex B0 B C):oL ex B0 A C :=
 ⟨Nat.le_trans h.size k.size,fun i cs t hi hx hz=>by
  have h1:=h.blk i cs t hi hx hz;have h2:=k.blk i cs t (h1.trans hi) hx hz;exact h2.trans h1⟩
theorem oL.ext (h:Ext A B):oL ex B0 A B:=⟨h.size,fun k _ _ hk _ _=>h.block k (Array.getElem?_eq_some_iff.1 hk).1⟩
theorem oL.putObj (W:World) (l:Nat) (o o':Obj) (h:W.heap[l]?=some o) (ho:o.isCells=false):oL ex B0 W (W.putObj l o') :=
 ⟨by simp,fun k cs t hk _ _=>World.putObj_heap_other (fun e=>by subst e;rw[hk]at h;injection h with h;subst h;cases ho)⟩
theorem oL.kE {g:Nat} {t:TypeId} {cs:Array Value} (h:oL ex B0 A B) (hb:aG A g t cs) (hx:¬ex g) (hz:g<B0∨cs.size=2):aG B g t cs:=(h.blk g cs t hb hx hz).trans hb
end
theorem iZ {A B:World} (h:Ext A B):A.grownBy B none:=⟨h.os,h.tape,h.output,h.size,fun k hk _=>h.block k hk⟩
end Go.Proofs.YtjidhhfabfnhnaaGreat
namespace Go.Proofs.YtjidhhfabfnhnaaGreat
open Go.RowKit Go.Shelf
attribute [local go_sem] Oper.semAt_some
set_option maxRecDepth 100000 in
set_option maxHeartbeats 2000000 in
theorem JH (ex:Nat→Prop) (B0 g:Nat) (caps:Array Value) (is:Int→Bool) (fr tt:Int) (bf bt bi:Nat) (n:Nat) (w:World) (hex:∀k,ex k→k<B0) (hB0:B0≤w.heap.size)
  (eg:∀args w,(callFunc g args).run Tryz.prog w=.ok (.enter g args) w)
  (kf:aG w bf 3 #[.int .i64 fr]) (kt:aG w bt 3 #[.int .i64 tt]) (ki:aG w bi 147 #[.func (.func g) #[] caps]) (hf:¬ex bf∧bf<B0) (ht:¬ex bt∧bt<B0) (hi:¬ex bi∧bi<B0)
  (b1 : -1000000≤fr) (b2:fr≤tt) (b3:tt≤10000000)
  (hp:∀t W,fr≤t→t<tt→oL ex B0 w W→Calls Tryz.prog g (#[.int .i64 t]++caps) W fun e W'=>e=.returned (.bool (is t))∧Below W.heap.size W W') :
  SeqStopsK Fence.wide n Tryz.prog 141 #[.pointer (some ⟨bf,0,none⟩),.pointer (some ⟨bt,0,none⟩),.pointer (some ⟨bi,0,none⟩)] (fun s:uN=>#[.agg #[.int .i64 s.1.fr,.int .i64 s.1.tt]]) (oL ex B0)
   (fun xs=>xs.map (·.1)=bK is fr (tt-fr).toNat) (fun pre=>pre.map (·.1) <+: bK is fr (tt-fr).toNat) (bK is fr (tt-fr).toNat).length w:=by
 intro l J Jx W hW hJ hJx hY h0;refine callsIn_of_wp Tryz.func141 rfl trivial ?_ rfl;simp only[Tryz.ntmps141,List.size_toArray,List.length_cons,List.length_nil,Nat.reduceAdd,Nat.reduceSub,Array.replicate_succ,Array.replicate_zero,List.push_toArray,List.append_toArray,List.nil_append,List.cons_append];have HP:=Lib.hid hp;have HY:=Lib.hid hY;have HJ:=Lib.hid hJ;have HEX:=Lib.hid hex;have hKW:oL ex B0 w W:=oL.ext hW;have hWs:W.heap.size≤W.heap.size:=Nat.le_refl _;have hw0:w.heap.size≤W.heap.size:=hW.size;have c0:W.cell? ⟨bf,0,none⟩=some (.int .i64 fr):=(hKW.kE kf hf.1 (.inl hf.2)).cell 0;have Gp:Hid (([]:List uN).map (·.1)++bK is fr (tt-fr).toNat=bK is fr (tt-fr).toNat):=Lib.hid rfl;clear hp hY hJ hex hJx
 gi_wp2
 gi_loopw [5] (fun v wr=>∃(t:Int) (pre:List uN),v=.int .i64 t∧fr≤t∧t≤tt+1∧Hid (pre.map (·.1)++bK is t (tt-t).toNat=bK is fr (tt-fr).toNat)∧J pre wr∧oL ex B0 w wr∧W.heap.size≤wr.heap.size)
  (fun v _=>(tt+1-intOf v).toNat)
 case atStart=>exact⟨fr,[],rfl,by omega,by omega,Gp,h0,hKW,hWs⟩
 case round =>
  clear Gp h0 hKW c0;obtain⟨t,pre,rfl,ht1,ht2,HS,Zy,hK,hsz⟩:=hrel;have c1:wr.cell? ⟨bt,0,none⟩=some (.int .i64 tt):=(hK.kE kt ht.1 (.inl ht.2)).cell 0;have c2:wr.cell? ⟨bi,0,none⟩=some (.func (.func g) #[] caps):=(hK.kE ki hi.1 (.inl hi.2)).cell 0;by_cases hlt:t<tt
  ·have hcall:=HP.out t wr ht1 hlt hK;obtain⟨q,hq⟩:∃q,q=is t:=⟨_,rfl⟩;rw[←hq]at hcall;have HC:=Lib.hid hcall;have HQ:=Lib.hid hq;clear hcall hq
   gi_wp2_with fail
   refine⟨trivial,(fun h=>by cases h),(callsIn_wide.2 HC.out).mono ?_⟩;rintro e W2 ⟨rfl,hb2⟩;have hK2:oL ex B0 w W2:=hK.trans (oL.ext hb2);have hJ2:J pre W2:=HJ.out _ _ _ none Zy (iZ hb2) (fun r e=>by cases e);have hsz2:W.heap.size≤W2.heap.size:=Nat.le_trans hsz hb2.size;clear HC Zy hK hsz c1 c2 hb2;have c1:W2.cell? ⟨bt,0,none⟩=some (.int .i64 tt):=(hK2.kE kt ht.1 (.inl ht.2)).cell 0;have c2:W2.cell? ⟨bi,0,none⟩=some (.func (.func g) #[] caps):=(hK2.kE ki hi.1 (.inl hi.2)).cell 0;cases q
   ·gi_wp2
    go_roundw
    case rel=>exact⟨t+1,pre,rfl,by omega,by omega,Lib.hid (by rw[←HS.out,show (tt-t).toNat=(tt-(t+1)).toNat+1 by omega,lG _ HQ.out.symm]),hJ2,hK2,hsz2⟩
    case measure=>simp[intOf];omega
   ·gi_wp2_with fail
    have K3:=aG.new W2 32 #[.int .i64 t,.int .i64 t];have hx3:Ext W2 (W2.alloc (.cells #[.int .i64 t,.int .i64 t] 32)):=aj (Below.refl _ _) _;obtain⟨gb,hgb⟩:∃gb,gb=W2.heap.size:=⟨_,rfl⟩;rw[←hgb]at K3⊢;generalize W2.alloc (.cells #[.int .i64 t,.int .i64 t] 32)=W3 at K3 hx3⊢;have Nj:=Lib.hid hx3;have HG:=Lib.hid hgb;have HT:=Lib.hid HQ.out;clear hx3 hgb c1 c2
    gi_loopw [20] (fun _ wi=>∃k:Nat,t+k≤tt∧Hid (∀i:Nat,i<k→is (t+i)=true)∧aG wi gb 32 #[.int .i64 t,.int .i64 (t+k)]∧Ext W2 wi) (fun _ wi=>match wi.cell? ⟨gb,1,none⟩with | some u=>(tt-intOf u).toNat | none=>0)
    case atStart=>exact⟨0,by omega,Lib.hid (fun i hi=>absurd hi (by omega)),by simpa using K3,Nj.out⟩
    case round =>
     clear K3 Nj;obtain⟨k,hk,HI,Ki,hxi⟩:=hrel;have Vh:oL ex B0 w wr:=hK2.trans (oL.ext hxi);have hgB:¬ex gb:=fun h=>by have:=HEX.out _ h;have:=HG.out;omega
     have c1:wr.cell? ⟨bt,0,none⟩=some (.int .i64 tt):=(Vh.kE kt ht.1 (.inl ht.2)).cell 0;have c2:wr.cell? ⟨bi,0,none⟩=some (.func (.func g) #[] caps):=(Vh.kE ki hi.1 (.inl hi.2)).cell 0;have c3:wr.cell? ⟨gb,0,none⟩=some (.int .i64 t):=Ki.cell 0;have c4:wr.cell? ⟨gb,1,none⟩=some (.int .i64 (t+k)):=Ki.cell 1;have c5:wr.frozen? ⟨gb,1,none⟩=false:=Ki.frozen 1;by_cases hlk:t+k<tt
     ·have hcall:=HP.out (t+k) wr (by omega) hlk Vh;obtain⟨q,hq⟩:∃q,q=is (t+k):=⟨_,rfl⟩;rw[←hq]at hcall;have HC:=Lib.hid hcall;have rE:=Lib.hid hq;clear hcall hq
      gi_wp2_with fail
      refine⟨trivial,(fun h=>by cases h),(callsIn_wide.2 HC.out).mono ?_⟩;rintro e W4 ⟨rfl,hb4⟩;have hx4:Ext W2 W4:=hxi.trans hb4;have hK4:oL ex B0 w W4:=hK2.trans (oL.ext hx4);have K4:=Ki.ext hb4;clear HC c1 c2 c3 c4 c5 hb4 Vh;cases q
      ·have HE:Hid (k=(tt-t).toNat∨is (t+k)=false):=Lib.hid (.inr rE.out.symm);have hk1:1≤k:=by
        rcases Nat.eq_zero_or_pos k with h0 | h0
        ·rcases HE.out with h | h
         ·omega
         ·rw[h0,show t+((0:Nat):Int)=t by omega,←HT.out]at h;cases h
        ·exact h0
       have hrun:=uM is k (tt-t).toNat t hk1 (by omega) HI.out HE.out;have Zz:J pre W4:=HJ.out _ _ _ none hJ2 (iZ hx4) (fun r e=>by cases e);have hlen:pre.length<(bK is fr (tt-fr).toNat).length:=by rw[←HS.out,hrun];simp
       have hbd : -1000000≤t∧t≤10000000∧-1000000≤t+k∧t+k≤10000000:=by omega
       have hnew:((pre++[(⟨⟨t,t+k⟩,hbd⟩:uN)]).map (·.1))++bK is (t+k+1) (tt-(t+k+1)).toNat=bK is fr (tt-fr).toNat:=by
        rw[←HS.out,hrun,List.map_append,List.append_assoc,List.map_singleton,List.singleton_append];congr 2;rcases HE.out with h | h
        ·rw[show (tt-(t+k+1)).toNat=0 by omega,show (tt-t).toNat-k=0 by omega];rfl
        ·by_cases he:k=(tt-t).toNat
         ·rw[show (tt-(t+k+1)).toNat=0 by omega,show (tt-t).toNat-k=0 by omega];rfl
         ·rw[show (tt-t).toNat-k=(tt-(t+k+1)).toNat+1 by omega,lG _ h]
       have hpre:(pre++[(⟨⟨t,t+k⟩,hbd⟩:uN)]).map (·.1) <+: bK is fr (tt-fr).toNat:=⟨_,hnew⟩;have HN:=Lib.hid hnew;have zK:=Lib.hid hpre;have c3:W4.cell? ⟨gb,0,none⟩=some (.int .i64 t):=K4.cell 0;have c4:W4.cell? ⟨gb,1,none⟩=some (.int .i64 (t+k)):=K4.cell 1;obtain⟨fn,tmps,assign,body,hy,hR⟩:=HY.out pre ⟨⟨t,t+k⟩,hbd⟩ W4 Zz hlen;dsimp only at hy;clear hrun hnew hpre
       gi_wp2_with fail
       refine⟨(fun h=>by cases h),hR.mono ?_⟩;rintro e W5 (⟨rfl,hJ5,hk5⟩ | ⟨rfl,ZA⟩)
       ·have K5:=hk5.kE K4 hgB (.inr rfl);have c4:W5.cell? ⟨gb,1,none⟩=some (.int .i64 (t+k)):=K5.cell 1;have hK5:oL ex B0 w W5:=(hK2.trans (oL.ext hx4)).trans hk5;have hz5:W.heap.size≤W5.heap.size:=Nat.le_trans hsz2 (Nat.le_trans (Below.size hx4) hk5.size);clear hy hR c3 hk5
        gi_wp2
        go_roundw
        case rel=>exact⟨t+k+1,_,rfl,by omega,by omega,HN,hJ5,hK5,hz5⟩
        case measure=>simp[intOf];omega
       ·gi_wp2
        refine bodyPost_ret (results_none rfl _ _ _) rfl ?_;exact⟨⟨_,rfl⟩,.inr ⟨_,zK.out,ZA⟩⟩
      ·have c4:W4.cell? ⟨gb,1,none⟩=some (.int .i64 (t+k)):=K4.cell 1;have c5:W4.frozen? ⟨gb,1,none⟩=false:=K4.frozen 1;have hm1:(match wr.cell? ⟨gb,1,none⟩with | some u=>(tt-intOf u).toNat | none=>0)=(tt-(t+k)).toNat:=by rw[show wr.cell? ⟨gb,1,none⟩=some (.int .i64 (t+k)) from Ki.cell 1];rfl
       have K5:aG (W4.setCell ⟨gb,1,none⟩ (.int .i64 (t+k+1))) gb 32 #[.int .i64 t,.int .i64 (t+k+1)]:=K4.cZ 1 _;have hm2:(match (W4.setCell ⟨gb,1,none⟩ (.int .i64 (t+k+1))).cell? ⟨gb,1,none⟩with | some u=>(tt-intOf u).toNat | none=>0)=(tt-(t+k+1)).toNat:=by rw[show (W4.setCell ⟨gb,1,none⟩ (.int .i64 (t+k+1))).cell? ⟨gb,1,none⟩=some (.int .i64 (t+k+1)) from K5.cell 1];rfl
       have hx5:Ext W2 (W4.setCell ⟨gb,1,none⟩ (.int .i64 (t+k+1))):=hx4.setCell (p:=⟨gb,1,none⟩) (by have:=HG.out;exact Nat.le_of_eq this.symm) _;have Oh:=Lib.hid hm1;have Ce:=Lib.hid hm2;have yZ:=Lib.hid hx5;have Qm:=Lib.hid K5;clear hm1 hm2 hx5 K5
       gi_wp2
       go_roundw
       case rel=>exact⟨k+1,by omega,Lib.hid (fun i hi=>by rcases Nat.lt_or_ge i k with h | h;exact HI.out i h;rw[show i=k by omega];exact rE.out.symm),by rw[show t+((k+1:Nat):Int)=t+k+1 by omega];exact Qm.out,yZ.out⟩
       case measure=>rw[Oh.out,Ce.out];omega
     ·have HE:Hid (k=(tt-t).toNat∨is (t+k)=false):=Lib.hid (.inl (by omega));have hd:decide (t+k<tt)=false:=by simpa using hlk
      clear c3 c4 c5;have hk1:1≤k:=by
       rcases Nat.eq_zero_or_pos k with h0 | h0
       ·rcases HE.out with h | h
        ·omega
        ·rw[h0,show t+((0:Nat):Int)=t by omega,←HT.out]at h;cases h
       ·exact h0
      have hrun:=uM is k (tt-t).toNat t hk1 (by omega) HI.out HE.out;have Zz:J pre wr:=HJ.out _ _ _ none hJ2 (iZ hxi) (fun r e=>by cases e);have hlen:pre.length<(bK is fr (tt-fr).toNat).length:=by rw[←HS.out,hrun];simp
      have hbd : -1000000≤t∧t≤10000000∧-1000000≤t+k∧t+k≤10000000:=by omega
      have hnew:((pre++[(⟨⟨t,t+k⟩,hbd⟩:uN)]).map (·.1))++bK is (t+k+1) (tt-(t+k+1)).toNat=bK is fr (tt-fr).toNat:=by
       rw[←HS.out,hrun,List.map_append,List.append_assoc,List.map_singleton,List.singleton_append];congr 2;rcases HE.out with h | h
       ·rw[show (tt-(t+k+1)).toNat=0 by omega,show (tt-t).toNat-k=0 by omega];rfl
       ·by_cases he:k=(tt-t).toNat
        ·rw[show (tt-(t+k+1)).toNat=0 by omega,show (tt-t).toNat-k=0 by omega];rfl
        ·rw[show (tt-t).toNat-k=(tt-(t+k+1)).toNat+1 by omega,lG _ h]
      have hpre:(pre++[(⟨⟨t,t+k⟩,hbd⟩:uN)]).map (·.1) <+: bK is fr (tt-fr).toNat:=⟨_,hnew⟩;have HN:=Lib.hid hnew;have zK:=Lib.hid hpre;have c3:wr.cell? ⟨gb,0,none⟩=some (.int .i64 t):=Ki.cell 0;have c4:wr.cell? ⟨gb,1,none⟩=some (.int .i64 (t+k)):=Ki.cell 1;obtain⟨fn,tmps,assign,body,hy,hR⟩:=HY.out pre ⟨⟨t,t+k⟩,hbd⟩ wr Zz hlen;dsimp only at hy;clear hrun hnew hpre
      gi_wp2_with fail
      refine⟨fun _ h=>(by cases h),?_⟩
      gi_wp2_with fail
      refine⟨(fun h=>by cases h),hR.mono ?_⟩;rintro e W5 (⟨rfl,hJ5,hk5⟩ | ⟨rfl,ZA⟩)
      ·have K5:=hk5.kE Ki hgB (.inr rfl);have c4:W5.cell? ⟨gb,1,none⟩=some (.int .i64 (t+k)):=K5.cell 1;have hK5:oL ex B0 w W5:=(hK2.trans (oL.ext hxi)).trans hk5;have hz5:W.heap.size≤W5.heap.size:=Nat.le_trans hsz2 (Nat.le_trans (Below.size hxi) hk5.size);clear hy hR c3 hk5
       gi_wp2
       go_roundw
       case rel=>exact⟨t+k+1,_,rfl,by omega,by omega,HN,hJ5,hK5,hz5⟩
       case measure=>simp[intOf];omega
      ·gi_wp2
       refine bodyPost_ret (results_none rfl _ _ _) rfl ?_;exact⟨⟨_,rfl⟩,.inr ⟨_,zK.out,ZA⟩⟩
  ·gi_wp2
   go_end0;exact⟨⟨_,rfl⟩,.inl ⟨pre,by rw[←HS.out,show (tt-t).toNat=0 by omega];simp[bK],Zy⟩⟩
end Go.Proofs.YtjidhhfabfnhnaaGreat
