/- Two sorted parts of a row merged in place (printed by sort_merge.py). -/
import Derived.Test.YtjidhhfabfnhnaaGreatT12
import Derived.Test.YtjidhhfabfnhnaaGreatT01
namespace Go.Proofs.YtjidhhfabfnhnaaGreat
open Go.RowKit
set_option maxHeartbeats 4000000 in
theorem qB (K:Nat) (caps:Array Value) (base g n c a m b:Nat) (P X Y S:List bP) (w:World) (ha:a=P.length) (hm:m=a+X.length) (hb:b=m+Y.length) (hx0:0<X.length) (hy0:0<Y.length) (hn:n≤1000000) (hr:aW ak 6 base 75 g n c w (P++X++Y++S)) :
  Calls Tryz.prog 164 #[.slice (some ⟨g,0,none⟩) n c,.int .i64 (a:Int),.int .i64 (m:Int),.int .i64 (b:Int),.func (.func K) #[] caps] w
   fun e w'=>e=.returned (.tuple #[])∧aW ak 6 base 75 g n c w' (P++Y++X++S)∧w.grownBy w' (some g):=by
 have hln:=hr.1;have hbn:b≤n:=by simp at hln;omega
 obtain⟨T,hT⟩:∃T,T=P++Y++X++S:=⟨_,rfl⟩;rw[←hT];have Gp:Hid (P.length+(m-a)=m∧X.length=m-a∧Y.length=b-m∧P++Y++X++S=T∧P.length+(m-a)+(b-m)+S.length=n):=Lib.hid ⟨by omega,by omega,by omega,hT.symm,by simp at hln;omega⟩;have HR0:=Lib.hid hr;have vM:=Lib.hid (iQ w (some g));have hm2:a<m:=by omega
 have hb2:m<b:=by omega
 clear hr hln hT ha hm hb hx0 hy0;have hwa:IntKind.i64.wrap ((m:Int)-(a:Int))=(m:Int)-(a:Int):=IntWalk.i64_in _ (by omega);have hwb:IntKind.i64.wrap ((b:Int)-(m:Int))=(b:Int)-(m:Int):=IntWalk.i64_in _ (by omega);go_enter Tryz.func164,Tryz.ntmps164;go_wp2;go_loopw [10,11] (fun x y wr=>∃(i j:Nat) (P' X' Y' S':List bP),0<i∧0<j∧x=.int .i64 i∧y=.int .i64 j∧Hid (P'.length+i=m∧X'.length=i∧Y'.length=j∧P'++Y'++X'++S'=T∧P'.length+i+j+S'.length=n)∧Hid (aW ak 6 base 75 g n c wr (P'++X'++Y'++S'))∧Hid (w.grownBy wr (some g))) (fun x y _=>(intOf x).toNat+(intOf y).toNat)
 case atStart=>exact⟨m-a,b-m,P,X,Y,S,by omega,by omega,by rw[show ((m-a:Nat):Int)=(m:Int)-(a:Int) by omega],by rw[show ((b-m:Nat):Int)=(b:Int)-(m:Int) by omega],Gp,HR0,vM⟩
 case round =>
  clear HR0 vM Gp hwa hwb;obtain⟨i,j,P',X',Y',S',hi0,hj0,rfl,rfl,HS,HR,HG⟩:=hrel;obtain⟨wi,hwi⟩:∃wi:World,wi=wr:=⟨_,rfl⟩;rw[←hwi]at HR HG⊢;clear hwi;have him:i≤m:=by have:=(HS.out).1;omega
  have hjn:m+j≤n:=by have h:=HS.out;omega
  have hw1:IntKind.i64.wrap ((m:Int)-(i:Int))=(m:Int)-(i:Int):=IntWalk.i64_in _ (by omega);have hw2:IntKind.i64.wrap ((m:Int)+(j:Int))=(m:Int)+(j:Int):=IntWalk.i64_in _ (by omega);have hw3:IntKind.i64.wrap ((m:Int)+(j:Int)-(i:Int))=(m:Int)+(j:Int)-(i:Int):=IntWalk.i64_in _ (by omega);have hw4:IntKind.i64.wrap ((i:Int)-(j:Int))=(i:Int)-(j:Int):=IntWalk.i64_in _ (by omega);have hw5:IntKind.i64.wrap ((j:Int)-(i:Int))=(j:Int)-(i:Int):=IntWalk.i64_in _ (by omega);by_cases hgt:j<i
  ·skip;have hlt2:decide ((j:Int)<(i:Int))=true:=by simp;omega
   have hne:((i:Int) != (j:Int))=true:=by simp;omega
   obtain⟨X1,X2,hX,hX1⟩:=mY X' j (by have:=(HS.out).2.1;omega);have hrow:aW ak 6 base 75 g n c wi (P'++X1++X2++Y'++S'):=by have h:=HR.out;rw[hX]at h;simpa using h
   have hsw:=swap_any K caps base g n c (m-i) m j P' X1 X2 Y' S' wi (by have:=(HS.out).1;omega) (by have h1:=HS.out;rw[hX]at h1;simp at h1;omega) hX1.symm (HS.out).2.2.1.symm hn hrow;rw[show ((m-i:Nat):Int)=(m:Int)-(i:Int) by omega]at hsw;have hS2:(P'++Y').length+(i-j)=m∧X2.length=i-j∧X1.length=j∧(P'++Y')++X1++X2++S'=T∧(P'++Y').length+(i-j)+j+S'.length=n:=by
    obtain⟨h1,h2,h3,h4,h5⟩:=HS.out;rw[hX]at h2 h4;simp at h2 h4⊢;exact⟨by omega,by omega,hX1,h4,by omega⟩
   have Aj:=Lib.hid hsw;have HS2:=Lib.hid hS2;clear hsw hrow hS2 HR HS hX hX1;go_wp2_with fail;refine Aj.out.mono ?_;rintro e w2 ⟨rfl,h1,h2⟩;have Sv:Hid (aW ak 6 base 75 g n c w2 ((P'++Y')++X2++X1++S')):=Lib.hid (by simpa using h1);have Jz:=Lib.hid (bD HG.out h2);clear h1 h2 Aj HG;go_wp2;go_roundw
   case rel=>exact⟨i-j,j,P'++Y',X2,X1,S',by omega,by omega,by rw[show ((i-j:Nat):Int)=(i:Int)-(j:Int) by omega],rfl,HS2,Sv,Jz⟩
   case measure=>simp[intOf];omega
  by_cases hlt:i<j
  ·skip;have hlt2:decide ((j:Int)<(i:Int))=false:=by simp;omega
   have hne:((i:Int) != (j:Int))=true:=by simp;omega
   obtain⟨Y1,Y2,hY,Jw⟩:=mY Y' (j-i) (by have:=(HS.out).2.2.1;omega);have hY2:i=Y2.length:=by have h1:=(HS.out).2.2.1;rw[hY]at h1;simp at h1;omega
   have hrow:aW ak 6 base 75 g n c wi (P'++X'++Y1++Y2++S'):=by have h:=HR.out;rw[hY]at h;simpa using h
   have hsw:=swap_any K caps base g n c (m-i) (m+j-i) i P' X' Y1 Y2 S' wi (by have:=(HS.out).1;omega) (by have h1:=HS.out;omega) (HS.out).2.1.symm hY2 hn hrow;rw[show ((m-i:Nat):Int)=(m:Int)-(i:Int) by omega,show ((m+j-i:Nat):Int)=(m:Int)+(j:Int)-(i:Int) by omega]at hsw;have hS2:P'.length+i=m∧Y2.length=i∧Y1.length=j-i∧P'++Y1++Y2++(X'++S')=T∧P'.length+i+(j-i)+(X'++S').length=n:=by
    obtain⟨h1,h2,h3,h4,h5⟩:=HS.out;rw[hY]at h4;simp at h4⊢;exact⟨h1,hY2.symm,Jw,h4,by omega⟩
   have Aj:=Lib.hid hsw;have HS2:=Lib.hid hS2;clear hsw hrow hS2 HR HS hY Jw hY2;go_wp2_with fail;refine Aj.out.mono ?_;rintro e w2 ⟨rfl,h1,h2⟩;have Sv:Hid (aW ak 6 base 75 g n c w2 (P'++Y2++Y1++(X'++S'))):=Lib.hid (by simpa using h1);have Jz:=Lib.hid (bD HG.out h2);clear h1 h2 Aj HG;go_wp2;go_roundw
   case rel=>exact⟨i,j-i,P',Y2,Y1,X'++S',by omega,by omega,rfl,by rw[show ((j-i:Nat):Int)=(j:Int)-(i:Int) by omega],HS2,Sv,Jz⟩
   case measure=>simp[intOf];omega
  ·obtain rfl:i=j:=by omega
   have hne:((i:Int) != (i:Int))=false:=by simp
   have hrow:aW ak 6 base 75 g n c wi (P'++X'++[]++Y'++S'):=by simpa using HR.out
   have hsw:=swap_any K caps base g n c (m-i) m i P' X' [] Y' S' wi (by have:=(HS.out).1;omega) (by have h:=HS.out;simp;omega) (HS.out).2.1.symm (HS.out).2.2.1.symm hn hrow;rw[show ((m-i:Nat):Int)=(m:Int)-(i:Int) by omega]at hsw;have Aj:=Lib.hid hsw;clear hsw hrow HR;go_wp2_with fail;refine Aj.out.mono ?_;rintro e w2 ⟨rfl,h1,h2⟩;have Sv:Hid (aW ak 6 base 75 g n c w2 (T)):=Lib.hid (by rw[←(HS.out).2.2.2.1];simpa using h1);have Jz:=Lib.hid (bD HG.out h2);clear h1 h2;go_wp2;go_end0;exact⟨rfl,Sv.out,Jz.out⟩
end Go.Proofs.YtjidhhfabfnhnaaGreat
namespace Go.Proofs.YtjidhhfabfnhnaaGreat
open Go.RowKit
def kT (ops:Array Oper) (t:Nat):Nat→Bool
 |0=>true
 |i+1=>!(au ops i==some t)&&kT ops t i
theorem lK {ops:Array Oper} {t:Nat} : ∀ {i:Nat},kT ops t i=true→∀j,j<i→au ops j≠some t
 |0,_,j,hj=>by omega
 |i+1,h,j,hj=>by
  simp only[kT,Bool.and_eq_true,Bool.not_eq_true']at h;by_cases e:j=i
  ·subst e;intro e2;rw[e2]at h;simp at h
  ·exact lK h.2 j (by omega)
def pF (ops:Array Oper) (t j:Nat):Nat→Bool
 |0=>true
 |i+1=>(decide (i≤j)||!(au ops i==some t))&&pF ops t j i
theorem mZ {ops:Array Oper} {t j:Nat} : ∀ {i:Nat},pF ops t j i=true→∀k,j<k→k<i→au ops k≠some t
 |0,_,k,_,hk=>by omega
 |i+1,h,k,h1,h2=>by
  simp only[pF,Bool.and_eq_true,Bool.or_eq_true,Bool.not_eq_true',decide_eq_true_eq]at h;by_cases e:k=i
  ·subst e;intro e2;rw[e2]at h;rcases h.1 with h | h
   ·omega
   ·simp at h
  ·exact mZ h.2 k h1 (by omega)
section
variable {P:Program} {ops:Array Oper} {a0:Act} {vals:Nat→Value}
theorem KW {i t:Nat} {v:Value} (h:kT ops t i=true) (hv:a0.tmps[t]?=some v):(Lf ops a0 vals i).tmps[t]?=some v:=(gX vals i t (lK h)).trans hv
theorem SE {i t:Nat} {v:Value} (j:Nat) (hj:decide (j<i)=true) (hd:au ops j=some t) (hdist:pF ops t j i=true) (ht:decide (t<a0.tmps.size)=true) (hv:vals j=v):(Lf ops a0 vals i).tmps[t]?=some v:=by
 subst hv;exact gY vals i j t (of_decide_eq_true hj) hd (mZ hdist) (of_decide_eq_true ht)
def look (L:List (Nat×Value)) (t:Nat):Option Value:=match L with
 |[]=>none
 |p::r=>if p.1==t then some p.2 else look r t
def jZ (A:Act):List (Nat×Value)→Prop
 |[]=>True
 |p::r=>A.tmps[p.1]?=some p.2∧jZ A r
theorem lY {A:Act} : ∀ {L:List (Nat×Value)} {t:Nat} {v:Value},jZ A L→look L t=some v→A.tmps[t]?=some v
 |[],_,_,_,h=>by cases h
 |p::r,t,v,⟨h1,h2⟩,h=>by
  unfold look at h
  split at h
  ·rename_i e
   have e:p.1=t:=by simpa using e
   subst e;rw[h1,h]
  ·exact lY h2 h
abbrev gI:Act:=⟨#[undef],[]⟩
def rho (L:List (Nat×Value)) (x:Operand):Value:=match x with
 |.tmp t=>(look L t).getD undef
 |x=>gI.eval x
def covers (L:List (Nat×Value)) (o:Oper):Bool:=o.op.operands.all fun x=>match x with | .tmp t=>(look L t).isSome | _=>true
def Ak (v:Option Value) (b:Bool):Bool:=match v with | some (.bool c)=>c==b | _=>false
def pG (L:List (Nat×Value)) (ops:Array Oper) (o:Oper):Option Bool:=match o.guard with
 |none=>some true
 |some (g,b)=>match au ops g with
  |some t=>(match look L t with | some v=>some (Ak (some v) b) | none=>none)
  |none=>none
theorem vS {A:Act} {L:List (Nat×Value)} {o:Oper} {b:Bool} (hL:jZ A L) (h:pG L ops o=some b):Region.wanted o (yielded ops A.tmps)=b:=by
 unfold pG at h;unfold Region.wanted;cases hg:o.guard with
 |none=>rw[hg]at h;simpa using h
 |some gb =>
  obtain⟨g,c⟩:=gb;rw[hg]at h;simp only at h⊢;unfold au at h;cases ht:(ops[g]?).bind (·.dst)with
  |none=>rw[ht]at h;simp at h
  |some t =>
   rw[ht]at h;simp only at h;cases hl:look L t with
   |none=>rw[hl]at h;simp at h
   |some v =>
    rw[hl]at h;simp only[Option.some.injEq]at h;rw[←h];unfold yielded;rw[ht,Option.bind_some,lY hL hl];cases v<;>simp[Ak]
theorem qC {A:Act} {t:Tmp} {v:Value} (h:t<A.tmps.size):(A.put (some t) v).tmps.getD t undef=v:=by simp[Act.put,h]
theorem tiny {i:Nat} {o:Oper} {R:Value→World→Prop} {w w0:World} (L:List (Nat×Value)) (o':Oper) (t:Nat) (ht:gQ o=true) (hL:jZ (Lf ops a0 vals i) L) (hc:covers L o=true) (hw:pG L ops o=some true) (he:execOp (rho L) o=execOp gI.eval o')
  (hd:o.dst=some t) (htl:decide (t<a0.tmps.size)=true) (hd':o'.dst=some 0) (hg':o'.guard=none) (h:wpList P #[] (Qo gI R o' w0) [o'] gI w):wpList P ops (Qo a0 R o w0) [o] (Lf ops a0 vals i) w:=by
 have htl:=of_decide_eq_true htl;rw[←dV (ops:=ops) (vals:=vals) i]at htl;have hdf:=fD (ops:=ops) (a0:=a0) vals i;generalize Lf ops a0 vals i=A at hL htl hdf⊢;have hs:∀cs b,o.op≠.select cs b:=fun cs b e=>by simp[gQ,e]at ht
 have he1:execOp A.eval o=execOp (rho L) o:=execOp_congr o hs (fun x hx=>by
  have hx2:=Array.all_eq_true'.1 hc x hx;cases x with
  |tmp k =>
   simp only at hx2;obtain⟨v,hv⟩:=Option.isSome_iff_exists.1 hx2;have:=lY hL hv;simp only[Act.eval,rho,Array.getD_eq_getD_getElem?,this,hv]
  |_=>rfl)
 have hwd:=vS (ops:=ops) hL hw;have hw':Region.wanted o' (yielded #[] gI.tmps)=true:=by simp[Region.wanted,hg']
 have key:∀v w',Qo gI R o' w0 .normal (gI.put o'.dst v) w'→Qo a0 R o w0 .normal (A.put o.dst v) w':=by
  rintro v w' ⟨_,h2,h3⟩;rw[hd']at h3;rw[hd];refine⟨hdf,h2,?_⟩;rw[hd];simp only[qC htl];have h4:(gI.put (some 0) v).tmps.getD 0 undef=v:=qC (by simp);simp only[h4]at h3;exact h3
 unfold wpList at h⊢;rw[if_pos hw']at h;rw[if_pos hwd];rcases h with h | h
 ·refine .inl ?_;unfold Oper.wp at h⊢;rw[he1,he];generalize (execOp gI.eval o').run P w=r at h;cases r with
  |ok n w' =>
   cases n<;>simp only[Oper.upon]at h ⊢
   case value v=>unfold wpList at h⊢;exact key _ _ h
   case skip=>unfold wpList at h⊢;exact key _ _ h
   case defer d =>
    unfold wpList at h;have:=h.1;rw[hd']at this;simp[Act.put]at this
   case enter f args =>
    refine Calls.mono h fun e w'' hq=>?_;cases e with
    |returned v=>unfold wpList at hq⊢;exact key _ _ hq
    |panicked ch=>exact absurd hq (by simp[Qo])
    |outgrown=>exact absurd hq (fM _ _ _ _)
   case row row args =>
    exact Rows.mono h fun v w'' hq=>by unfold wpList at hq⊢;exact key _ _ hq
   all_goals first | exact h | exact h.elim
  |halt x w'=>cases x<;>simp only[Oper.upon]at h⊢<;> first | exact h.elim | exact absurd h (by simp[Qo])
 ·exact absurd h.2 (fM _ _ _ _)
theorem Fv {i:Nat} {o:Oper} {R:Value→World→Prop} {w:World} (L:List (Nat×Value)) (hL:jZ (Lf ops a0 vals i) L) (hw:pG L ops o=some false) (t:Nat) (hd:o.dst=some t) (htl:decide (t<a0.tmps.size)=true) (hr:R undef w) :
  wpList P ops (Qo a0 R o w) [o] (Lf ops a0 vals i) w:=by
 have htl:=of_decide_eq_true htl;rw[←dV (ops:=ops) (vals:=vals) i]at htl;have hdf:=fD (ops:=ops) (a0:=a0) vals i;generalize Lf ops a0 vals i=A at hL htl hdf⊢;have hwd:=vS (ops:=ops) hL hw;unfold wpList;rw[if_neg (by rw[hwd];simp)];unfold wpList;refine⟨by rw[hd];exact hdf,Ext.refl _,?_⟩;rw[hd];simp only[qC htl];exact hr
end
end Go.Proofs.YtjidhhfabfnhnaaGreat
namespace Go.Proofs.YtjidhhfabfnhnaaGreat
open Go.RowKit
def xG (ds:List (Option Tmp)) (j:Nat):Option Tmp:=(ds[j]?).bind id
def vT (ds:List (Option Tmp)) (t:Nat):Nat→Bool
 |0=>true
 |i+1=>!(xG ds i==some t)&&vT ds t i
def Fz (ds:List (Option Tmp)) (t j:Nat):Nat→Bool
 |0=>true
 |i+1=>(decide (i≤j)||!(xG ds i==some t))&&Fz ds t j i
section
variable {P:Program} {ops:Array Oper} {a0:Act} {vals:Nat→Value} {ds:List (Option Tmp)}
theorem vU (h:ops.toList.map (·.dst)=ds) (j:Nat):au ops j=xG ds j:=by
 subst h;unfold au xG;rw[List.getElem?_map,Array.getElem?_toList];cases ops[j]?<;>rfl
theorem pI (h:ops.toList.map (·.dst)=ds) (t:Nat):∀i,vT ds t i=kT ops t i
 |0=>rfl
 |i+1=>by rw[vT,kT,vU h,pI h t i]
theorem rX (h:ops.toList.map (·.dst)=ds) (t j:Nat):∀i,Fz ds t j i=pF ops t j i
 |0=>rfl
 |i+1=>by rw[Fz,pF,vU h,rX h t j i]
inductive Am (ds:List (Option Tmp)) (outs:List (Nat×Value)) (N:Nat) (vals:Nat→Value) (i:Nat):Nat→Value→Prop
 |inn {t:Nat} {v:Value} (j:Nat) (h:(decide (j<i)&&(xG ds j==some t)&&Fz ds t j i&&decide (t<N))=true) (hv:vals j=v):Am ds outs N vals i t v
 |out {t:Nat} {v:Value} (h:vT ds t i=true) (hv:look outs t=some v):Am ds outs N vals i t v
def Ap (ds:List (Option Tmp)) (outs:List (Nat×Value)) (N:Nat) (vals:Nat→Value) (i:Nat):List (Nat×Value)→Prop
 |[]=>True
 |p::r=>Am ds outs N vals i p.1 p.2∧Ap ds outs N vals i r
theorem qE {outs:List (Nat×Value)} {N i:Nat} (h:ops.toList.map (·.dst)=ds) (hN:a0.tmps.size=N) (ho:jZ a0 outs):∀ {L:List (Nat×Value)},Ap ds outs N vals i L→jZ (Lf ops a0 vals i) L
 |[],_=>trivial
 |p::r,⟨h1,h2⟩=>by
  refine⟨?_,qE h hN ho h2⟩;cases h1 with
  |inn j hj hv =>
   simp only[Bool.and_eq_true]at hj;obtain⟨⟨⟨j1,j2⟩,j3⟩,j4⟩:=hj;exact SE j j1 (by rw[vU h];simpa using j2) (by rw[←rX h];exact j3) (by rw[hN];exact j4) hv
  |out hj hv=>exact KW (by rw[←pI h];exact hj) (lY ho hv)
def rY (L:List (Nat×Value)) (ds:List (Option Tmp)) (o:Oper):Option Bool:=match o.guard with
 |none=>some true
 |some (g,b)=>match xG ds g with
  |some t=>(match look L t with | some v=>some (Ak (some v) b) | none=>none)
  |none=>none
theorem rZ (h:ops.toList.map (·.dst)=ds) (L:List (Nat×Value)) (o:Oper):rY L ds o=pG L ops o:=by
 unfold rY pG;cases o.guard with
 |none=>rfl
 |some gb=>simp only[vU h]<;>rfl
inductive Small (P:Program) (ds:List (Option Tmp)) (outs:List (Nat×Value)) (N:Nat) (vals:Nat→Value) (R:Value→World→Prop) (i:Nat) (o:Oper) (w:World):Prop
 |run (L:List (Nat×Value)) (o':Oper) (t:Nat) (hL:Ap ds outs N vals i L) (hc:(gQ o&&covers L o&&decide (t<N))=true) (hw:rY L ds o=some true) (he:execOp (rho L) o=execOp gI.eval o')
  (hd:o.dst=some t) (hd':o'.dst=some 0) (hg':o'.guard=none) (h:wpList P #[] (Qo gI R o' w) [o'] gI w):Small P ds outs N vals R i o w
 |no (L:List (Nat×Value)) (t:Nat) (hL:Ap ds outs N vals i L) (hw:rY L ds o=some false) (hd:o.dst=some t) (ht:decide (t<N)=true) (hr:R undef w):Small P ds outs N vals R i o w
theorem Small.r {outs:List (Nat×Value)} {N:Nat} {R:Value→World→Prop} {i:Nat} {o:Oper} {w:World} (L:List (Nat×Value)) (op:Go.Op) (ty:TypeId) (t:Nat) (hL:Ap ds outs N vals i L) (h:wpList P #[] (Qo gI R ⟨some 0,op,ty,"",#[],none⟩ w) [⟨some 0,op,ty,"",#[],none⟩] gI w)
 (hc:(gQ o&&covers L o&&decide (t<N))=true:=by kernel_rfl) (hw:rY L ds o=some true:=by kernel_rfl) (he:execOp (rho L) o=execOp gI.eval ⟨some 0,op,ty,"",#[],none⟩:=by kernel_rfl) (hd:o.dst=some t:=by exact rfl):Small P ds outs N vals R i o w:=.run L _ t hL hc hw he hd rfl rfl h
theorem xH {outs:List (Nat×Value)} {N i:Nat} {o:Oper} {R:Value→World→Prop} {w:World} (h:ops.toList.map (·.dst)=ds) (hN:a0.tmps.size=N) (ho:jZ a0 outs) (hs:Small P ds outs N vals R i o w):wpList P ops (Qo a0 R o w) [o] (Lf ops a0 vals i) w:=by
 cases hs with
 |run L o' t hL hc hw he hd hd' hg' hx =>
  simp only[Bool.and_eq_true]at hc;exact tiny L o' t hc.1.1 (qE h hN ho hL) hc.1.2 (by rw[←rZ h];exact hw) he hd (by rw[hN];exact hc.2) hd' hg' hx
 |no L t hL hw hd ht hr=>exact Fv L (qE h hN ho hL) (by rw[←rZ h];exact hw) t hd (by rw[hN];exact ht) hr
def Ie (P:Program) (ds:List (Option Tmp)) (outs:List (Nat×Value)) (N:Nat) (w0:World) (R:Nat→(Nat→Value)→Value→World→Prop):Nat→List Oper→Prop
 |_,[]=>True
 |k,o::rest=>(∀(vals:Nat→Value) (w:World),Ext w0 w→(∀d∈bZ o,R d vals (vals d) w)→Small P ds outs N vals (R k vals) k o w)∧Ie P ds outs N w0 R (k+1) rest
theorem vV {w0:World} {R:Nat→(Nat→Value)→Value→World→Prop} (ds:List (Option Tmp)) (outs:List (Nat×Value)) (N:Nat) (h:ops.toList.map (·.dst)=ds) (hN:a0.tmps.size=N) (ho:jZ a0 outs) :
  ∀ {l:List Oper} {k:Nat},Ie P ds outs N w0 R k l→uK P ops a0 w0 R k l
 |[],_,_=>trivial
 |_::_,_,⟨h1,h2⟩=>⟨fun vals w hx hd _=>xH h hN ho (h1 vals w hx hd),vV ds outs N h hN ho h2⟩
end
end Go.Proofs.YtjidhhfabfnhnaaGreat
namespace Go.Proofs.YtjidhhfabfnhnaaGreat
open Go.RowKit
set_option maxHeartbeats 8000000 in
set_option maxRecDepth 100000 in
theorem sym_l (K:Nat) (caps:Array Value) (cv:bP→bP→Int) (eg:∀args w,(callFunc K args).run Tryz.prog w=.ok (.enter K args) w) (hcmp:KC K caps cv) (hsw:SW (ltOf cv)) (base g n c:Nat) (hn:n≤1000000) (P Bl S:List bP) (x:bP) (a m b:Nat) (w:World) (ha:a=P.length) (hm:m=a+1) (hb:b=m+Bl.length) (hs:jJ (ltOf cv) Bl) (hr:aW ak 6 base 75 g n c w (P++x::(Bl++S))) :
  Calls Tryz.prog 148 #[.slice (some ⟨g,0,none⟩) n c,.int .i64 (a:Int),.int .i64 (m:Int),.int .i64 (b:Int),.func (.func K) #[] caps] w
   fun e w'=>e=.returned (.tuple #[])∧aW ak 6 base 75 g n c w' (P++bI (ltOf cv) [x] Bl++S)∧w.grownBy w' (some g):=by
 have hc:=hr.le;have hln:=hr.1;have hbn:b≤n:=by simp at hln;omega
 obtain⟨LL,hL⟩:∃l,l=P++x::(Bl++S):=⟨_,rfl⟩;rw[←hL]at hr;have HRW:=Lib.hid hr;have KD:=Lib.hid hcmp;have Aj:=Lib.hid hsw;have HS:=Lib.hid hs;have HA:=Lib.hid ha;have WO:=Lib.hid hL;have h0:Bl=[]++Bl++[]∧m+([]:List bP).length=m∧m+Bl.length=b:=⟨by simp,rfl,hb.symm⟩;have H0:=Lib.hid h0;have HE:Hid (∀y∈([]:List bP),ltOf cv y x=true):=Lib.hid (fun _ h=>by cases h);have HF:Hid (∀y∈([]:List bP),ltOf cv y x=false):=Lib.hid (fun _ h=>by cases h);have hmb:m≤b:=by omega
 have hw0:IntKind.i64.wrap ((m:Int)-(a:Int))=(m:Int)-(a:Int):=IntWalk.i64_in _ (by omega);have he0:((m:Int)-(a:Int)==1)=true:=by simp;omega
 have HM:=Lib.hid hm;clear hr hcmp hsw hs hL ha hln hb h0 hm;go_enter Tryz.func148,Tryz.ntmps148;go_wp2;clear hw0 he0;go_loopw [10,11] (fun u v wr=>∃(i j:Nat) (R1 Q R2:List bP),m≤i∧i≤j∧j≤b∧u=.int .i64 i∧v=.int .i64 j∧Hid (Bl=R1++Q++R2∧m+R1.length=i∧i+Q.length=j)∧Hid (∀y∈R1,ltOf cv y x=true)∧Hid (∀y∈R2,ltOf cv y x=false)∧Ext w wr) (fun u v _=>(intOf v).toNat-(intOf u).toNat)
 case atStart=>exact⟨m,b,[],Bl,[],Nat.le_refl _,hmb,Nat.le_refl _,rfl,rfl,H0,HE,HF,Ext.refl _⟩
 case round =>
  clear H0 HE HF;obtain⟨i,j,R1,Q,R2,him,hij,hjb,rfl,rfl,HQ,HE,HF,hxw⟩:=hrel;by_cases hlt:i<j
  ·obtain⟨h,hh⟩:∃h,h=(i+j) / 2:=⟨_,rfl⟩;have em:((i:Int)+(j:Int)) / 2=((h:Nat):Int):=by omega
   have hh1:i≤h:=by omega
   have hh2:h<j:=by omega
   clear hh;go_wp2_with fail;clear em;obtain⟨Q1,z,Q2,hQ,YA⟩:=zl Q (h-i) (by have:=HQ.out;omega);have hq:=HQ.out;rw[hQ]at hq;have rE:=Lib.hid hq;have HL:Hid (LL=P++x::((R1++(Q1++z::Q2)++R2)++S)):=Lib.hid (by rw[WO.out,←hq.1]);have FB:=Lib.hid YA;have SG:LL=(P++x::(R1++Q1))++z::(Q2++R2++S):=by simp[HL.out]
   obtain⟨qa,YB⟩:=iV (P++x::(R1++Q1)) (Q2++R2++S) z h (by have h1:=rE.out;have h2:=HA.out;have h3:=HM.out;simp;omega);have DT:wr.rangeAt g (h*6) (ak z):=by have h:=(HRW.out.ext hxw).range bg (k:=h) (by rw[SG];exact qa);simp only[SG]at h;rw[YB]at h;exact h
   obtain⟨X,SH⟩:∃X,(ak z).toArray=X:=⟨_,rfl⟩;have HX:=Lib.hid SH;have SK:LL=(P)++x::((R1++(Q1++z::Q2)++R2)++S):=by simp[HL.out]
   obtain⟨qb,YC⟩:=iV (P) ((R1++(Q1++z::Q2)++R2)++S) x a (HA.out);have DU:wr.rangeAt g (a*6) (ak x):=by have h:=(HRW.out.ext hxw).range bg (k:=a) (by rw[SK];exact qb);simp only[SK]at h;rw[YC]at h;exact h
   obtain⟨Y,SL⟩:∃X,(ak x).toArray=X:=⟨_,rfl⟩;have HY:=Lib.hid SL;have hcc:=KD.out z x;rw[SH,SL]at hcc;obtain⟨v_,hv⟩:∃v,v=cv z x:=⟨_,rfl⟩;rw[←hv]at hcc;have HC:=Lib.hid hcc;have Ig:ltOf cv z x=decide (v_<0):=by rw[hv];rfl
   have Cm:=Lib.hid Ig;clear hcc hv Ig SG SK qa qb YB YC SH SL;clear hQ YA hq HQ;have hhn:h<n:=by omega
   have han:a<n:=by have:=HM.out;omega
   refine aF 11 [some (.func (.func K) #[] caps),some (.slice (some ⟨g,0,none⟩) n c),some (.int .i64 (h:Int)),some (.pointer (some ⟨g,(h)*6,none⟩)),some (.agg X),some (.slice (some ⟨g,0,none⟩) n c),some (.int .i64 (a:Int)),some (.pointer (some ⟨g,(a)*6,none⟩)),some (.agg Y),some (.int .i64 v_),some (.bool (decide (v_<0)))] [] ?_ ?_ ?_
   ·trivial
   ·refine⟨?_,?_,?_,?_,?x4,?_,?_,?_,?x8,?x9,?_,trivial⟩
    case x4 =>
     intro vals w1 hx hd;clear hd;simp only[Lf,au,Act.put,bH,bG];refine ay rfl _ _ rfl g ((h)*6) rfl X (ak z) HX.out _ (RA.dD DT hx.aH) Tryz.underlying75 rfl bV ?_;go_wp2;exact q_
    case x8 =>
     intro vals w1 hx hd;clear hd;simp only[Lf,au,Act.put,bH,bG];refine ay rfl _ _ rfl g ((a)*6) rfl Y (ak x) HY.out _ (RA.dD DU hx.aH) Tryz.underlying75 rfl bV ?_;go_wp2;exact q_
    case x9 =>
     intro vals w1 hx hd;clear hd;simp only[Lf,au,Act.put,bH,bG];go_wp2_with fail;refine (HC.out _).mono ?_;rintro e w2 ⟨rfl,hb2⟩;go_wp2;exact⟨rfl,hb2,rfl⟩
    all_goals
     intro vals w1 hx hd;clear hd;simp only[Lf,au,Act.put,bH,bG];go_wp2;exact iq
   intro vals w5 hx5 hf;have e10:vals 10=.bool (decide (v_<0)):=hf 10 (by omega);clear hf DT DU;have hxw:=Ext.trans hxw hx5.aH;clear hx5;refine dO (by kernel_rfl) ?_;simp only[Lf,au,Act.put,FR_];rw[e10];clear e10;have hw1:IntKind.i64.wrap ((h:Int)+1)=(h:Int)+1:=IntWalk.i64_in _ (by omega);by_cases hv0:v_<0
   ·have hlt2:ltOf cv z x=true:=by rw[Cm.out];simpa using hv0
    have hN:Bl=(R1++(Q1++[z]))++Q2++R2∧m+(R1++(Q1++[z])).length=h+1∧h+1+Q2.length=j:=by
     have h1:=rE.out;have h2:=FB.out;refine⟨by rw[h1.1];simp,?_,?_⟩<;>simp at h1⊢<;> omega
    have HN:=Lib.hid hN;have HE2:Hid (∀y∈R1++(Q1++[z]),ltOf cv y x=true):=Lib.hid (s1_lt Aj.out (by rw[←rE.out.1];exact HS.out) hlt2 HE.out);clear hN hlt2 HE rE FB HL;go_wp2;go_roundw
    case rel=>exact⟨h+1,j,_,_,_,by omega,by omega,hjb,by go_num,rfl,HN,HE2,HF,hxw⟩
    case measure=>simp[intOf];omega
   ·have hlt2:ltOf cv z x=false:=by rw[Cm.out];simpa using hv0
    have hN:Bl=R1++Q1++((z::Q2)++R2)∧m+R1.length=i∧i+Q1.length=h:=by
     have h1:=rE.out;have h2:=FB.out;refine⟨by rw[h1.1];simp,?_,?_⟩<;>simp at h1⊢<;> omega
    have HN:=Lib.hid hN;have HF2:Hid (∀y∈(z::Q2)++R2,ltOf cv y x=false):=Lib.hid (s1_ge Aj.out (by rw[←rE.out.1];exact HS.out) hlt2 HF.out);clear hN hlt2 HF rE FB HL;go_wp2;go_roundw
    case rel=>exact⟨i,h,_,_,_,him,hh1,by omega,rfl,rfl,HN,HE,HF2,hxw⟩
    case measure=>simp[intOf];omega
  ·have hij2:i=j:=by omega
   have hq0:Q=[]:=List.eq_nil_of_length_eq_zero (by have:=HQ.out;omega);have hR:Bl=R1++R2∧m+R1.length=i:=by have h:=HQ.out;rw[hq0]at h;exact⟨by rw[h.1];simp,h.2.1⟩
   have HBR:=Lib.hid hR;have Aq:Hid (aW ak 6 base 75 g n c wr (P++[]++x::(R1++R2++S))):=Lib.hid (by have h:=HRW.out.ext hxw;rw[WO.out,hR.1]at h;simpa using h);have vM:Hid (w.grownBy wr (some g)):=Lib.hid (dM hxw);have Ns:Hid (R1=[]++R1∧a+([]:List bP).length=a):=Lib.hid ⟨rfl,rfl⟩;have hi1:a≤i-1:=by have:=HM.out;omega
   have jy:Hid (bI (ltOf cv) [x] Bl=R1++x::R2):=Lib.hid (by rw[hR.1];exact Ib x R1 R2 HE.out HF.out);clear hij2 hq0 hR HQ HE HF;have hw2:IntKind.i64.wrap ((i:Int)-1)=(i:Int)-1:=IntWalk.i64_in _ (by omega);have hi0:1≤i:=by have:=HM.out;omega
   go_wp2;go_loopw [13] (fun u wr=>∃(k:Nat) (Y1 Y2:List bP),a≤k∧k≤i-1∧u=.int .i64 k∧Hid (R1=Y1++Y2∧a+Y1.length=k)∧Hid (aW ak 6 base 75 g n c wr (P++Y1++x::(Y2++R2++S)))∧Hid (w.grownBy wr (some g))) (fun u _=>i-(intOf u).toNat)
   case atStart=>exact⟨a,[],R1,Nat.le_refl _,hi1,rfl,Ns,Aq,vM⟩
   case round =>
    clear Aq vM Ns hxw;obtain⟨k,Y1,Y2,hka,hki,rfl,HK,HR,HG⟩:=hrel;obtain⟨wi,hwi⟩:∃wi:World,wi=wr:=⟨_,rfl⟩;rw[←hwi]at HR HG⊢;clear hwi;by_cases hlk:k<i-1
    ·obtain⟨y,Y3,hY3⟩:∃y Y3,Y2=y::Y3:=by
      cases Y2 with
      |nil=>have h1:=HK.out;have h2:=HBR.out;have h3:=HM.out;rw[h1.1]at h2;simp at h2;omega
      |cons y Y3=>exact⟨y,Y3,rfl⟩
     subst hY3;have hrow:aW ak 6 base 75 g n c wi ((P++Y1)++x::(y::(Y3++R2++S))):=by simpa using HR.out
     obtain⟨q1,e1⟩:=iV (P++Y1) (y::(Y3++R2++S)) x k (by have h1:=HA.out;have h2:=HK.out;simp;omega);obtain⟨q2,e2⟩:∃h:k+1<((P++Y1)++x::(y::(Y3++R2++S))).length,((P++Y1)++x::(y::(Y3++R2++S)))[k+1]=y:=xE (P++Y1) [] (Y3++R2++S) x y (k+1) (by rw[List.length_nil];have h:k=(P++Y1).length:=(by have h1:=HA.out;have h2:=HK.out;simp;omega);omega);have SN:wi.rangeAt g ((k)*6) (ak x):=by have h:=hrow.range bg q1;rw[e1]at h;exact h
     have SQ:wi.rangeAt g ((k+1)*6) (ak y):=by have h:=hrow.range bg q2;rw[e2]at h;exact h
     have hls:(((P++Y1)++x::(y::(Y3++R2++S))).set k y).set (k+1) x=(P++Y1)++y::(x::(Y3++R2++S)):=DV (P++Y1) [] (Y3++R2++S) x y k (k+1) (by have h1:=HA.out;have h2:=HK.out;simp;omega) (by rw[List.length_nil];have h:k=(P++Y1).length:=(by have h1:=HA.out;have h2:=HK.out;simp;omega);omega);obtain⟨VX,hX⟩:∃X,(ak x).toArray=X:=⟨_,rfl⟩;obtain⟨VY,hY⟩:∃X,(ak y).toArray=X:=⟨_,rfl⟩;have HVX:=Lib.hid hX;have HVY:=Lib.hid hY;have rQ:=Lib.hid hrow;have HLS:=Lib.hid hls;have Q1:=Lib.hid q1;have Q2:=Lib.hid q2;have rP:k<n:=by omega
     have hkn2:k+1<n:=by omega
     clear hrow e1 e2 q1 q2 hX hY hls;have hw3:IntKind.i64.wrap ((k:Int)+1)=(k:Int)+1:=IntWalk.i64_in _ (by omega);have htn:((k:Int)+1).toNat=k+1:=by omega
     go_wp2_with fail;refine lu 15 [(2,.slice (some ⟨g,0,none⟩) n c),(3,.int .i64 (k:Int)),(4,.int .i64 ((k:Int)+1))] (fun ix vals v w1=>match ix with | 0=>v=.slice (some ⟨g,0,none⟩) n c | 1=>v=.int .i64 (k:Int) | 2=>v=.slice (some ⟨g,0,none⟩) n c | 3=>v=.int .i64 (k:Int) | 4=>v=.int .i64 ((k:Int)+1) | 5=>v=.slice (some ⟨g,0,none⟩) n c | 6=>v=.int .i64 (k:Int) | 7=>v=.int .i64 ((k:Int)+1) | 8=>v=.pointer (some ⟨g,(k+1)*6,none⟩) | 9=>v=.agg VY | 10=>v=.slice (some ⟨g,0,none⟩) n c | 11=>v=.int .i64 (k:Int) | 12=>v=.pointer (some ⟨g,(k)*6,none⟩) | 13=>v=.agg VX | _=>v=.pointer (some ⟨g,(k)*6,none⟩)) (by kernel_rfl) (by kernel_rfl) (by kernel_rfl) (by kernel_rfl) (by kernel_rfl) ?_ ?_ ?_ ?_ ?_ ?_
     ·refine⟨⟨_,rfl,by kernel_rfl,by kernel_rfl,gZ rfl rfl rfl⟩,⟨_,rfl,by kernel_rfl,by kernel_rfl,gZ rfl rfl rfl⟩,⟨_,rfl,by kernel_rfl,by kernel_rfl,Ah rfl rfl rfl rfl hw3⟩,trivial⟩
     ·intro j hj vals w1;simp only[List.map_cons,List.map_nil,List.mem_cons,List.not_mem_nil,or_false]at hj;rcases hj with rfl | rfl | rfl<;>rfl
     ·intro ix vals v w1 w2 hi hr hx;exact hr
     ·intro ix vals vJ v w1 hi hv hr;exact hr
     ·refine⟨?_,?_,?_,?_,?_,?_,?_,?_,?_,?_,?_,?_,?_,?_,?_,trivial⟩
      ·intro vals w1 hx hd ha;clear hd ha;simp only[Lf];go_wp2;exact q_
      ·intro vals w1 hx hd ha;clear hd ha;simp only[Lf,au,Act.put,FR_];go_wp2;exact q_
      ·intro vals w1 hx hd ha;clear hd ha;simp only[Lf,au,Act.put,FR_];go_wp2;exact q_
      ·intro vals w1 hx hd ha;clear hd ha;simp only[Lf,au,Act.put,FR_];go_wp2;exact q_
      ·intro vals w1 hx hd ha;have e3:vals 3=.int .i64 (k:Int):=hd 3 (by decide);clear hd ha;simp only[Lf,au,Act.put,FR_,e3];clear e3;go_wp2;exact q_
      ·intro vals w1 hx hd ha;clear hd ha;simp only[Lf,au,Act.put,FR_];go_wp2;exact q_
      ·intro vals w1 hx hd ha;clear hd ha;simp only[Lf,au,Act.put,FR_];go_wp2;exact q_
      ·intro vals w1 hx hd ha;have e6:vals 6=.int .i64 (k:Int):=hd 6 (by decide);clear hd ha;simp only[Lf,au,Act.put,FR_,e6];clear e6;go_wp2;exact q_
      ·intro vals w1 hx hd ha;have e5:vals 5=.slice (some ⟨g,0,none⟩) n c:=hd 5 (by decide);have e7:vals 7=.int .i64 ((k:Int)+1):=hd 7 (by decide);clear hd ha;simp only[Lf,au,Act.put,FR_,e5,e7];clear e5 e7;go_wp2;exact q_
      ·intro vals w1 hx hd ha;have e8:vals 8=.pointer (some ⟨g,(k+1)*6,none⟩):=hd 8 (by decide);clear hd ha;simp only[Lf,au,Act.put,FR_,e8];clear e8;refine ay rfl _ _ rfl g ((k+1)*6) rfl VY (ak y) HVY.out _ (RA.dD SQ hx.aH) Tryz.underlying75 rfl bV ?_;go_wp2;exact q_
      ·intro vals w1 hx hd ha;clear hd ha;simp only[Lf,au,Act.put,FR_];go_wp2;exact q_
      ·intro vals w1 hx hd ha;clear hd ha;simp only[Lf,au,Act.put,FR_];go_wp2;exact q_
      ·intro vals w1 hx hd ha;have e10:vals 10=.slice (some ⟨g,0,none⟩) n c:=hd 10 (by decide);have e11:vals 11=.int .i64 (k:Int):=hd 11 (by decide);clear hd ha;simp only[Lf,au,Act.put,FR_,e10,e11];clear e10 e11;go_wp2;exact q_
      ·intro vals w1 hx hd ha;have e12:vals 12=.pointer (some ⟨g,(k)*6,none⟩):=hd 12 (by decide);clear hd ha;simp only[Lf,au,Act.put,FR_,e12];clear e12;refine ay rfl _ _ rfl g ((k)*6) rfl VX (ak x) HVX.out _ (RA.dD SN hx.aH) Tryz.underlying75 rfl bV ?_;go_wp2;exact q_
      ·intro vals w1 hx hd ha;have e0:vals 0=.slice (some ⟨g,0,none⟩) n c:=hd 0 (by decide);have e1:vals 1=.int .i64 (k:Int):=hd 1 (by decide);have e5:vals 5=.slice (some ⟨g,0,none⟩) n c:=hd 5 (by decide);have e6:vals 6=.int .i64 (k:Int):=hd 6 (by decide);have e7:vals 7=.int .i64 ((k:Int)+1):=hd 7 (by decide);have e8:vals 8=.pointer (some ⟨g,(k+1)*6,none⟩):=hd 8 (by decide);have e9:vals 9=.agg VY:=hd 9 (by decide);have e13:vals 13=.agg VX:=hd 13 (by decide);clear hd ha;simp only[Lf,au,Act.put,FR_,e0,e1,e5,e6,e7,e8,e9,e13];clear e0 e1 e5 e6 e7 e8 e9 e13;go_wp2;exact q_
     intro vals w6 hx6 hf;have e2:vals 2=.slice (some ⟨g,0,none⟩) n c:=hf 2 (by omega);have e4:vals 4=.int .i64 ((k:Int)+1):=hf 4 (by omega);have e9:vals 9=.agg VY:=hf 9 (by omega);have e13:vals 13=.agg VX:=hf 13 (by omega);have e14:vals 14=.pointer (some ⟨g,(k)*6,none⟩):=hf 14 (by omega);clear hf;have hx6:=hx6.aH;have KE:=rQ.out.ext hx6;obtain⟨hs1,hg1⟩:=KE.store bg Q1.out y;have ht1:=KE.there bg Q1.out;have hl1:k+1<(((P++Y1)++x::(y::(Y3++R2++S))).set k y).length:=by rw[List.length_set];exact Q2.out
     obtain⟨hs2,hg2⟩:=hs1.store bg hl1 x;have ht2:=hs1.there bg hl1;rw[HLS.out]at hs2;have R_:w.grownBy ((w6.setCells g (k*6) (ak y)).setCells g ((k+1)*6) (ak x)) (some g):=bD (bD HG.out (dM hx6)) (bD hg1 hg2);have HT1:=Lib.hid ht1;have HT2:=Lib.hid ht2;have HS2:=Lib.hid hs2;have NI:=Lib.hid R_;clear ht1 ht2 hs1 hg1 hs2 hg2 R_ KE hl1 SN SQ hx6 HLS rQ hw3 htn;refine oK 15 _ _ 2 (by kernel_rfl) rfl ?_ (fun a w q=>oK 16 _ _ 1 (by kernel_rfl) rfl q (fun a w q=>eP 17 _ (by kernel_rfl) (by kernel_rfl) rfl q));simp only[Lf,au,Act.put,FR_];rw[e2,e4,e9,e13,e14];clear e2 e4 e9 e13 e14;have hw3:IntKind.i64.wrap ((k:Int)+1)=(k:Int)+1:=IntWalk.i64_in _ (by omega);have htn:((k:Int)+1).toNat=k+1:=by omega
     refine dL rfl _ _ _ rfl g (k*6) VY (ak y) HVY.out rfl rfl HT1.out bV (by simp[ak,Value.oneCell']) ?_;go_wp2_with (refine dL rfl _ _ _ rfl g ((k+1)*6) VX (ak x) HVX.out rfl rfl HT2.out bV (by simp[ak,Value.oneCell']) ?_);refine Dq ?_;generalize (w6.setCells g (k*6) (ak y)).setCells g ((k+1)*6) (ak x)=w8 at HS2 NI⊢;clear hw3 htn;have Sv:Hid (aW ak 6 base 75 g n c w8 (P++(Y1++[y])++x::(Y3++R2++S))):=Lib.hid (by simpa using HS2.out);have Ci:Hid (R1=(Y1++[y])++Y3∧a+(Y1++[y]).length=k+1):=Lib.hid (by obtain⟨h1,h2⟩:=HK.out;refine⟨by rw[h1];simp,?_⟩;simp;omega);clear HS2 HK HR HG;have hw4:IntKind.i64.wrap ((k:Int)+1)=(k:Int)+1:=IntWalk.i64_in _ (by omega);go_wp2;go_roundw
     case rel=>exact⟨k+1,_,_,by omega,by omega,by go_num,Ci,Sv,NI⟩
     case measure=>simp[intOf];omega
    ·have hfin:aW ak 6 base 75 g n c wi (P++bI (ltOf cv) [x] Bl++S):=by
      have h1:=HK.out;have hY0:Y2=[]:=List.eq_nil_of_length_eq_zero (by have h2:=HBR.out;have h3:=HM.out;rw[h1.1]at h2;simp at h2;omega);have h:=HR.out;rw[hY0]at h h1;rw[jy.out,h1.1];simpa using h
     have KF:=Lib.hid hfin;clear hfin;have hlk2:¬((k:Int)<(i:Int)-1):=by omega
     go_wp2
     (try simp only[Exit.inBlock,Exit.then])
     refine bodyPost_ret (results_none rfl _ _ _) rfl ?_;exact⟨rfl,by simpa using KF.out,HG.out⟩
set_option maxHeartbeats 8000000 in
set_option maxRecDepth 100000 in
theorem sym_r (K:Nat) (caps:Array Value) (cv:bP→bP→Int) (eg:∀args w,(callFunc K args).run Tryz.prog w=.ok (.enter K args) w) (hcmp:KC K caps cv) (hsw:SW (ltOf cv)) (base g n c:Nat) (hn:n≤1000000) (P Al S:List bP) (y0:bP) (a m b:Nat) (w:World) (ha:a=P.length) (hm:m=a+Al.length) (hb:b=m+1) (hA2:2≤Al.length) (hs:jJ (ltOf cv) Al) (hr:aW ak 6 base 75 g n c w (P++Al++y0::S)) :
  Calls Tryz.prog 148 #[.slice (some ⟨g,0,none⟩) n c,.int .i64 (a:Int),.int .i64 (m:Int),.int .i64 (b:Int),.func (.func K) #[] caps] w
   fun e w'=>e=.returned (.tuple #[])∧aW ak 6 base 75 g n c w' (P++bI (ltOf cv) Al [y0]++S)∧w.grownBy w' (some g):=by
 have hc:=hr.le;have hln:=hr.1;have hbn:b≤n:=by simp at hln;omega
 obtain⟨LL,hL⟩:∃l,l=P++Al++y0::S:=⟨_,rfl⟩;rw[←hL]at hr;have HRW:=Lib.hid hr;have KD:=Lib.hid hcmp;have Aj:=Lib.hid hsw;have HS:=Lib.hid hs;have HA:=Lib.hid ha;have WO:=Lib.hid hL;have h0:Al=[]++Al++[]∧a+([]:List bP).length=a∧a+Al.length=m:=⟨by simp,rfl,hm.symm⟩;have H0:=Lib.hid h0;have HE:Hid (∀u∈([]:List bP),ltOf cv y0 u=false):=Lib.hid (fun _ h=>by cases h);have HF:Hid (∀u∈([]:List bP),ltOf cv y0 u=true):=Lib.hid (fun _ h=>by cases h);have hmb:a+2≤m:=by omega
 have hw0:IntKind.i64.wrap ((m:Int)-(a:Int))=(m:Int)-(a:Int):=IntWalk.i64_in _ (by omega);have he0:((m:Int)-(a:Int)==1)=false:=by simp;omega
 have hw9:IntKind.i64.wrap ((b:Int)-(m:Int))=(b:Int)-(m:Int):=IntWalk.i64_in _ (by omega);have he9:((b:Int)-(m:Int)==1)=true:=by simp;omega
 have hbm:m<b:=by omega
 have HM:=Lib.hid hm;have HBM:=Lib.hid hb;clear hr hcmp hsw hs hL ha hln hb h0 hm hA2;go_enter Tryz.func148,Tryz.ntmps148;go_wp2;clear hw0 he0 hw9 he9;go_loopw [14,15] (fun u v wr=>∃(i j:Nat) (R1 Q R2:List bP),a≤i∧i≤j∧j≤m∧u=.int .i64 i∧v=.int .i64 j∧Hid (Al=R1++Q++R2∧a+R1.length=i∧i+Q.length=j)∧Hid (∀u∈R1,ltOf cv y0 u=false)∧Hid (∀u∈R2,ltOf cv y0 u=true)∧Ext w wr) (fun u v _=>(intOf v).toNat-(intOf u).toNat)
 case atStart=>exact⟨a,m,[],Al,[],Nat.le_refl _,by omega,Nat.le_refl _,rfl,rfl,H0,HE,HF,Ext.refl _⟩
 case round =>
  clear H0 HE HF;obtain⟨i,j,R1,Q,R2,him,hij,hjb,rfl,rfl,HQ,HE,HF,hxw⟩:=hrel;by_cases hlt:i<j
  ·obtain⟨h,hh⟩:∃h,h=(i+j) / 2:=⟨_,rfl⟩;have em:((i:Int)+(j:Int)) / 2=((h:Nat):Int):=by omega
   have hh1:i≤h:=by omega
   have hh2:h<j:=by omega
   clear hh;go_wp2_with fail;clear em;obtain⟨Q1,z,Q2,hQ,YA⟩:=zl Q (h-i) (by have:=HQ.out;omega);have hq:=HQ.out;rw[hQ]at hq;have rE:=Lib.hid hq;have HL:Hid (LL=P++(R1++(Q1++z::Q2)++R2)++y0::S):=Lib.hid (by rw[WO.out,←hq.1]);have FB:=Lib.hid YA;have hal:a+(R1++(Q1++z::Q2)++R2).length=m:=by rw[←hq.1];exact HM.out.symm
   have Ar:=Lib.hid hal;clear hal;have SG:LL=(P++(R1++(Q1++z::Q2)++R2))++y0::(S):=by simp[HL.out]
   obtain⟨qa,YB⟩:=iV (P++(R1++(Q1++z::Q2)++R2)) (S) y0 m (by have h1:=Ar.out;have h2:=HA.out;rw[List.length_append];omega);have DT:wr.rangeAt g (m*6) (ak y0):=by have h:=(HRW.out.ext hxw).range bg (k:=m) (by rw[SG];exact qa);simp only[SG]at h;rw[YB]at h;exact h
   obtain⟨X,SH⟩:∃X,(ak y0).toArray=X:=⟨_,rfl⟩;have HX:=Lib.hid SH;have SK:LL=(P++(R1++Q1))++z::(Q2++R2++y0::S):=by simp[HL.out]
   obtain⟨qb,YC⟩:=iV (P++(R1++Q1)) (Q2++R2++y0::S) z h (by have h1:=rE.out;have h2:=HA.out;have h3:=FB.out;simp;omega);have DU:wr.rangeAt g (h*6) (ak z):=by have h:=(HRW.out.ext hxw).range bg (k:=h) (by rw[SK];exact qb);simp only[SK]at h;rw[YC]at h;exact h
   obtain⟨Y,SL⟩:∃X,(ak z).toArray=X:=⟨_,rfl⟩;have HY:=Lib.hid SL;have hcc:=KD.out y0 z;rw[SH,SL]at hcc;obtain⟨v_,hv⟩:∃v,v=cv y0 z:=⟨_,rfl⟩;rw[←hv]at hcc;have HC:=Lib.hid hcc;have Ig:ltOf cv y0 z=decide (v_<0):=by rw[hv];rfl
   have Cm:=Lib.hid Ig;clear hcc hv Ig SG SK qa qb YB YC SH SL;clear hQ YA hq HQ Ar;have hhn:h<n:=by omega
   have hmn:m<n:=by omega
   refine aF 12 [some (.func (.func K) #[] caps),some (.slice (some ⟨g,0,none⟩) n c),some (.int .i64 (m:Int)),some (.pointer (some ⟨g,(m)*6,none⟩)),some (.agg X),some (.slice (some ⟨g,0,none⟩) n c),some (.int .i64 (h:Int)),some (.pointer (some ⟨g,(h)*6,none⟩)),some (.agg Y),some (.int .i64 v_),some (.bool (decide (v_<0))),some (.bool (!decide (v_<0)))] [] ?_ ?_ ?_
   ·trivial
   ·refine⟨?_,?_,?_,?_,?x4,?_,?_,?_,?x8,?x9,?_,?_,trivial⟩
    case x4 =>
     intro vals w1 hx hd;clear hd;simp only[Lf,au,Act.put,bH,bG];refine ay rfl _ _ rfl g ((m)*6) rfl X (ak y0) HX.out _ (RA.dD DT hx.aH) Tryz.underlying75 rfl bV ?_;go_wp2;exact q_
    case x8 =>
     intro vals w1 hx hd;clear hd;simp only[Lf,au,Act.put,bH,bG];refine ay rfl _ _ rfl g ((h)*6) rfl Y (ak z) HY.out _ (RA.dD DU hx.aH) Tryz.underlying75 rfl bV ?_;go_wp2;exact q_
    case x9 =>
     intro vals w1 hx hd;clear hd;simp only[Lf,au,Act.put,bH,bG];go_wp2_with fail;refine (HC.out _).mono ?_;rintro e w2 ⟨rfl,hb2⟩;go_wp2;exact⟨rfl,hb2,rfl⟩
    all_goals
     intro vals w1 hx hd;clear hd;simp only[Lf,au,Act.put,bH,bG];go_wp2;exact iq
   intro vals w5 hx5 hf;have e11:vals 11=.bool (!decide (v_<0)):=hf 11 (by omega);clear hf DT DU;have hxw:=Ext.trans hxw hx5.aH;clear hx5;refine dO (by kernel_rfl) ?_;simp only[Lf,au,Act.put,FR_];rw[e11];clear e11;have hw1:IntKind.i64.wrap ((h:Int)+1)=(h:Int)+1:=IntWalk.i64_in _ (by omega);by_cases hv0:v_<0
   ·have hd:decide (v_<0)=true:=by simpa using hv0
    have hlt2:ltOf cv y0 z=true:=by rw[Cm.out];exact hd
    have hN:Al=R1++Q1++((z::Q2)++R2)∧a+R1.length=i∧i+Q1.length=h:=by
     have h1:=rE.out;have h2:=FB.out;refine⟨by rw[h1.1];simp,?_,?_⟩<;>simp at h1⊢<;> omega
    have HN:=Lib.hid hN;have HF2:Hid (∀u∈(z::Q2)++R2,ltOf cv y0 u=true):=Lib.hid (s2_lt Aj.out (by rw[←rE.out.1];exact HS.out) hlt2 HF.out);rw[hd];clear hN hlt2 HF rE FB HL hd;go_wp2;go_roundw
    case rel=>exact⟨i,h,_,_,_,him,hh1,by omega,rfl,rfl,HN,HE,HF2,hxw⟩
    case measure=>simp[intOf];omega
   ·have hd:decide (v_<0)=false:=by simpa using hv0
    have hlt2:ltOf cv y0 z=false:=by rw[Cm.out];exact hd
    have hN:Al=(R1++(Q1++[z]))++Q2++R2∧a+(R1++(Q1++[z])).length=h+1∧h+1+Q2.length=j:=by
     have h1:=rE.out;have h2:=FB.out;refine⟨by rw[h1.1];simp,?_,?_⟩<;>simp at h1⊢<;> omega
    have HN:=Lib.hid hN;have HE2:Hid (∀u∈R1++(Q1++[z]),ltOf cv y0 u=false):=Lib.hid (s2_ge Aj.out (by rw[←rE.out.1];exact HS.out) hlt2 HE.out);rw[hd];clear hN hlt2 HE rE FB HL hd;go_wp2;go_roundw
    case rel=>exact⟨h+1,j,_,_,_,by omega,by omega,hjb,by go_num,rfl,HN,HE2,HF,hxw⟩
    case measure=>simp[intOf];omega
  ·have hij2:i=j:=by omega
   have hq0:Q=[]:=List.eq_nil_of_length_eq_zero (by have:=HQ.out;omega);have hR:Al=R1++R2∧a+R1.length=i:=by have h:=HQ.out;rw[hq0]at h;exact⟨by rw[h.1];simp,h.2.1⟩
   have HBR:=Lib.hid hR;have Aq:Hid (aW ak 6 base 75 g n c wr (P++R1++R2++y0::([]++S))):=Lib.hid (by have h:=HRW.out.ext hxw;rw[WO.out,hR.1]at h;simpa using h);have vM:Hid (w.grownBy wr (some g)):=Lib.hid (dM hxw);have Ns:Hid (R2=R2++[]∧i+R2.length=m):=Lib.hid ⟨by simp,by have h:=HM.out;rw[hR.1]at h;simp at h;omega⟩;have jy:Hid (bI (ltOf cv) Al [y0]=R1++y0::R2):=Lib.hid (by rw[hR.1];exact Ic y0 R1 R2 HE.out HF.out);clear hij2 hq0 hR HQ HE HF;have him2:i≤m:=by omega
   go_wp2;go_loopw [17] (fun u wr=>∃(k:Nat) (Y1 Y2:List bP),i≤k∧k≤m∧u=.int .i64 k∧Hid (R2=Y1++Y2∧i+Y1.length=k)∧Hid (aW ak 6 base 75 g n c wr (P++R1++Y1++y0::(Y2++S)))∧Hid (w.grownBy wr (some g))) (fun u _=>(intOf u).toNat)
   case atStart=>exact⟨m,R2,[],him2,Nat.le_refl _,rfl,Ns,Aq,vM⟩
   case round =>
    clear Aq vM Ns hxw;obtain⟨k,Y1,Y2,hka,hki,rfl,HK,HR,HG⟩:=hrel;obtain⟨wi,hwi⟩:∃wi:World,wi=wr:=⟨_,rfl⟩;rw[←hwi]at HR HG⊢;clear hwi;by_cases hlk:i<k
    ·obtain⟨Y3,y,hY3⟩:∃Y3 y,Y1=Y3++[y]:=by
      rcases List.eq_nil_or_concat Y1 with h | ⟨Y,y,h⟩
      ·have h1:=HK.out;rw[h]at h1;simp at h1;omega
      ·exact⟨Y,y,by simpa using h⟩
     subst hY3;have hrow:aW ak 6 base 75 g n c wi ((P++R1++Y3)++y::(y0::(Y2++S))):=by simpa using HR.out
     obtain⟨q1,e1⟩:=iV (P++R1++Y3) (y0::(Y2++S)) y (k-1) (by have h1:=HA.out;have h2:=HK.out;have h3:=HBR.out;simp at h2⊢;omega);obtain⟨q2,e2⟩:∃h:k<((P++R1++Y3)++y::(y0::(Y2++S))).length,((P++R1++Y3)++y::(y0::(Y2++S)))[k]=y0:=xE (P++R1++Y3) [] (Y2++S) y y0 k (by rw[List.length_nil];have h:k-1=(P++R1++Y3).length:=(by have h1:=HA.out;have h2:=HK.out;have h3:=HBR.out;simp at h2⊢;omega);omega);have SN:wi.rangeAt g ((k-1)*6) (ak y):=by have h:=hrow.range bg q1;rw[e1]at h;exact h
     have SQ:wi.rangeAt g ((k)*6) (ak y0):=by have h:=hrow.range bg q2;rw[e2]at h;exact h
     have hls:(((P++R1++Y3)++y::(y0::(Y2++S))).set k y).set (k-1) y0=(P++R1++Y3)++y0::(y::(Y2++S)):=DR (P++R1++Y3) (Y2++S) y0 y k (by have h:k-1=(P++R1++Y3).length:=(by have h1:=HA.out;have h2:=HK.out;have h3:=HBR.out;simp at h2⊢;omega);omega);obtain⟨VX,hX⟩:∃X,(ak y).toArray=X:=⟨_,rfl⟩;obtain⟨VY,hY⟩:∃X,(ak y0).toArray=X:=⟨_,rfl⟩;have HVX:=Lib.hid hX;have HVY:=Lib.hid hY;have rQ:=Lib.hid hrow;have HLS:=Lib.hid hls;have Q1:=Lib.hid q1;have Q2:=Lib.hid q2;have rP:k<n:=by omega
     have hkn2:k-1<n:=by omega
     clear hrow e1 e2 q1 q2 hX hY hls;have hw3:IntKind.i64.wrap ((k:Int)-1)=(k:Int)-1:=IntWalk.i64_in _ (by omega);have htn:((k:Int)-1).toNat=k-1:=by omega
     go_wp2_with fail;refine lu 15 [(2,.slice (some ⟨g,0,none⟩) n c),(3,.int .i64 (k:Int)),(4,.int .i64 ((k:Int)-1))] (fun ix vals v w1=>match ix with | 0=>v=.slice (some ⟨g,0,none⟩) n c | 1=>v=.int .i64 (k:Int) | 2=>v=.slice (some ⟨g,0,none⟩) n c | 3=>v=.int .i64 (k:Int) | 4=>v=.int .i64 ((k:Int)-1) | 5=>v=.slice (some ⟨g,0,none⟩) n c | 6=>v=.int .i64 (k:Int) | 7=>v=.int .i64 ((k:Int)-1) | 8=>v=.pointer (some ⟨g,(k-1)*6,none⟩) | 9=>v=.agg VX | 10=>v=.slice (some ⟨g,0,none⟩) n c | 11=>v=.int .i64 (k:Int) | 12=>v=.pointer (some ⟨g,(k)*6,none⟩) | 13=>v=.agg VY | _=>v=.pointer (some ⟨g,(k)*6,none⟩)) (by kernel_rfl) (by kernel_rfl) (by kernel_rfl) (by kernel_rfl) (by kernel_rfl) ?_ ?_ ?_ ?_ ?_ ?_
     ·refine⟨⟨_,rfl,by kernel_rfl,by kernel_rfl,gZ rfl rfl rfl⟩,⟨_,rfl,by kernel_rfl,by kernel_rfl,gZ rfl rfl rfl⟩,⟨_,rfl,by kernel_rfl,by kernel_rfl,zO rfl rfl rfl rfl hw3⟩,trivial⟩
     ·intro j hj vals w1;simp only[List.map_cons,List.map_nil,List.mem_cons,List.not_mem_nil,or_false]at hj;rcases hj with rfl | rfl | rfl<;>rfl
     ·intro ix vals v w1 w2 hi hr hx;exact hr
     ·intro ix vals vJ v w1 hi hv hr;exact hr
     ·refine⟨?_,?_,?_,?_,?_,?_,?_,?_,?_,?_,?_,?_,?_,?_,?_,trivial⟩
      ·intro vals w1 hx hd ha;clear hd ha;simp only[Lf];go_wp2;exact q_
      ·intro vals w1 hx hd ha;clear hd ha;simp only[Lf,au,Act.put,FR_];go_wp2;exact q_
      ·intro vals w1 hx hd ha;clear hd ha;simp only[Lf,au,Act.put,FR_];go_wp2;exact q_
      ·intro vals w1 hx hd ha;clear hd ha;simp only[Lf,au,Act.put,FR_];go_wp2;exact q_
      ·intro vals w1 hx hd ha;have e3:vals 3=.int .i64 (k:Int):=hd 3 (by decide);clear hd ha;simp only[Lf,au,Act.put,FR_,e3];clear e3;go_wp2;exact q_
      ·intro vals w1 hx hd ha;clear hd ha;simp only[Lf,au,Act.put,FR_];go_wp2;exact q_
      ·intro vals w1 hx hd ha;clear hd ha;simp only[Lf,au,Act.put,FR_];go_wp2;exact q_
      ·intro vals w1 hx hd ha;have e6:vals 6=.int .i64 (k:Int):=hd 6 (by decide);clear hd ha;simp only[Lf,au,Act.put,FR_,e6];clear e6;go_wp2;exact q_
      ·intro vals w1 hx hd ha;have e5:vals 5=.slice (some ⟨g,0,none⟩) n c:=hd 5 (by decide);have e7:vals 7=.int .i64 ((k:Int)-1):=hd 7 (by decide);clear hd ha;simp only[Lf,au,Act.put,FR_,e5,e7];clear e5 e7;go_wp2;exact q_
      ·intro vals w1 hx hd ha;have e8:vals 8=.pointer (some ⟨g,(k-1)*6,none⟩):=hd 8 (by decide);clear hd ha;simp only[Lf,au,Act.put,FR_,e8];clear e8;refine ay rfl _ _ rfl g ((k-1)*6) rfl VX (ak y) HVX.out _ (RA.dD SN hx.aH) Tryz.underlying75 rfl bV ?_;go_wp2;exact q_
      ·intro vals w1 hx hd ha;clear hd ha;simp only[Lf,au,Act.put,FR_];go_wp2;exact q_
      ·intro vals w1 hx hd ha;clear hd ha;simp only[Lf,au,Act.put,FR_];go_wp2;exact q_
      ·intro vals w1 hx hd ha;have e10:vals 10=.slice (some ⟨g,0,none⟩) n c:=hd 10 (by decide);have e11:vals 11=.int .i64 (k:Int):=hd 11 (by decide);clear hd ha;simp only[Lf,au,Act.put,FR_,e10,e11];clear e10 e11;go_wp2;exact q_
      ·intro vals w1 hx hd ha;have e12:vals 12=.pointer (some ⟨g,(k)*6,none⟩):=hd 12 (by decide);clear hd ha;simp only[Lf,au,Act.put,FR_,e12];clear e12;refine ay rfl _ _ rfl g ((k)*6) rfl VY (ak y0) HVY.out _ (RA.dD SQ hx.aH) Tryz.underlying75 rfl bV ?_;go_wp2;exact q_
      ·intro vals w1 hx hd ha;have e0:vals 0=.slice (some ⟨g,0,none⟩) n c:=hd 0 (by decide);have e1:vals 1=.int .i64 (k:Int):=hd 1 (by decide);have e5:vals 5=.slice (some ⟨g,0,none⟩) n c:=hd 5 (by decide);have e6:vals 6=.int .i64 (k:Int):=hd 6 (by decide);have e7:vals 7=.int .i64 ((k:Int)-1):=hd 7 (by decide);have e8:vals 8=.pointer (some ⟨g,(k-1)*6,none⟩):=hd 8 (by decide);have e9:vals 9=.agg VX:=hd 9 (by decide);have e13:vals 13=.agg VY:=hd 13 (by decide);clear hd ha;simp only[Lf,au,Act.put,FR_,e0,e1,e5,e6,e7,e8,e9,e13];clear e0 e1 e5 e6 e7 e8 e9 e13;go_wp2;exact q_
     intro vals w6 hx6 hf;have e2:vals 2=.slice (some ⟨g,0,none⟩) n c:=hf 2 (by omega);have e4:vals 4=.int .i64 ((k:Int)-1):=hf 4 (by omega);have e9:vals 9=.agg VX:=hf 9 (by omega);have e13:vals 13=.agg VY:=hf 13 (by omega);have e14:vals 14=.pointer (some ⟨g,(k)*6,none⟩):=hf 14 (by omega);clear hf;have hx6:=hx6.aH;have KE:=rQ.out.ext hx6;obtain⟨hs1,hg1⟩:=KE.store bg Q2.out y;have ht1:=KE.there bg Q2.out;have hl1:k-1<(((P++R1++Y3)++y::(y0::(Y2++S))).set k y).length:=by rw[List.length_set];exact Q1.out
     obtain⟨hs2,hg2⟩:=hs1.store bg hl1 y0;have ht2:=hs1.there bg hl1;rw[HLS.out]at hs2;have R_:w.grownBy ((w6.setCells g (k*6) (ak y)).setCells g ((k-1)*6) (ak y0)) (some g):=bD (bD HG.out (dM hx6)) (bD hg1 hg2);have HT1:=Lib.hid ht1;have HT2:=Lib.hid ht2;have HS2:=Lib.hid hs2;have NI:=Lib.hid R_;clear ht1 ht2 hs1 hg1 hs2 hg2 R_ KE hl1 SN SQ hx6 HLS rQ hw3 htn;refine oK 15 _ _ 2 (by kernel_rfl) rfl ?_ (fun a w q=>oK 16 _ _ 1 (by kernel_rfl) rfl q (fun a w q=>eP 17 _ (by kernel_rfl) (by kernel_rfl) rfl q));simp only[Lf,au,Act.put,FR_];rw[e2,e4,e9,e13,e14];clear e2 e4 e9 e13 e14;have hw3:IntKind.i64.wrap ((k:Int)-1)=(k:Int)-1:=IntWalk.i64_in _ (by omega);have htn:((k:Int)-1).toNat=k-1:=by omega
     refine dL rfl _ _ _ rfl g (k*6) VX (ak y) HVX.out rfl rfl HT1.out bV (by simp[ak,Value.oneCell']) ?_;go_wp2_with (refine dL rfl _ _ _ rfl g ((k-1)*6) VY (ak y0) HVY.out rfl rfl HT2.out bV (by simp[ak,Value.oneCell']) ?_);refine Dq ?_;generalize (w6.setCells g (k*6) (ak y)).setCells g ((k-1)*6) (ak y0)=w8 at HS2 NI⊢;clear hw3 htn;have Sv:Hid (aW ak 6 base 75 g n c w8 (P++R1++Y3++y0::((y::Y2)++S))):=Lib.hid (by simpa using HS2.out);have Ci:Hid (R2=Y3++(y::Y2)∧i+Y3.length=k-1):=Lib.hid (by obtain⟨h1,h2⟩:=HK.out;refine⟨by rw[h1];simp,?_⟩;simp at h2;omega);clear HS2 HK HR HG;have hw4:IntKind.i64.wrap ((k:Int)-1)=(k:Int)-1:=IntWalk.i64_in _ (by omega);go_wp2;go_roundw
     case rel=>exact⟨k-1,_,_,by omega,by omega,by rw[show ((k-1:Nat):Int)=(k:Int)-1 by omega],Ci,Sv,NI⟩
     case measure=>simp[intOf];omega
    ·have hfin:aW ak 6 base 75 g n c wi (P++bI (ltOf cv) Al [y0]++S):=by
      have h1:=HK.out;have hY0:Y1=[]:=List.eq_nil_of_length_eq_zero (by omega);have h:=HR.out;rw[hY0]at h h1;rw[jy.out,h1.1];simpa using h
     have KF:=Lib.hid hfin;clear hfin;have hlk2:¬((i:Int)<(k:Int)):=by omega
     go_wp2
     (try simp only[Exit.inBlock,Exit.then])
     refine bodyPost_ret (results_none rfl _ _ _) rfl ?_;exact⟨rfl,by simpa using KF.out,HG.out⟩
end Go.Proofs.YtjidhhfabfnhnaaGreat
