/- Orbits compared; the iterator over stretches; a range over it (printed by eph_v8.py). -/
import Derived.Test.YtjidhhfabfnhnaaGreatT01
import Derived.Test.YtjidhhfabfnhnaaGreatT05
import Derived.Test.YtjidhhfabfnhnaaGreatT10
import Derived.Test.YtjidhhfabfnhnaaGreatT03
namespace Go.Proofs.YtjidhhfabfnhnaaGreat
section
variable {α:Type} (lt:α→α→Bool)
structure SW:Prop where
 tr:∀a b c,lt a b=true→lt b c=true→lt a c=true
 asy:∀a b,lt a b=true→lt b a=false
 RY:∀a b c,lt a b=false→lt b c=false→lt a c=false
def posR (p:List α) (x:α):Nat:=p.length-(p.reverse.takeWhile (fun y=>lt x y)).length
def mV (p:List α) (x:α):List α:=p.take (posR lt p x)++x::p.drop (posR lt p x)
def bM (l:List α):List α:=l.foldl (mV lt) []
def jJ:List α→Prop
 |[]=>True
 |x::r=>(∀y∈r,lt y x=false)∧jJ r
def bI:List α→List α→List α
 |[],ys=>ys
 |x::xs,[]=>x::xs
 |x::xs,y::ys=>if lt y x then y::bI (x::xs) ys else x::bI xs (y::ys)
termination_by l r=>l.length+r.length
theorem dN (l:List α):bI lt l []=l:=by cases l<;>simp[bI]
theorem dI (l:List α):bI lt [] l=l:=by simp[bI]
theorem fG (L1 L2 R1 R2:List α) (h1:∀x∈L1,∀y∈R2,lt y x=false) (h2:∀y∈R1,∀x∈L2,lt y x=true):bI lt (L1++L2) (R1++R2)=bI lt L1 R1++bI lt L2 R2:=by
 match L1,R1 with
 |[],[]=>simp[dI]
 |[],y::R1 =>
  rw[dI];cases L2 with
  |nil=>simp[dI]
  |cons x L2 =>
   have hy:=h2 y (by simp) x (by simp);have ih:=fG [] (x::L2) R1 R2 (fun _ hx=>by cases hx) (fun z hz=>h2 z (by simp[hz]));rw[dI]at ih;simp only[List.nil_append,List.cons_append]at ih⊢;rw[bI,if_pos hy,ih]
 |x::L1,[] =>
  rw[dN];cases R2 with
  |nil=>simp[dN]
  |cons y R2 =>
   have hy:=h1 x (by simp) y (by simp);have ih:=fG L1 L2 [] (y::R2) (fun z hz=>h1 z (by simp[hz])) (fun _ hx=>by cases hx);rw[dN]at ih;simp only[List.nil_append,List.cons_append]at ih⊢;rw[bI,if_neg (by rw[hy];simp),ih]
 |x::L1,y::R1 =>
  by_cases hc:lt y x=true
  ·have ih:=fG (x::L1) L2 R1 R2 h1 (fun z hz=>h2 z (by simp[hz]));simp only[List.cons_append]at ih⊢;rw[bI,if_pos hc,ih,bI,if_pos hc];simp
  ·have ih:=fG L1 L2 (y::R1) R2 (fun z hz=>h1 z (by simp[hz])) h2;simp only[List.cons_append]at ih⊢;rw[bI,if_neg hc,ih,bI,if_neg hc];simp
termination_by L1.length+R1.length
theorem E_ (A B:List α) (x:α) (h1:∀y∈A,lt x y=false) (h2:∀y∈B,lt x y=true):mV lt (A++B) x=A++x::B:=by
 have hp:posR lt (A++B) x=A.length:=by
  unfold posR;rw[List.reverse_append,List.takeWhile_append_of_pos (fun y hy=>h2 y (by simpa using hy)),List.length_append,List.length_append];have:(A.reverse.takeWhile (fun y=>lt x y))=[]:=by
   cases hA:A.reverse with
   |nil=>rfl
   |cons z r =>
    have hz:z∈A:=by rw[←List.mem_reverse,hA];simp
    simp[h1 z hz]
  rw[this];simp
 unfold mV;rw[hp];simp
variable {lt}
theorem qw (h:SW lt) (B:List α) (x:α) (hs:jJ lt B):∃B1 B2,B=B1++B2∧(∀y∈B1,lt x y=false)∧∀y∈B2,lt x y=true:=by
 induction B with
 |nil=>exact⟨[],[],rfl,fun _ h=>(by cases h),fun _ h=>(by cases h)⟩
 |cons b B ih =>
  obtain⟨hb,hB⟩:=hs;by_cases hx:lt x b=true
  ·refine⟨[],b::B,rfl,fun _ h=>(by cases h),fun y hy=>?_⟩;rcases List.mem_cons.1 hy with rfl | hy
   ·exact hx
   ·cases e:lt x y
    ·have:=h.RY x y b e (hb y hy);rw[this]at hx;cases hx
    ·rfl
  ·obtain⟨B1,B2,rfl,h1,h2⟩:=ih hB;refine⟨b::B1,B2,rfl,fun y hy=>?_,h2⟩;rcases List.mem_cons.1 hy with rfl | hy
   ·simpa using hx
   ·exact h1 y hy
theorem jo {A B:List α} : jJ lt (A++B)↔jJ lt A∧jJ lt B∧∀a∈A,∀b∈B,lt b a=false:=by
 induction A with
 |nil=>simp[jJ]
 |cons x A ih =>
  simp only[List.cons_append,jJ,ih,List.mem_append,List.mem_cons];constructor
  ·rintro⟨h1,h2,h3,h4⟩;refine⟨⟨fun y hy=>h1 y (.inl hy),h2⟩,h3,?_⟩;rintro a (rfl | ha) b hb
   ·exact h1 b (.inr hb)
   ·exact h4 a ha b hb
  ·rintro⟨⟨h1,h2⟩,h3,h4⟩;refine⟨?_,h2,h3,fun a ha b hb=>h4 a (.inr ha) b hb⟩;rintro y (hy | hy)
   ·exact h1 y hy
   ·exact h4 x (.inl rfl) y hy
theorem DN (h:SW lt) {B:List α} (hs:jJ lt B) (x:α):jJ lt (mV lt B x):=by
 obtain⟨B1,B2,rfl,h1,h2⟩:=qw h B x hs;rw[E_ lt B1 B2 x h1 h2];obtain⟨s1,s2,s3⟩:=jo.1 hs;refine jo.2 ⟨s1,⟨fun y hy=>h.asy _ _ (h2 y hy),s2⟩,fun a ha b hb=>?_⟩;rcases List.mem_cons.1 hb with rfl | hb
 ·exact h1 a ha
 ·exact s3 a ha b hb
theorem Kz (h:SW lt) (l B:List α) (hs:jJ lt B):jJ lt (l.foldl (mV lt) B):=by
 induction l generalizing B with
 |nil=>exact hs
 |cons x l ih=>exact ih _ (DN h hs x)
theorem kR (h:SW lt) (l:List α):jJ lt (bM lt l):=Kz h l [] trivial
theorem RZ {B:List α} {x y:α} : y∈mV lt B x↔y=x∨y∈B:=by
 unfold mV;rw[List.mem_append,List.mem_cons];constructor
 ·rintro (h | h | h)
  ·exact .inr (List.mem_of_mem_take h)
  ·exact .inl h
  ·exact .inr (List.mem_of_mem_drop h)
 ·rintro (h | h)
  ·exact .inr (.inl h)
  ·rw[←List.take_append_drop (posR lt B x) B,List.mem_append]at h;rcases h with h | h
   ·exact .inl h
   ·exact .inr (.inr h)
theorem qx {A B:List α} {y:α} : y∈bI lt A B↔y∈A∨y∈B:=by
 match A,B with
 |[],B=>simp[dI]
 |a::A,[]=>simp[dN]
 |a::A,b::B =>
  rw[bI]
  split
  ·have ih:=qx (A:=a::A) (B:=B) (y:=y);rw[List.mem_cons,ih];simp only[List.mem_cons];constructor
   ·rintro (h | (h | h) | h)<;>simp[h]
   ·rintro ((h | h) | h | h)<;>simp[h]
  ·have ih:=qx (A:=A) (B:=b::B) (y:=y);rw[List.mem_cons,ih];simp only[List.mem_cons];constructor
   ·rintro (h | h | h | h)<;>simp[h]
   ·rintro ((h | h) | h | h)<;>simp[h]
termination_by A.length+B.length
theorem KA (h:SW lt) {A B:List α} (hA:jJ lt A) (hB:jJ lt B) (x:α):bI lt A (mV lt B x)=mV lt (bI lt A B) x:=by
 obtain⟨B1,B2,rfl,b1,b2⟩:=qw h B x hB;obtain⟨A1,A2,rfl,a1,a2⟩:=qw h A x hA;have c1:∀u∈A1,∀v∈B2,lt v u=false:=fun u hu v hv=>h.RY v x u (h.asy _ _ (b2 v hv)) (a1 u hu);have c2:∀v∈B1,∀u∈A2,lt v u=true:=by
  intro v hv u hu;cases e:lt v u
  ·have:=h.RY x v u (b1 v hv) e;rw[a2 u hu]at this;cases this
  ·rfl
 rw[E_ lt B1 B2 x b1 b2,fG lt A1 A2 B1 B2 c1 c2];have e1:B1++x::B2=(B1++[x])++B2:=by simp
 rw[e1,fG lt A1 A2 (B1++[x]) B2 c1 (by
  intro v hv u hu;rcases List.mem_append.1 hv with hv | hv
  ·exact c2 v hv u hu
  ·obtain rfl:=List.mem_singleton.1 hv;exact a2 u hu)]
 have e2:=fG lt A1 [] B1 [x] (fun u hu v hv=>by obtain rfl:=List.mem_singleton.1 hv;exact a1 u hu) (fun _ _ _ hx=>by cases hx);rw[List.append_nil,dI]at e2;rw[e2,E_ lt (bI lt A1 B1) (bI lt A2 B2) x]
 ·simp
 ·intro y hy;rcases qx.1 hy with hy | hy
  ·exact a1 y hy
  ·exact b1 y hy
 ·intro y hy;rcases qx.1 hy with hy | hy
  ·exact a2 y hy
  ·exact b2 y hy
theorem yG (h:SW lt) (l r:List α):bI lt (bM lt l) (bM lt r)=bM lt (l++r):=by
 have key:∀(r B:List α),jJ lt B→bI lt (bM lt l) (r.foldl (mV lt) B)=r.foldl (mV lt) (bI lt (bM lt l) B):=by
  intro r
  induction r with
  |nil=>intro B _;rfl
  |cons x r ih =>
   intro B hB;rw[List.foldl_cons,List.foldl_cons,ih _ (DN h hB x),KA h (kR h l) hB]
 unfold bM;rw[List.foldl_append];have:=key r [] trivial;rw[dN]at this;exact this
end
end Go.Proofs.YtjidhhfabfnhnaaGreat
namespace Go.Proofs.YtjidhhfabfnhnaaGreat
open Go.RowKit
theorem xC {α:Type} (lt:α→α→Bool) (S1 S2:List α) (x:α) (h1:∀y,S1.getLast?=some y→lt x y=false) (h2:∀y∈S2,lt x y=true):mV lt (S1++S2) x=S1++x::S2:=by
 have hp:posR lt (S1++S2) x=S1.length:=by
  have ht:((S1++S2).reverse.takeWhile (fun y=>lt x y))=S2.reverse:=by
   rw[List.reverse_append,List.takeWhile_append_of_pos (by intro y hy;exact h2 y (by simpa using hy))];have:S1.reverse.takeWhile (fun y=>lt x y)=[]:=by
    rcases List.eq_nil_or_concat S1 with rfl | ⟨S,y,rfl⟩
    ·rfl
    ·have:=h1 y (by simp);simp[this]
   rw[this,List.append_nil]
  rw[posR,ht];simp
 rw[mV,hp];simp
theorem Af {α:Type} (lt:α→α→Bool) (l:List α) (x:α):bM lt (l++[x])=mV lt (bM lt l) x:=by simp[bM]
theorem Hy {α:Type} (lt:α→α→Bool) (p:List α) (x:α):(mV lt p x).length=p.length+1:=by
 have:posR lt p x≤p.length:=Nat.sub_le _ _;simp[mV];omega
theorem cu {α:Type} (lt:α→α→Bool) (l:List α):(bM lt l).length=l.length:=by
 suffices h:∀B:List α,(l.foldl (mV lt) B).length=B.length+l.length by simpa [bM]using h []
 induction l with
 |nil=>intro B;simp
 |cons x r ih=>intro B;rw[List.foldl_cons,ih,Hy];simp;omega
def n_ {α:Type} (lt:α→α→Bool) (l:List α) (a k:Nat):List α:=l.take a++bM lt ((l.drop a).take (k-a))++l.drop k
theorem Hz {α:Type} (lt:α→α→Bool) (l:List α) (a:Nat):n_ lt l a (a+1)=l:=by
 have:bM lt ((l.drop a).take (a+1-a))=(l.drop a).take 1:=by
  rw[show a+1-a=1 by omega];cases l.drop a with
  |nil=>rfl
  |cons x r=>simp[bM,mV,posR]
 rw[n_,this,List.append_assoc,show l.drop (a+1)=(l.drop a).drop 1 by rw[List.drop_drop],List.take_append_drop,List.take_append_drop]
def KC (K:Nat) (caps:Array Value) (cv:bP→bP→Int):Prop:=∀(x y:bP) (w:World),Calls Tryz.prog K (#[.agg (ak x).toArray,.agg (ak y).toArray]++caps) w fun e w'=>e=.returned (.int .i64 (cv x y))∧Below w.heap.size w w'
def ltOf {α:Type} (cv:α→α→Int) (x y:α):Bool:=decide (cv x y<0)
theorem iV {α:Type} (P Q:List α) (x:α) (j:Nat) (hj:j=P.length):∃h:j<(P++x::Q).length,(P++x::Q)[j]=x:=by
 subst hj;exact⟨by simp,by simp⟩
theorem DR {α:Type} (P Q:List α) (x y:α) (j:Nat) (hj:j=P.length+1):((P++y::x::Q).set j y).set (j-1) x=P++x::y::Q:=by
 subst hj;rw[List.set_append_right _ _ (by omega),show P.length+1-P.length=1 by omega,List.set_cons_succ,List.set_cons_zero,Nat.add_sub_cancel,List.set_append_right _ _ (Nat.le_refl _),Nat.sub_self,List.set_cons_zero]
set_option maxHeartbeats 4000000 in
theorem H6 (K:Nat) (caps:Array Value) (cv:bP→bP→Int) (eg:∀args w,(callFunc K args).run Tryz.prog w=.ok (.enter K args) w) (hcmp:KC K caps cv)
  (base g n c a b:Nat) (l:List bP) (w:World) (hr:aW ak 6 base 75 g n c w l) (hab:a≤b) (hbn:b≤n) (hn:n≤1000000) :
  Calls Tryz.prog 147 #[.slice (some ⟨g,0,none⟩) n c,.int .i64 (a:Int),.int .i64 (b:Int),.func (.func K) #[] caps] w
   fun e w'=>e=.returned (.tuple #[])∧aW ak 6 base 75 g n c w' (n_ (ltOf cv) l a b)∧w.grownBy w' (some g):=by
 have hc:=hr.le;have hln:=hr.1;have uz:=Lib.hid hln;have KD:=Lib.hid hcmp;by_cases hlt:a<b
 ·have h0:aW ak 6 base 75 g n c w (n_ (ltOf cv) l a (a+1)):=by rw[Hz];exact hr
  have H0:=Lib.hid h0;have hg0:w.grownBy w (some g):=iQ _ _;have vM:=Lib.hid hg0;clear hr h0 hln hcmp hg0;go_enter Tryz.func147,Tryz.ntmps147;go_wp2;go_loopw [8] (fun i wr=>∃k:Nat,a<k∧k≤b∧i=.int .i64 k∧Hid (aW ak 6 base 75 g n c wr (n_ (ltOf cv) l a k))∧Hid (w.grownBy wr (some g))) (fun i _=>b-(intOf i).toNat)
  case atStart=>exact⟨a+1,by omega,by omega,by go_num,H0,vM⟩
  case round =>
   clear H0 vM;obtain⟨k,hak,hkb,rfl,HR,HG⟩:=hrel;by_cases hkl:k<b
   ·have hkz:k<l.length:=by rw[uz.out];omega
    obtain⟨x,hx⟩:∃x,x=l[k]:=⟨_,rfl⟩;have hdk:l.drop k=x::l.drop (k+1):=by rw[hx];exact List.drop_eq_getElem_cons hkz
    obtain⟨S,hS⟩:∃S,S=bM (ltOf cv) ((l.drop a).take (k-a)):=⟨_,rfl⟩;have hSl:S.length=k-a:=by rw[hS,cu];simp;omega
    have hPl:(l.take a).length=a:=by simp;omega
    have hnext:n_ (ltOf cv) l a (k+1)=l.take a++mV (ltOf cv) S x++l.drop (k+1):=by
     have h1:(l.drop a).take (k+1-a)=(l.drop a).take (k-a)++[x]:=by
      rw[show k+1-a=(k-a)+1 by omega,List.take_succ_eq_append_getElem (by simp;omega),hx];congr 2;rw[List.getElem_drop];congr 1;omega
     rw[n_,h1,Af,hS]
    obtain⟨Pp,hPp⟩:∃Pp,Pp=l.take a:=⟨_,rfl⟩;obtain⟨T,hT⟩:∃T,T=l.drop (k+1):=⟨_,rfl⟩;have hrow0:aW ak 6 base 75 g n c wr (Pp++(S++x::T)):=by
     have:=HR.out;rw[n_,←hS,hdk,←hPp,←hT]at this;simpa using this
    rw[←hPp]at hPl hnext;rw[←hT]at hnext;have hX:∃X,(ak x).toArray=X:=⟨_,rfl⟩;obtain⟨X,hX⟩:=hX;have HX:=Lib.hid hX;have HN:=Lib.hid hnext;have HSL:=Lib.hid hSl;have uQ:=Lib.hid hPl;have HR0:=Lib.hid hrow0;have hall0:∀y∈([]:List bP),ltOf cv x y=true:=fun y hy=>by cases hy
    have HA0:=Lib.hid hall0;have hj0:(k:Nat)=a+S.length:=by omega
    have Ot:=Lib.hid hj0;have Gp:=Lib.hid (show S++[]=S from List.append_nil S);have hgr0:wr.grownBy wr (some g):=iQ _ _;have HGR:=Lib.hid hgr0;clear hx hdk hS hSl hPl hnext hPp hT hrow0 hX HR hall0 hj0 hgr0;obtain⟨wo,hwo⟩:∃wo:World,wo=wr:=⟨_,rfl⟩;rw[←hwo]at HR0 HG HGR⊢;clear hwo;go_wp2_with fail;go_loopw [9] (fun jj wi=>∃(j:Nat) (S1 S2:List bP),j≤k∧a≤j∧jj=.int .i64 j∧Hid (j=a+S1.length)∧Hid (S1++S2=S)∧Hid (∀y∈S2,ltOf cv x y=true)∧Hid (aW ak 6 base 75 g n c wi (Pp++(S1++x::(S2++T))))∧Hid (wo.grownBy wi (some g))) (fun jj _=>(intOf jj).toNat)
    case atStart=>exact⟨k,S,[],Nat.le_refl _,by omega,rfl,Ot,Gp,HA0,HR0,HGR⟩
    case round =>
     clear Ot Gp HA0 HR0 HGR;obtain⟨j,S1,S2,hjk,haj,rfl,HJ,Qs,HA,HR1,qZ⟩:=hrel;obtain⟨wi,hwi⟩:∃wi:World,wi=wr:=⟨_,rfl⟩;rw[←hwi]at HR1 qZ⊢;clear hwi;by_cases haj2:a<j
     ·obtain⟨H7,y,hS1⟩:∃H7 y,S1=H7++[y]:=by
       rcases List.eq_nil_or_concat S1 with h | ⟨S,y,h⟩
       ·have:=HJ.out;rw[h]at this;simp at this;omega
       ·exact⟨S,y,by simpa using h⟩
      have hrow:aW ak 6 base 75 g n c wi ((Pp++H7)++y::x::(S2++T)):=by
       have:=HR1.out;rw[hS1]at this;simpa using this
      have hj1:j-1=(Pp++H7).length:=by have h1:=HJ.out;have h2:=uQ.out;rw[hS1]at h1;simp at h1⊢;omega
      obtain⟨q1,e1⟩:=iV (Pp++H7) (x::(S2++T)) y (j-1) hj1;obtain⟨q2,e2⟩:=iV ((Pp++H7)++[y]) (S2++T) x j (by simp at hj1⊢;omega);have e3:(Pp++H7)++[y]++x::(S2++T)=(Pp++H7)++y::x::(S2++T):=by simp
      have q2':j<((Pp++H7)++y::x::(S2++T)).length:=by rw[←e3];exact q2
      have DT:=hrow.range bg q2';have DU:=hrow.range bg q1;rw[e1]at DU;have e4:((Pp++H7)++y::x::(S2++T))[j]=x:=by simp only[←e3];exact e2
      rw[e4]at DT;have hcc:=KD.out x y;obtain⟨Y,hY⟩:∃Y,(ak y).toArray=Y:=⟨_,rfl⟩;rw[hY,HX.out]at hcc;have HY:=Lib.hid hY;obtain⟨v_,hv⟩:∃v,v=cv x y:=⟨_,rfl⟩;rw[←hv]at hcc;have HC:=Lib.hid hcc;have HV:=Lib.hid hv;have rQ:=Lib.hid hrow;have Dx:=Lib.hid hS1;have Yz:=Lib.hid hj1;have Q1:=Lib.hid q1;have Q2:=Lib.hid q2';have hjn:j<n:=by omega
      clear hcc hv hrow hS1 hj1 e1 e2 e3 e4 q1 q2 q2' hY;have hki:IntKind.i64.wrap ((j:Int)-1)=(j:Int)-1:=IntWalk.i64_in _ (by omega);have hkn:((j:Int)-1).toNat=j-1:=by omega
      have hkd:decide (a<j)=true:=by simpa using haj2
      have HKI:=Lib.hid hki;go_wp2_with fail;refine aF 17 [some (.int .i64 (j:Int)),some (.int .i64 (a:Int)),some (.bool true),some (.bool true),some (.func (.func K) #[] caps),some (.slice (some ⟨g,0,none⟩) n c),some (.int .i64 (j:Int)),some (.pointer (some ⟨g,j*6,none⟩)),some (.agg X),some (.slice (some ⟨g,0,none⟩) n c),some (.int .i64 (j:Int)),some (.int .i64 ((j:Int)-1)),some (.pointer (some ⟨g,(j-1)*6,none⟩)),some (.agg Y),some (.int .i64 v_),some (.bool (decide (v_<0))),some (.bool (decide (v_<0)))] [] ?_ ?_ ?_
      ·trivial
      ·refine⟨?_,?_,?_,?_,?_,?_,?_,?_,?x8,?_,?_,?_,?_,?x13,?x14,?_,?_,trivial⟩
       case x8 =>
        intro vals w1 hx hd;clear hd;simp only[Lf,au,Act.put,bH,bG];refine aT rfl _ _ rfl g (j*6) rfl X (ak x) HX.out _ (RA.dD DT hx.aH) Tryz.underlying75 rfl bV ?_;go_wp2;exact q_
       case x13 =>
        intro vals w1 hx hd;clear hd;simp only[Lf,au,Act.put,bH,bG];refine aT rfl _ _ rfl g ((j-1)*6) rfl Y (ak y) HY.out _ (RA.dD DU hx.aH) Tryz.underlying75 rfl bV ?_;go_wp2;exact q_
       case x14 =>
        intro vals w1 hx hd;clear hd;simp only[Lf,au,Act.put,bH,bG];go_wp2_with fail;refine (HC.out _).mono ?_;rintro e w2 ⟨rfl,hb2⟩;go_wp2;exact⟨rfl,hb2,rfl⟩
       all_goals
        intro vals w1 hx hd;clear hd;simp only[Lf,au,Act.put,bH,bG];go_wp2;exact iq
      intro vals w5 hx5 hf;have e16:vals 16=.bool (decide (v_<0)):=hf 16 (by omega);clear hf;have hx5:=hx5.aH;refine dO (by kernel_rfl) ?_;simp only[Lf,au,Act.put,FR_];rw[e16];clear e16;have hX5:=RA.dD DT hx5;have hY5:=RA.dD DU hx5;have hR5:=rQ.out.ext hx5;have hG5:wo.grownBy w5 (some g):=bD qZ.out (dM hx5);have HR5:=Lib.hid hR5;have HG5:=Lib.hid hG5;have yZ:=Lib.hid hX5;have HY5:=Lib.hid hY5;clear DT DU hX5 hY5 hR5 hG5 hx5 rQ qZ HR1;by_cases hv0:v_<0
      ·have hd:decide (v_<0)=true:=by simpa using hv0
       have hkd2:(1:Int)≤j:=by omega
       go_wp2_with fail;have DT:=yZ.out;have DU:=HY5.out;refine lu 15 [(2,.slice (some ⟨g,0,none⟩) n c),(3,.int .i64 (j:Int)),(4,.int .i64 ((j:Int)-1))] (fun ix vals v w1=>match ix with | 0=>v=.slice (some ⟨g,0,none⟩) n c | 1=>v=.int .i64 (j:Int) | 2=>v=.slice (some ⟨g,0,none⟩) n c | 3=>v=.int .i64 (j:Int) | 4=>v=.int .i64 ((j:Int)-1) | 5=>v=.slice (some ⟨g,0,none⟩) n c | 6=>v=.int .i64 (j:Int) | 7=>v=.int .i64 ((j:Int)-1) | 8=>v=.pointer (some ⟨g,(j-1)*6,none⟩) | 9=>v=.agg Y | 10=>v=.slice (some ⟨g,0,none⟩) n c | 11=>v=.int .i64 (j:Int) | 12=>v=.pointer (some ⟨g,j*6,none⟩) | 13=>v=.agg X | _=>v=.pointer (some ⟨g,j*6,none⟩)) (by kernel_rfl) (by kernel_rfl) (by kernel_rfl) (by kernel_rfl) (by kernel_rfl) ?_ ?_ ?_ ?_ ?_ ?_
       ·refine⟨⟨_,rfl,by kernel_rfl,by kernel_rfl,gZ rfl rfl rfl⟩,⟨_,rfl,by kernel_rfl,by kernel_rfl,gZ rfl rfl rfl⟩,⟨_,rfl,by kernel_rfl,by kernel_rfl,zO rfl rfl rfl rfl hki⟩,trivial⟩
       ·intro j hj vals w1;simp only[List.map_cons,List.map_nil,List.mem_cons,List.not_mem_nil,or_false]at hj;rcases hj with rfl | rfl | rfl<;>rfl
       ·intro ix vals v w1 w2 hi hr hx;exact hr
       ·intro ix vals vJ v w1 hi hv hr;exact hr
       ·refine⟨?_,?_,?_,?_,?_,?_,?_,?_,?_,?_,?_,?_,?_,?_,?_,trivial⟩
        ·intro vals w1 hx hd ha;clear hd ha;simp only[Lf];go_wp2;exact q_
        ·intro vals w1 hx hd ha;clear hd ha;simp only[Lf,au,Act.put,FR_];go_wp2;exact q_
        ·intro vals w1 hx hd ha;clear hd ha;simp only[Lf,au,Act.put,FR_];go_wp2;exact q_
        ·intro vals w1 hx hd ha;clear hd ha;simp only[Lf,au,Act.put,FR_];go_wp2;exact q_
        ·intro vals w1 hx hd ha;have e3:vals 3=.int .i64 (j:Int):=hd 3 (by decide);clear hd ha;simp only[Lf,au,Act.put,FR_,e3];clear e3;go_wp2;exact q_
        ·intro vals w1 hx hd ha;clear hd ha;simp only[Lf,au,Act.put,FR_];go_wp2;exact q_
        ·intro vals w1 hx hd ha;clear hd ha;simp only[Lf,au,Act.put,FR_];go_wp2;exact q_
        ·intro vals w1 hx hd ha;have e6:vals 6=.int .i64 (j:Int):=hd 6 (by decide);clear hd ha;simp only[Lf,au,Act.put,FR_,e6];clear e6;go_wp2;exact q_
        ·intro vals w1 hx hd ha;have e5:vals 5=.slice (some ⟨g,0,none⟩) n c:=hd 5 (by decide);have e7:vals 7=.int .i64 ((j:Int)-1):=hd 7 (by decide);clear hd ha;simp only[Lf,au,Act.put,FR_,e5,e7];clear e5 e7;go_wp2;exact q_
        ·intro vals w1 hx hd ha;have e8:vals 8=.pointer (some ⟨g,(j-1)*6,none⟩):=hd 8 (by decide);clear hd ha;simp only[Lf,au,Act.put,FR_,e8];clear e8;refine ay rfl _ _ rfl g ((j-1)*6) rfl Y (ak y) HY.out _ (RA.dD DU hx.aH) Tryz.underlying75 rfl bV ?_;go_wp2;exact q_
        ·intro vals w1 hx hd ha;clear hd ha;simp only[Lf,au,Act.put,FR_];go_wp2;exact q_
        ·intro vals w1 hx hd ha;clear hd ha;simp only[Lf,au,Act.put,FR_];go_wp2;exact q_
        ·intro vals w1 hx hd ha;have e10:vals 10=.slice (some ⟨g,0,none⟩) n c:=hd 10 (by decide);have e11:vals 11=.int .i64 (j:Int):=hd 11 (by decide);clear hd ha;simp only[Lf,au,Act.put,FR_,e10,e11];clear e10 e11;go_wp2;exact q_
        ·intro vals w1 hx hd ha;have e12:vals 12=.pointer (some ⟨g,j*6,none⟩):=hd 12 (by decide);clear hd ha;simp only[Lf,au,Act.put,FR_,e12];clear e12;refine ay rfl _ _ rfl g (j*6) rfl X (ak x) HX.out _ (RA.dD DT hx.aH) Tryz.underlying75 rfl bV ?_;go_wp2;exact q_
        ·intro vals w1 hx hd ha;have e0:vals 0=.slice (some ⟨g,0,none⟩) n c:=hd 0 (by decide);have e1:vals 1=.int .i64 (j:Int):=hd 1 (by decide);have e5:vals 5=.slice (some ⟨g,0,none⟩) n c:=hd 5 (by decide);have e6:vals 6=.int .i64 (j:Int):=hd 6 (by decide);have e7:vals 7=.int .i64 ((j:Int)-1):=hd 7 (by decide);have e8:vals 8=.pointer (some ⟨g,(j-1)*6,none⟩):=hd 8 (by decide);have e9:vals 9=.agg Y:=hd 9 (by decide);have e13:vals 13=.agg X:=hd 13 (by decide);clear hd ha;simp only[Lf,au,Act.put,FR_,e0,e1,e5,e6,e7,e8,e9,e13];clear e0 e1 e5 e6 e7 e8 e9 e13;go_wp2;exact q_
       intro vals w6 hx6 hf;have e2:vals 2=.slice (some ⟨g,0,none⟩) n c:=hf 2 (by omega);have e4:vals 4=.int .i64 ((j:Int)-1):=hf 4 (by omega);have e9:vals 9=.agg Y:=hf 9 (by omega);have e13:vals 13=.agg X:=hf 13 (by omega);have e14:vals 14=.pointer (some ⟨g,j*6,none⟩):=hf 14 (by omega);clear hf;have hx6:=hx6.aH;have KE:=HR5.out.ext hx6;obtain⟨hs1,hg1⟩:=KE.store bg Q2.out y;have ht1:=KE.there bg Q2.out;have hl1:j-1<(((Pp++H7)++y::x::(S2++T)).set j y).length:=by simpa using Q1.out
       obtain⟨hs2,hg2⟩:=hs1.store bg hl1 x;have ht2:=hs1.there bg hl1;rw[DR (Pp++H7) (S2++T) x y j (by have:=Yz.out;omega)]at hs2;have R_:wo.grownBy ((w6.setCells g (j*6) (ak y)).setCells g ((j-1)*6) (ak x)) (some g):=bD (bD HG5.out (dM hx6)) (bD hg1 hg2);have HT1:=Lib.hid ht1;have HT2:=Lib.hid ht2;have hs2':aW ak 6 base 75 g n c ((w6.setCells g (j*6) (ak y)).setCells g ((j-1)*6) (ak x)) (Pp++(H7++x::((y::S2)++T))):=by simpa using hs2
       have HS2:=Lib.hid hs2';have NI:=Lib.hid R_;clear ht1 ht2 hs1 hg1 hs2 hg2 hs2' R_ KE hl1 DT DU yZ HY5 HR5 HG5;refine oK 15 _ _ 2 (by kernel_rfl) rfl ?_ (fun a w q=>oK 16 _ _ 1 (by kernel_rfl) rfl q (fun a w q=>eP 17 _ (by kernel_rfl) (by kernel_rfl) rfl q));simp only[Lf,au,Act.put,FR_];rw[e2,e4,e9,e13,e14];clear e2 e4 e9 e13 e14;refine dL rfl _ _ _ rfl g (j*6) Y (ak y) HY.out rfl rfl HT1.out bV (by simp[ak,Value.oneCell']) ?_;go_wp2_with (refine dL rfl _ _ _ rfl g ((j-1)*6) X (ak x) HX.out rfl rfl HT2.out bV (by simp[ak,Value.oneCell']) ?_);refine Dq ?_;generalize (w6.setCells g (j*6) (ak y)).setCells g ((j-1)*6) (ak x)=w8 at HS2 NI⊢;have hA2:∀z∈y::S2,ltOf cv x z=true:=by
        intro z hz;rcases List.mem_cons.1 hz with rfl | hz
        ·rw[ltOf,←HV.out];exact hd
        ·exact HA.out z hz
       have HA2:=Lib.hid hA2;have hss2:H7++y::S2=S:=by rw[←Qs.out,Dx.out];simp
       have HSS2:=Lib.hid hss2;have hjj:j-1=a+H7.length:=by have h1:=HJ.out;rw[Dx.out]at h1;simp at h1;omega
       have HJJ:=Lib.hid hjj;clear hA2 hss2 hjj;go_wp2;go_roundw
       case rel=>exact⟨j-1,H7,y::S2,by omega,by omega,by rw[show ((j-1:Nat):Int)=(j:Int)-1 by omega],HJJ,HSS2,HA2,HS2,NI⟩
       case measure=>simp[intOf];omega
      ·have hd:decide (v_<0)=false:=by simpa using hv0
       have hfin:aW ak 6 base 75 g n c w5 (n_ (ltOf cv) l a (k+1)):=by
        have h:=HR5.out;rw[HN.out,←Qs.out,Dx.out,xC (ltOf cv) (H7++[y]) S2 x (fun z hz=>by simp at hz;subst hz;rw[ltOf,←HV.out];exact hd) HA.out];simpa using h
       have KF:=Lib.hid hfin;have HG7:=Lib.hid (bD HG.out HG5.out);clear hfin;go_wp2;go_roundw
       case rel=>exact⟨k+1,by omega,by omega,by go_num,KF,HG7⟩
       case measure=>simp[intOf];omega
     ·have hkd:decide (a<j)=false:=by simpa using haj2
      have hS1:S1=[]:=by
       have h1:=HJ.out;exact List.eq_nil_of_length_eq_zero (by omega)
      have hfin:aW ak 6 base 75 g n c wi (n_ (ltOf cv) l a (k+1)):=by
       have h:=HR1.out;rw[HN.out,←Qs.out,hS1,xC (ltOf cv) [] S2 x (fun z hz=>by simp at hz) HA.out];rw[hS1]at h;simpa using h
      have hgf:=bD HG.out qZ.out;have Z5:=Lib.hid hfin;have vM:=Lib.hid hgf;clear hS1 hfin hgf HR1 qZ;go_wp2_with fail;refine aF 17 [some (.int .i64 (j:Int)),some (.int .i64 (a:Int)),some (.bool false),some (.bool false),some (undef),some (undef),some (undef),some (undef),some (undef),some (undef),some (undef),some (undef),some (undef),some (undef),some (undef),some (undef),some (.bool false)] [] ?_ ?_ ?_
      ·trivial
      ·refine⟨?_,?_,?_,?_,?_,?_,?_,?_,?_,?_,?_,?_,?_,?_,?_,?_,?_,trivial⟩
       all_goals
        intro vals w1 hx hd;clear hd;simp only[Lf,au,Act.put,bH,bG];go_wp2;exact iq
      intro vals w5 hx5 hf;have e16:vals 16=.bool false:=hf 16 (by omega);clear hf;have hx5:=hx5.aH;refine dO (by kernel_rfl) ?_;simp only[Lf,au,Act.put,FR_];rw[e16];clear e16;have KF:=Lib.hid (Z5.out.ext hx5);have HG7:=Lib.hid (bD vM.out (dM hx5));clear hx5;go_wp2;go_roundw
      case rel=>exact⟨k+1,by omega,by omega,by go_num,KF,HG7⟩
      case measure=>simp[intOf];omega
   ·go_wp2;have hkb2:k=b:=by omega
    have HRB:=HR.out;rw[hkb2]at HRB;have HRB:=Lib.hid HRB;clear hkb2;go_end0;exact⟨rfl,HRB.out,HG.out⟩
 ·obtain rfl:a=b:=by omega
  have hr2:n_ (ltOf cv) l a a=l:=by simp[n_,bM]
  rw[hr2];have HR:=Lib.hid hr;clear hr hln hcmp hr2;go_enter Tryz.func147,Tryz.ntmps147;go_wp2;go_loopw [8] (fun i wr=>i=.int .i64 ((a:Int)+1)∧wr=w) (fun _ _=>0)
  case atStart=>exact⟨rfl,rfl⟩
  case round =>
   obtain⟨rfl,rfl⟩:=hrel;go_wp2;go_end0;exact⟨rfl,HR.out,iQ _ _⟩
end Go.Proofs.YtjidhhfabfnhnaaGreat
namespace Go.Proofs.YtjidhhfabfnhnaaGreat
open Go.RowKit
theorem WE (K:Nat) (caps:Array Value) (w:World):Calls Tryz.prog 147 #[.slice none 0 0,.int .i64 0,.int .i64 0,.func (.func K) #[] caps] w fun e w'=>e=.returned (.tuple #[])∧w=w':=by
 go_enter Tryz.func147,Tryz.ntmps147;go_wp2;go_loopw [8] (fun i wr=>i=.int .i64 1∧wr=w) (fun _ _=>0)
 case atStart=>exact⟨rfl,rfl⟩
 case round =>
  obtain⟨rfl,rfl⟩:=hrel;go_wp2;go_end0;exact⟨rfl,rfl⟩
theorem KG (K:Nat) (caps:Array Value) (w:World):Calls Tryz.prog 106 #[.slice none 0 0,.int .i64 0,.func (.func K) #[] caps] w fun e w'=>e=.returned (.tuple #[])∧w=w':=by
 go_enter Tryz.func106,Tryz.ntmps106;go_wp2;go_loopw [7,8] (fun x y wr=>x=.int .i64 0∧y=.int .i64 20∧wr=w) (fun _ _ _=>0)
 case atStart=>exact⟨rfl,rfl,rfl⟩
 case round =>
  obtain⟨rfl,rfl,rfl⟩:=hrel;go_wp2_with (go_at_call 147;refine (WE K caps _).mono ?_;rintro e w' ⟨rfl,rfl⟩);go_loopw [6] (fun x wi=>x=.int .i64 20∧wi=wr) (fun _ _=>0)
  case atStart=>exact⟨rfl,rfl⟩
  case round =>
   obtain⟨rfl,rfl⟩:=hrel;go_wp2;go_end0;exact⟨rfl,rfl⟩
theorem H9 (K:Nat) (caps:Array Value) (w:World):Calls Tryz.prog 49 #[.slice none 0 0,.func (.func K) #[] caps] w fun e w'=>e=.returned (.tuple #[])∧w=w':=by
 go_enter Tryz.func49,Tryz.ntmps49;go_wp2_with (go_at_call 106;refine (KG K caps _).mono ?_;rintro e w' ⟨rfl,rfl⟩);go_end0;exact⟨rfl,rfl⟩
end Go.Proofs.YtjidhhfabfnhnaaGreat
namespace Go.Proofs.YtjidhhfabfnhnaaGreat
open Go.RowKit
def iI (x:Vg):List Value:=[.int .i64 x.x,.int .i64 x.y]
theorem WG (x:Vg):(iI x).length=2:=rfl
def cellAt (o:iM) (m:Int):Vg:=⟨qX o m / 1000,rowP o m / 1000⟩
def mW (o:iM) (m:Int) (k:Nat):List Vg:=(List.range k).map (fun j:Nat=>cellAt o (m+j))
def kS (o:iM) (s:iD) (m:Int):Bool:=decide (jB (cellAt o m) s.cell≤s.reach)
set_option maxHeartbeats 1000000 in
theorem OE (o:iM) (id x y re an sk a b sl t:Int) (gt gr gp gl gs n c base:Nat) (w:World) (h1:0≤sl∧sl≤10) (h3:a-sl≤t∧t<a-sl+n) (hn:n≤10000)
  (KT:aG w gt 146 #[.slice (some ⟨gr,0,none⟩) n c]) (KR:aW iI 2 base 69 gr n c w (mW o (a-sl) n)) (KP:aG w gp 32 #[.int .i64 a,.int .i64 b]) (KL:aG w gl 3 #[.int .i64 sl])
  (KS:aG w gs 71 #[.int .i64 id,.int .i64 x,.int .i64 y,.int .i64 re,.int .i64 an,.int .i64 sk]) :
  Calls Tryz.prog 89 #[.int .i64 t,.pointer (some ⟨gt,0,none⟩),.pointer (some ⟨gp,0,none⟩),.pointer (some ⟨gl,0,none⟩),.pointer (some ⟨gs,0,none⟩)] w fun e w'=>e=.returned (.bool (kS o ⟨id,⟨x,y⟩,re,an,sk⟩ t))∧Below w.heap.size w w':=by
 obtain⟨k,hk⟩:∃k:Nat,t-a+sl=(k:Int):=⟨(t-a+sl).toNat,by omega⟩;have hkn:k<n:=by omega
 have hkl:k<(mW o (a-sl) n).length:=by simp[mW];exact hkn
 have hrg:=KR.range WG hkl;have hkc:(mW o (a-sl) n)[k]=cellAt o t:=by simp[mW];congr 1;omega
 rw[hkc]at hrg;have hr0:kS o ⟨id,⟨x,y⟩,re,an,sk⟩ t=decide (jB (cellAt o t) ⟨x,y⟩≤re):=rfl;rw[hr0];obtain⟨cx,cy,hc⟩:∃cx cy,cellAt o t=⟨cx,cy⟩:=⟨_,_,rfl⟩;rw[hc]at hrg⊢;have r0:w.cell? ⟨gr,k*2,none⟩=some (.int .i64 cx):=hrg 0 _ rfl;have r1:w.cell? ⟨gr,k*2+1,none⟩=some (.int .i64 cy):=hrg 1 _ rfl;have Si:=QH cx cy x y;generalize jB ⟨cx,cy⟩ ⟨x,y⟩=N at Si⊢;have HN:=Lib.hid Si;have hcap:=KR.le;have q0:w.cell? ⟨gt,0,none⟩=some (.slice (some ⟨gr,0,none⟩) n c):=KT.cell 0;have p0:w.cell? ⟨gp,0,none⟩=some (.int .i64 a):=KP.cell 0;have l0:w.cell? ⟨gl,0,none⟩=some (.int .i64 sl):=KL.cell 0;have s1:w.cell? ⟨gs,1,none⟩=some (.int .i64 x):=KS.cell 1;have s2:w.cell? ⟨gs,2,none⟩=some (.int .i64 y):=KS.cell 2;have s3:w.cell? ⟨gs,3,none⟩=some (.int .i64 re):=KS.cell 3;have hw1:IntKind.i64.wrap (t-a)=t-a:=IntWalk.i64_in _ (by omega);have hw2:IntKind.i64.wrap (t-a+sl)=(k:Int):=by rw[hk];exact IntWalk.i64_in _ (by omega)
 have hkb:(k:Int)<(n:Int):=by omega
 have HK:=Lib.hid hk;clear Si hrg hkc hkl hr0 hc KT KR KP KL KS hk;go_enter Tryz.func89,Tryz.ntmps89;go_wp2_with fail;refine aF 15 [some (.slice (some ⟨gr,0,none⟩) n c),some (.int .i64 t),some (.pointer (some ⟨gp,0,none⟩)),some (.int .i64 a),some (.int .i64 (t-a)),some (.int .i64 sl),some (.int .i64 (k:Int)),some (.pointer (some ⟨gr,k*2,none⟩)),some (.agg #[.int .i64 cx,.int .i64 cy]),some (.pointer (some ⟨gs,1,none⟩)),some (.agg #[.int .i64 x,.int .i64 y]),some (.int .i64 N),some (.pointer (some ⟨gs,3,none⟩)),some (.int .i64 re),some (.bool (decide (N≤re)))] [] ?_ ?_ ?_
 ·trivial
 ·refine⟨?_,?_,?_,?_,?_,?_,?_,?_,?x8,?_,?_,?x11,?_,?_,?_,trivial⟩
  case x8 =>
   intro vals w1 hx hd;clear hd;simp only[Lf,au,Act.put,bH,bG];have r0:=ah hx r0;have r1:=ah hx r1;go_wp2;exact q_
  case x11 =>
   intro vals w1 hx hd;clear hd;simp only[Lf,au,Act.put,bH,bG];go_wp2_with fail;refine (HN.out _).mono ?_;rintro e w2 ⟨rfl,hb2⟩;go_wp2;exact⟨rfl,hb2,rfl⟩
  all_goals
   intro vals w1 hx hd;clear hd;simp only[Lf,au,Act.put,bH,bG];have q0:=ah hx q0;have p0:=ah hx p0;have l0:=ah hx l0;have s1:=ah hx s1;have s2:=ah hx s2;have s3:=ah hx s3;go_wp2;exact iq
 intro vals w5 hx hf;have e14:vals 14=.bool (decide (N≤re)):=hf 14 (by omega);clear hf;have iJ:Below w.heap.size w w5:=hx.aH;refine eP 15 _ (by kernel_rfl) (by kernel_rfl) rfl ?_;simp only[Lf,au,Act.put,FR_];rw[e14];go_wp2;go_ret;exact⟨rfl,iJ⟩
end Go.Proofs.YtjidhhfabfnhnaaGreat
namespace Go.Proofs.YtjidhhfabfnhnaaGreat
open Go.RowKit Go.Shelf
def h_ (s:St) (st:iD) (span x:iO):bP:=⟨s.id,st.id,iy x (-s.aY.dP) span,iy x s.aY.dP span⟩
def eU (s:St) (span:iO) (st:iD):List bP:=(bK (kS s.aY st) (span.fr-s.aY.dP) (span.tt-span.fr+2*s.aY.dP).toNat).map (h_ s st span)
def mX (sats:List St) (aK:List iD) (span:iO):List bP:=sats.flatMap fun s=>aK.flatMap (eU s span)
def ltPas (x y:bP):Bool:=ltOf aU x y
def dB (sats:List St) (aK:List iD) (span:iO):Option (List bP) :=
 if (gV span&&eH sats&&gU aK)=true then (if (mX sats aK span).length≤64 then some (bM (ltOf aU) (mX sats aK span)) else none) else none
def mark (D:Nat):Deferred:={ target:=.collected D,args:=#[] }
structure dW (B:Nat) (Ds:List Nat) (W:World):Prop where
 nodup:Ds.Nodup
 ok:∀D∈Ds,B≤D∧W.heap[D]?=some (.deferred (some []))
theorem dW.nil (B:Nat) (W:World):dW B [] W:=⟨List.nodup_nil,fun D h=>by cases h⟩
theorem dW.lt {B:Nat} {Ds:List Nat} {W:World} (h:dW B Ds W):∀D∈Ds,D<W.heap.size:=fun D hD=>(Array.getElem?_eq_some_iff.1 (h.ok D hD).2).1
theorem dW.keeps {B:Nat} {Ds:List Nat} {W W':World} (h:dW B Ds W) (hk:KeepsOthers W W'):dW B Ds W':=⟨h.nodup,fun D hD=>⟨(h.ok D hD).1,hk.same D _ (h.ok D hD).2 rfl⟩⟩
theorem dW.ext {B:Nat} {Ds:List Nat} {W W':World} (h:dW B Ds W) (hx:Ext W W'):dW B Ds W':=⟨h.nodup,fun D hD=>⟨(h.ok D hD).1,(hx.block D (h.lt D hD)).trans (h.ok D hD).2⟩⟩
theorem dW.cons {B:Nat} {Ds:List Nat} {W:World} {D:Nat} (h:dW B Ds W) (hB:B≤D) (hD:W.heap[D]?=some (.deferred (some []))) (hn:D∉Ds):dW B (D::Ds) W :=
 ⟨List.nodup_cons.2 ⟨hn,h.nodup⟩,fun E hE=>by
  rcases List.mem_cons.1 hE with rfl | hE
  ·exact⟨hB,hD⟩
  ·exact h.ok E hE⟩
theorem jq {F:Fence} {n:Nat} {P:Program} {fn:Func} {tmps:Array Value} {R:Ending→World→Prop} {B:Nat} {J:World→Prop} (hJ:OwnFrom B (fun (_:Unit) W=>J W))
  (hfin:∀W,J W→∃v,(results fn tmps).run P W=.ok v W∧R (.returned v) W):∀(Ds:List Nat) (W:World),dW B Ds W→J W→LeavesInM F n P fn tmps R (Ds.map mark) .returning W:=by
 intro Ds
 induction Ds with
 |nil=>intro W _ h;exact hfin W h
 |cons D Ds ih =>
  intro W hm h;have hD:=hm.ok D (List.mem_cons_self ..);have hn:=List.nodup_cons.1 hm.nodup;refine⟨by simp,.inl ⟨D,W.putObj D (.deferred none),rfl,run_takeDeferred hD.2,ih _ ⟨hn.2,fun E hE=>?_⟩ ?_⟩⟩
  ·have:=hm.ok E (List.mem_cons_of_mem _ hE);exact⟨this.1,(World.putObj_heap_other (fun e=>hn.1 (by cases e;exact hE))).trans this.2⟩
  ·exact hJ () W _ (some D) h (grownBy_putObj' W D _) (fun r e=>by cases e;exact⟨hD.1,_,hD.2,rfl⟩)
theorem OG {o:iM} (ho:dw o=true) {m:Int} (h1 : -10≤m) (h2:m≤1000010):Nb o (min 1000000 (max 0 m)) (min 1000000 (max 0 m)-m)=some (cellAt o m):=by
 have e:min 1000000 (max 0 m)-(min 1000000 (max 0 m)-m)=m:=by omega
 have h3:(inB (min 1000000 (max 0 m)) 0 1000000&&inB (min 1000000 (max 0 m)-m) (-10) 10&&dw o)=true:=by
  rw[ho,Bool.and_true,Bool.and_eq_true,jf,jf];omega
 rw[Nb,if_pos h3,e];rfl
theorem rV (o:iM) (m:Int) (k:Nat):mW o m (k+1)=mW o m k++[cellAt o (m+k)]:=by simp[mW,List.range_succ]
theorem vN {l:List St} (h:eH l=true):l.length≤24∧∀x∈l,dQ x=true:=by
 simp only[eH,Bool.and_eq_true,decide_eq_true_eq]at h;refine⟨h.1,?_⟩;have:∀(l:List St) (p:Option St),dH dQ (fun x=>x.id) p l=true→∀x∈l,dQ x=true:=by
  intro l
  induction l with
  |nil=>intro p _ x hx;cases hx
  |cons y r ih =>
   intro p hp x hx;simp only[dH,Bool.and_eq_true]at hp;rcases List.mem_cons.1 hx with rfl | hx
   ·exact hp.1.1
   ·exact ih _ hp.2 x hx
 exact this l none h.2
theorem Fa {l:List iD} (h:gU l=true):l.length≤12∧∀x∈l,fZ x=true:=by
 simp only[gU,Bool.and_eq_true,decide_eq_true_eq]at h;refine⟨h.1,?_⟩;have:∀(l:List iD) (p:Option iD),dH fZ (fun x=>x.id) p l=true→∀x∈l,fZ x=true:=by
  intro l
  induction l with
  |nil=>intro p _ x hx;cases hx
  |cons y r ih =>
   intro p hp x hx;simp only[dH,Bool.and_eq_true]at hp;rcases List.mem_cons.1 hx with rfl | hx
   ·exact hp.1.1
   ·exact ih _ hp.2 x hx
 exact this l none h.2
theorem Fb {x:St} (h:dQ x=true):dw x.aY=true∧0≤x.aY.dP∧x.aY.dP≤10:=by
 simp only[dQ,Bool.and_eq_true]at h;have h1:dw x.aY=true:=by simp only[h]
 refine⟨h1,?_⟩;simp only[dw,Bool.and_eq_true,jf]at h1;exact h1.2
theorem dU {F:Fence} {n:Nat} {P:Program} {ops:Array Oper} {rest:List Oper} {op:Oper} {a:Act} {w:World} {Q:Exit→Act→World→Prop} (hgd:op.guard=none) (ty:TypeId) (x:Operand) (ho:op.op=.load ty x)
  (b o:Nat) (hx:a.eval x=.pointer (some ⟨b,o,none⟩)) (X:Array Value) (cs:List Value) (hX:cs.toArray=X) (d:TypeDesc) (hc:w.rangeAt b o cs)
  (hu:P.underlying ty=some d) (hd:d.isRow=true) (hi:(P.info? ty).map (·.size)=some cs.length)
  (h:wpListIn F n P ops Q rest (a.put op.dst (.agg X)) w):wpListIn F n P ops Q (op::rest) a w:=by
 subst hX;refine wpListIn_plain hgd fun K hK=>?_;unfold Oper.wpIn;refine⟨?_,?_⟩
 ·simp[Oper.about,ho]
 ·rw[Oper.semAt_plain F _ _ (by rw[ho];intro c hc';cases hc')];unfold execOp;simp only[ho,hx,Instr.loadAt,Instr.sureAddr,Sem.run_bind,Sem.run_pure,Result.andThen_ok,run_loadVar_mid w b o ty cs d hc hu hd hi];exact hK _ _ h
theorem fP {F:Fence} {n:Nat} {P:Program} {ops:Array Oper} {rest:List Oper} {op:Oper} {a:Act} {w:World} {Q:Exit→Act→World→Prop} (hgd:op.guard=none) (ty:TypeId) (x y:Operand) (ho:op.op=.store ty x y)
  (zs X:Array Value) (hx:a.eval x=.pointer (some ⟨w.heap.size,0,none⟩)) (hy:a.eval y=.agg X) (hi:(P.info? ty).map (·.size)=some X.size) (hz:zs.size=X.size) (h1:X.all (·.oneCell')=true)
  (h:wpListIn F n P ops Q rest (a.put op.dst undef) (w.alloc (.cells X ty))):wpListIn F n P ops Q (op::rest) a (w.alloc (.cells zs ty)):=by
 refine wpListIn_plain hgd fun K hK=>?_;unfold Oper.wpIn;refine⟨?_,?_⟩
 ·simp[Oper.about,ho]
 ·rw[Oper.semAt_plain F _ _ (by rw[ho];intro c hc';cases hc')];unfold execOp;simp only[ho,hx,hy,Instr.storeAt,Instr.sureAddr,Sem.run_bind,Sem.run_pure,Result.andThen_ok,run_storeVar_row (P:=P) (w.alloc (.cells zs ty)) w.heap.size ty ty zs X (heap_alloc_new w _) hi hz h1,zM];exact hK _ _ h
end Go.Proofs.YtjidhhfabfnhnaaGreat
namespace Go.Proofs.YtjidhhfabfnhnaaGreat
open Go.RowKit Go.Shelf
attribute [local go_sem] Oper.semAt_some
theorem qy {P:Program} {w:World} {d:Nat} {xs ys:Array Value} {f:Field} {fs:List Field} {a b:Int} (hn:f.name ≠ "_") (ha:(part f.type xs f.offset).run P w=.ok (.int .i64 a) w) (hb:(part f.type ys f.offset).run P w=.ok (.int .i64 b) w) (hi:P.underlying f.type=some (.int .i64)) :
  (Op.eqFields (d+1) xs ys (f::fs)).run P w=if a=b then (Op.eqFields (d+1) xs ys fs).run P w else .ok false w:=by
 rw[Op.eqFields,if_pos hn];simp only[Sem.run_bind,ha,Result.andThen_ok,hb,run_equalIn_int w d f.type .i64 .i64 a b hi];by_cases h:a=b
 ·rw[if_pos h,if_neg (by simp[h])]
 ·rw[if_neg h,if_pos (by simpa using h)];rfl
set_option maxRecDepth 100000 in
theorem Sj (s t:iM) (n:Nat) (w:World):(Op.equalIn (n+2) 51 (.agg (aN s).toArray) (.agg (aN t).toArray)).run Tryz.prog w=.ok (decide (s=t)) w:=by
 have hu:=Tryz.underlying51;have hi:=Tryz.underlying3;obtain⟨a0,a1,a2,a3,a4,a5,a6⟩:=s;obtain⟨b0,b1,b2,b3,b4,b5,b6⟩:=t;have hst:Tryz.prog.stoodInHeld 51=false:=by kernel_rfl
 have ht:Tryz.prog.underlying 51=some (.struct (Tryz.prog.fieldsOf 51)):=by kernel_rfl
 have hF:=congrArg (fun x=>match x with | some (TypeDesc.struct fs)=>fs | _=>#[]) (ht.symm.trans hu);dsimp only at hF;rw[run_equalIn_agg w (n+1) _ _ _ ht hst,hF];refine Eq.trans (qy (a:=a0) (b:=b0) (by decide) (by kernel_rfl) (by kernel_rfl) hi) ?_;by_cases h0:a0=b0
 ·rw[if_pos h0];refine Eq.trans (qy (a:=a1) (b:=b1) (by decide) (by kernel_rfl) (by kernel_rfl) hi) ?_;by_cases h1:a1=b1
  ·rw[if_pos h1];refine Eq.trans (qy (a:=a2) (b:=b2) (by decide) (by kernel_rfl) (by kernel_rfl) hi) ?_;by_cases h2:a2=b2
   ·rw[if_pos h2];refine Eq.trans (qy (a:=a3) (b:=b3) (by decide) (by kernel_rfl) (by kernel_rfl) hi) ?_;by_cases h3:a3=b3
    ·rw[if_pos h3];refine Eq.trans (qy (a:=a4) (b:=b4) (by decide) (by kernel_rfl) (by kernel_rfl) hi) ?_;by_cases h4:a4=b4
     ·rw[if_pos h4];refine Eq.trans (qy (a:=a5) (b:=b5) (by decide) (by kernel_rfl) (by kernel_rfl) hi) ?_;by_cases h5:a5=b5
      ·rw[if_pos h5];refine Eq.trans (qy (a:=a6) (b:=b6) (by decide) (by kernel_rfl) (by kernel_rfl) hi) ?_;by_cases h6:a6=b6
       ·rw[if_pos h6];rw[decide_eq_true (by simp[h0,h1,h2,h3,h4,h5,h6])];rfl
       ·rw[if_neg h6,decide_eq_false (fun h=>h6 (by injection h))]
      ·rw[if_neg h5,decide_eq_false (fun h=>h5 (by injection h))]
     ·rw[if_neg h4,decide_eq_false (fun h=>h4 (by injection h))]
    ·rw[if_neg h3,decide_eq_false (fun h=>h3 (by injection h))]
   ·rw[if_neg h2,decide_eq_false (fun h=>h2 (by injection h))]
  ·rw[if_neg h1,decide_eq_false (fun h=>h1 (by injection h))]
 ·rw[if_neg h0,decide_eq_false (fun h=>h0 (by injection h))]
theorem uS (a b:iM) (w:World):(binOp .eql 51 (.agg (aN a).toArray) (.agg (aN b).toArray)).run Tryz.prog w=.ok (.bool (decide (a=b))) w:=by
 have h:=Sj a b 9998 w;rw[run_eql_struct];exact (congrArg (fun r=>Result.andThen r fun b w'=>.ok (Value.bool b) w') h)
structure iW (ex:Nat→Prop) (B1 B0:Nat) (X Y:World):Prop where
 low:Below B1 X Y
 blk:∀k,B1≤k→k<B0→¬ex k→Y.heap[k]?=X.heap[k]?
section
variable {ex:Nat→Prop} {B1 B0:Nat} {A B C:World}
theorem iW.trans (h:iW ex B1 B0 A B) (k:iW ex B1 B0 B C):iW ex B1 B0 A C :=
 ⟨Below.trans h.low k.low,fun i h1 h2 h3=>(k.blk i h1 h2 h3).trans (h.blk i h1 h2 h3)⟩
theorem iW.ext (h:Ext A B) (h1:B1≤B0) (h0:B0≤A.heap.size):iW ex B1 B0 A B:=⟨h.mono (Nat.le_trans h1 h0),fun k _ hk _=>h.block k (by omega)⟩
theorem iW.get (h:iW ex B1 B0 A B) {k:Nat} (hk:k<B0) (hx:¬ex k):B.heap[k]?=A.heap[k]?:=by
 by_cases h1:k<B1
 ·exact h.low.block k h1
 ·exact h.blk k (by omega) hk hx
theorem iW.kE {g:Nat} {t:TypeId} {cs:Array Value} (h:iW ex B1 B0 A B) (hb:aG A g t cs) (hx:¬ex g∧g<B0):aG B g t cs:=(h.get hx.2 hx.1).trans hb
theorem iW.step {ex:Nat→Prop} {B1 B0:Nat} {X Y:World} {row:Option Nat} (hg:X.grownBy Y row) (h1:B1≤B0) (h0:B0≤X.heap.size) (hr:∀r,row=some r→(ex r∧B1≤r)∨B0≤r):iW ex B1 B0 X Y :=
 ⟨⟨hg.os,hg.tape,hg.output,hg.size,fun k hk=>hg.block k (by omega) fun e=>by rcases hr k e.symm with h | h<;>omega⟩,
  fun k _ hk hx=>hg.block k (by omega) fun e=>by rcases hr k e.symm with h | h;exact hx h.1;omega⟩
theorem rW {B0 B1:Nat} {ex:Nat→Prop} (h1:B1≤B0) (W:World) (l:Nat) (o o':Obj) (hl:B0≤l) (ho:W.heap[l]?=some o):iW ex B1 B0 W (W.putObj l o') :=
 iW.step (grownBy_putObj' W l o') h1 (by have:=(Array.getElem?_eq_some_iff.1 ho).1;omega) (fun r e=>by cases e;exact .inr hl)
end
theorem Fe (P:Array Value) (a b:Int) (w:World) :
  Calls Tryz.prog 48 #[.agg P,.agg #[.int .i64 a,.int .i64 b]] w fun e w'=>e=.returned (.func (.func 105) #[] #[.pointer (some ⟨w.heap.size+1,0,none⟩),.pointer (some ⟨w.heap.size,0,none⟩)]) ∧
   w'=(w.alloc (.cells P 117)).alloc (.cells #[.int .i64 a,.int .i64 b] 32):=by
 go_enter Tryz.func48,Tryz.ntmps48;go_wp2;go_ret;exact⟨rfl,rfl⟩
theorem yS {F:Fence} {n:Nat} {P:Program} {ops:Array Oper} {rest:List Oper} {o:Oper} {a:Act} {w:World} {Q:Exit→Act→World→Prop} (hg:o.guard=none) (t:TypeId) (x y:Operand) (ho:o.op=.build t #[(0,x),(1,y)]) {vx vy:Value} (X:Array Value)
  (hx:a.eval x=vx) (hy:a.eval y=vy) (hb:P.built t [(0,vx),(1,vy)]=some X) (h:wpListIn F n P ops Q rest (a.put o.dst (.agg X)) w):wpListIn F n P ops Q (o::rest) a w:=by
 have e:(Instr.build t #[(0,vx),(1,vy)]).run P w=.ok (.agg X) w:=run_build w t _ X hb;refine wpListIn_plain hg fun K hK'=>?_;unfold Oper.wpIn;refine⟨?_,?_⟩
 ·simp[Oper.about,ho]
 ·rw[Oper.semAt_plain F _ _ (by rw[ho];intro c hc';cases hc')];simp[execOp,ho,hx,hy,e,Result.andThen];exact hK' _ _ h
theorem OH (a b:Int) (o:iM):Tryz.prog.built 96 [(0,.agg #[.int .i64 a,.int .i64 b]),(1,.agg (aN o).toArray)]=some (strCells ⟨⟨a,b⟩,o⟩).toArray:=by
 obtain⟨p,f,lo,hi,no,tu,sl⟩:=o;kernel_rfl
theorem NJ (s:Str):∀j v,(aN s.eY)[j]?=some v→(strCells s).toArray[2+j]?=some v:=by
 intro j v h;have hj:j<7:=(List.getElem?_eq_some_iff.1 h).1
 match j,hj with
 |0,_=>exact h
 |1,_=>exact h
 |2,_=>exact h
 |3,_=>exact h
 |4,_=>exact h
 |5,_=>exact h
 |6,_=>exact h
theorem tK (s:Str) (X:Array Value) (h:(strCells s).toArray=X):X.size=9∧X.all (·.oneCell')=true:=by
 subst h;exact⟨rfl,VZ s⟩
theorem WH (x:St) (A:Option Addr) (n c:Nat) (kn:Int) (X:Array Value) (h:(dZ x A n c kn).toArray=X):X.size=23∧X.all (·.oneCell')=true∧X.toList=dZ x A n c kn:=by
 subst h;exact⟨rfl,V6 x A n c kn,rfl⟩
end Go.Proofs.YtjidhhfabfnhnaaGreat
