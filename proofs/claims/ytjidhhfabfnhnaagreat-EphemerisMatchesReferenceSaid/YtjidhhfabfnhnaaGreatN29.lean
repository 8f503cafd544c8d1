/- The reference: Passes (printed by contact_q3.py). -/
import Derived.Test.YtjidhhfabfnhnaaGreatN01
import Derived.Test.YtjidhhfabfnhnaaGreatN28
import Derived.BigQuiet
namespace Go.Proofs.YtjidhhfabfnhnaaGreat
open Go.RowKit
def vO (S:List St) (T:List jd) (span:jA) (i:Nat):List bY:=(S.take i).flatMap fun s=>T.flatMap (fC s span)
def pO (s:St) (T:List jd) (span:jA) (k:Nat):List bY:=(T.take k).flatMap (fC s span)
theorem BP {S:List St} {T:List jd} {span:jA} {i:Nat} (h:i<S.length):vO S T span (i+1)=vO S T span i++pO S[i] T span T.length:=by
 unfold vO pO;rw[List.take_succ_eq_append_getElem h,List.flatMap_append,List.take_length];simp
theorem BR {s:St} {T:List jd} {span:jA} {k:Nat} (h:k<T.length):pO s T span (k+1)=pO s T span k++fC s span T[k]:=by
 unfold pO;rw[List.take_succ_eq_append_getElem h,List.flatMap_append];simp
theorem Q_ {S:List St} {T:List jd} {span:jA} : vO S T span S.length=oq S T span:=by
 unfold vO oq;rw[List.take_length]
theorem uD {α β:Type} (f:α→List β) (l:List α) (i:Nat):((l.take i).flatMap f).length≤(l.flatMap f).length:=by
 have h:=List.take_append_drop i l;have:(l.flatMap f).length=((l.take i).flatMap f).length+((l.drop i).flatMap f).length:=by rw[←List.length_append,←List.flatMap_append,h]
 omega
theorem YP {S:List St} {T:List jd} {span:jA} {i k:Nat} (hi:i<S.length) (hk:k<T.length):(vO S T span i++pO S[i] T span k).length+(fC S[i] span T[k]).length≤(oq S T span).length:=by
 have h1:(vO S T span (i+1)).length≤(oq S T span).length:=uD _ _ _;have h2:(pO S[i] T span (k+1)).length≤(pO S[i] T span T.length).length:=by
  have:=uD (fC S[i] span) T (k+1);unfold pO;rw[List.take_length];exact this
 rw[BP hi,List.length_append]at h1;rw[BR hk,List.length_append]at h2;rw[List.length_append];omega
theorem kP {α:Type} {lt:α→α→Bool} (l:List α):(bP lt l).length=l.length:=by
 suffices h:∀(l B:List α),(l.foldl (oh lt) B).length=l.length+B.length by simpa [bP]using h l []
 intro l
 induction l with
 |nil=>intro B;simp
 |cons x l ih =>
  intro B;rw[List.foldl_cons,ih];have:(oh lt B x).length=B.length+1:=by
   unfold oh;simp only[List.length_append,List.length_take,List.length_cons,List.length_drop];have:posR lt B x≤B.length:=by unfold posR;omega
   omega
  rw[this,List.length_cons];omega
theorem zJ {α:Type} {cells:α→List Value} {s:Nat} (hs:∀x,(cells x).length=s) (l:List α) (k:Nat):(l.flatMap cells).drop (k*s)=(l.drop k).flatMap cells:=by
 induction l generalizing k with
 |nil=>simp
 |cons x r ih =>
  cases k with
  |zero=>simp
  |succ k=>rw[List.flatMap_cons,List.drop_succ_cons,List.drop_append,hs,List.drop_of_length_le (by rw[hs,Nat.succ_mul];omega),show (k+1)*s-s=k*s by rw[Nat.succ_mul];omega,ih,List.nil_append]
def vP (w W:World) (v:Value) (l:List bY):Prop:=W.ownsRow w.heap.size 75 6 v l.length ((bP (ltOf aY) l).flatMap ak)∧l.length≤64
theorem vP.ext {w W W':World} {v:Value} {l:List bY} (h:vP w W v l) (hx:Ext W W'):vP w W' v l:=⟨bM h.1 hx,h.2⟩
theorem vP.ra {w W:World} {A:Option Addr} {n c:Nat} {l:List bY} (h:vP w W (.slice A n c) l) (hn:n=l.length):RA ak 6 W W.heap.size A n c (bP (ltOf aY) l):=by
 subst hn;exact RA.dD h.1 (kP l) (by have:=h.2;omega)
theorem vP.form {w W:World} {v:Value} {l:List bY} (h:vP w W v l):∃A c,v=.slice A l.length c∧l.length≤c∧c≤maxLen∧((A=none∧l.length=0∧c=0)∨∃g,A=some ⟨g,0,none⟩):=by
 rcases h.1.2 with ⟨rfl,hn⟩ | ⟨g,cap,cur,rfl,_,_,h1,h2,_⟩
 ·rw[hn];exact⟨none,0,rfl,Nat.le_refl _,Nat.zero_le _,.inl ⟨rfl,rfl,rfl⟩⟩
 ·exact⟨_,_,rfl,h1,h2,.inr ⟨g,rfl⟩⟩
theorem Rf {L:List bY} {P:bY} {j:Nat} (hj:j≤(bP (ltOf aY) L).length) (h1:∀z∈(bP (ltOf aY) L).drop j,ltOf aY P z=true) (h2:j=0∨∃h:j-1<(bP (ltOf aY) L).length,0<j∧ltOf aY P (bP (ltOf aY) L)[j-1]=false) :
  bP (ltOf aY) (L++[P])=(bP (ltOf aY) L).take j++P::(bP (ltOf aY) L).drop j:=by
 rw[yD];have h:=uU (ltOf aY) ((bP (ltOf aY) L).take j) ((bP (ltOf aY) L).drop j) P (fun y hy=>by
  rcases h2 with rfl | ⟨h,hj0,h2⟩
  ·simp at hy
  ·rw[List.getLast?_take,if_neg (by omega)]at hy;rw[List.getElem?_eq_getElem h]at hy;simp at hy;rw[←hy];exact h2) h1
 rw[List.take_append_drop]at h;exact h
set_option maxRecDepth 100000 in
set_option maxHeartbeats 16000000 in
theorem Gl (S:List St) (T:List jd) (SA TA:Option Addr) (ns cs nt ct:Nat) (a b:Int) (w:World) (hS:RA aC 21 w w.heap.size SA ns cs S) (hT:RA bJ 6 w w.heap.size TA nt ct T) :
  Calls Tryz.prog 81 #[.slice SA ns cs,.slice TA nt ct,.agg #[.int .i64 a,.int .i64 b]] w (rG (dR S T ⟨a,b⟩) w):=by
 have O1:Hid (∀W,Ext w W→Calls Tryz.prog 73 #[.slice SA ns cs] W fun e w'=>e=.returned (.bool (gB S))∧Ext W w'):=Lib.hid (fun W h=>qV S SA ns cs W ((hS.below h).more (Below.size h)));have YQ:Hid (∀W,Ext w W→Calls Tryz.prog 80 #[.slice TA nt ct] W fun e w'=>e=.returned (.bool (gG T))∧Ext W w'):=Lib.hid (fun W h=>qU T TA nt ct W ((hT.below h).more (Below.size h)));have YR:=Lib.hid (Nq a b);have xg:=Lib.hid hS;have Bz:=Lib.hid hT;have hns:=hS.len;have hnt:=hT.len;have hcs:=hS.cap;have hct:=hT.cap;have hcsm:cs≤9223372036854775807:=by have h9:=hS.sJ;unfold maxLen at h9;exact h9
 have hctm:ct≤9223372036854775807:=by have h9:=hT.sJ;unfold maxLen at h9;exact h9
 clear hS hT;obtain⟨res,hres⟩:∃r,r=dR S T ⟨a,b⟩:=⟨_,rfl⟩;rw[←hres];rw[dR]at hres;obtain⟨AL,hAL⟩:∃l,l=oq S T ⟨a,b⟩:=⟨_,rfl⟩;rw[←hAL]at hres;have hso:=fun h:gB S=true=>xq h;have hto:=fun h:gG T=true=>Kt h;have hsp:gQ ⟨a,b⟩=true→0≤a∧a<b∧b≤1000001∧b-a≤4320:=fun h=>by simpa [gQ]using h
 generalize gB S=qs at O1 hres hso;generalize gG T=qt at YQ hres hto;generalize gQ ⟨a,b⟩=qp at YR hres hsp;have jg:=Lib.hid hres;have HSO:=Lib.hid hso;have HTO:=Lib.hid hto;have Fh:=Lib.hid hsp;have yL:=Lib.hid hAL;have HNS:=Lib.hid hns;have HNT:=Lib.hid hnt;clear hres hso hto hsp hAL hns hnt;go_enter Tryz.func81,Tryz.ntmps81;go_wp2_with fail;have J5:aI (w.alloc (.cells #[.int .i64 a,.int .i64 b] 32)) w.heap.size 32 #[.int .i64 a,.int .i64 b]:=aI.new _ _ _;have hB:Ext w (w.alloc (.cells #[.int .i64 a,.int .i64 b] 32)):=aj (Below.refl _ _) _;obtain⟨g5,hg5⟩:∃g,g=w.heap.size:=⟨_,rfl⟩;rw[←hg5]at J5⊢;generalize w.alloc (.cells #[.int .i64 a,.int .i64 b] 32)=W0 at J5 hB⊢;clear hg5;refine (O1.out _ hB).mono ?_;rintro e W1 ⟨rfl,hx⟩;have J5:=J5.ext hx;have hB:=Ext.trans hB hx;clear hx;cases qs
 ·skip;go_wp2;have hr:=jg.out;simp at hr;subst hr;exact bodyPost_ret (v:=.tuple #[.slice none 0 0,.int .i64 90]) (by simp[results,Tryz.results81,go_sem]) rfl ⟨rfl,hB⟩
 ·skip;go_wp2_with (fail);refine (YQ.out _ hB).mono ?_;rintro e W2 ⟨rfl,hx⟩;have J5:=J5.ext hx;have hB:=Ext.trans hB hx;clear hx;cases qt
  ·skip;go_wp2;have hr:=jg.out;simp at hr;subst hr;exact bodyPost_ret (v:=.tuple #[.slice none 0 0,.int .i64 90]) (by simp[results,Tryz.results81,go_sem]) rfl ⟨rfl,hB⟩
  ·skip;have t0:W2.cell? ⟨g5,0,none⟩=some (.int .i64 a):=J5.cell 0;have t1:W2.cell? ⟨g5,1,none⟩=some (.int .i64 b):=J5.cell 1;go_wp2_with (fail);refine (YR.out _).mono ?_;rintro e W3 ⟨rfl,hx⟩;have J5:=J5.ext hx;have hB:=Ext.trans hB hx;clear hx;clear t0 t1;cases qp
   ·skip;go_wp2;have hr:=jg.out;simp at hr;subst hr;exact bodyPost_ret (v:=.tuple #[.slice none 0 0,.int .i64 90]) (by simp[results,Tryz.results81,go_sem]) rfl ⟨rfl,hB⟩
   ·skip;obtain⟨b1,b2,b3,b4⟩:=Fh.out (by trivial);obtain⟨hs24,hsv⟩:=HSO.out (by trivial);obtain⟨ht12,Zv⟩:=HTO.out (by trivial);have hres:=jg.out;simp only[Bool.and_self,if_true]at hres;have jg:=Lib.hid hres;have HSV:=Lib.hid hsv;have HTV:=Lib.hid Zv;rw[HNS.out]at hs24;rw[HNT.out]at ht12;clear hres hsv Zv O1 YQ YR HSO HTO Fh;have xg:=Lib.hid ((xg.out.below hB).more (Below.size hB));have Bz:=Lib.hid ((Bz.out.below hB).more (Below.size hB));obtain⟨Wb,hWb⟩:∃W:World,W=W3:=⟨_,rfl⟩;rw[←hWb]at J5 hB xg Bz⊢;clear hWb;have hbs:=Below.size hB;go_wp2;go_loopw [8,9] (fun x y wr=>∃i:Nat,i≤ns∧y=.int .i64 i∧Hid (vP w wr x (vO S T ⟨a,b⟩ i))∧Ext Wb wr) (fun _ y _=>ns-(intOf y).toNat)
    case atStart=>exact⟨0,Nat.zero_le _,rfl,Lib.hid ⟨World.ownsRow_nil _ _ _ _,Nat.zero_le _⟩,Ext.refl _⟩
    case round =>
     obtain⟨i,hi,rfl,HO,hx⟩:=hrel;by_cases hin:i<ns
     ·skip;obtain⟨gs,NY,hz,hA,_,hr,hro⟩:=(xg.out.below hx).Jk hin;have hpn:vO S T ⟨a,b⟩ (i+1)=vO S T ⟨a,b⟩ i++pO S[i] T ⟨a,b⟩ nt:=by have:=BP (T:=T) (span:=⟨a,b⟩) hz;rw[HNT.out]at this;exact this
      have hpl:∀(k:Nat) (hk:k<T.length),(vO S T ⟨a,b⟩ i++pO S[i] T ⟨a,b⟩ k).length+(fC S[i] ⟨a,b⟩ T[k]).length≤AL.length:=fun k hk=>by rw[yL.out];exact YP hz hk
      have hsv:=HSV.out S[i] (List.getElem_mem hz);generalize vO S T ⟨a,b⟩ i=P0 at HO hpn hpl;generalize S[i]=xs at hr hro hpn hpl hsv;obtain⟨hor,hsl0,hsl1⟩:=Ku hsv;obtain⟨jR,YS⟩:∃n,n=xs.id:=⟨_,rfl⟩;obtain⟨sl,hsl⟩:∃n,n=xs.bH.eY:=⟨_,rfl⟩;rw[←hsl]at hsl0 hsl1;have hs0:wr.cell? ⟨gs,NY+i*21,none⟩=some (.int .i64 jR):=by rw[YS];exact hr 0 _ rfl
      obtain⟨OX,uH⟩:∃X,(Jk xs.bH).toArray=X:=⟨_,rfl⟩;have Sj:Hid (OX.size=7):=Lib.hid (by rw[←uH];rfl);have HOO:Hid (OX.all (·.oneCell')=true):=Lib.hid (by rw[←uH];exact Q9 _);have Zw:Hid (OX[6]?=some (.int .i64 sl)):=Lib.hid (by rw[←uH,hsl];rfl);have Sl:Hid (wr.rangeAt gs (NY+i*21+2) OX.toList):=Lib.hid (by rw[←uH];exact hro);have OZ:=Lib.hid hpn;have sN:=Lib.hid hpl;have WG:=Lib.hid hor;have He:=Lib.hid uH;have HSID:=Lib.hid YS;have HSL:=Lib.hid hsl;have D7:=Lib.hid hs0;clear hpn hpl hor uH YS hsl hsv hr hro hz hs0;subst hA;go_upto_region 8 with (first | (refine ay rfl 51 _ rfl gs (NY+i*21+2) rfl OX OX.toList (by simp) _ Sl.out Tryz.underlying51 rfl (by rw[Array.length_toList,Sj.out];exact bF) ?_) | (refine aZ rfl 51 _ _ rfl _ OX rfl rfl (by rw[Sj.out];exact bF) (by rw[Sj.out];rfl) HOO.out ?_));have jr:aI (wr.alloc (.cells OX 51)) wr.heap.size 51 OX:=aI.new _ _ _;have hc:Ext wr (wr.alloc (.cells OX 51)):=aj (Below.refl _ _) _;obtain⟨g10,hg⟩:∃g,g=wr.heap.size:=⟨_,rfl⟩;rw[←hg]at jr⊢;generalize wr.alloc (.cells OX 51)=Wc at jr hc⊢;clear hg Sl;have hx:=Ext.trans hx hc;have HO:=Lib.hid (HO.out.ext hc);have D7:=Lib.hid (ah hc D7.out);clear hc;go_wp2;go_loopw [8,11] (fun x y wr=>∃k:Nat,k≤nt∧y=.int .i64 k∧Hid (vP w wr x (P0++pO xs T ⟨a,b⟩ k))∧Ext Wc wr) (fun _ y _=>nt-(intOf y).toNat)
      case atStart=>exact⟨0,Nat.zero_le _,rfl,Lib.hid (by simpa [pO]using HO.out),Ext.refl _⟩
      case round =>
       clear HO;obtain⟨k,hk,rfl,HO,hy⟩:=hrel;by_cases hkn:k<nt
       ·skip;obtain⟨gt,WH,hz,hA,_,hr⟩:=(Bz.out.below (Ext.trans hx hy)).range qZ hkn;have hqn:pO xs T ⟨a,b⟩ (k+1)=pO xs T ⟨a,b⟩ k++fC xs ⟨a,b⟩ T[k]:=BR hz;have GH:=sN.out k hz;have Zv:=HTV.out T[k] (List.getElem_mem hz);skip;have Rh:P0++pO xs T ⟨a,b⟩ (k+1)=(P0++pO xs T ⟨a,b⟩ k)++fC xs ⟨a,b⟩ T[k]:=by rw[hqn,List.append_assoc]
        clear hqn;generalize P0++pO xs T ⟨a,b⟩ k=Q0 at HO Rh GH;generalize T[k]=ys at hr Rh GH Zv;obtain⟨BU,YT⟩:∃n,n=ys.id:=⟨_,rfl⟩;have hy0:wr.cell? ⟨gt,WH+k*6,none⟩=some (.int .i64 BU):=by rw[YT];exact hr 0 _ rfl
        obtain⟨TX,F9⟩:∃X,(bJ ys).toArray=X:=⟨_,rfl⟩;have HZT:Hid (TX.size=6):=Lib.hid (by rw[←F9];rfl);have HRT2:Hid (wr.rangeAt gt (WH+k*6) TX.toList):=Lib.hid (by rw[←F9];exact hr);obtain⟨a0,ha0⟩:∃n,n=a-sl:=⟨_,rfl⟩;obtain⟨ee,he0⟩:∃n,n=b+sl:=⟨_,rfl⟩;have a01 : -10≤a0:=by omega
        have a02:a0<ee:=by omega
        have e01:ee≤1000011:=by omega
        have w1_:IntKind.i64.wrap (a-sl)=a0:=by rw[ha0];exact IntWalk.i64_in _ (by omega)
        have w2_:IntKind.i64.wrap (a0-1)=a0-1:=IntWalk.i64_in _ (by omega);have w3_:IntKind.i64.wrap (b+sl)=ee:=by rw[he0];exact IntWalk.i64_in _ (by omega)
        obtain⟨is,his⟩:∃f,f=l9 xs.bH ys:=⟨_,rfl⟩;obtain⟨po,hpo⟩:∃f,f=iy xs ys ⟨a,b⟩:=⟨_,rfl⟩;have hpp:fC xs ⟨a,b⟩ ys=(bU is a0 (ee-a0).toNat).map po:=by rw[his,hpo,ha0,he0];unfold fC;rw[←HSL.out,show b+sl-(a-sl)=b-a+2*sl by omega]
        rw[hpp]at Rh GH;have HPO:Hid (∀u v,po ⟨u,v⟩=⟨jR,BU,iJ ⟨u,v⟩ (-sl) ⟨a,b⟩,iJ ⟨u,v⟩ sl ⟨a,b⟩⟩):=Lib.hid (fun u v=>by rw[hpo,iy,HSID.out,YT,HSL.out]);have HPY:Hid (∀m W,-10≤m→m≤1000010→Calls Tryz.prog 133 #[.agg OX,.agg TX,.int .i64 m] W fun e w'=>e=.returned (.bool (is m))∧Ext W w'):=Lib.hid (by
         rw[←He.out,←F9,his];have hor:=WG.out;generalize xs.bH=o at hor;obtain⟨p,f,lo,hi,no,tu,sl⟩:=o;obtain⟨id,⟨x,y⟩,re,an,sk⟩:=ys;intro m W h1 h2;exact Gi p f lo hi no tu sl id x y re an sk m W hor Zv h1 h2)
        have HQN:=Lib.hid Rh;have MN:=Lib.hid GH;have HY0:=Lib.hid hy0;have Ze:=Lib.hid ha0;have HE0:=Lib.hid he0;clear Rh GH hy0 F9 YT his hpo hpp Zv hr hz ha0 he0;subst hA;have K5:=J5.ext (Ext.trans hx hy);have K10:=jr.ext hy;have CS:=Lib.hid (ah hy D7.out);obtain⟨Wd,hWd⟩:∃W:World,W=wr:=⟨_,rfl⟩;rw[←hWd]at hy HO HRT2 HY0 K5 K10 CS⊢;clear hWd;have hdx:=Ext.trans hB (Ext.trans hx hy);have hds:=Below.size hdx;have t0:Wd.cell? ⟨g5,0,none⟩=some (.int .i64 a):=K5.cell 0;have s6:Wd.cell? ⟨g10,6,none⟩=some (.int .i64 sl):=(K10.cell 6).trans Zw.out;go_wp2;clear t0 s6;go_loopw [8,12,13] (fun x y z wr=>∃(m fr:Int) (D:List jA),a0≤m∧m≤ee+1∧z=.int .i64 m∧y=.int .i64 fr∧Hid (vP w wr x (Q0++D.map po))∧Hid (Gj is a0 ee m fr D)∧Ext Wd wr) (fun _ _ z _=>(ee+1-intOf z).toNat)
        case atStart=>exact⟨a0,a0-1,[],Int.le_refl _,by omega,rfl,rfl,Lib.hid (by simpa using HO.out),Lib.hid (.inl ⟨rfl,rfl⟩),Ext.refl _⟩
        case round =>
         clear HO;obtain⟨m,fr,D,m1,m2,rfl,rfl,HO,YU,hv⟩:=hrel;have t0:wr.cell? ⟨g5,0,none⟩=some (.int .i64 a):=(K5.ext hv).cell 0;have t1:wr.cell? ⟨g5,1,none⟩=some (.int .i64 b):=(K5.ext hv).cell 1;have s6:wr.cell? ⟨g10,6,none⟩=some (.int .i64 sl):=((K10.ext hv).cell 6).trans Zw.out;have wm_:IntKind.i64.wrap (m+1)=m+1:=IntWalk.i64_in _ (by omega);by_cases hme:m≤ee
         ·skip;go_upto_region 15 with (fail);go_cut [14] from 67 to 82 (fun v wc=>∃q:Bool,v=.bool q∧Hid ((q=true→m<ee∧is m=true)∧(q=false→m=ee∨is m=false))∧Ext wr wc)
          case first =>
           by_cases hml:m<ee
           ·have K10w:=K10.ext hv;have HRT3:=Lib.hid (RA.bV HRT2.out hv);have hpc:=fun W=>HPY.out m W (by omega) (by omega);generalize hqm:is m=q at hpc;have HQM:=Lib.hid hqm;have Z7:=Lib.hid hpc;clear hpc hqm;refine aH 16 [some (.int .i64 m),some (.pointer (some ⟨g5,1,none⟩)),some (.int .i64 b),some (.pointer (some ⟨g10,6,none⟩)),some (.int .i64 sl),some (.int .i64 ee),some (.bool true),some (.bool true),some (.agg OX),some (.slice (some ⟨gt,WH,none⟩) nt ct),some (.int .i64 (k:Int)),some (.pointer (some ⟨gt,WH+k*6,none⟩)),some (.agg TX),some (.int .i64 m),some (.bool q),some (.bool q)] [] ?_ ?_ ?_
            ·trivial
            ·refine⟨?_,?_,?_,?_,?_,?_,?_,?_,?x8,?_,?_,?_,?x12,?_,?x14,?_,trivial⟩
             case x8 =>
              intro vals w1 hx hd;clear hd;simp only[Lf,au,Act.put,aX,aW];refine bK rfl 51 _ rfl g10 0 rfl OX OX.toList (by simp) _ (aI.range (K10w.ext hx.aG) _ rfl) Tryz.underlying51 rfl (by rw[Array.length_toList,Sj.out];exact bF) ?_;go_wp2;exact q_
             case x12 =>
              intro vals w1 hx hd;clear hd;simp only[Lf,au,Act.put,aX,aW];refine bK rfl 71 _ rfl gt (WH+k*6) rfl TX TX.toList (by simp) _ (RA.bV HRT3.out hx.aG) Tryz.underlying71 rfl (by rw[Array.length_toList,HZT.out];exact Au) ?_;go_wp2;exact q_
             case x14 =>
              intro vals w1 hx hd;clear hd;simp only[Lf,au,Act.put,aX,aW];go_wp2_with fail;refine (Z7.out _).mono ?_;rintro e w2 ⟨rfl,hb2⟩;go_wp2;exact⟨rfl,hb2,rfl⟩
             all_goals
              intro vals w1 hx hd;clear hd;simp only[Lf,au,Act.put,aX,aW];have t1:=ah hx t1;have s6:=ah hx s6;go_wp2;exact gW
            intro vals W5 hx hf;have e15:vals 15=.bool q:=hf 15 (by omega);clear hf;have hx:=hx.aG;refine d_ 16 _ (by kernel_rfl) (by kernel_rfl) rfl ?_;simp only[Lf,au,Act.put,FR_];rw[e15];clear e15;go_wp2_with fail;go_meet
            case rel=>exact⟨q,rfl,Lib.hid ⟨fun h=>⟨hml,by rw[HQM.out];exact h⟩,fun h=>.inr (by rw[HQM.out];exact h)⟩,hx⟩
           ·skip;have hmf:decide (m<ee)=false:=by simp;omega
            refine aH 16 [some (.int .i64 m),some (.pointer (some ⟨g5,1,none⟩)),some (.int .i64 b),some (.pointer (some ⟨g10,6,none⟩)),some (.int .i64 sl),some (.int .i64 ee),some (.bool false),some (.bool false),some (undef),some (undef),some (undef),some (undef),some (undef),some (undef),some (undef),some (.bool false)] [] ?_ ?_ ?_
            ·trivial
            ·refine⟨?_,?_,?_,?_,?_,?_,?_,?_,?_,?_,?_,?_,?_,?_,?_,?_,trivial⟩
             all_goals
              intro vals w1 hx hd;clear hd;simp only[Lf,au,Act.put,aX,aW];have t1:=ah hx t1;have s6:=ah hx s6;go_wp2;exact gW
            intro vals W5 hx hf;have e15:vals 15=.bool false:=hf 15 (by omega);clear hf;have hx:=hx.aG;refine d_ 16 _ (by kernel_rfl) (by kernel_rfl) rfl ?_;simp only[Lf,au,Act.put,FR_];rw[e15];clear e15;go_wp2_with fail;go_meet
            case rel=>exact⟨false,rfl,Lib.hid ⟨fun h=>(by cases h),fun _=>.inl (by omega)⟩,hx⟩
          obtain⟨q,rfl,HQ,hxc⟩:=hcut;have HO:=Lib.hid (HO.out.ext hxc);have hv:=Ext.trans hv hxc;clear hxc t0 t1 s6;obtain⟨Wx,Wj⟩:∃W:World,W=wc:=⟨_,rfl⟩;rw[←Wj]at HO hv⊢;clear Wj;have t0:Wx.cell? ⟨g5,0,none⟩=some (.int .i64 a):=(K5.ext hv).cell 0;have s6:Wx.cell? ⟨g10,6,none⟩=some (.int .i64 sl):=((K10.ext hv).cell 6).trans Zw.out;rcases YU.out with ⟨hf1,hall⟩ | ⟨hf1,hf2,hf3,hop,hall⟩
          ·skip;have hfa:a0-1<a0:=by omega
           subst hf1;cases q
           ·skip;have hq:=HQ.out.2 rfl;have Jl:Hid (Gj is a0 ee (m+1) (a0-1) D):=Lib.hid (.inl ⟨rfl,by
             rw[hall];rcases Int.lt_or_le m ee with h | h
             ·rw[BN h (hq.resolve_left (by omega))]
             ·rw[rest_end h,rest_end (by omega)]⟩)
            clear hall YU hq;go_wp2;clear t0 s6;go_roundw
            case rel=>exact⟨m+1,a0-1,D,by omega,by omega,rfl,rfl,HO,Jl,hv⟩
            case measure=>simp[intOf];omega
           ·skip;obtain⟨hq1,hq2⟩:=HQ.out.1 rfl;have Jl:Hid (Gj is a0 ee (m+1) m D):=Lib.hid (.inr ⟨m1,by omega,by omega,fun t h1 h2=>by rw[show t=m by omega];exact hq2,hall⟩);clear hall YU hq2;go_wp2;clear t0 s6;go_roundw
            case rel=>exact⟨m+1,m,D,by omega,by omega,rfl,rfl,HO,Jl,hv⟩
            case measure=>simp[intOf];omega
          ·skip;have hfa:¬fr<a0:=by omega
           cases q
           ·have hcl:=Jj hf2 hf3 hop (HQ.out.2 rfl);have hrr:qg is ee m=qg is ee (m+1):=by
             rcases Int.lt_or_le m ee with h | h
             ·rw[BN h ((HQ.out.2 rfl).resolve_left (by omega))]
             ·rw[rest_end h,rest_end (by omega)]
            have Rj:bU is a0 (ee-a0).toNat=(D++[⟨fr,m⟩])++qg is ee (m+1):=by
             rw[hall,hcl,hrr,List.append_assoc];rfl
            have hlen:(Q0++(D++[(⟨fr,m⟩:jA)]).map po).length≤AL.length:=by
             have:=MN.out;rw[Rj]at this;simp only[List.length_append,List.length_map,List.length_cons,List.length_nil]at this⊢;omega
            have Jl:Hid (Gj is a0 ee (m+1) (a0-1) (D++[⟨fr,m⟩])):=Lib.hid (.inl ⟨rfl,Rj⟩);have HLEN:=Lib.hid hlen;clear hcl hall Rj hrr hop YU hlen HQ;have hpm:=HPO.out fr m;have Gm:=Ld (fr+sl) (m-sl) a b;have Gn:=Ld (fr-sl) (m+sl) a b;rw[show (⟨fr+sl,m-sl⟩:jA)=⟨fr - -sl,m + -sl⟩ by congr 1;omega,BO]at Gm;rw[BO]at Gn;obtain⟨P,hP⟩:∃P,P=po ⟨fr,m⟩:=⟨_,rfl⟩;rw[←hP]at hpm;generalize iJ ⟨fr,m⟩ (-sl) ⟨a,b⟩=u1 at hpm Gm;generalize iJ ⟨fr,m⟩ sl ⟨a,b⟩=u2 at hpm Gn;obtain⟨p2,p3⟩:=u1;obtain⟨p4,p5⟩:=u2;dsimp only at Gm Gn;have hmap:(Q0++(D++[(⟨fr,m⟩:jA)]).map po)=(Q0++D.map po)++[P]:=by rw[hP];simp
            rw[hmap]at HLEN;have HMAP:=Lib.hid hmap;have WI:=Lib.hid hpm;have Zd:=Lib.hid Gm;have HC2:=Lib.hid Gn;clear hmap hpm hP Gm Gn;obtain⟨QL,hQL⟩:∃l,l=Q0++D.map po:=⟨_,rfl⟩;rw[←hQL]at HLEN HO;have qw:=Lib.hid hQL;clear hQL;obtain⟨AO,cO,YV,ho1,ho2,UU⟩:=HO.out.form;obtain⟨nO,Gp⟩:∃n,n=QL.length:=⟨_,rfl⟩;rw[←Gp]at YV ho1 UU;subst YV;have hO64:nO≤64:=by rw[Gp];exact HO.out.2
            have CU:=Lib.hid (HO.out.ra Gp);obtain⟨OL,UW⟩:∃l,l=bP (ltOf aY) QL:=⟨_,rfl⟩;have Rk:OL.length=nO:=by rw[UW,kP,Gp]
            rw[←UW]at CU;have HOL:=Lib.hid UW;have Zx:=Lib.hid Gp;have sQ:=Lib.hid Rk;have YW:=Lib.hid UU;have hcO:cO≤9223372036854775807:=by unfold maxLen at ho2;exact ho2
            clear UW Gp Rk UU ho2 HO;have w4_:IntKind.i64.wrap (fr+sl)=fr+sl:=IntWalk.i64_in _ (by omega);have w5_:IntKind.i64.wrap (m-sl)=m-sl:=IntWalk.i64_in _ (by omega);have w6_:IntKind.i64.wrap (fr-sl)=fr-sl:=IntWalk.i64_in _ (by omega);have w7_:IntKind.i64.wrap (m+sl)=m+sl:=IntWalk.i64_in _ (by omega);go_upto_region 19 with (fail);have hs0:=ah hv CS.out;have hy0:=ah hv HY0.out;refine aH 12 [some (.slice (some ⟨gs,NY,none⟩) ns cs),some (.int .i64 (i:Int)),some (.pointer (some ⟨gs,NY+i*21,none⟩)),some (.pointer (some ⟨gs,NY+i*21,none⟩)),some (.int .i64 jR),some (.slice (some ⟨gt,WH,none⟩) nt ct),some (.int .i64 (k:Int)),some (.pointer (some ⟨gt,WH+k*6,none⟩)),some (.pointer (some ⟨gt,WH+k*6,none⟩)),some (.int .i64 BU),some (.agg #[.int .i64 jR,.int .i64 BU,.int .i64 0,.int .i64 0,.int .i64 0,.int .i64 0]),none] [(11,.w fun v w1=>∃g,v=.pointer (some ⟨g,0,none⟩)∧Wx.heap.size≤g∧aI w1 g 75 #[.int .i64 0,.int .i64 0,.int .i64 0,.int .i64 0,.int .i64 0,.int .i64 0])] ?_ ?_ ?_
            ·refine⟨?_,trivial⟩
             ·intro v w1 w2 hr hx;obtain⟨g,h1,h2,h3⟩:=hr;exact⟨g,h1,h2,h3.ext hx⟩
            ·refine⟨?_,?_,?_,?_,?_,?_,?_,?_,?_,?_,?_,?x11,trivial⟩
             case x11 =>
              intro vals w1 hx hd;clear hd;simp only[Lf,au,Act.put,aX,aW];have hz:=Below.size hx.aG;go_wp2;exact⟨rfl,(by repeat (first | exact Below.refl _ _ | assumption | refine Below.drew ?_ | refine below_drewN ?_ _ | refine aj ?_ _ | refine Below.setCell ?_ (by first | (simp;done) | omega | (simp;omega)) _ | refine aA ?_ (by assumption))),_,rfl,by omega,aI.new _ _ _⟩
             all_goals
              intro vals w1 hx hd;clear hd;simp only[Lf,au,Act.put,aX,aW];have hs0:=ah hx hs0;have hy0:=ah hx hy0;go_wp2;exact gW
            intro vals We hz hf;have e10:vals 10=.agg #[.int .i64 jR,.int .i64 BU,.int .i64 0,.int .i64 0,.int .i64 0,.int .i64 0]:=hf 10 (by omega);obtain⟨g15,e11,n15,nK⟩:∃g,vals 11=.pointer (some ⟨g,0,none⟩)∧Wx.heap.size≤g∧aI We g 75 #[.int .i64 0,.int .i64 0,.int .i64 0,.int .i64 0,.int .i64 0,.int .i64 0]:=hf 11 (by omega);clear hf hs0 hy0 t0 s6;have hz:=hz.aG;refine d_ 12 _ (by kernel_rfl) (by kernel_rfl) rfl ?_;simp only[Lf,au,Act.put,FR_];rw[e10,e11];clear e10 e11;have z0:We.cell? ⟨g15,0,none⟩=some (.int .i64 0):=nK.cell 0;have z1:We.cell? ⟨g15,1,none⟩=some (.int .i64 0):=nK.cell 1;have z2:We.cell? ⟨g15,2,none⟩=some (.int .i64 0):=nK.cell 2;have z3:We.cell? ⟨g15,3,none⟩=some (.int .i64 0):=nK.cell 3;have z4:We.cell? ⟨g15,4,none⟩=some (.int .i64 0):=nK.cell 4;have z5:We.cell? ⟨g15,5,none⟩=some (.int .i64 0):=nK.cell 5;have y0:We.frozen? ⟨g15,0,none⟩=false:=nK.frozen 0;have y1:We.frozen? ⟨g15,1,none⟩=false:=nK.frozen 1;have y2:We.frozen? ⟨g15,2,none⟩=false:=nK.frozen 2;have y3:We.frozen? ⟨g15,3,none⟩=false:=nK.frozen 3;have y4:We.frozen? ⟨g15,4,none⟩=false:=nK.frozen 4;have y5:We.frozen? ⟨g15,5,none⟩=false:=nK.frozen 5;go_upto_region 20 with (fail);clear z0 y0 z1 y1 z2 y2 z3 y3 z4 y4 z5 y5;have nK:=nK.set6 (.int .i64 jR) (.int .i64 BU) (.int .i64 0) (.int .i64 0) (.int .i64 0) (.int .i64 0);have hz:Ext Wx ((((((We.setCell ⟨g15,0,none⟩ (.int .i64 jR)).setCell ⟨g15,1,none⟩ (.int .i64 BU)).setCell ⟨g15,2,none⟩ (.int .i64 0)).setCell ⟨g15,3,none⟩ (.int .i64 0)).setCell ⟨g15,4,none⟩ (.int .i64 0)).setCell ⟨g15,5,none⟩ (.int .i64 0)):=((((((hz.setCell (p:=⟨g15,0,none⟩) n15 _).setCell (p:=⟨g15,1,none⟩) n15 _).setCell (p:=⟨g15,2,none⟩) n15 _).setCell (p:=⟨g15,3,none⟩) n15 _).setCell (p:=⟨g15,4,none⟩) n15 _).setCell (p:=⟨g15,5,none⟩) n15 _);generalize (((((We.setCell ⟨g15,0,none⟩ (.int .i64 jR)).setCell ⟨g15,1,none⟩ (.int .i64 BU)).setCell ⟨g15,2,none⟩ (.int .i64 0)).setCell ⟨g15,3,none⟩ (.int .i64 0)).setCell ⟨g15,4,none⟩ (.int .i64 0)).setCell ⟨g15,5,none⟩ (.int .i64 0)=Wf at nK hz⊢;have t0:Wf.cell? ⟨g5,0,none⟩=some (.int .i64 a):=(K5.ext (Ext.trans hv hz)).cell 0;have t1:Wf.cell? ⟨g5,1,none⟩=some (.int .i64 b):=(K5.ext (Ext.trans hv hz)).cell 1;have s6:Wf.cell? ⟨g10,6,none⟩=some (.int .i64 sl):=((K10.ext (Ext.trans hv hz)).cell 6).trans Zw.out;go_wp2_with (fail);refine (Zd.out _).mono ?_;rintro e Wgx ⟨rfl,hx9⟩;have nK:=nK.ext hx9;have hz:=Ext.trans hz hx9;clear hx9 t0 t1 s6;have z0:Wgx.cell? ⟨g15,2,none⟩=some (.int .i64 0):=nK.cell 2;have z1:Wgx.cell? ⟨g15,3,none⟩=some (.int .i64 0):=nK.cell 3;have y0:Wgx.frozen? ⟨g15,2,none⟩=false:=nK.frozen 2;have y1:Wgx.frozen? ⟨g15,3,none⟩=false:=nK.frozen 3;go_upto_region 21 with (fail);clear z0 z1 y0 y1;have nK:=(nK.cu 2 (.int .i64 p2)).cu 3 (.int .i64 p3);have hz:=(hz.setCell (p:=⟨g15,2,none⟩) n15 (.int .i64 p2)).setCell (p:=⟨g15,3,none⟩) n15 (.int .i64 p3);simp only[List.setIfInBounds_toArray,List.set_cons_zero,List.set_cons_succ]at nK;generalize (Wgx.setCell ⟨g15,2,none⟩ (.int .i64 p2)).setCell ⟨g15,3,none⟩ (.int .i64 p3)=Wg at nK hz⊢;have t0:Wg.cell? ⟨g5,0,none⟩=some (.int .i64 a):=(K5.ext (Ext.trans hv hz)).cell 0;have t1:Wg.cell? ⟨g5,1,none⟩=some (.int .i64 b):=(K5.ext (Ext.trans hv hz)).cell 1;have s6:Wg.cell? ⟨g10,6,none⟩=some (.int .i64 sl):=((K10.ext (Ext.trans hv hz)).cell 6).trans Zw.out;go_wp2_with (fail);refine (HC2.out _).mono ?_;rintro e Whx ⟨rfl,hx9⟩;have nK:=nK.ext hx9;have hz:=Ext.trans hz hx9;clear hx9 t0 t1 s6;have z0:Whx.cell? ⟨g15,4,none⟩=some (.int .i64 0):=nK.cell 4;have z1:Whx.cell? ⟨g15,5,none⟩=some (.int .i64 0):=nK.cell 5;have y0:Whx.frozen? ⟨g15,4,none⟩=false:=nK.frozen 4;have y1:Whx.frozen? ⟨g15,5,none⟩=false:=nK.frozen 5;go_upto_region 22 with (fail);clear z0 z1 y0 y1;have nK:=(nK.cu 4 (.int .i64 p4)).cu 5 (.int .i64 p5);have hz:=(hz.setCell (p:=⟨g15,4,none⟩) n15 (.int .i64 p4)).setCell (p:=⟨g15,5,none⟩) n15 (.int .i64 p5);simp only[List.setIfInBounds_toArray,List.set_cons_zero,List.set_cons_succ]at nK;generalize (Whx.setCell ⟨g15,4,none⟩ (.int .i64 p4)).setCell ⟨g15,5,none⟩ (.int .i64 p5)=Wh at nK hz⊢;clear w4_ w5_ w6_ w7_ Zd HC2;have t0:Wh.cell? ⟨g5,0,none⟩=some (.int .i64 a):=(K5.ext (Ext.trans hv hz)).cell 0;have s6:Wh.cell? ⟨g10,6,none⟩=some (.int .i64 sl):=((K10.ext (Ext.trans hv hz)).cell 6).trans Zw.out;go_wp2;clear t0 s6;go_loopw [16] (fun x wr=>∃j:Nat,j≤nO∧x=.int .i64 j∧Hid (∀z∈OL.drop j,ltOf aY P z=true)∧Ext Wh wr) (fun x _=>(intOf x).toNat)
            case atStart=>exact⟨nO,Nat.le_refl _,rfl,Lib.hid (fun z hz=>by rw[List.drop_of_length_le (by rw[sQ.out];exact Nat.le_refl _)]at hz;cases hz),Ext.refl _⟩
            case round =>
             obtain⟨j,hj,rfl,D_,hh⟩:=hrel;go_upto_region 24 with (fail);go_cut [157] from 147 to 157 (fun v wc=>∃q:Bool,v=.bool q∧Hid ((q=true→∃h:j-1<OL.length,0<j∧ltOf aY P OL[j-1]=true)∧(q=false→j=0∨∃h:j-1<OL.length,0<j∧ltOf aY P OL[j-1]=false))∧Ext wr wc)
             case first =>
              by_cases hj0:j=0
              ·have cj:decide ((0:Int)<(j:Int))=false:=by simp;omega
               refine aH 11 [some (.int .i64 (j:Int)),some (.bool false),some (.bool false),some (undef),some (undef),some (undef),some (undef),some (undef),some (undef),some (undef),some (.bool false)] [] ?_ ?_ ?_
               ·trivial
               ·refine⟨?_,?_,?_,?_,?_,?_,?_,?_,?_,?_,?_,trivial⟩
                all_goals
                 intro vals w1 hx hd;clear hd;simp only[Lf,au,Act.put,aX,aW];go_wp2;exact gW
               intro vals W5 hx9 hf;have e10:vals 10=.bool false:=hf 10 (by omega);clear hf;have hx9:=hx9.aG;refine dJ (by kernel_rfl) ?_;simp only[Lf,au,Act.put,FR_];rw[e10];clear e10;go_wp2_with fail;go_meet
               case rel=>exact⟨false,rfl,Lib.hid ⟨fun h=>(by cases h),fun _=>.inl hj0⟩,hx9⟩
              ·have hj1:0<j:=by omega
               have cj:decide ((0:Int)<(j:Int))=true:=by simp;omega
               have hki:IntKind.i64.wrap ((j:Int)-1)=(j:Int)-1:=IntWalk.i64_in _ (by omega);have qG:((j:Int)-1).toNat=j-1:=by omega
               have hkz:(0:Int)≤(j:Int)-1:=by omega
               have hkl:(j:Int)-1<(nO:Int):=by omega
               obtain⟨go,Gq,hzo,hA,_,hc1⟩:=(CU.out.below (Ext.trans hz hh)).at_ bg (show j-1<nO by omega);have hb:=zH;have hst:∀q,ltOf aY P OL[j-1]=q→(∃h:j-1<OL.length,0<j∧ltOf aY P OL[j-1]=q):=fun q h=>⟨hzo,hj1,h⟩;skip;have hbf:=fun W=>zH jR BU p2 p3 p4 p5 OL[j-1].sat OL[j-1].cZ OL[j-1].sure.fr OL[j-1].sure.tt OL[j-1].can.fr OL[j-1].can.tt W;have hpe:P=⟨jR,BU,⟨p2,p3⟩,⟨p4,p5⟩⟩:=WI.out;rw[←hpe]at hbf;obtain⟨lq,hlq⟩:∃q,q=ltOf aY P OL[j-1]:=⟨_,rfl⟩;have pR:∀W,Calls Tryz.prog 135 #[.agg #[.int .i64 jR,.int .i64 BU,.int .i64 p2,.int .i64 p3,.int .i64 p4,.int .i64 p5],.agg #[.int .i64 OL[j-1].sat,.int .i64 OL[j-1].cZ,.int .i64 OL[j-1].sure.fr,.int .i64 OL[j-1].sure.tt,.int .i64 OL[j-1].can.fr,.int .i64 OL[j-1].can.tt]] W fun e w'=>e=.returned (.bool lq)∧Ext W w':=by rw[hlq];exact hbf
               have HLQ:Hid ((lq=true→∃h:j-1<OL.length,0<j∧ltOf aY P OL[j-1]=true)∧(lq=false→j=0∨∃h:j-1<OL.length,0<j∧ltOf aY P OL[j-1]=false)):=Lib.hid ⟨fun h=>hst true (by rw[←hlq];exact h),fun h=>.inr (hst false (by rw[←hlq];exact h))⟩;generalize OL[j-1]=ez at hc1 pR;have v0:wr.cell? ⟨go,Gq+(j-1)*6,none⟩=some (.int .i64 ez.sat):=hc1 0 (by omega);have v1:wr.cell? ⟨go,Gq+(j-1)*6+1,none⟩=some (.int .i64 ez.cZ):=hc1 1 (by omega);have v2:wr.cell? ⟨go,Gq+(j-1)*6+2,none⟩=some (.int .i64 ez.sure.fr):=hc1 2 (by omega);have v3:wr.cell? ⟨go,Gq+(j-1)*6+3,none⟩=some (.int .i64 ez.sure.tt):=hc1 3 (by omega);have v4:wr.cell? ⟨go,Gq+(j-1)*6+4,none⟩=some (.int .i64 ez.can.fr):=hc1 4 (by omega);have v5:wr.cell? ⟨go,Gq+(j-1)*6+5,none⟩=some (.int .i64 ez.can.tt):=hc1 5 (by omega);generalize ez.sat=z0_ at v0 pR;generalize ez.cZ=z1_ at v1 pR;generalize ez.sure.fr=z2_ at v2 pR;generalize ez.sure.tt=z3_ at v3 pR;generalize ez.can.fr=z4_ at v4 pR;generalize ez.can.tt=z5_ at v5 pR;have HBF:=Lib.hid pR;clear hb hst hbf hpe hlq pR hc1 hzo;subst hA;have Nw:=nK.ext hh;have u0:wr.cell? ⟨g15,0,none⟩=some (.int .i64 jR):=Nw.cell 0;have u1:wr.cell? ⟨g15,1,none⟩=some (.int .i64 BU):=Nw.cell 1;have u2:wr.cell? ⟨g15,2,none⟩=some (.int .i64 p2):=Nw.cell 2;have u3:wr.cell? ⟨g15,3,none⟩=some (.int .i64 p3):=Nw.cell 3;have u4:wr.cell? ⟨g15,4,none⟩=some (.int .i64 p4):=Nw.cell 4;have u5:wr.cell? ⟨g15,5,none⟩=some (.int .i64 p5):=Nw.cell 5;refine aH 11 [some (.int .i64 (j:Int)),some (.bool true),some (.bool true),some (.agg #[.int .i64 jR,.int .i64 BU,.int .i64 p2,.int .i64 p3,.int .i64 p4,.int .i64 p5]),some (.slice (some ⟨go,Gq,none⟩) nO cO),some (.int .i64 (j:Int)),some (.int .i64 ((j:Int)-1)),some (.pointer (some ⟨go,Gq+(j-1)*6,none⟩)),some (.agg #[.int .i64 z0_,.int .i64 z1_,.int .i64 z2_,.int .i64 z3_,.int .i64 z4_,.int .i64 z5_]),some (.bool lq),some (.bool lq)] [] ?_ ?_ ?_
               ·trivial
               ·refine⟨?_,?_,?_,?_,?_,?_,?_,?_,?_,?x9,?_,trivial⟩
                case x9 =>
                 intro vals w1 hx hd;clear hd;simp only[Lf,au,Act.put,aX,aW];go_wp2_with fail;refine (HBF.out _).mono ?_;rintro e w2 ⟨rfl,hb2⟩;go_wp2;exact⟨rfl,hb2,rfl⟩
                all_goals
                 intro vals w1 hx hd;clear hd;simp only[Lf,au,Act.put,aX,aW];have u0:=ah hx u0;have u1:=ah hx u1;have u2:=ah hx u2;have u3:=ah hx u3;have u4:=ah hx u4;have u5:=ah hx u5;have v0:=ah hx v0;have v1:=ah hx v1;have v2:=ah hx v2;have v3:=ah hx v3;have v4:=ah hx v4;have v5:=ah hx v5;go_wp2;exact gW
               intro vals W5 hx9 hf;have e10:vals 10=.bool lq:=hf 10 (by omega);clear hf;have hx9:=hx9.aG;refine dJ (by kernel_rfl) ?_;simp only[Lf,au,Act.put,FR_];rw[e10];clear e10;go_wp2_with fail;go_meet
               case rel=>exact⟨lq,rfl,Lib.hid HLQ.out,hx9⟩
             obtain⟨q,rfl,UY,hx9⟩:=hcut;have hh:=Ext.trans hh hx9;clear hx9;obtain⟨Wk,hWk⟩:∃W:World,W=wc:=⟨_,rfl⟩;rw[←hWk]at hh⊢;clear hWk;cases q
             ·skip;have hstop:=UY.out.2 rfl;have hins:=Rf (L:=QL) (P:=P) (j:=j) (by rw[←HOL.out,sQ.out];exact hj) (by rw[←HOL.out];exact D_.out) (by rw[←HOL.out];exact hstop);rw[←HOL.out]at hins;obtain⟨CL,UZ⟩:∃l,l=P::OL.drop j:=⟨_,rfl⟩;have Jm:CL.length=nO-j+1:=by rw[UZ,List.length_cons,List.length_drop,sQ.out]
              rw[←UZ]at hins;obtain⟨NL,U0⟩:∃l,l=OL.take j++CL:=⟨_,rfl⟩;have Rn:NL.length=nO+1:=by rw[U0,List.length_append,List.length_take,sQ.out,Jm];omega
              rw[←U0]at hins;have Ik:=Lib.hid hins;have Vt:=Lib.hid UZ;have YZ:=Lib.hid U0;have Ro:=Lib.hid Jm;have U1:=Lib.hid Rn;clear hstop hins UY D_ UZ U0 Jm Rn;have nK:=nK.ext hh;have hz:=Ext.trans hz hh;clear hh;go_upto_region 26 with (fail);obtain⟨PX,U2⟩:∃X,(ak P).toArray=X:=⟨_,rfl⟩;have hpx:#[.int .i64 jR,.int .i64 BU,.int .i64 p2,.int .i64 p3,.int .i64 p4,.int .i64 p5]=PX:=by rw[←U2,WI.out];rfl
              rw[hpx]at nK;have U3:Hid (PX.size=6):=Lib.hid (by rw[←U2];rfl);have HPX:=Lib.hid U2;clear hpx U2;have Ag:=Lib.hid ((CU.out.below hz).more (Below.size hz));have hws:=Below.size (Ext.trans hdx (Ext.trans hv hz));go_cut [8] from 160 to 170 (fun v wc=>Hid (oK wc w.heap.size v NL)∧Ext Wk wc)
              case first =>
               have hsplit:OL.flatMap ak=(OL.take j).flatMap ak++(OL.drop j).flatMap ak:=by rw[←List.flatMap_append,List.take_append_drop]
               rcases YW.out with ⟨rfl,hn0,rfl⟩ | ⟨gO,rfl⟩
               ·skip;obtain rfl:nO=0:=hn0;obtain rfl:j=0:=by omega
                clear YW;have RY:Hid (Reads Wk Wk.heap.size 6 none 0 ((OL.drop 0).flatMap ak)):=Lib.hid (by rw[show OL=[] from List.eq_nil_of_length_eq_zero sQ.out];exact Reads.none_);refine aH 11 [some (.slice none 0 0),some (.int .i64 0),some (.int .i64 0),some (.slice none 0 0),some (.agg PX),none,some (.slice none 0 0),some (.int .i64 0),some (.slice none 0 0),none,none] [(5,.w fun v w1=>∃g,v=.slice (some ⟨g,0,none⟩) 1 1∧aI w1 g 75 PX),(9,.w fun v w1=>qh w1 v CL),(10,.w fun v w1=>oK w1 Wk.heap.size v NL)] ?_ ?_ ?_
                ·refine⟨?_,?_,?_,trivial⟩
                 ·intro v w1 w2 hr hx;obtain⟨g,h1,h3⟩:=hr;exact⟨g,h1,h3.ext hx⟩
                 ·intro v w1 w2 hr hx;exact hr.ext hx
                 ·intro v w1 w2 hr hx;exact hr.ext hx
                ·refine⟨?_,?_,?_,?_,?x4,?x5,?_,?_,?_,?x9,?x10,trivial⟩
                 case x4 =>
                  intro vals w1 hx hd;clear hd;simp only[Lf,au,Act.put,aX,aW];refine ay rfl 75 _ rfl g15 0 rfl PX PX.toList (by simp) _ (aI.range (nK.ext hx.aG) _ rfl) Tryz.underlying75 rfl (by rw[Array.length_toList,U3.out];exact rH) ?_;go_wp2;exact q_
                 case x5 =>
                  intro vals w1 hx hd;clear hd;simp only[Lf,au,Act.put,aX,aW];refine aV rfl _ _ _ rfl PX rfl Tryz.underlying36 6 pK U3.out (by omega) (by omega) ?_;go_wp2;exact⟨rfl,(by repeat (first | exact Below.refl _ _ | assumption | refine Below.drew ?_ | refine below_drewN ?_ _ | refine aj ?_ _ | refine Below.setCell ?_ (by first | (simp;done) | omega | (simp;omega)) _ | refine aA ?_ (by assumption))),_,rfl,aI.new _ _ _⟩
                 case x9 =>
                  intro vals w1 hx hd;have r5:(fun v w1=>∃g,v=.slice (some ⟨g,0,none⟩) 1 1∧aI w1 g 75 PX) (vals 5) w1:=hd 5 (by decide) rfl;dsimp only at r5;obtain⟨gx,e_5,jb⟩:=r5;clear hd;simp only[Lf,au,Act.put,aX,aW,e_5];clear e_5;rw[←HPX.out]at jb;obtain⟨v9,w9,hrun,hx9,hcs⟩:=uy _ gx P (OL.drop 0) none 0 _ _ jb (RY.out.below hx.aG) (by omega);rw[←Vt.out]at hcs;refine aO rfl _ _ _ rfl rfl rfl hrun ?_;clear hrun;go_wp2;exact⟨rfl,hx9,hcs⟩
                 case x10 =>
                  intro vals w1 hx hd;have r9:(fun v w1=>qh w1 v CL) (vals 9) w1:=hd 9 (by decide) rfl;dsimp only at r9;obtain⟨A9,c9,e_9,hc9⟩:=r9;clear hd;simp only[Lf,au,Act.put,aX,aW,e_9];clear e_9;have hzz:=Below.size hx.aG;have Jo:=List.length_take (i:=0) (l:=OL);have Jp:=Ro.out;have Jq:=sQ.out;obtain⟨v9,w9,hrun,hx9,hown⟩:=uz _ (OL.take 0) CL _ 0 c9 A9 (.inl ⟨rfl,rfl⟩) (by omega) (by omega) (by omega) hc9;rw[←YZ.out]at hown;refine aO rfl _ _ _ rfl rfl rfl hrun ?_;clear hrun Jo Jp Jq;go_wp2;exact⟨rfl,hx9,hown.base hzz⟩
                 all_goals
                  intro vals w1 hx hd;clear hd;simp only[Lf,au,Act.put,aX,aW];go_wp2;exact gW
                intro vals W5 hx9 hf;have hown:oK W5 Wk.heap.size (vals 10) NL:=hf 10 (by omega);clear hf;have hx9:=hx9.aG;have HOWN:=Lib.hid (hown.base hws);clear hown;refine d_ 11 _ (by kernel_rfl) (by kernel_rfl) rfl ?_;simp only[Lf,au,Act.put,FR_];generalize vals 10=v8 at HOWN⊢;go_wp2_with fail;go_meet
                case rel=>exact⟨Lib.hid HOWN.out,hx9⟩
               ·skip;clear YW;obtain⟨A8,h8⟩:∃A8:Addr,(cO=j∧A8=⟨gO,0,none⟩)∨(j<cO∧A8=⟨gO,j*6,none⟩):=by
                 by_cases h:cO=j
                 ·exact⟨_,.inl ⟨h,rfl⟩⟩
                 ·exact⟨_,.inr ⟨by omega,rfl⟩⟩
                have hrd:=Ag.out.rd.cut hj ho1;rw[zJ bg]at hrd;have RY:Hid (Reads Wk Wk.heap.size 6 (some A8) (nO-j) ((OL.drop j).flatMap ak)):=Lib.hid (by
                 rcases h8 with ⟨h,rfl⟩ | ⟨h,rfl⟩
                 ·rw[if_pos h]at hrd;exact hrd
                 ·rw[if_neg (by omega)]at hrd;simpa [Addr.add_lit]using hrd)
                have HCU:Hid (∀q u,((OL.take j).flatMap ak)[q]?=some u→Wk.cell? ⟨gO,q,none⟩=some u):=Lib.hid (fun q u hu=>by
                 have GH:=(List.getElem?_eq_some_iff.1 hu).1;have Y0:0<nO:=by
                  have:=Ag.out.len;rcases Nat.eq_zero_or_pos nO with h | h
                  ·rw[show OL=[] from List.eq_nil_of_length_eq_zero (by omega)]at GH;simp at GH
                  ·exact h
                 obtain⟨b9,o9,hA,_,hc⟩:=Ag.out.rd.2 Y0;injection hA with hA;injection hA with h1 h2;subst h1 h2;have:=hc q u (by rw[hsplit,List.getElem?_append_left GH];exact hu);rwa[Nat.zero_add]at this)
                have H8:=Lib.hid h8;clear h8 hrd hsplit;refine aH 11 [some (.slice (some ⟨gO,0,none⟩) nO cO),some (.int .i64 (j:Int)),some (.int .i64 (j:Int)),some (.slice (some ⟨gO,0,none⟩) j j),some (.agg PX),none,some (.slice (some ⟨gO,0,none⟩) nO cO),some (.int .i64 (j:Int)),some (.slice (some A8) (nO-j) (cO-j)),none,none] [(5,.w fun v w1=>∃g,v=.slice (some ⟨g,0,none⟩) 1 1∧aI w1 g 75 PX),(9,.w fun v w1=>qh w1 v CL),(10,.w fun v w1=>oK w1 Wk.heap.size v NL)] ?_ ?_ ?_
                ·refine⟨?_,?_,?_,trivial⟩
                 ·intro v w1 w2 hr hx;obtain⟨g,h1,h3⟩:=hr;exact⟨g,h1,h3.ext hx⟩
                 ·intro v w1 w2 hr hx;exact hr.ext hx
                 ·intro v w1 w2 hr hx;exact hr.ext hx
                ·refine⟨?_,?_,?_,?_,?x4,?x5,?_,?_,?x8,?x9,?x10,trivial⟩
                 case x4 =>
                  intro vals w1 hx hd;clear hd;simp only[Lf,au,Act.put,aX,aW];refine ay rfl 75 _ rfl g15 0 rfl PX PX.toList (by simp) _ (aI.range (nK.ext hx.aG) _ rfl) Tryz.underlying75 rfl (by rw[Array.length_toList,U3.out];exact rH) ?_;go_wp2;exact q_
                 case x5 =>
                  intro vals w1 hx hd;clear hd;simp only[Lf,au,Act.put,aX,aW];refine aV rfl _ _ _ rfl PX rfl Tryz.underlying36 6 pK U3.out (by omega) (by omega) ?_;go_wp2;exact⟨rfl,(by repeat (first | exact Below.refl _ _ | assumption | refine Below.drew ?_ | refine below_drewN ?_ _ | refine aj ?_ _ | refine Below.setCell ?_ (by first | (simp;done) | omega | (simp;omega)) _ | refine aA ?_ (by assumption))),_,rfl,aI.new _ _ _⟩
                 case x8 =>
                  intro vals w1 hx hd;clear hd;simp only[Lf,au,Act.put,aX,aW];rcases H8.out with ⟨h8,h9⟩ | ⟨h8,h9⟩
                  all_goals subst h9
                  ·(go_wp2;exact q_)
                  ·(go_wp2;exact q_)
                 case x9 =>
                  intro vals w1 hx hd;have r5:(fun v w1=>∃g,v=.slice (some ⟨g,0,none⟩) 1 1∧aI w1 g 75 PX) (vals 5) w1:=hd 5 (by decide) rfl;dsimp only at r5;obtain⟨gx,e_5,jb⟩:=r5;clear hd;simp only[Lf,au,Act.put,aX,aW,e_5];clear e_5;rw[←HPX.out]at jb;obtain⟨v9,w9,hrun,hx9,hcs⟩:=uy _ gx P (OL.drop j) (some A8) (nO-j) _ _ jb (RY.out.below hx.aG) (by omega);rw[←Vt.out]at hcs;refine aO rfl _ _ _ rfl rfl rfl hrun ?_;clear hrun;go_wp2;exact⟨rfl,hx9,hcs⟩
                 case x10 =>
                  intro vals w1 hx hd;have r9:(fun v w1=>qh w1 v CL) (vals 9) w1:=hd 9 (by decide) rfl;dsimp only at r9;obtain⟨A9,c9,e_9,hc9⟩:=r9;clear hd;simp only[Lf,au,Act.put,aX,aW,e_9];clear e_9;have hzz:=Below.size hx.aG;have Jo:=List.length_take (i:=j) (l:=OL);have Jp:=Ro.out;have Jq:=sQ.out;obtain⟨v9,w9,hrun,hx9,hown⟩:=uz _ (OL.take j) CL _ j c9 A9 (.inr ⟨gO,rfl,fun q u hu=>ah hx.aG (HCU.out q u hu)⟩) (by omega) (by omega) (by omega) hc9;rw[←YZ.out]at hown;refine aO rfl _ _ _ rfl rfl rfl hrun ?_;clear hrun Jo Jp Jq;go_wp2;exact⟨rfl,hx9,hown.base hzz⟩
                 all_goals
                  intro vals w1 hx hd;clear hd;simp only[Lf,au,Act.put,aX,aW];go_wp2;exact gW
                intro vals W5 hx9 hf;have hown:oK W5 Wk.heap.size (vals 10) NL:=hf 10 (by omega);clear hf;have hx9:=hx9.aG;have HOWN:=Lib.hid (hown.base hws);clear hown;refine d_ 11 _ (by kernel_rfl) (by kernel_rfl) rfl ?_;simp only[Lf,au,Act.put,FR_];generalize vals 10=v8 at HOWN⊢;go_wp2_with fail;go_meet
                case rel=>exact⟨Lib.hid HOWN.out,hx9⟩
              obtain⟨HO,hx9⟩:=hcut;have hv:=Ext.trans hv (Ext.trans hz hx9);clear hz hx9 nK Ag CU hws;have ho:=HO.out;unfold oK at ho;rw[U1.out,←Ik.out]at ho;obtain⟨A9,c9,hv9,_,_⟩:=aP ho;subst hv9;have HO:=Lib.hid ho;clear ho;have wn_:IntKind.i64.wrap (m+1)=m+1:=wm_;by_cases h65:nO+1≤64
              ·skip;have h65a:¬(64:Int)<(nO:Int)+1:=by omega
               have Ep:Hid (vP w wc (.slice A9 (nO+1) c9) (Q0++(D++[(⟨fr,m⟩:jA)]).map po)):=Lib.hid (by rw[HMAP.out,←qw.out];exact⟨by rw[List.length_append,←Zx.out];exact HO.out,by rw[List.length_append,←Zx.out];exact h65⟩);clear HO wn_;go_wp2;go_roundw
               case rel=>exact⟨m+1,a0-1,D++[⟨fr,m⟩],by omega,by omega,rfl,rfl,Ep,Jl,hv⟩
               case measure=>simp[intOf];omega
              ·skip;have h65a:(64:Int)<(nO:Int)+1:=by omega
               have hlen:=HLEN.out;rw[List.length_append,←Zx.out]at hlen;have hr:=jg.out;rw[if_neg (show ¬AL.length≤64 by simp at hlen;omega)]at hr;clear jg;subst hr;clear wn_;go_wp2;exact bodyPost_ret (v:=.tuple #[.slice none 0 0,.int .i64 90]) (by simp[results,Tryz.results81,go_sem]) rfl ⟨rfl,Ext.trans hdx hv⟩
             ·skip;obtain⟨hzj,hj1,hlt⟩:=UY.out.1 rfl;have Y4:Hid (∀z∈OL.drop (j-1),ltOf aY P z=true):=Lib.hid (fun z hz=>by
               rw[List.drop_eq_getElem_cons hzj,show j-1+1=j by omega,List.mem_cons]at hz;rcases hz with rfl | hz
               ·exact hlt
               ·exact D_.out z hz)
              have hki:IntKind.i64.wrap ((j:Int)-1)=(j:Int)-1:=IntWalk.i64_in _ (by omega);clear UY D_ hzj hlt;go_wp2;go_roundw
              case rel=>exact⟨j-1,by omega,by rw[show ((j-1:Nat):Int)=(j:Int)-1 by omega],Y4,hh⟩
              case measure=>simp[intOf];omega
           ·have hq:=HQ.out.1 rfl;have Jl:Hid (Gj is a0 ee (m+1) fr D):=Lib.hid (.inr ⟨hf1,by omega,by omega,fun t h1 h2=>by
             by_cases e:t=m
             ·rw[e];exact hq.2
             ·exact hop t h1 (by omega),hall⟩)
            clear hall hop YU;go_wp2;clear t0 s6;go_roundw
            case rel=>exact⟨m+1,fr,D,by omega,by omega,rfl,rfl,HO,Jl,hv⟩
            case measure=>simp[intOf];omega
         ·skip;have hmm:ee+1≤m:=by omega
          have hall:bU is a0 (ee-a0).toNat=D:=by
           rcases YU.out with ⟨_,h⟩ | ⟨_,_,h,_⟩
           ·rw[h,rest_end (by omega),List.append_nil]
           ·omega
          have Ep:Hid (vP w wr u8 (P0++pO xs T ⟨a,b⟩ (k+1))):=Lib.hid (by rw[HQN.out,hall];exact HO.out);clear HO YU hall;have hy:=Ext.trans hy hv;go_wp2;clear t0 t1 s6;go_roundw
          case rel=>exact⟨k+1,by omega,by go_num,Ep,hy⟩
          case measure=>simp[intOf];omega
       ·skip;have Ep:Hid (vP w wr u8 (vO S T ⟨a,b⟩ (i+1))):=Lib.hid (by rw[OZ.out,show nt=k by omega];exact HO.out);clear HO;have hx:=Ext.trans hx hy;go_wp2;go_roundw
        case rel=>exact⟨i+1,by omega,by go_num,Ep,hx⟩
        case measure=>simp[intOf];omega
     ·skip;have hii:i=S.length:=by rw[HNS.out];omega
      have ho:=HO.out;rw[hii,Q_,←yL.out]at ho;have hr:=jg.out;rw[if_pos ho.2]at hr;clear jg;have HOE:=Lib.hid ho;have YF:=Lib.hid hr;clear ho HO hii hr;go_wp2;rw[YF.out];exact bodyPost_ret (v:=.tuple #[u8,.int .i64 0]) (by simp[results,Tryz.results81,go_sem]) rfl ⟨_,rfl,by rw[kP];exact HOE.out.1,Ext.trans hB hx⟩
end Go.Proofs.YtjidhhfabfnhnaaGreat
