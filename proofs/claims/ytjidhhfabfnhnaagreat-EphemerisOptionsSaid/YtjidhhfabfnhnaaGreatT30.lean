/- The reference: Passes (printed by contact_q3.py). -/
import Derived.Test.YtjidhhfabfnhnaaGreatT01
import Derived.Test.YtjidhhfabfnhnaaGreatT29
import Derived.BigQuiet
namespace Go.Proofs.YtjidhhfabfnhnaaGreat
open Go.RowKit
def yt (S:List St) (T:List iD) (span:iO) (i:Nat):List bP:=(S.take i).flatMap fun s=>T.flatMap (eU s span)
def qL (s:St) (T:List iD) (span:iO) (k:Nat):List bP:=(T.take k).flatMap (eU s span)
theorem Em {S:List St} {T:List iD} {span:iO} {i:Nat} (h:i<S.length):yt S T span (i+1)=yt S T span i++qL S[i] T span T.length:=by
 unfold yt qL;rw[List.take_succ_eq_append_getElem h,List.flatMap_append,List.take_length];simp
theorem En {s:St} {T:List iD} {span:iO} {k:Nat} (h:k<T.length):qL s T span (k+1)=qL s T span k++eU s span T[k]:=by
 unfold qL;rw[List.take_succ_eq_append_getElem h,List.flatMap_append];simp
theorem UK {S:List St} {T:List iD} {span:iO} : yt S T span S.length=mX S T span:=by
 unfold yt mX;rw[List.take_length]
theorem wP {α β:Type} (f:α→List β) (l:List α) (i:Nat):((l.take i).flatMap f).length≤(l.flatMap f).length:=by
 have h:=List.take_append_drop i l;have:(l.flatMap f).length=((l.take i).flatMap f).length+((l.drop i).flatMap f).length:=by rw[←List.length_append,←List.flatMap_append,h]
 omega
theorem pre_le {S:List St} {T:List iD} {span:iO} {i k:Nat} (hi:i<S.length) (hk:k<T.length):(yt S T span i++qL S[i] T span k).length+(eU S[i] span T[k]).length≤(mX S T span).length:=by
 have h1:(yt S T span (i+1)).length≤(mX S T span).length:=wP _ _ _;have h2:(qL S[i] T span (k+1)).length≤(qL S[i] T span T.length).length:=by
  have:=wP (eU S[i] span) T (k+1);unfold qL;rw[List.take_length];exact this
 rw[Em hi,List.length_append]at h1;rw[En hk,List.length_append]at h2;rw[List.length_append];omega
theorem kY {α:Type} {lt:α→α→Bool} (l:List α):(bM lt l).length=l.length:=by
 suffices h:∀(l B:List α),(l.foldl (mV lt) B).length=l.length+B.length by simpa [bM]using h l []
 intro l
 induction l with
 |nil=>intro B;simp
 |cons x l ih =>
  intro B;rw[List.foldl_cons,ih];have:(mV lt B x).length=B.length+1:=by
   unfold mV;simp only[List.length_append,List.length_take,List.length_cons,List.length_drop];have:posR lt B x≤B.length:=by unfold posR;omega
   omega
  rw[this,List.length_cons];omega
theorem BN {α:Type} {cells:α→List Value} {s:Nat} (hs:∀x,(cells x).length=s) (l:List α) (k:Nat):(l.flatMap cells).drop (k*s)=(l.drop k).flatMap cells:=by
 induction l generalizing k with
 |nil=>simp
 |cons x r ih =>
  cases k with
  |zero=>simp
  |succ k=>rw[List.flatMap_cons,List.drop_succ_cons,List.drop_append,hs,List.drop_of_length_le (by rw[hs,Nat.succ_mul];omega),show (k+1)*s-s=k*s by rw[Nat.succ_mul];omega,ih,List.nil_append]
def yu (w W:World) (v:Value) (l:List bP):Prop:=W.ownsRow w.heap.size 75 6 v l.length ((bM (ltOf aU) l).flatMap ak)∧l.length≤64
theorem yu.ext {w W W':World} {v:Value} {l:List bP} (h:yu w W v l) (hx:Ext W W'):yu w W' v l:=⟨bT h.1 hx,h.2⟩
theorem yu.ra {w W:World} {A:Option Addr} {n c:Nat} {l:List bP} (h:yu w W (.slice A n c) l) (hn:n=l.length):RA ak 6 W W.heap.size A n c (bM (ltOf aU) l):=by
 subst hn;exact RA.d_ h.1 (kY l) (by have:=h.2;omega)
theorem yu.form {w W:World} {v:Value} {l:List bP} (h:yu w W v l):∃A c,v=.slice A l.length c∧l.length≤c∧c≤maxLen∧((A=none∧l.length=0∧c=0)∨∃g,A=some ⟨g,0,none⟩):=by
 rcases h.1.2 with ⟨rfl,hn⟩ | ⟨g,cap,cur,rfl,_,_,h1,h2,_⟩
 ·rw[hn];exact⟨none,0,rfl,Nat.le_refl _,Nat.zero_le _,.inl ⟨rfl,rfl,rfl⟩⟩
 ·exact⟨_,_,rfl,h1,h2,.inr ⟨g,rfl⟩⟩
theorem UL {L:List bP} {P:bP} {j:Nat} (hj:j≤(bM (ltOf aU) L).length) (h1:∀z∈(bM (ltOf aU) L).drop j,ltOf aU P z=true) (h2:j=0∨∃h:j-1<(bM (ltOf aU) L).length,0<j∧ltOf aU P (bM (ltOf aU) L)[j-1]=false) :
  bM (ltOf aU) (L++[P])=(bM (ltOf aU) L).take j++P::(bM (ltOf aU) L).drop j:=by
 rw[Af];have h:=xC (ltOf aU) ((bM (ltOf aU) L).take j) ((bM (ltOf aU) L).drop j) P (fun y hy=>by
  rcases h2 with rfl | ⟨h,hj0,h2⟩
  ·simp at hy
  ·rw[List.getLast?_take,if_neg (by omega)]at hy;rw[List.getElem?_eq_getElem h]at hy;simp at hy;rw[←hy];exact h2) h1
 rw[List.take_append_drop]at h;exact h
set_option maxRecDepth 100000 in
set_option maxHeartbeats 16000000 in
theorem Jg (S:List St) (T:List iD) (SA TA:Option Addr) (ns cs nt ct:Nat) (a b:Int) (w:World) (hS:RA aC 21 w w.heap.size SA ns cs S) (hT:RA bJ 6 w w.heap.size TA nt ct T) :
  Calls Tryz.prog 81 #[.slice SA ns cs,.slice TA nt ct,.agg #[.int .i64 a,.int .i64 b]] w (tN (dB S T ⟨a,b⟩) w):=by
 have RH:Hid (∀W,Ext w W→Calls Tryz.prog 73 #[.slice SA ns cs] W fun e w'=>e=.returned (.bool (eH S))∧Ext W w'):=Lib.hid (fun W h=>sS S SA ns cs W ((hS.below h).more (Below.size h)));have HVT:Hid (∀W,Ext w W→Calls Tryz.prog 80 #[.slice TA nt ct] W fun e w'=>e=.returned (.bool (gU T))∧Ext W w'):=Lib.hid (fun W h=>sQ T TA nt ct W ((hT.below h).more (Below.size h)));have HVP:=Lib.hid (PD a b);have yR:=Lib.hid hS;have CY:=Lib.hid hT;have hns:=hS.len;have hnt:=hT.len;have hcs:=hS.cap;have hct:=hT.cap;have hcsm:cs≤9223372036854775807:=by have h9:=hS.vw;unfold maxLen at h9;exact h9
 have hctm:ct≤9223372036854775807:=by have h9:=hT.vw;unfold maxLen at h9;exact h9
 clear hS hT;obtain⟨res,hres⟩:∃r,r=dB S T ⟨a,b⟩:=⟨_,rfl⟩;rw[←hres];rw[dB]at hres;obtain⟨AL,hAL⟩:∃l,l=mX S T ⟨a,b⟩:=⟨_,rfl⟩;rw[←hAL]at hres;have hso:=fun h:eH S=true=>vN h;have hto:=fun h:gU T=true=>Fa h;have hsp:gV ⟨a,b⟩=true→0≤a∧a<b∧b≤1000001∧b-a≤4320:=fun h=>by simpa [gV]using h
 generalize eH S=qs at RH hres hso;generalize gU T=qt at HVT hres hto;generalize gV ⟨a,b⟩=qp at HVP hres hsp;have jy:=Lib.hid hres;have HSO:=Lib.hid hso;have HTO:=Lib.hid hto;have Ia:=Lib.hid hsp;have Ar:=Lib.hid hAL;have HNS:=Lib.hid hns;have HNT:=Lib.hid hnt;clear hres hso hto hsp hAL hns hnt;go_enter Tryz.func81,Tryz.ntmps81;go_wp2_with fail;have J5:aG (w.alloc (.cells #[.int .i64 a,.int .i64 b] 32)) w.heap.size 32 #[.int .i64 a,.int .i64 b]:=aG.new _ _ _;have hB:Ext w (w.alloc (.cells #[.int .i64 a,.int .i64 b] 32)):=aj (Below.refl _ _) _;obtain⟨g5,hg5⟩:∃g,g=w.heap.size:=⟨_,rfl⟩;rw[←hg5]at J5⊢;generalize w.alloc (.cells #[.int .i64 a,.int .i64 b] 32)=W0 at J5 hB⊢;clear hg5;refine (RH.out _ hB).mono ?_;rintro e W1 ⟨rfl,hx⟩;have J5:=J5.ext hx;have hB:=Ext.trans hB hx;clear hx;cases qs
 ·skip;go_wp2;have hr:=jy.out;simp at hr;subst hr;exact bodyPost_ret (v:=.tuple #[.slice none 0 0,.int .i64 90]) (by simp[results,Tryz.results81,go_sem]) rfl ⟨rfl,hB⟩
 ·skip;go_wp2_with (fail);refine (HVT.out _ hB).mono ?_;rintro e W2 ⟨rfl,hx⟩;have J5:=J5.ext hx;have hB:=Ext.trans hB hx;clear hx;cases qt
  ·skip;go_wp2;have hr:=jy.out;simp at hr;subst hr;exact bodyPost_ret (v:=.tuple #[.slice none 0 0,.int .i64 90]) (by simp[results,Tryz.results81,go_sem]) rfl ⟨rfl,hB⟩
  ·skip;have t0:W2.cell? ⟨g5,0,none⟩=some (.int .i64 a):=J5.cell 0;have t1:W2.cell? ⟨g5,1,none⟩=some (.int .i64 b):=J5.cell 1;go_wp2_with (fail);refine (HVP.out _).mono ?_;rintro e W3 ⟨rfl,hx⟩;have J5:=J5.ext hx;have hB:=Ext.trans hB hx;clear hx;clear t0 t1;cases qp
   ·skip;go_wp2;have hr:=jy.out;simp at hr;subst hr;exact bodyPost_ret (v:=.tuple #[.slice none 0 0,.int .i64 90]) (by simp[results,Tryz.results81,go_sem]) rfl ⟨rfl,hB⟩
   ·skip;obtain⟨b1,b2,b3,b4⟩:=Ia.out (by trivial);obtain⟨hs24,hsv⟩:=HSO.out (by trivial);obtain⟨ht12,VH⟩:=HTO.out (by trivial);have hres:=jy.out;simp only[Bool.and_self,if_true]at hres;have jy:=Lib.hid hres;have PG:=Lib.hid hsv;have Gx:=Lib.hid VH;rw[HNS.out]at hs24;rw[HNT.out]at ht12;clear hres hsv VH RH HVT HVP HSO HTO Ia;have yR:=Lib.hid ((yR.out.below hB).more (Below.size hB));have CY:=Lib.hid ((CY.out.below hB).more (Below.size hB));obtain⟨Wb,hWb⟩:∃W:World,W=W3:=⟨_,rfl⟩;rw[←hWb]at J5 hB yR CY⊢;clear hWb;have hbs:=Below.size hB;go_wp2;go_loopw [8,9] (fun x y wr=>∃i:Nat,i≤ns∧y=.int .i64 i∧Hid (yu w wr x (yt S T ⟨a,b⟩ i))∧Ext Wb wr) (fun _ y _=>ns-(intOf y).toNat)
    case atStart=>exact⟨0,Nat.zero_le _,rfl,Lib.hid ⟨World.ownsRow_nil _ _ _ _,Nat.zero_le _⟩,Ext.refl _⟩
    case round =>
     obtain⟨i,hi,rfl,HO,hx⟩:=hrel;by_cases hin:i<ns
     ·skip;obtain⟨gs,Qz,hz,hA,_,hr,hro⟩:=(yR.out.below hx).MH hin;have hpn:yt S T ⟨a,b⟩ (i+1)=yt S T ⟨a,b⟩ i++qL S[i] T ⟨a,b⟩ nt:=by have:=Em (T:=T) (span:=⟨a,b⟩) hz;rw[HNT.out]at this;exact this
      have hpl:∀(k:Nat) (hk:k<T.length),(yt S T ⟨a,b⟩ i++qL S[i] T ⟨a,b⟩ k).length+(eU S[i] ⟨a,b⟩ T[k]).length≤AL.length:=fun k hk=>by rw[Ar.out];exact pre_le hz hk
      have hsv:=PG.out S[i] (List.getElem_mem hz);generalize yt S T ⟨a,b⟩ i=P0 at HO hpn hpl;generalize S[i]=xs at hr hro hpn hpl hsv;obtain⟨hor,hsl0,hsl1⟩:=Fb hsv;obtain⟨fO,Di⟩:∃n,n=xs.id:=⟨_,rfl⟩;obtain⟨sl,hsl⟩:∃n,n=xs.aY.dP:=⟨_,rfl⟩;rw[←hsl]at hsl0 hsl1;have hs0:wr.cell? ⟨gs,Qz+i*21,none⟩=some (.int .i64 fO):=by rw[Di];exact hr 0 _ rfl
      obtain⟨OX,yM⟩:∃X,(MH xs.aY).toArray=X:=⟨_,rfl⟩;have XQ:Hid (OX.size=7):=Lib.hid (by rw[←yM];rfl);have HOO:Hid (OX.all (·.oneCell')=true):=Lib.hid (by rw[←yM];exact UJ _);have HC6:Hid (OX[6]?=some (.int .i64 sl)):=Lib.hid (by rw[←yM,hsl];rfl);have QB:Hid (wr.rangeAt gs (Qz+i*21+2) OX.toList):=Lib.hid (by rw[←yM];exact hro);have OB:=Lib.hid hpn;have uQ:=Lib.hid hpl;have HOR:=Lib.hid hor;have Qq:=Lib.hid yM;have HSID:=Lib.hid Di;have HSL:=Lib.hid hsl;have Gp:=Lib.hid hs0;clear hpn hpl hor yM Di hsl hsv hr hro hz hs0;subst hA;go_upto_region 8 with (first | (refine ay rfl 51 _ rfl gs (Qz+i*21+2) rfl OX OX.toList (by simp) _ QB.out Tryz.underlying51 rfl (by rw[Array.length_toList,XQ.out];exact aZ) ?_) | (refine aS rfl 51 _ _ rfl _ OX rfl rfl (by rw[XQ.out];exact aZ) (by rw[XQ.out];rfl) HOO.out ?_));have jr:aG (wr.alloc (.cells OX 51)) wr.heap.size 51 OX:=aG.new _ _ _;have hc:Ext wr (wr.alloc (.cells OX 51)):=aj (Below.refl _ _) _;obtain⟨g10,hg⟩:∃g,g=wr.heap.size:=⟨_,rfl⟩;rw[←hg]at jr⊢;generalize wr.alloc (.cells OX 51)=Wc at jr hc⊢;clear hg QB;have hx:=Ext.trans hx hc;have HO:=Lib.hid (HO.out.ext hc);have Gp:=Lib.hid (ah hc Gp.out);clear hc;go_wp2;go_loopw [8,11] (fun x y wr=>∃k:Nat,k≤nt∧y=.int .i64 k∧Hid (yu w wr x (P0++qL xs T ⟨a,b⟩ k))∧Ext Wc wr) (fun _ y _=>nt-(intOf y).toNat)
      case atStart=>exact⟨0,Nat.zero_le _,rfl,Lib.hid (by simpa [qL]using HO.out),Ext.refl _⟩
      case round =>
       clear HO;obtain⟨k,hk,rfl,HO,hy⟩:=hrel;by_cases hkn:k<nt
       ·skip;obtain⟨gt,Zo,hz,hA,_,hr⟩:=(CY.out.below (Ext.trans hx hy)).range tq hkn;have hqn:qL xs T ⟨a,b⟩ (k+1)=qL xs T ⟨a,b⟩ k++eU xs ⟨a,b⟩ T[k]:=En hz;have JB:=uQ.out k hz;have VH:=Gx.out T[k] (List.getElem_mem hz);skip;have UM:P0++qL xs T ⟨a,b⟩ (k+1)=(P0++qL xs T ⟨a,b⟩ k)++eU xs ⟨a,b⟩ T[k]:=by rw[hqn,List.append_assoc]
        clear hqn;generalize P0++qL xs T ⟨a,b⟩ k=Q0 at HO UM JB;generalize T[k]=ys at hr UM JB VH;obtain⟨Eo,hyid⟩:∃n,n=ys.id:=⟨_,rfl⟩;have hy0:wr.cell? ⟨gt,Zo+k*6,none⟩=some (.int .i64 Eo):=by rw[hyid];exact hr 0 _ rfl
        obtain⟨TX,CG⟩:∃X,(bJ ys).toArray=X:=⟨_,rfl⟩;have HZT:Hid (TX.size=6):=Lib.hid (by rw[←CG];rfl);have HRT2:Hid (wr.rangeAt gt (Zo+k*6) TX.toList):=Lib.hid (by rw[←CG];exact hr);obtain⟨a0,ha0⟩:∃n,n=a-sl:=⟨_,rfl⟩;obtain⟨ee,he0⟩:∃n,n=b+sl:=⟨_,rfl⟩;have a01 : -10≤a0:=by omega
        have a02:a0<ee:=by omega
        have e01:ee≤1000011:=by omega
        have w1_:IntKind.i64.wrap (a-sl)=a0:=by rw[ha0];exact IntWalk.i64_in _ (by omega)
        have w2_:IntKind.i64.wrap (a0-1)=a0-1:=IntWalk.i64_in _ (by omega);have w3_:IntKind.i64.wrap (b+sl)=ee:=by rw[he0];exact IntWalk.i64_in _ (by omega)
        obtain⟨is,his⟩:∃f,f=kS xs.aY ys:=⟨_,rfl⟩;obtain⟨po,hpo⟩:∃f,f=h_ xs ys ⟨a,b⟩:=⟨_,rfl⟩;have hpp:eU xs ⟨a,b⟩ ys=(bK is a0 (ee-a0).toNat).map po:=by rw[his,hpo,ha0,he0];unfold eU;rw[←HSL.out,show b+sl-(a-sl)=b-a+2*sl by omega]
        rw[hpp]at UM JB;have HPO:Hid (∀u v,po ⟨u,v⟩=⟨fO,Eo,iy ⟨u,v⟩ (-sl) ⟨a,b⟩,iy ⟨u,v⟩ sl ⟨a,b⟩⟩):=Lib.hid (fun u v=>by rw[hpo,h_,HSID.out,hyid,HSL.out]);have HPY:Hid (∀m W,-10≤m→m≤1000010→Calls Tryz.prog 133 #[.agg OX,.agg TX,.int .i64 m] W fun e w'=>e=.returned (.bool (is m))∧Ext W w'):=Lib.hid (by
         rw[←Qq.out,←CG,his];have hor:=HOR.out;generalize xs.aY=o at hor;obtain⟨p,f,lo,hi,no,tu,sl⟩:=o;obtain⟨id,⟨x,y⟩,re,an,sk⟩:=ys;intro m W h1 h2;exact Je p f lo hi no tu sl id x y re an sk m W hor VH h1 h2)
        have HQN:=Lib.hid UM;have O4:=Lib.hid JB;have HY0:=Lib.hid hy0;have HA0:=Lib.hid ha0;have HE0:=Lib.hid he0;clear UM JB hy0 CG hyid his hpo hpp VH hr hz ha0 he0;subst hA;have K5:=J5.ext (Ext.trans hx hy);have K10:=jr.ext hy;have Dx:=Lib.hid (ah hy Gp.out);obtain⟨Wd,hWd⟩:∃W:World,W=wr:=⟨_,rfl⟩;rw[←hWd]at hy HO HRT2 HY0 K5 K10 Dx⊢;clear hWd;have hdx:=Ext.trans hB (Ext.trans hx hy);have hds:=Below.size hdx;have t0:Wd.cell? ⟨g5,0,none⟩=some (.int .i64 a):=K5.cell 0;have s6:Wd.cell? ⟨g10,6,none⟩=some (.int .i64 sl):=(K10.cell 6).trans HC6.out;go_wp2;clear t0 s6;go_loopw [8,12,13] (fun x y z wr=>∃(m fr:Int) (D:List iO),a0≤m∧m≤ee+1∧z=.int .i64 m∧y=.int .i64 fr∧Hid (yu w wr x (Q0++D.map po))∧Hid (Jf is a0 ee m fr D)∧Ext Wd wr) (fun _ _ z _=>(ee+1-intOf z).toNat)
        case atStart=>exact⟨a0,a0-1,[],Int.le_refl _,by omega,rfl,rfl,Lib.hid (by simpa using HO.out),Lib.hid (.inl ⟨rfl,rfl⟩),Ext.refl _⟩
        case round =>
         clear HO;obtain⟨m,fr,D,m1,m2,rfl,rfl,HO,HSC,hv⟩:=hrel;have t0:wr.cell? ⟨g5,0,none⟩=some (.int .i64 a):=(K5.ext hv).cell 0;have t1:wr.cell? ⟨g5,1,none⟩=some (.int .i64 b):=(K5.ext hv).cell 1;have s6:wr.cell? ⟨g10,6,none⟩=some (.int .i64 sl):=((K10.ext hv).cell 6).trans HC6.out;have wm_:IntKind.i64.wrap (m+1)=m+1:=IntWalk.i64_in _ (by omega);by_cases hme:m≤ee
         ·skip;go_upto_region 15 with (fail);go_cut [14] from 67 to 82 (fun v wc=>∃q:Bool,v=.bool q∧Hid ((q=true→m<ee∧is m=true)∧(q=false→m=ee∨is m=false))∧Ext wr wc)
          case first =>
           by_cases hml:m<ee
           ·have K10w:=K10.ext hv;have HRT3:=Lib.hid (RA.dD HRT2.out hv);have hpc:=fun W=>HPY.out m W (by omega) (by omega);generalize hqm:is m=q at hpc;have HQM:=Lib.hid hqm;have HPC:=Lib.hid hpc;clear hpc hqm;refine aF 16 [some (.int .i64 m),some (.pointer (some ⟨g5,1,none⟩)),some (.int .i64 b),some (.pointer (some ⟨g10,6,none⟩)),some (.int .i64 sl),some (.int .i64 ee),some (.bool true),some (.bool true),some (.agg OX),some (.slice (some ⟨gt,Zo,none⟩) nt ct),some (.int .i64 (k:Int)),some (.pointer (some ⟨gt,Zo+k*6,none⟩)),some (.agg TX),some (.int .i64 m),some (.bool q),some (.bool q)] [] ?_ ?_ ?_
            ·trivial
            ·refine⟨?_,?_,?_,?_,?_,?_,?_,?_,?x8,?_,?_,?_,?x12,?_,?x14,?_,trivial⟩
             case x8 =>
              intro vals w1 hx hd;clear hd;simp only[Lf,au,Act.put,bH,bG];refine aT rfl 51 _ rfl g10 0 rfl OX OX.toList (by simp) _ (aG.range (K10w.ext hx.aH) _ rfl) Tryz.underlying51 rfl (by rw[Array.length_toList,XQ.out];exact aZ) ?_;go_wp2;exact q_
             case x12 =>
              intro vals w1 hx hd;clear hd;simp only[Lf,au,Act.put,bH,bG];refine aT rfl 71 _ rfl gt (Zo+k*6) rfl TX TX.toList (by simp) _ (RA.dD HRT3.out hx.aH) Tryz.underlying71 rfl (by rw[Array.length_toList,HZT.out];exact Dw) ?_;go_wp2;exact q_
             case x14 =>
              intro vals w1 hx hd;clear hd;simp only[Lf,au,Act.put,bH,bG];go_wp2_with fail;refine (HPC.out _).mono ?_;rintro e w2 ⟨rfl,hb2⟩;go_wp2;exact⟨rfl,hb2,rfl⟩
             all_goals
              intro vals w1 hx hd;clear hd;simp only[Lf,au,Act.put,bH,bG];have t1:=ah hx t1;have s6:=ah hx s6;go_wp2;exact iq
            intro vals W5 hx hf;have e15:vals 15=.bool q:=hf 15 (by omega);clear hf;have hx:=hx.aH;refine eP 16 _ (by kernel_rfl) (by kernel_rfl) rfl ?_;simp only[Lf,au,Act.put,FR_];rw[e15];clear e15;go_wp2_with fail;go_meet
            case rel=>exact⟨q,rfl,Lib.hid ⟨fun h=>⟨hml,by rw[HQM.out];exact h⟩,fun h=>.inr (by rw[HQM.out];exact h)⟩,hx⟩
           ·skip;have hmf:decide (m<ee)=false:=by simp;omega
            refine aF 16 [some (.int .i64 m),some (.pointer (some ⟨g5,1,none⟩)),some (.int .i64 b),some (.pointer (some ⟨g10,6,none⟩)),some (.int .i64 sl),some (.int .i64 ee),some (.bool false),some (.bool false),some (undef),some (undef),some (undef),some (undef),some (undef),some (undef),some (undef),some (.bool false)] [] ?_ ?_ ?_
            ·trivial
            ·refine⟨?_,?_,?_,?_,?_,?_,?_,?_,?_,?_,?_,?_,?_,?_,?_,?_,trivial⟩
             all_goals
              intro vals w1 hx hd;clear hd;simp only[Lf,au,Act.put,bH,bG];have t1:=ah hx t1;have s6:=ah hx s6;go_wp2;exact iq
            intro vals W5 hx hf;have e15:vals 15=.bool false:=hf 15 (by omega);clear hf;have hx:=hx.aH;refine eP 16 _ (by kernel_rfl) (by kernel_rfl) rfl ?_;simp only[Lf,au,Act.put,FR_];rw[e15];clear e15;go_wp2_with fail;go_meet
            case rel=>exact⟨false,rfl,Lib.hid ⟨fun h=>(by cases h),fun _=>.inl (by omega)⟩,hx⟩
          obtain⟨q,rfl,HQ,hxc⟩:=hcut;have HO:=Lib.hid (HO.out.ext hxc);have hv:=Ext.trans hv hxc;clear hxc t0 t1 s6;obtain⟨Wx,Y0⟩:∃W:World,W=wc:=⟨_,rfl⟩;rw[←Y0]at HO hv⊢;clear Y0;have t0:Wx.cell? ⟨g5,0,none⟩=some (.int .i64 a):=(K5.ext hv).cell 0;have s6:Wx.cell? ⟨g10,6,none⟩=some (.int .i64 sl):=((K10.ext hv).cell 6).trans HC6.out;rcases HSC.out with ⟨hf1,hall⟩ | ⟨hf1,hf2,hf3,hop,hall⟩
          ·skip;have hfa:a0-1<a0:=by omega
           subst hf1;cases q
           ·skip;have hq:=HQ.out.2 rfl;have MI:Hid (Jf is a0 ee (m+1) (a0-1) D):=Lib.hid (.inl ⟨rfl,by
             rw[hall];rcases Int.lt_or_le m ee with h | h
             ·rw[Ei h (hq.resolve_left (by omega))]
             ·rw[rest_end h,rest_end (by omega)]⟩)
            clear hall HSC hq;go_wp2;clear t0 s6;go_roundw
            case rel=>exact⟨m+1,a0-1,D,by omega,by omega,rfl,rfl,HO,MI,hv⟩
            case measure=>simp[intOf];omega
           ·skip;obtain⟨hq1,hq2⟩:=HQ.out.1 rfl;have MI:Hid (Jf is a0 ee (m+1) m D):=Lib.hid (.inr ⟨m1,by omega,by omega,fun t h1 h2=>by rw[show t=m by omega];exact hq2,hall⟩);clear hall HSC hq2;go_wp2;clear t0 s6;go_roundw
            case rel=>exact⟨m+1,m,D,by omega,by omega,rfl,rfl,HO,MI,hv⟩
            case measure=>simp[intOf];omega
          ·skip;have hfa:¬fr<a0:=by omega
           cases q
           ·have hcl:=MG hf2 hf3 hop (HQ.out.2 rfl);have hrr:qR is ee m=qR is ee (m+1):=by
             rcases Int.lt_or_le m ee with h | h
             ·rw[Ei h ((HQ.out.2 rfl).resolve_left (by omega))]
             ·rw[rest_end h,rest_end (by omega)]
            have UN:bK is a0 (ee-a0).toNat=(D++[⟨fr,m⟩])++qR is ee (m+1):=by
             rw[hall,hcl,hrr,List.append_assoc];rfl
            have hlen:(Q0++(D++[(⟨fr,m⟩:iO)]).map po).length≤AL.length:=by
             have:=O4.out;rw[UN]at this;simp only[List.length_append,List.length_map,List.length_cons,List.length_nil]at this⊢;omega
            have MI:Hid (Jf is a0 ee (m+1) (a0-1) (D++[⟨fr,m⟩])):=Lib.hid (.inl ⟨rfl,UN⟩);have HLEN:=Lib.hid hlen;clear hcl hall UN hrr hop HSC hlen HQ;have hpm:=HPO.out fr m;have Jh:=Ob (fr+sl) (m-sl) a b;have Ji:=Ob (fr-sl) (m+sl) a b;rw[show (⟨fr+sl,m-sl⟩:iO)=⟨fr - -sl,m + -sl⟩ by congr 1;omega,Ej]at Jh;rw[Ej]at Ji;obtain⟨P,hP⟩:∃P,P=po ⟨fr,m⟩:=⟨_,rfl⟩;rw[←hP]at hpm;generalize iy ⟨fr,m⟩ (-sl) ⟨a,b⟩=u1 at hpm Jh;generalize iy ⟨fr,m⟩ sl ⟨a,b⟩=u2 at hpm Ji;obtain⟨p2,p3⟩:=u1;obtain⟨p4,p5⟩:=u2;dsimp only at Jh Ji;have hmap:(Q0++(D++[(⟨fr,m⟩:iO)]).map po)=(Q0++D.map po)++[P]:=by rw[hP];simp
            rw[hmap]at HLEN;have HMAP:=Lib.hid hmap;have Zp:=Lib.hid hpm;have HC1:=Lib.hid Jh;have HC2:=Lib.hid Ji;clear hmap hpm hP Jh Ji;obtain⟨QL,hQL⟩:∃l,l=Q0++D.map po:=⟨_,rfl⟩;rw[←hQL]at HLEN HO;have rE:=Lib.hid hQL;clear hQL;obtain⟨AO,cO,hvo,ho1,ho2,XZ⟩:=HO.out.form;obtain⟨nO,Jj⟩:∃n,n=QL.length:=⟨_,rfl⟩;rw[←Jj]at hvo ho1 XZ;subst hvo;have hO64:nO≤64:=by rw[Jj];exact HO.out.2
            have xg:=Lib.hid (HO.out.ra Jj);obtain⟨OL,X0⟩:∃l,l=bM (ltOf aU) QL:=⟨_,rfl⟩;have UO:OL.length=nO:=by rw[X0,kY,Jj]
            rw[←X0]at xg;have HOL:=Lib.hid X0;have HNO:=Lib.hid Jj;have uV:=Lib.hid UO;have HAO:=Lib.hid XZ;have hcO:cO≤9223372036854775807:=by unfold maxLen at ho2;exact ho2
            clear X0 Jj UO XZ ho2 HO;have w4_:IntKind.i64.wrap (fr+sl)=fr+sl:=IntWalk.i64_in _ (by omega);have w5_:IntKind.i64.wrap (m-sl)=m-sl:=IntWalk.i64_in _ (by omega);have w6_:IntKind.i64.wrap (fr-sl)=fr-sl:=IntWalk.i64_in _ (by omega);have w7_:IntKind.i64.wrap (m+sl)=m+sl:=IntWalk.i64_in _ (by omega);go_upto_region 19 with (fail);have hs0:=ah hv Dx.out;have hy0:=ah hv HY0.out;refine aF 12 [some (.slice (some ⟨gs,Qz,none⟩) ns cs),some (.int .i64 (i:Int)),some (.pointer (some ⟨gs,Qz+i*21,none⟩)),some (.pointer (some ⟨gs,Qz+i*21,none⟩)),some (.int .i64 fO),some (.slice (some ⟨gt,Zo,none⟩) nt ct),some (.int .i64 (k:Int)),some (.pointer (some ⟨gt,Zo+k*6,none⟩)),some (.pointer (some ⟨gt,Zo+k*6,none⟩)),some (.int .i64 Eo),some (.agg #[.int .i64 fO,.int .i64 Eo,.int .i64 0,.int .i64 0,.int .i64 0,.int .i64 0]),none] [(11,.w fun v w1=>∃g,v=.pointer (some ⟨g,0,none⟩)∧Wx.heap.size≤g∧aG w1 g 75 #[.int .i64 0,.int .i64 0,.int .i64 0,.int .i64 0,.int .i64 0,.int .i64 0])] ?_ ?_ ?_
            ·refine⟨?_,trivial⟩
             ·intro v w1 w2 hr hx;obtain⟨g,h1,h2,h3⟩:=hr;exact⟨g,h1,h2,h3.ext hx⟩
            ·refine⟨?_,?_,?_,?_,?_,?_,?_,?_,?_,?_,?_,?x11,trivial⟩
             case x11 =>
              intro vals w1 hx hd;clear hd;simp only[Lf,au,Act.put,bH,bG];have hz:=Below.size hx.aH;go_wp2;exact⟨rfl,(by repeat (first | exact Below.refl _ _ | assumption | refine Below.drew ?_ | refine below_drewN ?_ _ | refine aj ?_ _ | refine Below.setCell ?_ (by first | (simp;done) | omega | (simp;omega)) _ | refine aA ?_ (by assumption))),_,rfl,by omega,aG.new _ _ _⟩
             all_goals
              intro vals w1 hx hd;clear hd;simp only[Lf,au,Act.put,bH,bG];have hs0:=ah hx hs0;have hy0:=ah hx hy0;go_wp2;exact iq
            intro vals We hz hf;have e10:vals 10=.agg #[.int .i64 fO,.int .i64 Eo,.int .i64 0,.int .i64 0,.int .i64 0,.int .i64 0]:=hf 10 (by omega);obtain⟨g15,e11,n15,oI⟩:∃g,vals 11=.pointer (some ⟨g,0,none⟩)∧Wx.heap.size≤g∧aG We g 75 #[.int .i64 0,.int .i64 0,.int .i64 0,.int .i64 0,.int .i64 0,.int .i64 0]:=hf 11 (by omega);clear hf hs0 hy0 t0 s6;have hz:=hz.aH;refine eP 12 _ (by kernel_rfl) (by kernel_rfl) rfl ?_;simp only[Lf,au,Act.put,FR_];rw[e10,e11];clear e10 e11;have z0:We.cell? ⟨g15,0,none⟩=some (.int .i64 0):=oI.cell 0;have z1:We.cell? ⟨g15,1,none⟩=some (.int .i64 0):=oI.cell 1;have z2:We.cell? ⟨g15,2,none⟩=some (.int .i64 0):=oI.cell 2;have z3:We.cell? ⟨g15,3,none⟩=some (.int .i64 0):=oI.cell 3;have z4:We.cell? ⟨g15,4,none⟩=some (.int .i64 0):=oI.cell 4;have z5:We.cell? ⟨g15,5,none⟩=some (.int .i64 0):=oI.cell 5;have y0:We.frozen? ⟨g15,0,none⟩=false:=oI.frozen 0;have y1:We.frozen? ⟨g15,1,none⟩=false:=oI.frozen 1;have y2:We.frozen? ⟨g15,2,none⟩=false:=oI.frozen 2;have y3:We.frozen? ⟨g15,3,none⟩=false:=oI.frozen 3;have y4:We.frozen? ⟨g15,4,none⟩=false:=oI.frozen 4;have y5:We.frozen? ⟨g15,5,none⟩=false:=oI.frozen 5;go_upto_region 20 with (fail);clear z0 y0 z1 y1 z2 y2 z3 y3 z4 y4 z5 y5;have oI:=oI.set6 (.int .i64 fO) (.int .i64 Eo) (.int .i64 0) (.int .i64 0) (.int .i64 0) (.int .i64 0);have hz:Ext Wx ((((((We.setCell ⟨g15,0,none⟩ (.int .i64 fO)).setCell ⟨g15,1,none⟩ (.int .i64 Eo)).setCell ⟨g15,2,none⟩ (.int .i64 0)).setCell ⟨g15,3,none⟩ (.int .i64 0)).setCell ⟨g15,4,none⟩ (.int .i64 0)).setCell ⟨g15,5,none⟩ (.int .i64 0)):=((((((hz.setCell (p:=⟨g15,0,none⟩) n15 _).setCell (p:=⟨g15,1,none⟩) n15 _).setCell (p:=⟨g15,2,none⟩) n15 _).setCell (p:=⟨g15,3,none⟩) n15 _).setCell (p:=⟨g15,4,none⟩) n15 _).setCell (p:=⟨g15,5,none⟩) n15 _);generalize (((((We.setCell ⟨g15,0,none⟩ (.int .i64 fO)).setCell ⟨g15,1,none⟩ (.int .i64 Eo)).setCell ⟨g15,2,none⟩ (.int .i64 0)).setCell ⟨g15,3,none⟩ (.int .i64 0)).setCell ⟨g15,4,none⟩ (.int .i64 0)).setCell ⟨g15,5,none⟩ (.int .i64 0)=Wf at oI hz⊢;have t0:Wf.cell? ⟨g5,0,none⟩=some (.int .i64 a):=(K5.ext (Ext.trans hv hz)).cell 0;have t1:Wf.cell? ⟨g5,1,none⟩=some (.int .i64 b):=(K5.ext (Ext.trans hv hz)).cell 1;have s6:Wf.cell? ⟨g10,6,none⟩=some (.int .i64 sl):=((K10.ext (Ext.trans hv hz)).cell 6).trans HC6.out;go_wp2_with (fail);refine (HC1.out _).mono ?_;rintro e Wgx ⟨rfl,hx9⟩;have oI:=oI.ext hx9;have hz:=Ext.trans hz hx9;clear hx9 t0 t1 s6;have z0:Wgx.cell? ⟨g15,2,none⟩=some (.int .i64 0):=oI.cell 2;have z1:Wgx.cell? ⟨g15,3,none⟩=some (.int .i64 0):=oI.cell 3;have y0:Wgx.frozen? ⟨g15,2,none⟩=false:=oI.frozen 2;have y1:Wgx.frozen? ⟨g15,3,none⟩=false:=oI.frozen 3;go_upto_region 21 with (fail);clear z0 z1 y0 y1;have oI:=(oI.cZ 2 (.int .i64 p2)).cZ 3 (.int .i64 p3);have hz:=(hz.setCell (p:=⟨g15,2,none⟩) n15 (.int .i64 p2)).setCell (p:=⟨g15,3,none⟩) n15 (.int .i64 p3);simp only[List.setIfInBounds_toArray,List.set_cons_zero,List.set_cons_succ]at oI;generalize (Wgx.setCell ⟨g15,2,none⟩ (.int .i64 p2)).setCell ⟨g15,3,none⟩ (.int .i64 p3)=Wg at oI hz⊢;have t0:Wg.cell? ⟨g5,0,none⟩=some (.int .i64 a):=(K5.ext (Ext.trans hv hz)).cell 0;have t1:Wg.cell? ⟨g5,1,none⟩=some (.int .i64 b):=(K5.ext (Ext.trans hv hz)).cell 1;have s6:Wg.cell? ⟨g10,6,none⟩=some (.int .i64 sl):=((K10.ext (Ext.trans hv hz)).cell 6).trans HC6.out;go_wp2_with (fail);refine (HC2.out _).mono ?_;rintro e Whx ⟨rfl,hx9⟩;have oI:=oI.ext hx9;have hz:=Ext.trans hz hx9;clear hx9 t0 t1 s6;have z0:Whx.cell? ⟨g15,4,none⟩=some (.int .i64 0):=oI.cell 4;have z1:Whx.cell? ⟨g15,5,none⟩=some (.int .i64 0):=oI.cell 5;have y0:Whx.frozen? ⟨g15,4,none⟩=false:=oI.frozen 4;have y1:Whx.frozen? ⟨g15,5,none⟩=false:=oI.frozen 5;go_upto_region 22 with (fail);clear z0 z1 y0 y1;have oI:=(oI.cZ 4 (.int .i64 p4)).cZ 5 (.int .i64 p5);have hz:=(hz.setCell (p:=⟨g15,4,none⟩) n15 (.int .i64 p4)).setCell (p:=⟨g15,5,none⟩) n15 (.int .i64 p5);simp only[List.setIfInBounds_toArray,List.set_cons_zero,List.set_cons_succ]at oI;generalize (Whx.setCell ⟨g15,4,none⟩ (.int .i64 p4)).setCell ⟨g15,5,none⟩ (.int .i64 p5)=Wh at oI hz⊢;clear w4_ w5_ w6_ w7_ HC1 HC2;have t0:Wh.cell? ⟨g5,0,none⟩=some (.int .i64 a):=(K5.ext (Ext.trans hv hz)).cell 0;have s6:Wh.cell? ⟨g10,6,none⟩=some (.int .i64 sl):=((K10.ext (Ext.trans hv hz)).cell 6).trans HC6.out;go_wp2;clear t0 s6;go_loopw [16] (fun x wr=>∃j:Nat,j≤nO∧x=.int .i64 j∧Hid (∀z∈OL.drop j,ltOf aU P z=true)∧Ext Wh wr) (fun x _=>(intOf x).toNat)
            case atStart=>exact⟨nO,Nat.le_refl _,rfl,Lib.hid (fun z hz=>by rw[List.drop_of_length_le (by rw[uV.out];exact Nat.le_refl _)]at hz;cases hz),Ext.refl _⟩
            case round =>
             obtain⟨j,hj,rfl,Cm,hh⟩:=hrel;go_upto_region 24 with (fail);go_cut [157] from 147 to 157 (fun v wc=>∃q:Bool,v=.bool q∧Hid ((q=true→∃h:j-1<OL.length,0<j∧ltOf aU P OL[j-1]=true)∧(q=false→j=0∨∃h:j-1<OL.length,0<j∧ltOf aU P OL[j-1]=false))∧Ext wr wc)
             case first =>
              by_cases hj0:j=0
              ·have cj:decide ((0:Int)<(j:Int))=false:=by simp;omega
               refine aF 11 [some (.int .i64 (j:Int)),some (.bool false),some (.bool false),some (undef),some (undef),some (undef),some (undef),some (undef),some (undef),some (undef),some (.bool false)] [] ?_ ?_ ?_
               ·trivial
               ·refine⟨?_,?_,?_,?_,?_,?_,?_,?_,?_,?_,?_,trivial⟩
                all_goals
                 intro vals w1 hx hd;clear hd;simp only[Lf,au,Act.put,bH,bG];go_wp2;exact iq
               intro vals W5 hx9 hf;have e10:vals 10=.bool false:=hf 10 (by omega);clear hf;have hx9:=hx9.aH;refine dO (by kernel_rfl) ?_;simp only[Lf,au,Act.put,FR_];rw[e10];clear e10;go_wp2_with fail;go_meet
               case rel=>exact⟨false,rfl,Lib.hid ⟨fun h=>(by cases h),fun _=>.inl hj0⟩,hx9⟩
              ·have hj1:0<j:=by omega
               have cj:decide ((0:Int)<(j:Int))=true:=by simp;omega
               have hki:IntKind.i64.wrap ((j:Int)-1)=(j:Int)-1:=IntWalk.i64_in _ (by omega);have rP:((j:Int)-1).toNat=j-1:=by omega
               have hkz:(0:Int)≤(j:Int)-1:=by omega
               have hkl:(j:Int)-1<(nO:Int):=by omega
               obtain⟨go,Jk,Zq,hA,_,hc1⟩:=(xg.out.below (Ext.trans hz hh)).at_ bg (show j-1<nO by omega);have hb:=qI;have hst:∀q,ltOf aU P OL[j-1]=q→(∃h:j-1<OL.length,0<j∧ltOf aU P OL[j-1]=q):=fun q h=>⟨Zq,hj1,h⟩;skip;have hbf:=fun W=>qI fO Eo p2 p3 p4 p5 OL[j-1].sat OL[j-1].dh OL[j-1].sure.fr OL[j-1].sure.tt OL[j-1].can.fr OL[j-1].can.tt W;have hpe:P=⟨fO,Eo,⟨p2,p3⟩,⟨p4,p5⟩⟩:=Zp.out;rw[←hpe]at hbf;obtain⟨lq,hlq⟩:∃q,q=ltOf aU P OL[j-1]:=⟨_,rfl⟩;have qM:∀W,Calls Tryz.prog 135 #[.agg #[.int .i64 fO,.int .i64 Eo,.int .i64 p2,.int .i64 p3,.int .i64 p4,.int .i64 p5],.agg #[.int .i64 OL[j-1].sat,.int .i64 OL[j-1].dh,.int .i64 OL[j-1].sure.fr,.int .i64 OL[j-1].sure.tt,.int .i64 OL[j-1].can.fr,.int .i64 OL[j-1].can.tt]] W fun e w'=>e=.returned (.bool lq)∧Ext W w':=by rw[hlq];exact hbf
               have XP:Hid ((lq=true→∃h:j-1<OL.length,0<j∧ltOf aU P OL[j-1]=true)∧(lq=false→j=0∨∃h:j-1<OL.length,0<j∧ltOf aU P OL[j-1]=false)):=Lib.hid ⟨fun h=>hst true (by rw[←hlq];exact h),fun h=>.inr (hst false (by rw[←hlq];exact h))⟩;generalize OL[j-1]=ez at hc1 qM;have v0:wr.cell? ⟨go,Jk+(j-1)*6,none⟩=some (.int .i64 ez.sat):=hc1 0 (by omega);have v1:wr.cell? ⟨go,Jk+(j-1)*6+1,none⟩=some (.int .i64 ez.dh):=hc1 1 (by omega);have v2:wr.cell? ⟨go,Jk+(j-1)*6+2,none⟩=some (.int .i64 ez.sure.fr):=hc1 2 (by omega);have v3:wr.cell? ⟨go,Jk+(j-1)*6+3,none⟩=some (.int .i64 ez.sure.tt):=hc1 3 (by omega);have v4:wr.cell? ⟨go,Jk+(j-1)*6+4,none⟩=some (.int .i64 ez.can.fr):=hc1 4 (by omega);have v5:wr.cell? ⟨go,Jk+(j-1)*6+5,none⟩=some (.int .i64 ez.can.tt):=hc1 5 (by omega);generalize ez.sat=z0_ at v0 qM;generalize ez.dh=z1_ at v1 qM;generalize ez.sure.fr=z2_ at v2 qM;generalize ez.sure.tt=z3_ at v3 qM;generalize ez.can.fr=z4_ at v4 qM;generalize ez.can.tt=z5_ at v5 qM;have HBF:=Lib.hid qM;clear hb hst hbf hpe hlq qM hc1 Zq;subst hA;have PZ:=oI.ext hh;have u0:wr.cell? ⟨g15,0,none⟩=some (.int .i64 fO):=PZ.cell 0;have u1:wr.cell? ⟨g15,1,none⟩=some (.int .i64 Eo):=PZ.cell 1;have u2:wr.cell? ⟨g15,2,none⟩=some (.int .i64 p2):=PZ.cell 2;have u3:wr.cell? ⟨g15,3,none⟩=some (.int .i64 p3):=PZ.cell 3;have u4:wr.cell? ⟨g15,4,none⟩=some (.int .i64 p4):=PZ.cell 4;have u5:wr.cell? ⟨g15,5,none⟩=some (.int .i64 p5):=PZ.cell 5;refine aF 11 [some (.int .i64 (j:Int)),some (.bool true),some (.bool true),some (.agg #[.int .i64 fO,.int .i64 Eo,.int .i64 p2,.int .i64 p3,.int .i64 p4,.int .i64 p5]),some (.slice (some ⟨go,Jk,none⟩) nO cO),some (.int .i64 (j:Int)),some (.int .i64 ((j:Int)-1)),some (.pointer (some ⟨go,Jk+(j-1)*6,none⟩)),some (.agg #[.int .i64 z0_,.int .i64 z1_,.int .i64 z2_,.int .i64 z3_,.int .i64 z4_,.int .i64 z5_]),some (.bool lq),some (.bool lq)] [] ?_ ?_ ?_
               ·trivial
               ·refine⟨?_,?_,?_,?_,?_,?_,?_,?_,?_,?x9,?_,trivial⟩
                case x9 =>
                 intro vals w1 hx hd;clear hd;simp only[Lf,au,Act.put,bH,bG];go_wp2_with fail;refine (HBF.out _).mono ?_;rintro e w2 ⟨rfl,hb2⟩;go_wp2;exact⟨rfl,hb2,rfl⟩
                all_goals
                 intro vals w1 hx hd;clear hd;simp only[Lf,au,Act.put,bH,bG];have u0:=ah hx u0;have u1:=ah hx u1;have u2:=ah hx u2;have u3:=ah hx u3;have u4:=ah hx u4;have u5:=ah hx u5;have v0:=ah hx v0;have v1:=ah hx v1;have v2:=ah hx v2;have v3:=ah hx v3;have v4:=ah hx v4;have v5:=ah hx v5;go_wp2;exact iq
               intro vals W5 hx9 hf;have e10:vals 10=.bool lq:=hf 10 (by omega);clear hf;have hx9:=hx9.aH;refine dO (by kernel_rfl) ?_;simp only[Lf,au,Act.put,FR_];rw[e10];clear e10;go_wp2_with fail;go_meet
               case rel=>exact⟨lq,rfl,Lib.hid XP.out,hx9⟩
             obtain⟨q,rfl,X4,hx9⟩:=hcut;have hh:=Ext.trans hh hx9;clear hx9;obtain⟨Wk,hWk⟩:∃W:World,W=wc:=⟨_,rfl⟩;rw[←hWk]at hh⊢;clear hWk;cases q
             ·skip;have hstop:=X4.out.2 rfl;have hins:=UL (L:=QL) (P:=P) (j:=j) (by rw[←HOL.out,uV.out];exact hj) (by rw[←HOL.out];exact Cm.out) (by rw[←HOL.out];exact hstop);rw[←HOL.out]at hins;obtain⟨CL,X5⟩:∃l,l=P::OL.drop j:=⟨_,rfl⟩;have MJ:CL.length=nO-j+1:=by rw[X5,List.length_cons,List.length_drop,uV.out]
              rw[←X5]at hins;obtain⟨NL,X6⟩:∃l,l=OL.take j++CL:=⟨_,rfl⟩;have UQ:NL.length=nO+1:=by rw[X6,List.length_append,List.length_take,uV.out,MJ];omega
              rw[←X6]at hins;have KZ:=Lib.hid hins;have Yy:=Lib.hid X5;have X7:=Lib.hid X6;have UR:=Lib.hid MJ;have X8:=Lib.hid UQ;clear hstop hins X4 Cm X5 X6 MJ UQ;have oI:=oI.ext hh;have hz:=Ext.trans hz hh;clear hh;go_upto_region 26 with (fail);obtain⟨PX,MK⟩:∃X,(ak P).toArray=X:=⟨_,rfl⟩;have hpx:#[.int .i64 fO,.int .i64 Eo,.int .i64 p2,.int .i64 p3,.int .i64 p4,.int .i64 p5]=PX:=by rw[←MK,Zp.out];rfl
              rw[hpx]at oI;have X9:Hid (PX.size=6):=Lib.hid (by rw[←MK];rfl);have VI:=Lib.hid MK;clear hpx MK;have Df:=Lib.hid ((xg.out.below hz).more (Below.size hz));have hws:=Below.size (Ext.trans hdx (Ext.trans hv hz));go_cut [8] from 160 to 170 (fun v wc=>Hid (pV wc w.heap.size v NL)∧Ext Wk wc)
              case first =>
               have hsplit:OL.flatMap ak=(OL.take j).flatMap ak++(OL.drop j).flatMap ak:=by rw[←List.flatMap_append,List.take_append_drop]
               rcases HAO.out with ⟨rfl,hn0,rfl⟩ | ⟨gO,rfl⟩
               ·skip;obtain rfl:nO=0:=hn0;obtain rfl:j=0:=by omega
                clear HAO;have Vs:Hid (Reads Wk Wk.heap.size 6 none 0 ((OL.drop 0).flatMap ak)):=Lib.hid (by rw[show OL=[] from List.eq_nil_of_length_eq_zero uV.out];exact Reads.none_);refine aF 11 [some (.slice none 0 0),some (.int .i64 0),some (.int .i64 0),some (.slice none 0 0),some (.agg PX),none,some (.slice none 0 0),some (.int .i64 0),some (.slice none 0 0),none,none] [(5,.w fun v w1=>∃g,v=.slice (some ⟨g,0,none⟩) 1 1∧aG w1 g 75 PX),(9,.w fun v w1=>qV w1 v CL),(10,.w fun v w1=>pV w1 Wk.heap.size v NL)] ?_ ?_ ?_
                ·refine⟨?_,?_,?_,trivial⟩
                 ·intro v w1 w2 hr hx;obtain⟨g,h1,h3⟩:=hr;exact⟨g,h1,h3.ext hx⟩
                 ·intro v w1 w2 hr hx;exact hr.ext hx
                 ·intro v w1 w2 hr hx;exact hr.ext hx
                ·refine⟨?_,?_,?_,?_,?x4,?x5,?_,?_,?_,?x9,?x10,trivial⟩
                 case x4 =>
                  intro vals w1 hx hd;clear hd;simp only[Lf,au,Act.put,bH,bG];refine ay rfl 75 _ rfl g15 0 rfl PX PX.toList (by simp) _ (aG.range (oI.ext hx.aH) _ rfl) Tryz.underlying75 rfl (by rw[Array.length_toList,X9.out];exact tY) ?_;go_wp2;exact q_
                 case x5 =>
                  intro vals w1 hx hd;clear hd;simp only[Lf,au,Act.put,bH,bG];refine bY rfl _ _ _ rfl PX rfl Tryz.underlying36 6 qK X9.out (by omega) (by omega) ?_;go_wp2;exact⟨rfl,(by repeat (first | exact Below.refl _ _ | assumption | refine Below.drew ?_ | refine below_drewN ?_ _ | refine aj ?_ _ | refine Below.setCell ?_ (by first | (simp;done) | omega | (simp;omega)) _ | refine aA ?_ (by assumption))),_,rfl,aG.new _ _ _⟩
                 case x9 =>
                  intro vals w1 hx hd;have r5:(fun v w1=>∃g,v=.slice (some ⟨g,0,none⟩) 1 1∧aG w1 g 75 PX) (vals 5) w1:=hd 5 (by decide) rfl;dsimp only at r5;obtain⟨gx,e_5,jb⟩:=r5;clear hd;simp only[Lf,au,Act.put,bH,bG,e_5];clear e_5;rw[←VI.out]at jb;obtain⟨v9,w9,hrun,hx9,hcs⟩:=wM _ gx P (OL.drop 0) none 0 _ _ jb (Vs.out.below hx.aH) (by omega);rw[←Yy.out]at hcs;refine aP rfl _ _ _ rfl rfl rfl hrun ?_;clear hrun;go_wp2;exact⟨rfl,hx9,hcs⟩
                 case x10 =>
                  intro vals w1 hx hd;have r9:(fun v w1=>qV w1 v CL) (vals 9) w1:=hd 9 (by decide) rfl;dsimp only at r9;obtain⟨A9,c9,e_9,hc9⟩:=r9;clear hd;simp only[Lf,au,Act.put,bH,bG,e_9];clear e_9;have hzz:=Below.size hx.aH;have MN:=List.length_take (i:=0) (l:=OL);have MO:=UR.out;have MP:=uV.out;obtain⟨v9,w9,hrun,hx9,hown⟩:=wO _ (OL.take 0) CL _ 0 c9 A9 (.inl ⟨rfl,rfl⟩) (by omega) (by omega) (by omega) hc9;rw[←X7.out]at hown;refine aP rfl _ _ _ rfl rfl rfl hrun ?_;clear hrun MN MO MP;go_wp2;exact⟨rfl,hx9,hown.base hzz⟩
                 all_goals
                  intro vals w1 hx hd;clear hd;simp only[Lf,au,Act.put,bH,bG];go_wp2;exact iq
                intro vals W5 hx9 hf;have hown:pV W5 Wk.heap.size (vals 10) NL:=hf 10 (by omega);clear hf;have hx9:=hx9.aH;have HOWN:=Lib.hid (hown.base hws);clear hown;refine eP 11 _ (by kernel_rfl) (by kernel_rfl) rfl ?_;simp only[Lf,au,Act.put,FR_];generalize vals 10=v8 at HOWN⊢;go_wp2_with fail;go_meet
                case rel=>exact⟨Lib.hid HOWN.out,hx9⟩
               ·skip;clear HAO;obtain⟨A8,h8⟩:∃A8:Addr,(cO=j∧A8=⟨gO,0,none⟩)∨(j<cO∧A8=⟨gO,j*6,none⟩):=by
                 by_cases h:cO=j
                 ·exact⟨_,.inl ⟨h,rfl⟩⟩
                 ·exact⟨_,.inr ⟨by omega,rfl⟩⟩
                have hrd:=Df.out.rd.cut hj ho1;rw[BN bg]at hrd;have Vs:Hid (Reads Wk Wk.heap.size 6 (some A8) (nO-j) ((OL.drop j).flatMap ak)):=Lib.hid (by
                 rcases h8 with ⟨h,rfl⟩ | ⟨h,rfl⟩
                 ·rw[if_pos h]at hrd;exact hrd
                 ·rw[if_neg (by omega)]at hrd;simpa [Addr.add_lit]using hrd)
                have HCU:Hid (∀q u,((OL.take j).flatMap ak)[q]?=some u→Wk.cell? ⟨gO,q,none⟩=some u):=Lib.hid (fun q u hu=>by
                 have JB:=(List.getElem?_eq_some_iff.1 hu).1;have hql2:0<nO:=by
                  have:=Df.out.len;rcases Nat.eq_zero_or_pos nO with h | h
                  ·rw[show OL=[] from List.eq_nil_of_length_eq_zero (by omega)]at JB;simp at JB
                  ·exact h
                 obtain⟨b9,o9,hA,_,hc⟩:=Df.out.rd.2 hql2;injection hA with hA;injection hA with h1 h2;subst h1 h2;have:=hc q u (by rw[hsplit,List.getElem?_append_left JB];exact hu);rwa[Nat.zero_add]at this)
                have H8:=Lib.hid h8;clear h8 hrd hsplit;refine aF 11 [some (.slice (some ⟨gO,0,none⟩) nO cO),some (.int .i64 (j:Int)),some (.int .i64 (j:Int)),some (.slice (some ⟨gO,0,none⟩) j j),some (.agg PX),none,some (.slice (some ⟨gO,0,none⟩) nO cO),some (.int .i64 (j:Int)),some (.slice (some A8) (nO-j) (cO-j)),none,none] [(5,.w fun v w1=>∃g,v=.slice (some ⟨g,0,none⟩) 1 1∧aG w1 g 75 PX),(9,.w fun v w1=>qV w1 v CL),(10,.w fun v w1=>pV w1 Wk.heap.size v NL)] ?_ ?_ ?_
                ·refine⟨?_,?_,?_,trivial⟩
                 ·intro v w1 w2 hr hx;obtain⟨g,h1,h3⟩:=hr;exact⟨g,h1,h3.ext hx⟩
                 ·intro v w1 w2 hr hx;exact hr.ext hx
                 ·intro v w1 w2 hr hx;exact hr.ext hx
                ·refine⟨?_,?_,?_,?_,?x4,?x5,?_,?_,?x8,?x9,?x10,trivial⟩
                 case x4 =>
                  intro vals w1 hx hd;clear hd;simp only[Lf,au,Act.put,bH,bG];refine ay rfl 75 _ rfl g15 0 rfl PX PX.toList (by simp) _ (aG.range (oI.ext hx.aH) _ rfl) Tryz.underlying75 rfl (by rw[Array.length_toList,X9.out];exact tY) ?_;go_wp2;exact q_
                 case x5 =>
                  intro vals w1 hx hd;clear hd;simp only[Lf,au,Act.put,bH,bG];refine bY rfl _ _ _ rfl PX rfl Tryz.underlying36 6 qK X9.out (by omega) (by omega) ?_;go_wp2;exact⟨rfl,(by repeat (first | exact Below.refl _ _ | assumption | refine Below.drew ?_ | refine below_drewN ?_ _ | refine aj ?_ _ | refine Below.setCell ?_ (by first | (simp;done) | omega | (simp;omega)) _ | refine aA ?_ (by assumption))),_,rfl,aG.new _ _ _⟩
                 case x8 =>
                  intro vals w1 hx hd;clear hd;simp only[Lf,au,Act.put,bH,bG];rcases H8.out with ⟨h8,h9⟩ | ⟨h8,h9⟩
                  all_goals subst h9
                  ·(go_wp2;exact q_)
                  ·(go_wp2;exact q_)
                 case x9 =>
                  intro vals w1 hx hd;have r5:(fun v w1=>∃g,v=.slice (some ⟨g,0,none⟩) 1 1∧aG w1 g 75 PX) (vals 5) w1:=hd 5 (by decide) rfl;dsimp only at r5;obtain⟨gx,e_5,jb⟩:=r5;clear hd;simp only[Lf,au,Act.put,bH,bG,e_5];clear e_5;rw[←VI.out]at jb;obtain⟨v9,w9,hrun,hx9,hcs⟩:=wM _ gx P (OL.drop j) (some A8) (nO-j) _ _ jb (Vs.out.below hx.aH) (by omega);rw[←Yy.out]at hcs;refine aP rfl _ _ _ rfl rfl rfl hrun ?_;clear hrun;go_wp2;exact⟨rfl,hx9,hcs⟩
                 case x10 =>
                  intro vals w1 hx hd;have r9:(fun v w1=>qV w1 v CL) (vals 9) w1:=hd 9 (by decide) rfl;dsimp only at r9;obtain⟨A9,c9,e_9,hc9⟩:=r9;clear hd;simp only[Lf,au,Act.put,bH,bG,e_9];clear e_9;have hzz:=Below.size hx.aH;have MN:=List.length_take (i:=j) (l:=OL);have MO:=UR.out;have MP:=uV.out;obtain⟨v9,w9,hrun,hx9,hown⟩:=wO _ (OL.take j) CL _ j c9 A9 (.inr ⟨gO,rfl,fun q u hu=>ah hx.aH (HCU.out q u hu)⟩) (by omega) (by omega) (by omega) hc9;rw[←X7.out]at hown;refine aP rfl _ _ _ rfl rfl rfl hrun ?_;clear hrun MN MO MP;go_wp2;exact⟨rfl,hx9,hown.base hzz⟩
                 all_goals
                  intro vals w1 hx hd;clear hd;simp only[Lf,au,Act.put,bH,bG];go_wp2;exact iq
                intro vals W5 hx9 hf;have hown:pV W5 Wk.heap.size (vals 10) NL:=hf 10 (by omega);clear hf;have hx9:=hx9.aH;have HOWN:=Lib.hid (hown.base hws);clear hown;refine eP 11 _ (by kernel_rfl) (by kernel_rfl) rfl ?_;simp only[Lf,au,Act.put,FR_];generalize vals 10=v8 at HOWN⊢;go_wp2_with fail;go_meet
                case rel=>exact⟨Lib.hid HOWN.out,hx9⟩
              obtain⟨HO,hx9⟩:=hcut;have hv:=Ext.trans hv (Ext.trans hz hx9);clear hz hx9 oI Df xg hws;have ho:=HO.out;unfold pV at ho;rw[X8.out,←KZ.out]at ho;obtain⟨A9,c9,hv9,_,_⟩:=aX ho;subst hv9;have HO:=Lib.hid ho;clear ho;have wn_:IntKind.i64.wrap (m+1)=m+1:=wm_;by_cases h65:nO+1≤64
              ·skip;have h65a:¬(64:Int)<(nO:Int)+1:=by omega
               have CP:Hid (yu w wc (.slice A9 (nO+1) c9) (Q0++(D++[(⟨fr,m⟩:iO)]).map po)):=Lib.hid (by rw[HMAP.out,←rE.out];exact⟨by rw[List.length_append,←HNO.out];exact HO.out,by rw[List.length_append,←HNO.out];exact h65⟩);clear HO wn_;go_wp2;go_roundw
               case rel=>exact⟨m+1,a0-1,D++[⟨fr,m⟩],by omega,by omega,rfl,rfl,CP,MI,hv⟩
               case measure=>simp[intOf];omega
              ·skip;have h65a:(64:Int)<(nO:Int)+1:=by omega
               have hlen:=HLEN.out;rw[List.length_append,←HNO.out]at hlen;have hr:=jy.out;rw[if_neg (show ¬AL.length≤64 by simp at hlen;omega)]at hr;clear jy;subst hr;clear wn_;go_wp2;exact bodyPost_ret (v:=.tuple #[.slice none 0 0,.int .i64 90]) (by simp[results,Tryz.results81,go_sem]) rfl ⟨rfl,Ext.trans hdx hv⟩
             ·skip;obtain⟨hzj,hj1,hlt⟩:=X4.out.1 rfl;have HLT2:Hid (∀z∈OL.drop (j-1),ltOf aU P z=true):=Lib.hid (fun z hz=>by
               rw[List.drop_eq_getElem_cons hzj,show j-1+1=j by omega,List.mem_cons]at hz;rcases hz with rfl | hz
               ·exact hlt
               ·exact Cm.out z hz)
              have hki:IntKind.i64.wrap ((j:Int)-1)=(j:Int)-1:=IntWalk.i64_in _ (by omega);clear X4 Cm hzj hlt;go_wp2;go_roundw
              case rel=>exact⟨j-1,by omega,by rw[show ((j-1:Nat):Int)=(j:Int)-1 by omega],HLT2,hh⟩
              case measure=>simp[intOf];omega
           ·have hq:=HQ.out.1 rfl;have MI:Hid (Jf is a0 ee (m+1) fr D):=Lib.hid (.inr ⟨hf1,by omega,by omega,fun t h1 h2=>by
             by_cases e:t=m
             ·rw[e];exact hq.2
             ·exact hop t h1 (by omega),hall⟩)
            clear hall hop HSC;go_wp2;clear t0 s6;go_roundw
            case rel=>exact⟨m+1,fr,D,by omega,by omega,rfl,rfl,HO,MI,hv⟩
            case measure=>simp[intOf];omega
         ·skip;have hmm:ee+1≤m:=by omega
          have hall:bK is a0 (ee-a0).toNat=D:=by
           rcases HSC.out with ⟨_,h⟩ | ⟨_,_,h,_⟩
           ·rw[h,rest_end (by omega),List.append_nil]
           ·omega
          have CP:Hid (yu w wr u8 (P0++qL xs T ⟨a,b⟩ (k+1))):=Lib.hid (by rw[HQN.out,hall];exact HO.out);clear HO HSC hall;have hy:=Ext.trans hy hv;go_wp2;clear t0 t1 s6;go_roundw
          case rel=>exact⟨k+1,by omega,by go_num,CP,hy⟩
          case measure=>simp[intOf];omega
       ·skip;have CP:Hid (yu w wr u8 (yt S T ⟨a,b⟩ (i+1))):=Lib.hid (by rw[OB.out,show nt=k by omega];exact HO.out);clear HO;have hx:=Ext.trans hx hy;go_wp2;go_roundw
        case rel=>exact⟨i+1,by omega,by go_num,CP,hx⟩
        case measure=>simp[intOf];omega
     ·skip;have hii:i=S.length:=by rw[HNS.out];omega
      have ho:=HO.out;rw[hii,UK,←Ar.out]at ho;have hr:=jy.out;rw[if_pos ho.2]at hr;clear jy;have HOE:=Lib.hid ho;have HRE:=Lib.hid hr;clear ho HO hii hr;go_wp2;rw[HRE.out];exact bodyPost_ret (v:=.tuple #[u8,.int .i64 0]) (by simp[results,Tryz.results81,go_sem]) rfl ⟨_,rfl,by rw[kY];exact HOE.out.1,Ext.trans hB hx⟩
end Go.Proofs.YtjidhhfabfnhnaaGreat
