/- Two parts of a row exchanged (printed by sort_merge.py). -/
import Derived.Test.YtjidhhfabfnhnaaGreatT01
import Derived.Test.YtjidhhfabfnhnaaGreatT11
namespace Go.Proofs.YtjidhhfabfnhnaaGreat
open Go.RowKit Go.Shelf
attribute [local go_sem] Oper.semAt_some
abbrev nG:={ s:Str // -1000000≤s.sp.fr∧s.sp.fr≤10000000∧-1000000≤s.sp.tt∧s.sp.tt≤10000000 }
def encS (s:nG):Array Value:=#[.agg (strCells s.1).toArray]
set_option maxRecDepth 100000 in
set_option maxHeartbeats 2000000 in
theorem WI (ex:Nat→Prop) (B1 B0 bs bp:Nat) (x:St) (l:List fE) (A:Option Addr) (un uc:Nat) (kn fr tt:Int) (G:List nG→World→Prop) (n:Nat) (w:World) (hB1:B1≤B0) (hB0:B0≤w.heap.size)
  (hU:RA aI 10 w B1 A un uc l) (ks:aG w bs 32 #[.int .i64 fr,.int .i64 tt]) (kp:aG w bp 117 (dZ x A un uc kn).toArray) (hs:¬ex bs∧bs<B0) (hp:¬ex bp∧bp<B0)
  (b1 : -1000000≤fr) (b2:fr≤tt) (b3:tt≤10000000) :
  aac n Tryz.prog 105 #[.pointer (some ⟨bs,0,none⟩),.pointer (some ⟨bp,0,none⟩)] encS (iW ex B1 B0) G (fun xs=>xs.map (·.1)=eX (fK x l kn) fr (tt-fr).toNat) (fun pre=>pre.map (·.1) <+: eX (fK x l kn) fr (tt-fr).toNat) (eX (fK x l kn) fr (tt-fr).toNat).length w:=by
 intro ly J Jx W hW hJ hJx hJG hY h0;obtain⟨f,hf⟩:∃f,f=fK x l kn:=⟨_,rfl⟩;have CW:∀(t:Int) (W2:World),iW ex B1 B0 w W2→Calls Tryz.prog 53 #[.agg (dZ x A un uc kn).toArray,.int .i64 t] W2 fun e w'=>e=.returned (.agg (aN (f t)).toArray)∧Ext W2 w':=fun t W2 hk=>by
  rw[hf];have hk2:B1≤W2.heap.size:=Nat.le_trans hB1 (Nat.le_trans hB0 hk.low.size);exact Nw x l A un uc kn t W2 ((hU.below hk.low).more hk2)
 obtain⟨P,hP⟩:∃P,(dZ x A un uc kn).toArray=P:=⟨_,rfl⟩;obtain⟨Cj,hP1,hPl⟩:=WH x A un uc kn P hP;rw[hP]at CW kp;rw[←hf]at hY⊢;have oH:=Lib.hid hP;have uQ:=Lib.hid hPl;have Ky:=Lib.hid CW;refine callsIn_of_wp Tryz.func105 rfl trivial ?_ rfl;simp only[Tryz.ntmps105,List.size_toArray,List.length_cons,List.length_nil,Nat.reduceAdd,Nat.reduceSub,Array.replicate_succ,Array.replicate_zero,List.push_toArray,List.append_toArray,List.nil_append,List.cons_append];have HY:=Lib.hid hY;have HJ:=Lib.hid hJ;have hKW:iW ex B1 B0 w W:=iW.ext hW hB1 hB0;have hWs:W.heap.size≤W.heap.size:=Nat.le_refl _;have hw0:w.heap.size≤W.heap.size:=hW.size;have c0:W.cell? ⟨bs,0,none⟩=some (.int .i64 fr):=(hKW.kE ks hs).cell 0;have Gp:Hid (([]:List nG).map (·.1)++eX f fr (tt-fr).toNat=eX f fr (tt-fr).toNat):=Lib.hid rfl;clear hY hJ hJx hU hf CW hP Cj hP1 hPl hJG
 gi_wp2
 gi_loopw [4] (fun v wr=>∃(t:Int) (pre:List nG),v=.int .i64 t∧fr≤t∧t≤tt∧Hid (pre.map (·.1)++eX f t (tt-t).toNat=eX f fr (tt-fr).toNat)∧J pre wr∧iW ex B1 B0 w wr∧W.heap.size≤wr.heap.size)
  (fun v _=>(tt-intOf v).toNat)
 case atStart=>exact⟨fr,[],rfl,by omega,by omega,Gp,h0,hKW,hWs⟩
 case round =>
  clear Gp h0 hKW c0;obtain⟨t,pre,rfl,ht1,ht2,HS,Zy,hK,hsz⟩:=hrel;have c1:wr.cell? ⟨bs,1,none⟩=some (.int .i64 tt):=(hK.kE ks hs).cell 1;by_cases hlt:t<tt
  ·have hcall:=Ky.out t wr hK;have KP:=hK.kE kp hp;obtain⟨Y,hY⟩:∃Y,(aN (f t)).toArray=Y:=⟨_,rfl⟩;rw[hY]at hcall;have HC:=Lib.hid hcall;have vC:=Lib.hid hY;have NH:=Lib.hid KP;have hbu:=OH t t (f t);obtain⟨X,hX⟩:∃X,(strCells ⟨⟨t,t⟩,f t⟩).toArray=X:=⟨_,rfl⟩;obtain⟨tH,hX1⟩:=tK _ X hX;rw[hX,hY]at hbu;have iP:=Lib.hid hX;have qg:=Lib.hid tH;have kC:=Lib.hid hX1;have Qr:=Lib.hid hbu;clear hcall hY KP hbu hX tH hX1
   gi_wp2_with (refine dU rfl _ _ rfl bp 0 rfl P (dZ x A un uc kn) oH.out _ (aG.range NH.out (dZ x A un uc kn) uQ.out) Tryz.underlying117 rfl G6 ?_)
   refine⟨trivial,(fun h=>by cases h),(callsIn_wide.2 HC.out).mono ?_⟩;rintro e W2 ⟨rfl,hb2⟩;have hB2:B0≤wr.heap.size:=Nat.le_trans hB0 (Nat.le_trans hw0 hsz);have hK2:iW ex B1 B0 w W2:=hK.trans (iW.ext hb2 hB1 hB2);have hJ2:J pre W2:=HJ.out _ _ _ none Zy (iZ hb2) (fun r e=>by cases e);have hsz2:W.heap.size≤W2.heap.size:=Nat.le_trans hsz hb2.size;have hB2':B0≤W2.heap.size:=Nat.le_trans hB2 hb2.size;clear HC Zy hK hsz c1 hb2 NH hB2;have K3:=aG.new W2 96 X;have hx3:Ext W2 (W2.alloc (.cells X 96)):=aj (Below.refl _ _) _
   gi_wp2_with (first | (refine yS rfl _ _ _ rfl X rfl rfl Qr.out ?_) | (refine fP rfl 96 _ _ rfl _ X rfl rfl (by rw[qg.out];exact jW) (by rw[qg.out];rfl) kC.out ?_))
   obtain⟨gb,hgb⟩:∃gb,gb=W2.heap.size:=⟨_,rfl⟩;rw[←hgb]at K3⊢;generalize W2.alloc (.cells X 96)=W3 at K3 hx3⊢;have Nj:=Lib.hid hx3;have HG:=Lib.hid hgb;have HK3:=Lib.hid K3;clear hx3 hgb K3;dsimp only[Act.put]
   gi_loopw [4] (fun v wi=>∃k:Nat,v=.int .i64 (t+k)∧t+k≤tt∧Hid (∀i:Nat,i<k→f (t+i)=f t)∧Hid (aG wi gb 96 X)∧Hid (Ext W2 wi)) (fun v _=>(tt-intOf v).toNat)
   case atStart=>exact⟨0,by simp,by omega,Lib.hid (fun i hi=>absurd hi (by omega)),HK3,Nj⟩
   case round =>
    clear HK3 Nj;obtain⟨k,rfl,hk,HI,HKI,HXI⟩:=hrel;have Vh:iW ex B1 B0 w wr:=hK2.trans (iW.ext HXI.out hB1 hB2');have c1:wr.cell? ⟨bs,1,none⟩=some (.int .i64 tt):=(Vh.kE ks hs).cell 1;by_cases hlk:t+k<tt
    ·have hcall:∀W5,Ext wr W5→Calls Tryz.prog 53 #[.agg P,.int .i64 (t+k)] W5 fun e w'=>e=.returned (.agg (aN (f (t+k))).toArray)∧Ext W5 w':=fun W5 hx=>Ky.out (t+k) W5 (Vh.trans (iW.ext hx hB1 (Nat.le_trans hB2' HXI.out.size)));have hkp:∀W5,Ext wr W5→W5.rangeAt bp 0 (dZ x A un uc kn):=fun W5 hx=>aG.range ((Vh.kE kp hp).ext hx) (dZ x A un uc kn) uQ.out;have hko:∀W5,Ext wr W5→W5.rangeAt gb 2 (aN (f t)):=fun W5 hx=>aG.part (HKI.out.ext hx) 2 _ (by rw[←iP.out];exact NJ ⟨⟨t,t⟩,f t⟩);obtain⟨Y2,hY2⟩:∃Y,(aN (f (t+k))).toArray=Y:=⟨_,rfl⟩;have heq:=uS (f (t+k)) (f t);obtain⟨z,hz⟩:∃z,z=decide (f (t+k)=f t):=⟨_,rfl⟩;rw[hY2]at hcall;rw[←hz,hY2,vC.out]at heq;have HC:=Lib.hid hcall;have NH:=Lib.hid hkp;have HKO:=Lib.hid hko;have Sl:=Lib.hid heq;have HZ:=Lib.hid hz;have HKI2:=Lib.hid Vh;clear hcall hkp hko heq hz hY2 Vh
     gi_wp2_with fail
     refine wpIn_wide.2 ?_;refine aF 12 [some (.int .i64 (t+k)),some (.pointer (some ⟨bs,1,none⟩)),some (.int .i64 tt),some (.bool true),some (.bool true),some (.agg P),some (.int .i64 (t+k)),some (.agg Y2),some (.pointer (some ⟨gb,2,none⟩)),some (.agg Y),some (.bool z),some (.bool z)] [] ?_ ?_ ?_
     ·trivial
     ·refine⟨?_,?_,?_,?_,?_,?x5,?_,?x7,?_,?x9,?x10,?_,trivial⟩
      case x5 =>
       intro vals w1 hx hd;clear hd;simp only[Lf,au,Act.put,bH,bG];refine aT rfl _ _ rfl bp 0 rfl P (dZ x A un uc kn) oH.out _ (NH.out _ hx.aH) Tryz.underlying117 rfl G6 ?_;go_wp2;exact q_
      case x7 =>
       intro vals w1 hx hd;clear hd;simp only[Lf,au,Act.put,bH,bG];go_wp2_with fail;refine (HC.out _ hx.aH).mono ?_;rintro e w2 ⟨rfl,hb2⟩;go_wp2;exact⟨rfl,hb2,rfl⟩
      case x9 =>
       intro vals w1 hx hd;clear hd;simp only[Lf,au,Act.put,bH,bG];refine aT rfl _ _ rfl gb 2 rfl Y (aN (f t)) vC.out _ (HKO.out _ hx.aH) Tryz.underlying51 rfl aZ ?_;go_wp2;exact q_
      case x10 =>
       intro vals w1 hx hd;clear hd;simp only[Lf,au,Act.put,bH,bG];have hq:=Sl.out;go_wp2;exact q_
      all_goals
       intro vals w1 hx hd;clear hd;simp only[Lf,au,Act.put,bH,bG];have c1:=ah hx c1;go_wp2;exact iq
     intro vals W5 hx5 hf;have e11:vals 11=.bool z:=hf 11 (by omega);clear hf c1;have hx5:=hx5.aH;refine dO (by kernel_rfl) ?_;simp only[Lf,au,Act.put,FR_];rw[e11];clear e11;have yZ:=Lib.hid (Ext.trans HXI.out hx5);have Qm:=Lib.hid (HKI.out.ext hx5);clear hx5;cases z
     ·have HE:Hid (k=(tt-t).toNat∨f (t+k)≠f t):=Lib.hid (.inr (by have:=HZ.out;simpa using this.symm));clear HZ Sl HC NH HKO;have hk1:1≤k:=by
       rcases Nat.eq_zero_or_pos k with h0 | h0
       ·rcases HE.out with h | h
        ·omega
        ·rw[h0,show t+((0:Nat):Int)=t by omega]at h;exact absurd rfl h
       ·exact h0
      have hrun:=zf f k (tt-t).toNat t hk1 (by omega) HI.out HE.out;have Zz:J pre W5:=HJ.out _ _ _ none hJ2 (iZ yZ.out) (fun r e=>by cases e);have hlen:pre.length<(eX f fr (tt-fr).toNat).length:=by rw[←HS.out,hrun];simp
      have hbd : -1000000≤t∧t≤10000000∧-1000000≤t+k∧t+k≤10000000:=by omega
      have hnew:((pre++[(⟨⟨⟨t,t+k⟩,f t⟩,hbd⟩:nG)]).map (·.1))++eX f (t+k) (tt-(t+k)).toNat=eX f fr (tt-fr).toNat:=by
       rw[←HS.out,hrun,List.map_append,List.append_assoc,List.map_singleton,List.singleton_append];congr 3;omega
      have hpre:(pre++[(⟨⟨⟨t,t+k⟩,f t⟩,hbd⟩:nG)]).map (·.1) <+: eX f fr (tt-fr).toNat:=⟨_,hnew⟩;have HN:=Lib.hid hnew;have zK:=Lib.hid hpre;have K5:=Qm.out.cZ 1 (.int .i64 (t+k));have f5:W5.frozen? ⟨gb,1,none⟩=false:=Qm.out.frozen 1;have hX2:X.setIfInBounds 1 (.int .i64 (t+k))=(strCells ⟨⟨t,t+k⟩,f t⟩).toArray:=by rw[←iP.out];rfl
      rw[hX2]at K5;obtain⟨X2,KH⟩:∃X2,(strCells ⟨⟨t,t+k⟩,f t⟩).toArray=X2:=⟨_,rfl⟩;have KI:=Lib.hid KH;have hx6:Ext W2 (W5.setCell ⟨gb,1,none⟩ (.int .i64 (t+k))):=yZ.out.setCell (p:=⟨gb,1,none⟩) (by have:=HG.out;exact Nat.le_of_eq this.symm) _;have hJ6:J pre (W5.setCell ⟨gb,1,none⟩ (.int .i64 (t+k))):=HJ.out _ _ _ none hJ2 (iZ hx6) (fun r e=>by cases e);have c15:∃u,W5.cell? ⟨gb,1,none⟩=some u:=⟨X[1]'(by rw[qg.out];decide),by rw[Qm.out.cell];exact Array.getElem?_eq_getElem _⟩;obtain⟨u15,c15⟩:=c15;rw[KH]at K5;have HK6:=Lib.hid K5;have HX6:=Lib.hid hx6;have HJ6:=Lib.hid hJ6;clear hrun hnew hpre hX2 KH K5 hx6 hJ6 Zz;obtain⟨fn,tmps,assign,body,hy,hR⟩:=HY.out pre ⟨⟨⟨t,t+k⟩,f t⟩,hbd⟩ _ HJ6.out hlen;dsimp only[encS]at hy;rw[KI.out]at hy
      gi_wp2_with (refine dU rfl _ _ rfl gb 0 rfl X2 (strCells ⟨⟨t,t+k⟩,f t⟩) KI.out _ (aG.range HK6.out (strCells ⟨⟨t,t+k⟩,f t⟩) (by rw[←KI.out])) Tryz.underlying96 rfl jW ?_)
      refine⟨(fun h=>by cases h),hR.mono ?_⟩;rintro e W7 (⟨rfl,WJ,hk7⟩ | ⟨rfl,KO⟩)
      ·have hK6:iW ex B1 B0 w W7:=(hK2.trans (iW.ext HX6.out hB1 hB2')).trans hk7;have Fg:W.heap.size≤W7.heap.size:=Nat.le_trans hsz2 (Nat.le_trans HX6.out.size hk7.low.size);clear hy hR hk7
       gi_wp2
       go_roundw
       case rel=>exact⟨t+k,_,rfl,by omega,by omega,HN,WJ,hK6,Fg⟩
       case measure=>simp[intOf];omega
      ·gi_wp2
       refine bodyPost_ret (results_none rfl _ _ _) rfl ?_;exact⟨⟨_,rfl⟩,.inr ⟨_,zK.out,KO⟩⟩
     ·have HI2:Hid (∀i:Nat,i<k+1→f (t+i)=f t):=Lib.hid (fun i hi=>by
       rcases Nat.lt_or_ge i k with h | h
       ·exact HI.out i h
       ·rw[show i=k by omega];have:=HZ.out;simpa using this.symm)
      clear HZ Sl HC NH HKO;have hw1:IntKind.i64.wrap (t+k+1)=t+k+1:=IntWalk.i64_in _ (by omega)
      gi_wp2
      go_roundw
      case rel=>exact⟨k+1,by rw[show t+((k+1:Nat):Int)=t+k+1 by omega],by omega,HI2,Qm,yZ⟩
      case measure=>simp[intOf];omega
    ·have HE:Hid (k=(tt-t).toNat∨f (t+k)≠f t):=Lib.hid (.inl (by omega));have hdk:decide (t+k<tt)=false:=by simpa using hlk
     gi_wp2_with fail
     refine wpIn_wide.2 ?_;refine aF 12 [some (.int .i64 (t+k)),some (.pointer (some ⟨bs,1,none⟩)),some (.int .i64 tt),some (.bool false),some (.bool false),some (undef),some (undef),some (undef),some (undef),some (undef),some (undef),some (.bool false)] [] ?_ ?_ ?_
     ·trivial
     ·refine⟨?_,?_,?_,?_,?_,?_,?_,?_,?_,?_,?_,?_,trivial⟩
      all_goals
       intro vals w1 hx hd;clear hd;simp only[Lf,au,Act.put,bH,bG];have c1:=ah hx c1;go_wp2;exact iq
     intro vals W5 hx5 hf;have e11:vals 11=.bool false:=hf 11 (by omega);clear hf c1;have hx5:=hx5.aH;refine dO (by kernel_rfl) ?_;simp only[Lf,au,Act.put,FR_];rw[e11];clear e11;have yZ:=Lib.hid (Ext.trans HXI.out hx5);have Qm:=Lib.hid (HKI.out.ext hx5);clear hx5;have hk1:1≤k:=by
      rcases Nat.eq_zero_or_pos k with h0 | h0
      ·rcases HE.out with h | h
       ·omega
       ·rw[h0,show t+((0:Nat):Int)=t by omega]at h;exact absurd rfl h
      ·exact h0
     have hrun:=zf f k (tt-t).toNat t hk1 (by omega) HI.out HE.out;have Zz:J pre W5:=HJ.out _ _ _ none hJ2 (iZ yZ.out) (fun r e=>by cases e);have hlen:pre.length<(eX f fr (tt-fr).toNat).length:=by rw[←HS.out,hrun];simp
     have hbd : -1000000≤t∧t≤10000000∧-1000000≤t+k∧t+k≤10000000:=by omega
     have hnew:((pre++[(⟨⟨⟨t,t+k⟩,f t⟩,hbd⟩:nG)]).map (·.1))++eX f (t+k) (tt-(t+k)).toNat=eX f fr (tt-fr).toNat:=by
      rw[←HS.out,hrun,List.map_append,List.append_assoc,List.map_singleton,List.singleton_append];congr 3;omega
     have hpre:(pre++[(⟨⟨⟨t,t+k⟩,f t⟩,hbd⟩:nG)]).map (·.1) <+: eX f fr (tt-fr).toNat:=⟨_,hnew⟩;have HN:=Lib.hid hnew;have zK:=Lib.hid hpre;have K5:=Qm.out.cZ 1 (.int .i64 (t+k));have f5:W5.frozen? ⟨gb,1,none⟩=false:=Qm.out.frozen 1;have hX2:X.setIfInBounds 1 (.int .i64 (t+k))=(strCells ⟨⟨t,t+k⟩,f t⟩).toArray:=by rw[←iP.out];rfl
     rw[hX2]at K5;obtain⟨X2,KH⟩:∃X2,(strCells ⟨⟨t,t+k⟩,f t⟩).toArray=X2:=⟨_,rfl⟩;have KI:=Lib.hid KH;have hx6:Ext W2 (W5.setCell ⟨gb,1,none⟩ (.int .i64 (t+k))):=yZ.out.setCell (p:=⟨gb,1,none⟩) (by have:=HG.out;exact Nat.le_of_eq this.symm) _;have hJ6:J pre (W5.setCell ⟨gb,1,none⟩ (.int .i64 (t+k))):=HJ.out _ _ _ none hJ2 (iZ hx6) (fun r e=>by cases e);have c15:∃u,W5.cell? ⟨gb,1,none⟩=some u:=⟨X[1]'(by rw[qg.out];decide),by rw[Qm.out.cell];exact Array.getElem?_eq_getElem _⟩;obtain⟨u15,c15⟩:=c15;rw[KH]at K5;have HK6:=Lib.hid K5;have HX6:=Lib.hid hx6;have HJ6:=Lib.hid hJ6;clear hrun hnew hpre hX2 KH K5 hx6 hJ6 Zz;obtain⟨fn,tmps,assign,body,hy,hR⟩:=HY.out pre ⟨⟨⟨t,t+k⟩,f t⟩,hbd⟩ _ HJ6.out hlen;dsimp only[encS]at hy;rw[KI.out]at hy
     gi_wp2_with (refine dU rfl _ _ rfl gb 0 rfl X2 (strCells ⟨⟨t,t+k⟩,f t⟩) KI.out _ (aG.range HK6.out (strCells ⟨⟨t,t+k⟩,f t⟩) (by rw[←KI.out])) Tryz.underlying96 rfl jW ?_)
     refine⟨(fun h=>by cases h),hR.mono ?_⟩;rintro e W7 (⟨rfl,WJ,hk7⟩ | ⟨rfl,KO⟩)
     ·have hK6:iW ex B1 B0 w W7:=(hK2.trans (iW.ext HX6.out hB1 hB2')).trans hk7;have Fg:W.heap.size≤W7.heap.size:=Nat.le_trans hsz2 (Nat.le_trans HX6.out.size hk7.low.size);clear hy hR hk7
      gi_wp2
      go_roundw
      case rel=>exact⟨t+k,_,rfl,by omega,by omega,HN,WJ,hK6,Fg⟩
      case measure=>simp[intOf];omega
     ·gi_wp2
      refine bodyPost_ret (results_none rfl _ _ _) rfl ?_;exact⟨⟨_,rfl⟩,.inr ⟨_,zK.out,KO⟩⟩
  ·have hend:pre.map (·.1)=eX f fr (tt-fr).toNat:=by
    rw[←HS.out,show (tt-t).toNat=0 by omega];simp[eX]
   have HE:=Lib.hid hend;clear hend
   gi_wp2
   go_end0;exact⟨⟨_,rfl⟩,.inl ⟨pre,HE.out,Zy⟩⟩
end Go.Proofs.YtjidhhfabfnhnaaGreat
namespace Go.Proofs.YtjidhhfabfnhnaaGreat
open Go.RowKit Go.Shelf
attribute [local go_sem] Oper.semAt_some
theorem qA (ex:Nat→Prop) (B1 bs bp:Nat) (x0:St) (l:List fE) (A:Option Addr) (un uc:Nat) (kn fr tt:Int) (n:Nat) (hn:1≤n) {w:World} (hB1:B1≤w.heap.size)
  (hU:RA aI 10 w B1 A un uc l) (ks:aG w bs 32 #[.int .i64 fr,.int .i64 tt]) (kp:aG w bp 117 (dZ x0 A un uc kn).toArray) (hs:¬ex bs) (hp:¬ex bp)
  (b1 : -1000000≤fr) (b2:fr≤tt) (b3:tt≤10000000)
  {op:Operand} {p1:Nat} {assign body:Code} {Q:Exit→Act→World→Prop} {a:Act} (hg:a.eval op=.func (.func 105) #[] #[.pointer (some ⟨bs,0,none⟩),.pointer (some ⟨bp,0,none⟩)])
  (I:List nG→World→Prop) (Ix:Code→List nG→World→Prop) (hI:OwnFrom w.heap.size I) (hIx:∀c,OwnFrom w.heap.size (Ix c)) (hIs:∀pre W,I pre W→w.heap.size≤W.heap.size) (h0:I [] w)
  (Sm:Array Value→nG→Nat→Array Value)
  (hassign:∀(ly:Nat) (x:nG) (W:World) (K:Act→World→Prop),K { tmps:=Sm a.tmps x W.heap.size,defers:=[] } (W.alloc (.cells (strCells x.1).toArray 96)) →
   assign.wpIn (Fence.wide.inRound ly) (n-1-1) Tryz.prog (Exit.then K (fun _ _ _=>False)) { tmps:=a.tmps.setIfInBounds p1 (.agg (strCells x.1).toArray),defers:=[] } W)
  (hbody:∀(ly:Nat) (pre:List nG) (x:nG) (Bx:Nat) (W:World),I pre W→w.heap.size≤Bx→aG W Bx 96 (strCells x.1).toArray→pre.length<(eX (fK x0 l kn) fr (tt-fr).toNat).length →
   body.wpIn (Fence.wide.inRound ly) (n-1-1) Tryz.prog (ownPostG w.heap.size (iW ex B1 w.heap.size) I Ix (pre++[x]) W) { tmps:=Sm a.tmps x Bx,defers:=[] } W)
  (hdone:∀(D:Nat) (xs:List nG) (W:World),w.heap.size≤D→xs.map (·.1)=eX (fK x0 l kn) fr (tt-fr).toNat→I xs W→W.heap[D]?=some (.deferred (some []))→Q .normal { a with defers:={ target:=.collected D,args:=#[] } :: a.defers } W)
  (hstop:∀(D:Nat) (c:Code) (pre:List nG) (W:World),w.heap.size≤D→pre.map (·.1) <+: eX (fK x0 l kn) fr (tt-fr).toNat→Ix c pre W→W.heap[D]?=some (.deferred (some []))→c.wpIn Fence.wide n Tryz.prog Q { a with defers:={ target:=.collected D,args:=#[] } :: a.defers } W) :
  (Code.rangeFunc op #[p1] assign body).wpIn Fence.wide n Tryz.prog Q a w:=by
 refine uG hn hg (enters_of Tryz.func105 (by kernel_rfl) rfl) (WI ex B1 w.heap.size bs bp x0 l A un uc kn fr tt (fun _ _=>True) (n-1) w hB1 (Nat.le_refl _) hU ks kp ⟨hs,ks.lt⟩ ⟨hp,kp.lt⟩ b1 b2 b3)
  (fun h k=>h.trans k) (fun W l o o' hl ho _=>rW hB1 W l o o' hl ho) (fun _=>rfl) I Ix (fun _ _ _=>trivial) hI hIx h0
  (fun x a' W=>∃Bx,w.heap.size≤Bx∧aG W Bx 96 (strCells x.1).toArray∧a'={ tmps:=Sm a.tmps x Bx,defers:=[] }) ?_ ?_ ?_ hdone hstop
 ·rintro x a' _ X Y row ⟨Bx,h1,h2,h3⟩ hgr hr;exact⟨Bx,h1,bF h2 hgr hr,h3⟩
 ·intro ly pre x W K EC hK;have hz:((#[p1].zip (encS x)).foldl (fun t (p,v)=>t.setIfInBounds p v) a.tmps)=a.tmps.setIfInBounds p1 (.agg (strCells x.1).toArray):=by simp[encS]
  rw[hz];have hs:=hIs _ _ EC;exact hassign ly x W _ (hK _ _ ((KeepsOthers.alloc W _).from _) (iW.ext (aj (Below.refl _ _) _) hB1 hs) (hI.alloc _ EC) ⟨W.heap.size,hs,aG.new _ _ _,rfl⟩)
 ·rintro ly pre x a' W EC ⟨Bx,h1,h2,rfl⟩ hlen;exact hbody ly pre x Bx W EC h1 h2 hlen
end Go.Proofs.YtjidhhfabfnhnaaGreat
namespace Go.Proofs.YtjidhhfabfnhnaaGreat
open Go.RowKit Go.Shelf
attribute [local go_sem] Oper.semAt_some
theorem Fh {P:Program} (w:World) (t e:TypeId) (X:Array Value) (hu:P.underlying t=some (.slice e)) (s:Nat) (hi:(P.info? e).map (fun i=>(i.zero.map (fun z=>z.cells.size),i.size))=some (some s,s)) (hs:X.size=s) (h0:0<s) (hsm:s≤2 ^ 24) :
  (Instr.buildSlice t 1 #[(0,.agg X)]).run P w=.ok (.slice (some ⟨w.heap.size,0,none⟩) 1 1) (w.alloc (.cells X e)):=by
 cases hie:P.info? e with
 |none=>simp[hie]at hi
 |some ie =>
  cases hz:ie.zero with
  |none=>simp[hie,hz]at hi
  |some z =>
   simp only[hie,hz,Option.map_some,Option.some.injEq,Prod.mk.injEq]at hi;obtain⟨hzs,his⟩:=hi;refine run_buildSlice w t e 1 _ X ie z hu hie hz (by omega) (by omega) ?_;have hf:=Great.fill_whole (s:=s) h0 [.agg X] ((Array.range (1*ie.size)).map (z.cells[· % z.cells.size]!)) (by intro v hv;obtain rfl:=List.mem_singleton.1 hv;exact hs) (by simp[his]);simp[his]at hf⊢;exact hf
theorem og {F:Fence} {n:Nat} {P:Program} {ops:Array Oper} {rest:List Oper} {o:Oper} {a:Act} {w:World} {Q:Exit→Act→World→Prop} (hg:o.guard=none) (t e:TypeId) (x:Operand) (ho:o.op=.buildSlice t 1 #[(0,x)])
  (X:Array Value) (hx:a.eval x=.agg X) (hu:P.underlying t=some (.slice e)) (s:Nat) (hi:(P.info? e).map (fun i=>(i.zero.map (fun z=>z.cells.size),i.size))=some (some s,s)) (hs:X.size=s) (h0:0<s) (hsm:s≤2 ^ 24)
  (h:wpListIn F n P ops Q rest (a.put o.dst (.slice (some ⟨w.heap.size,0,none⟩) 1 1)) (w.alloc (.cells X e))):wpListIn F n P ops Q (o::rest) a w:=by
 have e:=Fh (P:=P) w t e X hu s hi hs h0 hsm;refine wpListIn_plain hg fun K hK'=>?_;unfold Oper.wpIn;refine⟨?_,?_⟩
 ·simp[Oper.about,ho]
 ·rw[Oper.semAt_plain F _ _ (by rw[ho];intro c hc';cases hc')];simp[execOp,ho,hx,e,Result.andThen];exact hK' _ _ h
theorem H_:(Tryz.prog.info? 96).map (fun i=>(i.zero,i.size,i.bytes))=some (some (.agg #[.int .i64 0,.int .i64 0,.int .i64 0,.int .i64 0,.int .i64 0,.int .i64 0,.int .i64 0,.int .i64 0,.int .i64 0]),9,72):=by kernel_rfl
theorem OI:(Tryz.prog.info? 96).map (fun i=>(i.zero.map (fun z=>z.cells.size),i.size))=some (some 9,9):=by kernel_rfl
theorem cells_one (s:Str):∀u∈strCells s,u.oneCell'=true:=by simp[strCells,Value.oneCell']
def Fj (r:Option (List Str)) (w:World) (e:Ending) (w':World):Prop:=match r with
 |none=>e=.returned (.tuple #[.slice none 0 0,.int .i64 360])∧Ext w w'
 |some l=>(∃v,e=.returned (.tuple #[v,.int .i64 0])∧w'.ownsRow w.heap.size 96 9 v l.length (l.flatMap strCells))∧Ext w w'
structure StI (w:World) (B0 gu:Nat) (pre:List nG) (W:World):Prop where
 row:∃v,aG W gu 83 #[v]∧W.ownsRow B0 96 9 v pre.length ((pre.map (·.1)).flatMap strCells)
 below:Ext w W
 size:B0≤W.heap.size
theorem WL {w:World} {B0 gu:Nat} (h:w.heap.size≤B0):OwnFrom B0 (StI w B0 gu):=by
 rintro pre X Y row ⟨⟨v,k1,k2⟩,hb,hz⟩ hgr hr;exact⟨⟨v,bF k1 hgr hr,iH k2 hgr hr⟩,hb.grown hgr hb.size (fun k e=>Nat.le_trans h (hr k e).1),Nat.le_trans hz hgr.size⟩
set_option maxRecDepth 100000 in
set_option maxHeartbeats 4000000 in
theorem Fp (x:St) (l:List fE) (A:Option Addr) (un uc:Nat) (a b kn:Int) (w:World) (h:RA aI 10 w w.heap.size A un uc l) (hun:un≤2000) :
  CallsIn Fence.wide 10 Tryz.prog 27 #[.agg (aC x).toArray,.slice A un uc,.agg #[.int .i64 a,.int .i64 b],.int .i64 kn] w (Fj (kL x l ⟨a,b⟩ kn) w):=by
 have hval:=fun (W:World) (hx:Ext w W)=>yF x l A un uc W (aB h hx) hun;have KQ:=Dv a b;have hbu:=tJ x A un uc kn;obtain⟨P,hP⟩:∃P,(aC x).toArray=P:=⟨_,rfl⟩;obtain⟨Z,hZ⟩:∃Z,(dZ x A un uc kn).toArray=Z:=⟨_,rfl⟩;rw[hP]at hval hbu;rw[hZ]at hbu;rw[hP];obtain⟨R,hR⟩:∃R,R=kL x l ⟨a,b⟩ kn:=⟨_,rfl⟩;rw[←hR];unfold kL oW at hR;have hsp:jD ⟨a,b⟩=true→0≤a∧a<b∧b≤1000000∧b-a≤1440:=fun h=>by simpa [jD]using h
 generalize jD ⟨a,b⟩=q1 at KQ hR hsp;generalize qj x l=q2 at hval hR;have HR:=Lib.hid hR;have xB:=Lib.hid hval;have Sr:=Lib.hid KQ;have Ia:=Lib.hid hsp;have Qr:=Lib.hid hbu;have oH:=Lib.hid hP;have HZZ:=Lib.hid hZ;have xg:=Lib.hid h;clear hR hval KQ hsp hbu hP hZ h;refine callsIn_of_wp_marks Tryz.func27 rfl trivial ?_ rfl;simp only[Tryz.ntmps27,List.size_toArray,List.length_cons,List.length_nil,Nat.reduceAdd,Nat.reduceSub,Array.replicate_succ,Array.replicate_zero,List.push_toArray,List.append_toArray,List.nil_append,List.cons_append];refine wpIn_wide.2 ?_;have hxa:Ext w (w.alloc (.cells P 53)):=aj (Below.refl _ _) _;have hxb:Ext (w.alloc (.cells P 53)) ((w.alloc (.cells P 53)).alloc (.cells #[.int .i64 a,.int .i64 b] 32)):=aj (Below.refl _ _) _;have hxc:Ext ((w.alloc (.cells P 53)).alloc (.cells #[.int .i64 a,.int .i64 b] 32)) (((w.alloc (.cells P 53)).alloc (.cells #[.int .i64 a,.int .i64 b] 32)).alloc (.cells #[.slice none 0 0] 83)):=aj (Below.refl _ _) _;have J4:=((aG.new w 53 P).ext hxb).ext hxc;have J6:=(aG.new (w.alloc (.cells P 53)) 32 #[.int .i64 a,.int .i64 b]).ext hxc;have J8:=aG.new ((w.alloc (.cells P 53)).alloc (.cells #[.int .i64 a,.int .i64 b] 32)) 83 #[.slice none 0 0];have hx1:=Ext.trans hxa (Ext.trans hxb hxc);simp only[World.size_alloc]at J6 J8;have hg8:w.heap.size≤w.heap.size+1+1:=by omega
 clear hxa hxb hxc;go_upto_region 1 with (fail);generalize ((w.alloc (.cells P 53)).alloc (.cells #[.int .i64 a,.int .i64 b] 32)).alloc (.cells #[.slice none 0 0] 83)=W1 at J4 J6 J8 hx1⊢;generalize w.heap.size+1+1=g8 at J8 hg8⊢;generalize w.heap.size+1=g6 at J6⊢;obtain⟨g4,hg4⟩:∃g,g=w.heap.size:=⟨_,rfl⟩;rw[←hg4]at J4⊢;have RV:=Lib.hid hg8;clear hg4 hg8;have s0:W1.cell? ⟨g6,0,none⟩=some (.int .i64 a):=J6.cell 0;have s1:W1.cell? ⟨g6,1,none⟩=some (.int .i64 b):=J6.cell 1;go_wp2_with fail;refine (Sr.out _).mono ?_;rintro e W2 ⟨rfl,hy⟩;have hx2:=Ext.trans hx1 hy;have J4:=J4.ext hy;have J6:=J6.ext hy;have J8:=J8.ext hy;clear s0 s1 hx1 hy;cases q1
 ·obtain rfl:R=none:=by rw[HR.out];simp
  have u1:W2.frozen? ⟨g8,0,none⟩=false:=J8.frozen 0;have u0:W2.cell? ⟨g8,0,none⟩=some (.slice none 0 0):=J8.cell 0;have u2:(W2.setCell ⟨g8,0,none⟩ (.slice none 0 0)).cell? ⟨g8,0,none⟩=some (.slice none 0 0):=(J8.cZ 0 _).cell 0;have HX:=Lib.hid (hx2.setCell (p:=⟨g8,0,none⟩) RV.out (.slice none 0 0));clear J4 J6 J8 hx2;go_wp2_with fail;exact⟨.tuple #[.slice none 0 0,.int .i64 360],by simp[results,Tryz.results27,go_sem,u2],rfl,HX.out⟩
 ·have qY:=Lib.hid J4;go_wp2_with (refine aT rfl _ _ rfl g4 0 rfl P (aC x) oH.out _ (aG.range qY.out (aC x) (by rw[←oH.out])) Tryz.underlying53 rfl aQ ?_);refine (xB.out _ hx2).mono ?_;rintro e W3 ⟨rfl,hy⟩;have hx3:=Ext.trans hx2 hy;have J4:=J4.ext hy;have J6:=J6.ext hy;have J8:=J8.ext hy;clear hx2 hy qY;cases q2
  ·obtain rfl:R=none:=by rw[HR.out];simp
   have u1:W3.frozen? ⟨g8,0,none⟩=false:=J8.frozen 0;have u0:W3.cell? ⟨g8,0,none⟩=some (.slice none 0 0):=J8.cell 0;have u2:(W3.setCell ⟨g8,0,none⟩ (.slice none 0 0)).cell? ⟨g8,0,none⟩=some (.slice none 0 0):=(J8.cZ 0 _).cell 0;have HX:=Lib.hid (hx3.setCell (p:=⟨g8,0,none⟩) RV.out (.slice none 0 0));clear J4 J6 J8 hx3;go_wp2_with fail;exact⟨.tuple #[.slice none 0 0,.int .i64 360],by simp[results,Tryz.results27,go_sem,u2],rfl,HX.out⟩
  ·have hRs:R=some (eX (fK x l kn) a (b-a).toNat):=by rw[HR.out];simp
   have yR:=Lib.hid hRs;obtain⟨h1,h2,h3,h4⟩:0≤a∧a<b∧b≤1000000∧b-a≤1440:=by first | exact Ia.out rfl | exact Ia.out trivial
   have s0:W3.cell? ⟨g6,0,none⟩=some (.int .i64 a):=J6.cell 0;have s1:W3.cell? ⟨g6,1,none⟩=some (.int .i64 b):=J6.cell 1;have qY:=Lib.hid J4;clear hRs HR xB Sr Ia;go_wp2_with (first | (refine ay rfl _ _ rfl g4 0 rfl P (aC x) oH.out _ (aG.range qY.out (aC x) (by rw[←oH.out])) Tryz.underlying53 rfl aQ ?_) | (refine lC rfl _ _ _ _ rfl Z rfl rfl rfl Qr.out ?_));refine (Fe Z a b _).mono ?_;rintro e W4 ⟨rfl,Jy⟩;have hy:Ext W3 W4:=by subst Jy;exact aj (aj (Below.refl _ _) _) _
   have kp:aG W4 W3.heap.size 117 Z:=by subst Jy;exact (aG.new _ _ _).alloc _
   have ks:aG W4 (W3.heap.size+1) 32 #[.int .i64 a,.int .i64 b]:=by subst Jy;exact aG.bC _ _ _ (by simp)
   have hl8:=J8.lt;have hx4:=Ext.trans hx3 hy;have J8:=J8.ext hy;rw[←HZZ.out]at kp;have hws:=Below.size hx4;clear Jy hy J4 J6 qY s0 s1 hx3 Qr;go_wp2_with fail;refine wpIn_wide.1 (qA (fun k=>k=g8) w.heap.size (W3.heap.size+1) W3.heap.size x l A un uc kn a b 10 (by omega) hws (xg.out.below hx4) ks kp (by omega) (by omega) (by omega) (by omega) (by omega) rfl (StI w W4.heap.size g8) (fun _ _ _=>False) (WL hws) (fun _ _ _ _ _ h _ _=>h) (fun _ _ h=>h.size) ⟨⟨_,J8,World.ownsRow_nil _ _ _ _⟩,hx4,Nat.le_refl _⟩
    (fun t x Bx=>(t.setIfInBounds 26 (.agg (strCells x.1).toArray)).setIfInBounds 10 (.pointer (some ⟨Bx,0,none⟩))) ?hassign ?hbody ?hdone (fun _ _ _ _ _ _ h _=>h.elim))
   case hassign =>
    intro ly s W K hK;obtain⟨X,hX⟩:∃X,(strCells s.1).toArray=X:=⟨_,rfl⟩;obtain⟨tH,hX1⟩:=tK _ X hX;rw[hX]at hK⊢;have qg:=Lib.hid tH;have kC:=Lib.hid hX1;clear hX tH hX1;simp only[List.setIfInBounds_toArray,List.set_cons_zero,List.set_cons_succ]at hK ⊢
    gi_wp2_with (refine fP rfl 96 _ _ rfl _ X rfl rfl (by rw[qg.out];exact jW) (by rw[qg.out];rfl) kC.out ?_)
    exact hK
   case hbody =>
    intro ly pre s Bx W hI hBx KX hlen;simp only[List.setIfInBounds_toArray,List.set_cons_zero,List.set_cons_succ];obtain⟨⟨v,k1,k2⟩,hb,hz⟩:=hI;obtain⟨A',c',hv,_,_⟩:=aX k2;subst hv;have hlen2:=vH (fK x l kn) (b-a).toNat a;have hlen3:pre.length<1440:=by omega
    obtain⟨X,hX⟩:∃X,(strCells s.1).toArray=X:=⟨_,rfl⟩;obtain⟨tH,hX1⟩:=tK _ X hX;have iP:=Lib.hid hX;have qg:=Lib.hid tH;rw[hX]at KX⊢;obtain⟨i0,hi0,hz0,hz1,hz2⟩:=info_parts H_;have hx1:Ext W (W.alloc (.cells X 96)):=aj (Below.refl _ _) _;have KN:=aG.new W 96 X;obtain⟨v2,W2,hr,hrow2,hg2,-⟩:=run_append_own (P:=Tryz.prog) (W.alloc (.cells X 96)) W4.heap.size 83 83 96 i0 _ 9 72 Tryz.underlying83 hi0 hz0 hz1 hz2 rfl (by omega) _ pre.length ((pre.map (·.1)).flatMap strCells) (bT k2 hx1) ⟨W.heap.size,0,none⟩ 1 1 (strCells s.1) (by rfl)
     (by intro j u hj;rw[Addr.add_lit,Nat.zero_add];rw[KN.cell,←iP.out];simpa using hj) (cells_one s.1) (by unfold maxLen;omega) (by omega) (by rw[World.size_alloc];omega)
    obtain⟨A2,c2,hv,_,_⟩:=aX hrow2;subst hv;have hg8W4:g8<W4.heap.size:=J8.lt;have k1':=(k1.ext hx1).grown hg2 (fun e=>by have:=(World.ownsRow.lt k2 g8 e.symm).1;omega);have u0:W.cell? ⟨g8,0,none⟩=some (.slice A' pre.length c'):=k1.cell 0;have u1:W2.frozen? ⟨g8,0,none⟩=false:=k1'.frozen 0;have u2:W2.cell? ⟨g8,0,none⟩=some (.slice A' pre.length c'):=k1'.cell 0;have HK:Hid (KeepsOthers W (W2.setCell ⟨g8,0,none⟩ (.slice A2 (pre.length+1) c2))):=Lib.hid (((KeepsOthers.alloc W _).trans (oM (bT k2 hx1) hg2)).trans (KeepsOthers.setCell _ _ _));have hws2:w.heap.size≤W4.heap.size:=hws;have HP:Hid (iW (fun k=>k=g8) w.heap.size W4.heap.size W (W2.setCell ⟨g8,0,none⟩ (.slice A2 (pre.length+1) c2))):=Lib.hid (((iW.ext hx1 hws2 hz).trans (iW.step hg2 hws2 (by rw[World.size_alloc];omega) (fun r e=>.inr (World.ownsRow.lt k2 r e).1))).trans (iW.step (grownBy_setCell' W2 g8 _) hws2 (Nat.le_trans hz (Nat.le_trans hx1.size hg2.size)) (fun r e=>by cases e;exact .inl ⟨rfl,RV.out⟩)));have HI:Hid (StI w W4.heap.size g8 (pre++[s]) (W2.setCell ⟨g8,0,none⟩ (.slice A2 (pre.length+1) c2))):=by
     refine Lib.hid ⟨⟨_,k1'.cZ 0 _,?_⟩,?_,?_⟩
     ·have:=jH hrow2 (p:=⟨g8,0,none⟩) (fun e=>by have:=(World.ownsRow.lt hrow2 g8 e).1;omega) (.slice A2 (pre.length+1) c2);simpa using this
     ·have h2:Below w.heap.size w W2:=(aA hb hx1).grown hg2 (Nat.le_trans hb.size hx1.size) (fun k e=>by have:=(World.ownsRow.lt k2 k e).1;omega);exact h2.setCell (p:=⟨g8,0,none⟩) RV.out _
     ·have:=hg2.size;simp at this⊢;omega
    have HR:=Lib.hid hr;have WM:=Lib.hid KX;clear k1 k2 KX hrow2 hg2 k1' hx1 KN hlen2 hlen3 hr hX tH hX1
    gi_wp2_with (first | (refine dU rfl _ _ rfl Bx 0 rfl X (strCells s.1) iP.out _ (aG.range WM.out (strCells s.1) (by rw[←iP.out])) Tryz.underlying96 rfl jW ?_) | (refine og rfl _ _ _ rfl X rfl Tryz.underlying83 9 OI qg.out (by omega) (by omega) ?_) | (gi_at_builtin;refine f_ rfl _ _ _ rfl rfl rfl HR.out ?_))
    exact⟨HK.out.from _,HP.out,HI.out⟩
   case hdone =>
    intro D xs W hD hxs hI hK;obtain⟨⟨v,k1,k2⟩,hb,hz⟩:=hI;have hln:xs.length=(eX (fK x l kn) a (b-a).toNat).length:=by rw[←hxs];simp
    rw[hxs,hln]at k2;clear hxs hln;obtain⟨A',c',hv,_,_⟩:=aX k2;subst hv;obtain⟨S,hS⟩:∃S,S=eX (fK x l kn) a (b-a).toNat:=⟨_,rfl⟩;rw[←hS]at k1 k2;have HS:Hid (R=some S):=Lib.hid (by rw[yR.out,hS]);have hg8W4:g8<W4.heap.size:=J8.lt;have u0:W.cell? ⟨g8,0,none⟩=some (.slice A' S.length c'):=k1.cell 0;have u1:W.frozen? ⟨g8,0,none⟩=false:=k1.frozen 0;have k4:aG (W.setCell ⟨g8,0,none⟩ (.slice A' S.length c')) g8 83 #[.slice A' S.length c']:=k1.cZ 0 _;have hne:(Value.slice A' S.length c').ownBlock≠some g8:=fun e=>by have:=(World.ownsRow.lt k2 g8 e).1;omega
    have k5:=jH k2 (p:=⟨g8,0,none⟩) hne (.slice A' S.length c');have hb2:Below w.heap.size w (W.setCell ⟨g8,0,none⟩ (.slice A' S.length c')):=hb.setCell (p:=⟨g8,0,none⟩) RV.out _;have hK2:(W.setCell ⟨g8,0,none⟩ (.slice A' S.length c')).heap[D]?=some (.deferred (some [])):=(KeepsOthers.setCell W ⟨g8,0,none⟩ (.slice A' S.length c')).same D _ hK rfl;have HA:=Lib.hid k4;have HR:=Lib.hid k5;have HB:=Lib.hid hb2;have HK:=Lib.hid hK2;clear k1 k2 k4 k5 hb hb2 hK hK2 hne hS yR;go_wp2;refine⟨by simp,.inl ⟨_,_,rfl,run_takeDeferred HK.out,?_⟩⟩;have hgr:=grownBy_putObj' (W.setCell ⟨g8,0,none⟩ (.slice A' S.length c')) D (.deferred none);have hrr:∀r,some D=some r→w.heap.size≤r∧∃o:Obj,(W.setCell ⟨g8,0,none⟩ (.slice A' S.length c')).heap[r]?=some o∧o.isCells=false:=fun r e=>by cases e;exact⟨by omega,_,HK.out,rfl⟩
    have HA2:=bF HA.out hgr hrr;have HR2:=own_base (iH HR.out hgr hrr) hws;have hc5:((W.setCell ⟨g8,0,none⟩ (.slice A' S.length c')).putObj D (.deferred none)).cell? ⟨g8,0,none⟩=some (.slice A' S.length c'):=HA2.cell 0;exact⟨.tuple #[.slice A' S.length c',.int .i64 0],by simp[results,Tryz.results27,go_sem,hc5],by rw[HS.out];exact⟨⟨_,rfl,HR2⟩,HB.out.grown hgr HB.out.size (fun k e=>by cases e;omega)⟩⟩
theorem CX (x:St) (l:List fE) (A:Option Addr) (un uc:Nat) (a b kn:Int) (w:World) (h:RA aI 10 w w.heap.size A un uc l) (hun:un≤2000) :
  Calls Tryz.prog 27 #[.agg (aC x).toArray,.slice A un uc,.agg #[.int .i64 a,.int .i64 b],.int .i64 kn] w (Fj (kL x l ⟨a,b⟩ kn) w) :=
 callsIn_wide.1 (Fp x l A un uc a b kn w h hun)
end Go.Proofs.YtjidhhfabfnhnaaGreat
namespace Go.Proofs.YtjidhhfabfnhnaaGreat
open Go.RowKit
section
variable {α:Type} {lt:α→α→Bool}
theorem zl {α:Type} (Q:List α) (d:Nat) (h:d<Q.length):∃Q1 z Q2,Q=Q1++z::Q2∧Q1.length=d:=by
 refine⟨Q.take d,Q[d],Q.drop (d+1),?_,by simp;omega⟩;rw[←List.drop_eq_getElem_cons h,List.take_append_drop]
theorem mY {α:Type} (Q:List α) (d:Nat) (h:d≤Q.length):∃Q1 Q2,Q=Q1++Q2∧Q1.length=d:=⟨Q.take d,Q.drop d,(List.take_append_drop d Q).symm,by simp;omega⟩
theorem Ib (x:α) (R1 R2:List α) (h1:∀y∈R1,lt y x=true) (h2:∀y∈R2,lt y x=false):bI lt [x] (R1++R2)=R1++x::R2:=by
 have e1:=fG lt [] [x] R1 R2 (fun _ h=>by cases h) (fun y hy z hz=>by obtain rfl:=List.mem_singleton.1 hz;exact h1 y hy);have e2:=fG lt [x] [] [] R2 (fun z hz y hy=>by obtain rfl:=List.mem_singleton.1 hz;exact h2 y hy) (fun _ h=>by cases h);simp only[List.nil_append,List.append_nil,dI,dN]at e1 e2;rw[e1,e2];rfl
theorem Ic (y:α) (A1 A2:List α) (h1:∀x∈A1,lt y x=false) (h2:∀x∈A2,lt y x=true):bI lt (A1++A2) [y]=A1++y::A2:=by
 have e1:=fG lt A1 A2 [] [y] (fun x hx z hz=>by obtain rfl:=List.mem_singleton.1 hz;exact h1 x hx) (fun _ h=>by cases h);have e2:=fG lt [] A2 [y] [] (fun _ h=>by cases h) (fun z hz x hx=>by obtain rfl:=List.mem_singleton.1 hz;exact h2 x hx);simp only[List.nil_append,List.append_nil,dI,dN]at e1 e2;rw[e1,e2];rfl
theorem Fq (h:SW lt) (a:α):lt a a=false:=by
 cases e:lt a a
 ·rfl
 ·have h2:=h.asy _ _ e;rw[e]at h2;exact h2
theorem lJ {R1 Q1 Q2 R2:List α} {z:α} (hs:jJ lt (R1++(Q1++z::Q2)++R2)):(∀y∈Q1,lt z y=false)∧(∀y∈Q2,lt y z=false)∧(∀y∈R1,lt z y=false)∧∀y∈R2,lt y z=false:=by
 obtain⟨h1,_,h2⟩:=jo.1 hs;obtain⟨_,h3,h4⟩:=jo.1 h1;obtain⟨_,h5,h6⟩:=jo.1 h3;exact⟨fun y hy=>h6 y hy z (by simp),fun y hy=>h5.1 y hy,fun y hy=>h4 y hy z (by simp),fun y hy=>h2 z (by simp) y hy⟩
theorem s1_lt (h:SW lt) {R1 Q1 Q2 R2:List α} {z x:α} (hs:jJ lt (R1++(Q1++z::Q2)++R2)) (hz:lt z x=true) (hR:∀y∈R1,lt y x=true):∀y∈R1++(Q1++[z]),lt y x=true:=by
 intro y hy;rcases List.mem_append.1 hy with hy | hy
 ·exact hR y hy
 rcases List.mem_append.1 hy with hy | hy
 ·cases e:lt y x
  ·have:=h.RY z y x ((lJ hs).1 y hy) e;rw[this]at hz;cases hz
  ·rfl
 ·obtain rfl:=List.mem_singleton.1 hy;exact hz
theorem s1_ge (h:SW lt) {R1 Q1 Q2 R2:List α} {z x:α} (hs:jJ lt (R1++(Q1++z::Q2)++R2)) (hz:lt z x=false) (hR:∀y∈R2,lt y x=false):∀y∈(z::Q2)++R2,lt y x=false:=by
 intro y hy;rcases List.mem_append.1 hy with hy | hy
 ·rcases List.mem_cons.1 hy with rfl | hy
  ·exact hz
  ·exact h.RY y z x ((lJ hs).2.1 y hy) hz
 ·exact hR y hy
theorem s2_ge (h:SW lt) {R1 Q1 Q2 R2:List α} {z x:α} (hs:jJ lt (R1++(Q1++z::Q2)++R2)) (hz:lt x z=false) (hR:∀y∈R1,lt x y=false):∀y∈R1++(Q1++[z]),lt x y=false:=by
 intro y hy;rcases List.mem_append.1 hy with hy | hy
 ·exact hR y hy
 rcases List.mem_append.1 hy with hy | hy
 ·exact h.RY x z y hz ((lJ hs).1 y hy)
 ·obtain rfl:=List.mem_singleton.1 hy;exact hz
theorem s2_lt (h:SW lt) {R1 Q1 Q2 R2:List α} {z x:α} (hs:jJ lt (R1++(Q1++z::Q2)++R2)) (hz:lt x z=true) (hR:∀y∈R2,lt x y=true):∀y∈(z::Q2)++R2,lt x y=true:=by
 intro y hy;rcases List.mem_append.1 hy with hy | hy
 ·rcases List.mem_cons.1 hy with rfl | hy
  ·exact hz
  ·cases e:lt x y
   ·have:=h.RY x y z e ((lJ hs).2.1 y hy);rw[this]at hz;cases hz
   ·rfl
 ·exact hR y hy
theorem s3_ge (h:SW lt) {A1 Q1 Q2 A2 B1 T1 T2 B2:List α} {z y:α} (ha:jJ lt (A1++(Q1++z::Q2)++A2)) (hb:jJ lt (B1++(T1++y::T2)++B2)) (hz:lt y z=false):∀u∈A1++(Q1++[z]),∀v∈(y::T2)++B2,lt v u=false:=by
 intro u hu v hv;obtain⟨a1,_,a3,_⟩:=lJ ha;obtain⟨_,b2,_,b4⟩:=lJ hb;have h1:lt z u=false:=by
  rcases List.mem_append.1 hu with hu | hu
  ·exact a3 u hu
  rcases List.mem_append.1 hu with hu | hu
  ·exact a1 u hu
  ·obtain rfl:=List.mem_singleton.1 hu;exact Fq h _
 have h2:lt v y=false:=by
  rcases List.mem_append.1 hv with hv | hv
  ·rcases List.mem_cons.1 hv with rfl | hv
   ·exact Fq h _
   ·exact b2 v hv
  ·exact b4 v hv
 exact h.RY v z u (h.RY v y z h2 hz) h1
theorem s3_lt (h:SW lt) {A1 Q1 Q2 A2 B1 T1 T2 B2:List α} {z y:α} (ha:jJ lt (A1++(Q1++z::Q2)++A2)) (hb:jJ lt (B1++(T1++y::T2)++B2)) (hz:lt y z=true):∀v∈B1++(T1++[y]),∀u∈(z::Q2)++A2,lt v u=true:=by
 intro v hv u hu;obtain⟨_,a2,_,a4⟩:=lJ ha;obtain⟨b1,_,b3,_⟩:=lJ hb;have h1:lt u z=false:=by
  rcases List.mem_append.1 hu with hu | hu
  ·rcases List.mem_cons.1 hu with rfl | hu
   ·exact Fq h _
   ·exact a2 u hu
  ·exact a4 u hu
 have h2:lt y v=false:=by
  rcases List.mem_append.1 hv with hv | hv
  ·exact b3 v hv
  rcases List.mem_append.1 hv with hv | hv
  ·exact b1 v hv
  ·obtain rfl:=List.mem_singleton.1 hv;exact Fq h _
 cases e:lt v u
 ·have:=h.RY y v z h2 (h.RY v u z e h1);rw[this]at hz;cases hz
 ·rfl
theorem DV {α:Type} (P Q R:List α) (x y:α) (i j:Nat) (hi:i=P.length) (hj:j=P.length+1+Q.length):((P++x::(Q++y::R)).set i y).set j x=P++y::(Q++x::R):=by
 subst hi hj;rw[List.set_append_right _ _ (Nat.le_refl _),Nat.sub_self,List.set_cons_zero,List.set_append_right _ _ (by omega),show P.length+1+Q.length-P.length=Q.length+1 by omega,List.set_cons_succ,List.set_append_right _ _ (Nat.le_refl _),Nat.sub_self,List.set_cons_zero]
theorem xE {α:Type} (P Q R:List α) (x y:α) (j:Nat) (hj:j=P.length+1+Q.length):∃h:j<(P++x::(Q++y::R)).length,(P++x::(Q++y::R))[j]=y:=by
 have e:P++x::(Q++y::R)=(P++x::Q)++y::R:=by simp
 obtain⟨h1,h2⟩:=iV (P++x::Q) R y j (by simp;omega);exact⟨by rw[e];exact h1,by simp only[e];exact h2⟩
end
theorem Ah {P:Program} {ops:Array Oper} {o:Oper} {a:Act} {t:TypeId} {x y:Operand} {p q r:Int} (ho:o.op=.binOp .add t x y t) (hg:o.guard=none) (hx:a.eval x=.int .i64 p) (hy:a.eval y=.int .i64 q) (hr:IntKind.i64.wrap (p+q)=r):Yields P ops o (.int .i64 r) a :=
 .inl ⟨by simp[Region.wanted,hg],fun w=>by
  simp only[execOp,ho,hx,hy];simp[go_sem,hr]⟩
end Go.Proofs.YtjidhhfabfnhnaaGreat
namespace Go.Proofs.YtjidhhfabfnhnaaGreat
open Go.RowKit
set_option maxHeartbeats 4000000 in
theorem swap_any (K:Nat) (caps:Array Value) (base g n c a b d:Nat) (P X M Y S:List bP) (w:World) (ha:a=P.length) (hb:b=P.length+X.length+M.length) (hd:d=X.length) (hd2:d=Y.length) (hn:n≤1000000) (hr:aW ak 6 base 75 g n c w (P++X++M++Y++S)) :
  Calls Tryz.prog 170 #[.slice (some ⟨g,0,none⟩) n c,.int .i64 (a:Int),.int .i64 (b:Int),.int .i64 (d:Int),.func (.func K) #[] caps] w
   fun e w'=>e=.returned (.tuple #[])∧aW ak 6 base 75 g n c w' (P++Y++M++X++S)∧w.grownBy w' (some g):=by
 have hc:=hr.le;have hln:=hr.1;have hbn:b+d≤n:=by simp at hln;omega
 have HR0:=Lib.hid hr;have HA:=Lib.hid ha;have HB:=Lib.hid hb;have HD:=Lib.hid hd;have HD2:=Lib.hid hd2;have hab:a≤b:=by omega
 have vM:=Lib.hid (iQ w (some g));clear hr hln ha hb hd hd2;go_enter Tryz.func170,Tryz.ntmps170;go_wp2;go_loopw [10] (fun i wr=>∃(k:Nat) (X1 X2 Y1 Y2:List bP),k≤d∧i=.int .i64 k∧Hid (X=X1++X2∧Y=Y1++Y2∧X1.length=k∧Y1.length=k)∧Hid (aW ak 6 base 75 g n c wr (P++Y1++X2++M++X1++Y2++S))∧Hid (w.grownBy wr (some g))) (fun i _=>d-(intOf i).toNat)
 case atStart=>exact⟨0,[],X,[],Y,Nat.zero_le _,rfl,Lib.hid ⟨rfl,rfl,rfl,rfl⟩,Lib.hid (by simpa using HR0.out),vM⟩
 case round =>
  clear HR0 vM;obtain⟨k,X1,X2,Y1,Y2,hkd,rfl,HS,HR,HG⟩:=hrel;obtain⟨wi,hwi⟩:∃wi:World,wi=wr:=⟨_,rfl⟩;rw[←hwi]at HR HG⊢;clear hwi;by_cases hlt:k<d
  ·obtain⟨x,X3,hX3⟩:∃x X3,X2=x::X3:=by
    cases X2 with
    |nil=>obtain⟨h1,_,h3,_⟩:=HS.out;have:=HD.out;rw[h1]at this;simp at this;omega
    |cons x X3=>exact⟨x,X3,rfl⟩
   obtain⟨y,Y3,hY3⟩:∃y Y3,Y2=y::Y3:=by
    cases Y2 with
    |nil=>obtain⟨_,h1,_,h3⟩:=HS.out;have:=HD2.out;rw[h1]at this;simp at this;omega
    |cons y Y3=>exact⟨y,Y3,rfl⟩
   subst hX3 hY3;have hrow:aW ak 6 base 75 g n c wi ((P++Y1)++x::((X3++M++X1)++y::(Y3++S))):=by simpa using HR.out
   have hi1:a+k=(P++Y1).length:=by obtain⟨_,_,_,h4⟩:=HS.out;have:=HA.out;simp;omega
   have hi2:b+k=(P++Y1).length+1+(X3++M++X1).length:=by obtain⟨h1,_,h3,h4⟩:=HS.out;have:=HB.out;rw[h1]at this;simp at this⊢;omega
   obtain⟨q1,e1⟩:=iV (P++Y1) ((X3++M++X1)++y::(Y3++S)) x (a+k) hi1;obtain⟨q2,e2⟩:=xE (P++Y1) (X3++M++X1) (Y3++S) x y (b+k) hi2;have DT:=hrow.range bg q1;have DU:=hrow.range bg q2;rw[e1]at DT;rw[e2]at DU;obtain⟨VX,hX⟩:∃X,(ak x).toArray=X:=⟨_,rfl⟩;obtain⟨VY,hY⟩:∃Y,(ak y).toArray=Y:=⟨_,rfl⟩;have HX:=Lib.hid hX;have HY:=Lib.hid hY;have rQ:=Lib.hid hrow;have Q1:=Lib.hid q1;have Q2:=Lib.hid q2;have I1:=Lib.hid hi1;have I2:=Lib.hid hi2;clear hrow hi1 hi2 e1 e2 q1 q2 hX hY;have hka:IntKind.i64.wrap ((a:Int)+(k:Int))=(a:Int)+(k:Int):=IntWalk.i64_in _ (by omega);have hkb:IntKind.i64.wrap ((b:Int)+(k:Int))=(b:Int)+(k:Int):=IntWalk.i64_in _ (by omega);have hna:((a:Int)+(k:Int)).toNat=a+k:=by omega
   have hnb:((b:Int)+(k:Int)).toNat=b+k:=by omega
   have hbk:b+k<n:=by omega
   have hak:a+k<n:=by omega
   go_wp2_with fail;refine lu 21 [(4,.slice (some ⟨g,0,none⟩) n c),(5,.int .i64 (b:Int)),(6,.int .i64 (k:Int)),(7,.int .i64 ((b:Int)+(k:Int)))] (fun ix vals v w1=>match ix with | 0=>v=.slice (some ⟨g,0,none⟩) n c | 1=>v=.int .i64 (a:Int) | 2=>v=.int .i64 (k:Int) | 3=>v=.int .i64 ((a:Int)+(k:Int)) | 4=>v=.slice (some ⟨g,0,none⟩) n c | 5=>v=.int .i64 (b:Int) | 6=>v=.int .i64 (k:Int) | 7=>v=.int .i64 ((b:Int)+(k:Int)) | 8=>v=.slice (some ⟨g,0,none⟩) n c | 9=>v=.int .i64 (b:Int) | 10=>v=.int .i64 (k:Int) | 11=>v=.int .i64 ((b:Int)+(k:Int)) | 12=>v=.pointer (some ⟨g,(b+k)*6,none⟩) | 13=>v=.agg VY | 14=>v=.slice (some ⟨g,0,none⟩) n c | 15=>v=.int .i64 (a:Int) | 16=>v=.int .i64 (k:Int) | 17=>v=.int .i64 ((a:Int)+(k:Int)) | 18=>v=.pointer (some ⟨g,(a+k)*6,none⟩) | 19=>v=.agg VX | _=>v=.pointer (some ⟨g,(a+k)*6,none⟩)) (by kernel_rfl) (by kernel_rfl) (by kernel_rfl) (by kernel_rfl) (by kernel_rfl) ?_ ?_ ?_ ?_ ?_ ?_
   ·refine⟨⟨_,rfl,by kernel_rfl,by kernel_rfl,gZ rfl rfl rfl⟩,⟨_,rfl,by kernel_rfl,by kernel_rfl,gZ rfl rfl rfl⟩,⟨_,rfl,by kernel_rfl,by kernel_rfl,gZ rfl rfl rfl⟩,⟨_,rfl,by kernel_rfl,by kernel_rfl,Ah rfl rfl rfl rfl hkb⟩,trivial⟩
   ·intro j hj vals w1;simp only[List.map_cons,List.map_nil,List.mem_cons,List.not_mem_nil,or_false]at hj;rcases hj with rfl | rfl | rfl | rfl<;>rfl
   ·intro ix vals v w1 w2 hi hr hx;exact hr
   ·intro ix vals vJ v w1 hi hv hr;exact hr
   ·refine⟨?_,?_,?_,?_,?_,?_,?_,?_,?_,?_,?_,?_,?_,?_,?_,?_,?_,?_,?_,?_,?_,trivial⟩
    ·intro vals w1 hx hd ha;clear hd ha;simp only[Lf];go_wp2;exact q_
    ·intro vals w1 hx hd ha;clear hd ha;simp only[Lf,au,Act.put,FR_];go_wp2;exact q_
    ·intro vals w1 hx hd ha;clear hd ha;simp only[Lf,au,Act.put,FR_];go_wp2;exact q_
    ·intro vals w1 hx hd ha;have e1:vals 1=.int .i64 (a:Int):=hd 1 (by decide);have e2:vals 2=.int .i64 (k:Int):=hd 2 (by decide);clear hd ha;simp only[Lf,au,Act.put,FR_,e1,e2];clear e1 e2;go_wp2;exact q_
    ·intro vals w1 hx hd ha;clear hd ha;simp only[Lf,au,Act.put,FR_];go_wp2;exact q_
    ·intro vals w1 hx hd ha;clear hd ha;simp only[Lf,au,Act.put,FR_];go_wp2;exact q_
    ·intro vals w1 hx hd ha;clear hd ha;simp only[Lf,au,Act.put,FR_];go_wp2;exact q_
    ·intro vals w1 hx hd ha;have e5:vals 5=.int .i64 (b:Int):=hd 5 (by decide);have e6:vals 6=.int .i64 (k:Int):=hd 6 (by decide);clear hd ha;simp only[Lf,au,Act.put,FR_,e5,e6];clear e5 e6;go_wp2;exact q_
    ·intro vals w1 hx hd ha;clear hd ha;simp only[Lf,au,Act.put,FR_];go_wp2;exact q_
    ·intro vals w1 hx hd ha;clear hd ha;simp only[Lf,au,Act.put,FR_];go_wp2;exact q_
    ·intro vals w1 hx hd ha;clear hd ha;simp only[Lf,au,Act.put,FR_];go_wp2;exact q_
    ·intro vals w1 hx hd ha;have e9:vals 9=.int .i64 (b:Int):=hd 9 (by decide);have e10:vals 10=.int .i64 (k:Int):=hd 10 (by decide);clear hd ha;simp only[Lf,au,Act.put,FR_,e9,e10];clear e9 e10;go_wp2;exact q_
    ·intro vals w1 hx hd ha;have e8:vals 8=.slice (some ⟨g,0,none⟩) n c:=hd 8 (by decide);have e11:vals 11=.int .i64 ((b:Int)+(k:Int)):=hd 11 (by decide);clear hd ha;simp only[Lf,au,Act.put,FR_,e8,e11];clear e8 e11;go_wp2;exact q_
    ·intro vals w1 hx hd ha;have e12:vals 12=.pointer (some ⟨g,(b+k)*6,none⟩):=hd 12 (by decide);clear hd ha;simp only[Lf,au,Act.put,FR_,e12];clear e12;refine ay rfl _ _ rfl g ((b+k)*6) rfl VY (ak y) HY.out _ (RA.dD DU hx.aH) Tryz.underlying75 rfl bV ?_;go_wp2;exact q_
    ·intro vals w1 hx hd ha;clear hd ha;simp only[Lf,au,Act.put,FR_];go_wp2;exact q_
    ·intro vals w1 hx hd ha;clear hd ha;simp only[Lf,au,Act.put,FR_];go_wp2;exact q_
    ·intro vals w1 hx hd ha;clear hd ha;simp only[Lf,au,Act.put,FR_];go_wp2;exact q_
    ·intro vals w1 hx hd ha;have e15:vals 15=.int .i64 (a:Int):=hd 15 (by decide);have e16:vals 16=.int .i64 (k:Int):=hd 16 (by decide);clear hd ha;simp only[Lf,au,Act.put,FR_,e15,e16];clear e15 e16;go_wp2;exact q_
    ·intro vals w1 hx hd ha;have e14:vals 14=.slice (some ⟨g,0,none⟩) n c:=hd 14 (by decide);have e17:vals 17=.int .i64 ((a:Int)+(k:Int)):=hd 17 (by decide);clear hd ha;simp only[Lf,au,Act.put,FR_,e14,e17];clear e14 e17;go_wp2;exact q_
    ·intro vals w1 hx hd ha;have e18:vals 18=.pointer (some ⟨g,(a+k)*6,none⟩):=hd 18 (by decide);clear hd ha;simp only[Lf,au,Act.put,FR_,e18];clear e18;refine ay rfl _ _ rfl g ((a+k)*6) rfl VX (ak x) HX.out _ (RA.dD DT hx.aH) Tryz.underlying75 rfl bV ?_;go_wp2;exact q_
    ·intro vals w1 hx hd ha;have e0:vals 0=.slice (some ⟨g,0,none⟩) n c:=hd 0 (by decide);have e1:vals 1=.int .i64 (a:Int):=hd 1 (by decide);have e2:vals 2=.int .i64 (k:Int):=hd 2 (by decide);have e3:vals 3=.int .i64 ((a:Int)+(k:Int)):=hd 3 (by decide);have e8:vals 8=.slice (some ⟨g,0,none⟩) n c:=hd 8 (by decide);have e9:vals 9=.int .i64 (b:Int):=hd 9 (by decide);have e10:vals 10=.int .i64 (k:Int):=hd 10 (by decide);have e11:vals 11=.int .i64 ((b:Int)+(k:Int)):=hd 11 (by decide);have e12:vals 12=.pointer (some ⟨g,(b+k)*6,none⟩):=hd 12 (by decide);have e13:vals 13=.agg VY:=hd 13 (by decide);have e19:vals 19=.agg VX:=hd 19 (by decide);clear hd ha;simp only[Lf,au,Act.put,FR_,e0,e1,e2,e3,e8,e9,e10,e11,e12,e13,e19];clear e0 e1 e2 e3 e8 e9 e10 e11 e12 e13 e19;go_wp2;exact q_
   intro vals w6 hx6 hf;have e4:vals 4=.slice (some ⟨g,0,none⟩) n c:=hf 4 (by omega);have e7:vals 7=.int .i64 ((b:Int)+(k:Int)):=hf 7 (by omega);have e13:vals 13=.agg VY:=hf 13 (by omega);have e19:vals 19=.agg VX:=hf 19 (by omega);have e20:vals 20=.pointer (some ⟨g,(a+k)*6,none⟩):=hf 20 (by omega);clear hf;have hx6:=hx6.aH;have KE:=rQ.out.ext hx6;obtain⟨hs1,hg1⟩:=KE.store bg Q1.out y;have ht1:=KE.there bg Q1.out;have hl1:b+k<(((P++Y1)++x::((X3++M++X1)++y::(Y3++S))).set (a+k) y).length:=by rw[List.length_set];exact Q2.out
   obtain⟨hs2,hg2⟩:=hs1.store bg hl1 x;have ht2:=hs1.there bg hl1;rw[DV (P++Y1) (X3++M++X1) (Y3++S) x y (a+k) (b+k) I1.out I2.out]at hs2;have R_:w.grownBy ((w6.setCells g ((a+k)*6) (ak y)).setCells g ((b+k)*6) (ak x)) (some g):=bD (bD HG.out (dM hx6)) (bD hg1 hg2);have HT1:=Lib.hid ht1;have HT2:=Lib.hid ht2;have HS2:=Lib.hid hs2;have NI:=Lib.hid R_;clear ht1 ht2 hs1 hg1 hs2 hg2 R_ KE hl1 DT DU hx6;refine oK 21 _ _ 2 (by kernel_rfl) rfl ?_ (fun a w q=>oK 22 _ _ 1 (by kernel_rfl) rfl q (fun a w q=>eP 23 _ (by kernel_rfl) (by kernel_rfl) rfl q));simp only[Lf,au,Act.put,FR_];rw[e4,e7,e13,e19,e20];clear e4 e7 e13 e19 e20;refine dL rfl _ _ _ rfl g ((a+k)*6) VY (ak y) HY.out rfl rfl HT1.out bV (by simp[ak,Value.oneCell']) ?_;go_wp2_with (refine dL rfl _ _ _ rfl g ((b+k)*6) VX (ak x) HX.out rfl rfl HT2.out bV (by simp[ak,Value.oneCell']) ?_);refine Dq ?_;generalize (w6.setCells g ((a+k)*6) (ak y)).setCells g ((b+k)*6) (ak x)=w8 at HS2 NI⊢;have Sv:Hid (aW ak 6 base 75 g n c w8 (P++(Y1++[y])++X3++M++(X1++[x])++Y3++S)):=Lib.hid (by simpa using HS2.out);have Ai:=HS.out;have Sz:Hid (X=(X1++[x])++X3∧Y=(Y1++[y])++Y3∧(X1++[x]).length=k+1∧(Y1++[y]).length=k+1):=Lib.hid (by obtain⟨h1,h2,h3,h4⟩:=Ai;simp[h1,h2,h3,h4]);clear HS Ai HS2 rQ HT1 HT2;go_wp2;go_roundw
   case rel=>exact⟨k+1,X1++[x],X3,Y1++[y],Y3,by omega,by go_num,Sz,Sv,NI⟩
   case measure=>simp[intOf];omega
  ·have hfin:aW ak 6 base 75 g n c wi (P++Y++M++X++S):=by
    obtain⟨h1,h2,h3,h4⟩:=HS.out;have hx0:X2=[]:=List.eq_nil_of_length_eq_zero (by have:=HD.out;rw[h1]at this;simp at this;omega);have hy0:Y2=[]:=List.eq_nil_of_length_eq_zero (by have:=HD2.out;rw[h2]at this;simp at this;omega);have h:=HR.out;rw[hx0,hy0]at h;rw[h1,h2,hx0,hy0];simpa using h
   have HF:=Lib.hid hfin;clear hfin;go_wp2;go_end0;exact⟨rfl,HF.out,HG.out⟩
end Go.Proofs.YtjidhhfabfnhnaaGreat
