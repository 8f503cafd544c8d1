/- Two sorted parts of a row merged in place (printed by sort_merge.py). -/
import Derived.Test.YtjidhhfabfnhnaaGreatT13
namespace Go.Proofs.YtjidhhfabfnhnaaGreat
open Go.RowKit
def YD (K:Nat) (caps:Array Value) (cv:bP→bP→Int) (base g n c N:Nat):Prop:=∀(P A B S:List bP) (a m b:Nat) (w:World),a=P.length→m=a+A.length→b=m+B.length→A.length+B.length≤N→0<A.length→0<B.length→jJ (ltOf cv) A→jJ (ltOf cv) B→aW ak 6 base 75 g n c w (P++A++B++S) →
 Calls Tryz.prog 148 #[.slice (some ⟨g,0,none⟩) n c,.int .i64 (a:Int),.int .i64 (m:Int),.int .i64 (b:Int),.func (.func K) #[] caps] w fun e w'=>e=.returned (.tuple #[])∧aW ak 6 base 75 g n c w' (P++bI (ltOf cv) A B++S)∧w.grownBy w' (some g)
theorem jd {α:Type} (lt:α→α→Bool) (A B:List α):(bI lt A B).length=A.length+B.length:=by
 match A,B with
 |[],B=>simp[dI]
 |a::A,[]=>simp[dN]
 |a::A,b::B =>
  rw[bI]
  split
  ·have ih:=jd lt (a::A) B;rw[List.length_cons,ih];simp;omega
  ·have ih:=jd lt A (b::B);rw[List.length_cons,ih];simp;omega
termination_by A.length+B.length
set_option maxHeartbeats 16000000 in
set_option maxRecDepth 100000 in
theorem SS (K:Nat) (caps:Array Value) (cv:bP→bP→Int) (eg:∀args w,(callFunc K args).run Tryz.prog w=.ok (.enter K args) w) (hcmp:KC K caps cv) (hsw:SW (ltOf cv)) (base g n c:Nat) (hn:n≤1000000) (N:Nat) (IH:YD K caps cv base g n c N) (P Al Bl S:List bP) (a m b:Nat) (w:World) (ha:a=P.length) (hm:m=a+Al.length) (hb:b=m+Bl.length) (hA2:2≤Al.length) (hB2:2≤Bl.length) (hN:Al.length+Bl.length≤N+1) (hsa:jJ (ltOf cv) Al) (hsb:jJ (ltOf cv) Bl) (hr:aW ak 6 base 75 g n c w (P++Al++Bl++S)) :
  Calls Tryz.prog 148 #[.slice (some ⟨g,0,none⟩) n c,.int .i64 (a:Int),.int .i64 (m:Int),.int .i64 (b:Int),.func (.func K) #[] caps] w
   fun e w'=>e=.returned (.tuple #[])∧aW ak 6 base 75 g n c w' (P++bI (ltOf cv) Al Bl++S)∧w.grownBy w' (some g):=by
 have hc:=hr.le;have hln:=hr.1;have hbn:b≤n:=by simp at hln;omega
 obtain⟨LL,hL⟩:∃l,l=P++Al++Bl++S:=⟨_,rfl⟩;rw[←hL]at hr;have HRW:=Lib.hid hr;have KD:=Lib.hid hcmp;have Aj:=Lib.hid hsw;have NK:=Lib.hid hsa;have FC:=Lib.hid hsb;have HA:=Lib.hid ha;have WO:=Lib.hid hL;have HIH:=Lib.hid IH;have HN_:=Lib.hid hN;obtain⟨mid,hmid⟩:∃mid,mid=(a+b) / 2:=⟨_,rfl⟩;have em:((a:Int)+(b:Int)) / 2=((mid:Nat):Int):=by omega
 have md1:a+2≤m:=by omega
 have md2:m+2≤b:=by omega
 have md3:2*mid≤a+b:=by omega
 have md4:a+b≤2*mid+1:=by omega
 have hpre:∃(s0 r0:Nat) (A1 Q A2 B1 T B2:List bP),s0≤r0∧a≤s0∧r0≤m∧Hid (Al=A1++Q++A2∧Bl=B1++T++B2∧a+A1.length=s0∧s0+Q.length=r0∧T.length=Q.length∧B1.length+r0=mid)∧Hid (∀u∈A1,∀v∈B2,ltOf cv v u=false)∧Hid (∀v∈B1,∀u∈A2,ltOf cv v u=true)∧((mid<m∧s0+b=mid+m∧r0=mid)∨(m≤mid∧s0=a∧r0=m)):=by
  rcases Nat.lt_or_ge mid m with h | h
  ·obtain⟨A1,AQ,e1,e2⟩:=mY Al (mid+m-b-a) (by omega);obtain⟨Q,A2,e3,e4⟩:=mY AQ (b-m) (by rw[e1]at hm;simp at hm;omega);refine⟨mid+m-b,mid,A1,Q,A2,[],Bl,[],by omega,by omega,by omega,Lib.hid ⟨by rw[e1,e3];simp,by simp,by omega,by omega,by omega,by simp⟩,Lib.hid (fun _ _ v hv=>by cases hv),Lib.hid (fun v hv=>by cases hv),.inl ⟨h,by omega,rfl⟩⟩
  ·obtain⟨B1,BQ,e1,e2⟩:=mY Bl (mid-m) (by omega);obtain⟨T,B2,e3,e4⟩:=mY BQ (m-a) (by rw[e1]at hb;simp at hb;omega);refine⟨a,m,[],Al,[],B1,T,B2,by omega,Nat.le_refl _,Nat.le_refl _,Lib.hid ⟨by simp,by rw[e1,e3];simp,by simp,by omega,by omega,by omega⟩,Lib.hid (fun u hu=>by cases hu),Lib.hid (fun _ _ u hu=>by cases hu),.inr ⟨h,rfl,rfl⟩⟩
 obtain⟨s0,r0,A1,Q,A2,B1,T,B2,hsr,has,hrm,Yx,HI0,Ot,hcase⟩:=hpre;have hw0:IntKind.i64.wrap ((m:Int)-(a:Int))=(m:Int)-(a:Int):=IntWalk.i64_in _ (by omega);have he0:((m:Int)-(a:Int)==1)=false:=by simp;omega
 have hw9:IntKind.i64.wrap ((b:Int)-(m:Int))=(b:Int)-(m:Int):=IntWalk.i64_in _ (by omega);have he9:((b:Int)-(m:Int)==1)=false:=by simp;omega
 have hw1:IntKind.i64.wrap ((mid:Int)+(m:Int))=(mid:Int)+(m:Int):=IntWalk.i64_in _ (by omega);have hw2:IntKind.i64.wrap ((mid:Int)+(m:Int)-(b:Int))=(mid:Int)+(m:Int)-(b:Int):=IntWalk.i64_in _ (by omega);have hw3:IntKind.i64.wrap ((mid:Int)+(m:Int)-1)=(mid:Int)+(m:Int)-1:=IntWalk.i64_in _ (by omega);have HM:=Lib.hid hm;have HBM:=Lib.hid hb;clear hr hcmp hsw hsa hsb hL ha hln hb hm hA2 hB2 hmid IH hN;rcases hcase with ⟨hca,hcb,hcc⟩ | ⟨hca,hcb,hcc⟩
 all_goals
  go_enter Tryz.func148,Tryz.ntmps148;go_wp2;clear hw0 he0 hw9 he9 hw1 hw2 hw3;go_loopw [20,21] (fun u v wr=>∃(s r:Nat) (A1 Q A2 B1 T B2:List bP),s≤r∧a≤s∧r≤m∧u=.int .i64 s∧v=.int .i64 r∧Hid (Al=A1++Q++A2∧Bl=B1++T++B2∧a+A1.length=s∧s+Q.length=r∧T.length=Q.length∧B1.length+r=mid)∧Hid (∀u∈A1,∀v∈B2,ltOf cv v u=false)∧Hid (∀v∈B1,∀u∈A2,ltOf cv v u=true)∧Ext w wr) (fun u v _=>(intOf v).toNat-(intOf u).toNat)
  case atStart=>exact⟨s0,r0,A1,Q,A2,B1,T,B2,hsr,has,hrm,by first | (rw[show ((s0:Nat):Int)=(mid:Int)+(m:Int)-(b:Int) by omega]) | (rw[show ((s0:Nat):Int)=(a:Int) by omega]),by rw[hcc],Yx,HI0,Ot,Ext.refl _⟩
  case round =>
   clear Yx HI0 Ot hsr has hrm hca hcb hcc;obtain⟨s,r,A1,Q,A2,B1,T,B2,hsr,has,hrm,rfl,rfl,HQ,HI,HJ,hxw⟩:=hrel;by_cases hlt:s<r
   ·obtain⟨h,hh⟩:∃h,h=(s+r) / 2:=⟨_,rfl⟩;have em2:((s:Int)+(r:Int)) / 2=((h:Nat):Int):=by omega
    have hh1:s≤h:=by omega
    have hh2:h<r:=by omega
    clear hh;go_wp2_with fail;clear em2;obtain⟨Q1,z,Q2,hQ,YA⟩:=zl Q (h-s) (by have:=HQ.out;omega);obtain⟨T1,y0,T2,hT,hT1⟩:=zl T (r-1-h) (by have:=HQ.out;omega);have hq:=HQ.out;rw[hQ,hT]at hq;have rE:=Lib.hid hq;have HL:Hid (LL=P++(A1++(Q1++z::Q2)++A2)++(B1++(T1++y0::T2)++B2)++S):=Lib.hid (by rw[WO.out,←hq.1,←hq.2.1]);have FB:=Lib.hid YA;have HT1:=Lib.hid hT1;have hal:a+(A1++(Q1++z::Q2)++A2).length=m:=by rw[←hq.1];exact HM.out.symm
    have Ar:=Lib.hid hal;obtain⟨pc,hpc⟩:∃pc,pc=mid+m-1-h:=⟨_,rfl⟩;have hrm2:r≤mid:=by have:=hq.2.2.2.2.2;omega
    have hpc2:pc+1+h=mid+m:=by omega
    clear hal hpc;have SG:LL=(P++(A1++(Q1++z::Q2)++A2)++(B1++T1))++y0::(T2++B2++S):=by simp[HL.out]
    obtain⟨qa,YB⟩:=iV (P++(A1++(Q1++z::Q2)++A2)++(B1++T1)) (T2++B2++S) y0 pc (by have h1:=Ar.out;have h2:=HA.out;have h3:=rE.out.2.2.2.2.2;have h4:=HT1.out;rw[List.length_append,@List.length_append _ P,@List.length_append _ B1];omega);have DT:wr.rangeAt g (pc*6) (ak y0):=by have h:=(HRW.out.ext hxw).range bg (k:=pc) (by rw[SG];exact qa);simp only[SG]at h;rw[YB]at h;exact h
    obtain⟨X,SH⟩:∃X,(ak y0).toArray=X:=⟨_,rfl⟩;have HX:=Lib.hid SH;have SK:LL=(P++(A1++Q1))++z::(Q2++A2++(B1++(T1++y0::T2)++B2)++S):=by simp[HL.out]
    obtain⟨qb,YC⟩:=iV (P++(A1++Q1)) (Q2++A2++(B1++(T1++y0::T2)++B2)++S) z h (by have h1:=rE.out;have h2:=HA.out;have h3:=FB.out;simp;omega);have DU:wr.rangeAt g (h*6) (ak z):=by have h:=(HRW.out.ext hxw).range bg (k:=h) (by rw[SK];exact qb);simp only[SK]at h;rw[YC]at h;exact h
    obtain⟨Y,SL⟩:∃X,(ak z).toArray=X:=⟨_,rfl⟩;have HY:=Lib.hid SL;have hcc:=KD.out y0 z;rw[SH,SL]at hcc;obtain⟨v_,hv⟩:∃v,v=cv y0 z:=⟨_,rfl⟩;rw[←hv]at hcc;have HC:=Lib.hid hcc;have Ig:ltOf cv y0 z=decide (v_<0):=by rw[hv];rfl
    have Cm:=Lib.hid Ig;clear hcc hv Ig SG SK qa qb YB YC SH SL;clear hQ YA hT hT1 hq HQ Ar;have hhn:h<n:=by omega
    have hpcb:pc<b:=by have h1:=HBM.out;rw[rE.out.2.1]at h1;have h2:=HT1.out;have h3:=rE.out.2.2.2.2.2;simp at h1;omega
    have hpn:pc<n:=by omega
    have hw5:IntKind.i64.wrap ((mid:Int)+(m:Int)-1-(h:Int))=(mid:Int)+(m:Int)-1-(h:Int):=IntWalk.i64_in _ (by omega);have hpt:((mid:Int)+(m:Int)-1-(h:Int))=(pc:Int):=by omega
    rw[hpt]at hw5;refine iw 14 (fun ix vals v w1=>match ix with | 0=>v=.func (.func K) #[] caps | 1=>v=.slice (some ⟨g,0,none⟩) n c | 2=>v=.int .i64 ((mid:Int)+(m:Int)-1) | 3=>v=.int .i64 (h:Int) | 4=>v=.int .i64 (pc:Int) | 5=>v=.pointer (some ⟨g,(pc)*6,none⟩) | 6=>v=.agg X | 7=>v=.slice (some ⟨g,0,none⟩) n c | 8=>v=.int .i64 (h:Int) | 9=>v=.pointer (some ⟨g,(h)*6,none⟩) | 10=>v=.agg Y | 11=>v=.int .i64 v_ | 12=>v=.bool (decide (v_<0)) | _=>v=.bool (!decide (v_<0))) (by kernel_rfl) (by kernel_rfl) ?_ ?_ ?_ ?_
    ·intro ix vals v w1 w2 hi hr hx;exact hr
    ·intro ix vals vJ v w1 hi hv hr;exact hr
    ·refine vV [some 158,some 159,some 160,some 161,some 162,some 163,some 164,some 165,some 166,some 167,some 168,some 169,some 170,some 171] [(0,.slice (some ⟨g,0,none⟩) n c),(4,.func (.func K) #[] caps),(22,.int .i64 ((mid:Int)+(m:Int)-1)),(23,.int .i64 (h:Int))] 220 (by kernel_rfl) (by kernel_rfl) ⟨by kernel_rfl,by kernel_rfl,by kernel_rfl,by kernel_rfl,trivial⟩ ?_;refine⟨?_,?_,?_,?_,?_,?_,?_,?_,?_,?_,?_,?_,?_,?_,trivial⟩
     ·intro vals w1 hx hd;refine .r [(4,.func (.func K) #[] caps)] (Op.move (Operand.const (.func (.func K) #[] caps))) 120 158 ⟨.out (by kernel_rfl) (by kernel_rfl),trivial⟩ ?_;clear hd;go_wp2;exact q_
     ·intro vals w1 hx hd;refine .r [(0,.slice (some ⟨g,0,none⟩) n c)] (Op.move (Operand.const (.slice (some ⟨g,0,none⟩) n c))) 36 159 ⟨.out (by kernel_rfl) (by kernel_rfl),trivial⟩ ?_;clear hd;go_wp2;exact q_
     ·intro vals w1 hx hd;refine .r [(22,.int .i64 ((mid:Int)+(m:Int)-1))] (Op.move (Operand.const (.int .i64 ((mid:Int)+(m:Int)-1)))) 3 160 ⟨.out (by kernel_rfl) (by kernel_rfl),trivial⟩ ?_;clear hd;go_wp2;exact q_
     ·intro vals w1 hx hd;refine .r [(23,.int .i64 (h:Int))] (Op.move (Operand.const (.int .i64 (h:Int)))) 3 161 ⟨.out (by kernel_rfl) (by kernel_rfl),trivial⟩ ?_;clear hd;go_wp2;exact q_
     ·intro vals w1 hx hd;refine .r [(160,.int .i64 ((mid:Int)+(m:Int)-1)),(161,.int .i64 (h:Int))] (Op.binOp BinOp.sub 3 (Operand.const (.int .i64 ((mid:Int)+(m:Int)-1))) (Operand.const (.int .i64 (h:Int))) 3) 3 162 ⟨.inn 2 (by kernel_rfl) (hd 2 (by decide)),.inn 3 (by kernel_rfl) (hd 3 (by decide)),trivial⟩ ?_;clear hd;rw[←hpt];rw[←hpt]at hw5;go_wp2;exact q_
     ·intro vals w1 hx hd;refine .r [(159,.slice (some ⟨g,0,none⟩) n c),(162,.int .i64 (pc:Int))] (Op.indexAddr 36 (Operand.const (.slice (some ⟨g,0,none⟩) n c)) (Operand.const (.int .i64 (pc:Int)))) 0 163 ⟨.inn 1 (by kernel_rfl) (hd 1 (by decide)),.inn 4 (by kernel_rfl) (hd 4 (by decide)),trivial⟩ ?_;clear hd;go_wp2;exact q_
     ·intro vals w1 hx hd;refine .r [(163,.pointer (some ⟨g,(pc)*6,none⟩))] (Op.load 75 (Operand.const (.pointer (some ⟨g,(pc)*6,none⟩)))) 75 164 ⟨.inn 5 (by kernel_rfl) (hd 5 (by decide)),trivial⟩ ?_;clear hd;refine ay rfl _ _ rfl g ((pc)*6) rfl X (ak y0) HX.out _ (RA.dD DT hx.aH) Tryz.underlying75 rfl bV ?_;go_wp2;exact q_
     ·intro vals w1 hx hd;refine .r [(0,.slice (some ⟨g,0,none⟩) n c)] (Op.move (Operand.const (.slice (some ⟨g,0,none⟩) n c))) 36 165 ⟨.out (by kernel_rfl) (by kernel_rfl),trivial⟩ ?_;clear hd;go_wp2;exact q_
     ·intro vals w1 hx hd;refine .r [(23,.int .i64 (h:Int))] (Op.move (Operand.const (.int .i64 (h:Int)))) 3 166 ⟨.out (by kernel_rfl) (by kernel_rfl),trivial⟩ ?_;clear hd;go_wp2;exact q_
     ·intro vals w1 hx hd;refine .r [(165,.slice (some ⟨g,0,none⟩) n c),(166,.int .i64 (h:Int))] (Op.indexAddr 36 (Operand.const (.slice (some ⟨g,0,none⟩) n c)) (Operand.const (.int .i64 (h:Int)))) 0 167 ⟨.inn 7 (by kernel_rfl) (hd 7 (by decide)),.inn 8 (by kernel_rfl) (hd 8 (by decide)),trivial⟩ ?_;clear hd;go_wp2;exact q_
     ·intro vals w1 hx hd;refine .r [(167,.pointer (some ⟨g,(h)*6,none⟩))] (Op.load 75 (Operand.const (.pointer (some ⟨g,(h)*6,none⟩)))) 75 168 ⟨.inn 9 (by kernel_rfl) (hd 9 (by decide)),trivial⟩ ?_;clear hd;refine ay rfl _ _ rfl g ((h)*6) rfl Y (ak z) HY.out _ (RA.dD DU hx.aH) Tryz.underlying75 rfl bV ?_;go_wp2;exact q_
     ·intro vals w1 hx hd;refine .r [(158,.func (.func K) #[] caps),(164,.agg X),(168,.agg Y)] (Op.call { callee:=Callee.value (Operand.const (.func (.func K) #[] caps)),args:=#[(Operand.const (.agg X)),(Operand.const (.agg Y))],argTypes:=#[75,75] }) 3 169 ⟨.inn 0 (by kernel_rfl) (hd 0 (by decide)),.inn 6 (by kernel_rfl) (hd 6 (by decide)),.inn 10 (by kernel_rfl) (hd 10 (by decide)),trivial⟩ ?_;clear hd;go_wp2_with fail;refine (HC.out _).mono ?_;rintro e w2 ⟨rfl,hb2⟩;go_wp2;exact⟨rfl,hb2,rfl⟩
     ·intro vals w1 hx hd;refine .r [(169,.int .i64 v_)] (Op.binOp BinOp.lss 3 (Operand.const (.int .i64 v_)) (Operand.const (Value.int IntKind.i64 0)) 3) 4 170 ⟨.inn 11 (by kernel_rfl) (hd 11 (by decide)),trivial⟩ ?_;clear hd;go_wp2;exact q_
     ·intro vals w1 hx hd;refine .r [(170,.bool (decide (v_<0)))] (Op.unOp UnOp.not 4 (Operand.const (.bool (decide (v_<0))))) 4 171 ⟨.inn 12 (by kernel_rfl) (hd 12 (by decide)),trivial⟩ ?_;clear hd;go_wp2;exact q_
    intro vals w5 hx5 hf;have e13:vals 13=.bool (!decide (v_<0)):=hf 13 (by omega);clear hf DT DU hw5 hpt;have hxw:=Ext.trans hxw hx5.aH;clear hx5;refine dO (by kernel_rfl) ?_;simp only[Lf,au,Act.put,FR_];rw[e13];clear e13;have hw1:IntKind.i64.wrap ((h:Int)+1)=(h:Int)+1:=IntWalk.i64_in _ (by omega);by_cases hv0:v_<0
    ·have hd:decide (v_<0)=true:=by simpa using hv0
     have hlt2:ltOf cv y0 z=true:=by rw[Cm.out];exact hd
     have hN:Al=A1++Q1++((z::Q2)++A2)∧Bl=(B1++(T1++[y0]))++T2++B2∧a+A1.length=s∧s+Q1.length=h∧T2.length=Q1.length∧(B1++(T1++[y0])).length+h=mid:=by
      have h1:=rE.out;have h2:=FB.out;have h3:=HT1.out;refine⟨by rw[h1.1];simp,by rw[h1.2.1];simp,?_,?_,?_,?_⟩<;>simp at h1⊢<;> omega
     have HN:=Lib.hid hN;have HJ2:Hid (∀v∈B1++(T1++[y0]),∀u∈(z::Q2)++A2,ltOf cv v u=true):=Lib.hid (s3_lt Aj.out (by rw[←rE.out.1];exact NK.out) (by rw[←rE.out.2.1];exact FC.out) hlt2);have HI2:Hid (∀u∈A1,∀v∈B2,ltOf cv v u=false):=HI;rw[hd];clear hN hlt2 HI HJ rE FB HT1 HL hd;go_wp2;go_roundw
     case rel=>exact⟨s,h,_,_,_,_,_,_,hh1,has,by omega,rfl,rfl,HN,HI2,HJ2,hxw⟩
     case measure=>simp[intOf];omega
    ·have hd:decide (v_<0)=false:=by simpa using hv0
     have hlt2:ltOf cv y0 z=false:=by rw[Cm.out];exact hd
     have hN:Al=(A1++(Q1++[z]))++Q2++A2∧Bl=B1++T1++((y0::T2)++B2)∧a+(A1++(Q1++[z])).length=h+1∧h+1+Q2.length=r∧T1.length=Q2.length∧B1.length+r=mid:=by
      have h1:=rE.out;have h2:=FB.out;have h3:=HT1.out;refine⟨by rw[h1.1];simp,by rw[h1.2.1];simp,?_,?_,?_,?_⟩<;>simp at h1⊢<;> omega
     have HN:=Lib.hid hN;have HI2:Hid (∀u∈A1++(Q1++[z]),∀v∈(y0::T2)++B2,ltOf cv v u=false):=Lib.hid (s3_ge Aj.out (by rw[←rE.out.1];exact NK.out) (by rw[←rE.out.2.1];exact FC.out) hlt2);have HJ2:Hid (∀v∈B1,∀u∈A2,ltOf cv v u=true):=HJ;rw[hd];clear hN hlt2 HI HJ rE FB HT1 HL hd;go_wp2;go_roundw
     case rel=>exact⟨h+1,r,_,_,_,_,_,_,by omega,by omega,hrm,by go_num,rfl,HN,HI2,HJ2,hxw⟩
     case measure=>simp[intOf];omega
   ·have hsr2:r=s:=by omega
    subst hsr2;have hq:=HQ.out;have hq0:Q=[]:=List.eq_nil_of_length_eq_zero (by omega);have ht0:T=[]:=List.eq_nil_of_length_eq_zero (by omega);rw[hq0,ht0]at hq;simp only[List.append_nil,List.length_nil]at hq;obtain⟨hq1,hq2,hq3,_,_,hq6⟩:=hq;have jy:Hid (bI (ltOf cv) Al Bl=bI (ltOf cv) A1 B1++bI (ltOf cv) A2 B2):=Lib.hid (by rw[hq1,hq2];exact fG _ A1 A2 B1 B2 HI.out HJ.out);have hsA:=NK.out;rw[hq1]at hsA;obtain⟨Gu,Gv,_⟩:=jo.1 hsA;have hsB:=FC.out;rw[hq2]at hsB;obtain⟨Gw,sB2,_⟩:=jo.1 hsB;have hlA:A1.length+A2.length=m-a:=by have h:=HM.out;rw[hq1]at h;simp at h;omega
    have hlB:B1.length+B2.length=b-m:=by have h:=HBM.out;rw[hq2]at h;simp at h;omega
    have hrow:aW ak 6 base 75 g n c wr ((P++A1)++A2++B1++(B2++S)):=by have h:=HRW.out.ext hxw;rw[WO.out,hq1,hq2]at h;simpa using h
    have vM:Hid (w.grownBy wr (some g)):=Lib.hid (dM hxw);have hnn:=HN_.out;have rC:(A1.length+A2.length)+(B1.length+B2.length)≤N+1:=by have h1:=HM.out;have h2:=HBM.out;omega
    have hap:=HA.out;obtain⟨en,hen⟩:∃en,en=m+B1.length:=⟨_,rfl⟩;have hw6:IntKind.i64.wrap ((mid:Int)+(m:Int)-(r:Int))=(mid:Int)+(m:Int)-(r:Int):=IntWalk.i64_in _ (by omega);have hee:(mid:Int)+(m:Int)-(r:Int)=(en:Int):=by omega
    rw[hee]at hw6;clear HQ HI HJ hq0 ht0 HRW WO NK FC hsA hsB HN_ hq1 hq2 hnn hxw em;rcases Nat.eq_zero_or_pos A1.length with z1 | z1
    ·skip;rcases Nat.eq_zero_or_pos B1.length with z2 | z2
     ·skip;rcases Nat.eq_zero_or_pos A2.length with z3 | z3
      ·exfalso;omega
      ·skip;rcases Nat.eq_zero_or_pos B2.length with z4 | z4
       ·exfalso;omega
       ·skip;have f1:((r:Int)<(m:Int)):=by omega
        have YE:(r<m):=by omega
        have YF:decide (r<m)=true:=by simp;omega
        have f2:¬((m:Int)<(en:Int)):=by omega
        have YG:¬(m<en):=by omega
        have YH:decide (m<en)=false:=by simp;omega
        have f3:¬((a:Int)<(r:Int)):=by omega
        have YI:¬(a<r):=by omega
        have YJ:decide (a<r)=false:=by simp;omega
        have f4:¬((r:Int)<(mid:Int)):=by omega
        have YK:¬(r<mid):=by omega
        have YL:decide (r<mid)=false:=by simp;omega
        have f5:((mid:Int)<(en:Int)):=by omega
        have YM:(mid<en):=by omega
        have YN:decide (mid<en)=true:=by simp;omega
        have f6:((en:Int)<(b:Int)):=by omega
        have YO:(en<b):=by omega
        have YP:decide (en<b)=true:=by simp;omega
        have HR1:Hid (aW ak 6 base 75 g n c wr ((P++A1)++B1++A2++(B2++S))):=Lib.hid (by first | exact hrow | simpa [List.eq_nil_of_length_eq_zero z2]using hrow);have qZ:=vM;clear hrow;have yT:=Lib.hid Gu;have yU:=Lib.hid Gv;have yV:=Lib.hid Gw;have yX:=Lib.hid sB2;have jE:=Lib.hid rC;have jv:=Lib.hid hlA;have jL:=Lib.hid hlB;have jM:=Lib.hid hq3;have jO:=Lib.hid hq6;have jP:=Lib.hid hen;have HZ:=Lib.hid (And.intro z1 (And.intro z2 (And.intro z3 z4)));have jA:=Lib.hid hap;clear Gu Gv Gw sB2 rC hlA hlB hq3 hq6 hen z1 z2 z3 z4 hap;have HR2:Hid (aW ak 6 base 75 g n c wr (P++bI (ltOf cv) A1 B1++A2++B2++S)):=Lib.hid (by have h0:A1=[]:=List.eq_nil_of_length_eq_zero (by have h1:=jv.out;have h2:=jL.out;have h3:=jM.out;have h4:=jO.out;have h5:=jP.out;have h6:=HZ.out;have h7:=jE.out;have h8:=jA.out;omega);have h:=HR1.out;rw[h0]at h⊢;simpa [dI,dN]using h);have HG2:=qZ;clear HR1;have hml:(bI (ltOf cv) A1 B1).length=A1.length+B1.length:=jd _ _ _;have hi2:=HIH.out (P++bI (ltOf cv) A1 B1) A2 B2 S mid en b wr (by rw[List.length_append,hml];have h1:=jv.out;have h2:=jL.out;have h3:=jM.out;have h4:=jO.out;have h5:=jP.out;have h6:=HZ.out;have h7:=jE.out;have h8:=jA.out;omega) (by have h1:=jv.out;have h2:=jL.out;have h3:=jM.out;have h4:=jO.out;have h5:=jP.out;have h6:=HZ.out;have h7:=jE.out;have h8:=jA.out;omega) (by have h1:=jv.out;have h2:=jL.out;have h3:=jM.out;have h4:=jO.out;have h5:=jP.out;have h6:=HZ.out;have h7:=jE.out;have h8:=jA.out;omega) (by have h1:=jv.out;have h2:=jL.out;have h3:=jM.out;have h4:=jO.out;have h5:=jP.out;have h6:=HZ.out;have h7:=jE.out;have h8:=jA.out;omega) (by have h1:=jv.out;have h2:=jL.out;have h3:=jM.out;have h4:=jO.out;have h5:=jP.out;have h6:=HZ.out;have h7:=jE.out;have h8:=jA.out;omega) (by have h1:=jv.out;have h2:=jL.out;have h3:=jM.out;have h4:=jO.out;have h5:=jP.out;have h6:=HZ.out;have h7:=jE.out;have h8:=jA.out;omega) yU.out yX.out HR2.out;have HI2:=Lib.hid hi2;clear hi2 hml HR2;go_wp2_with fail;refine HI2.out.mono ?_;rintro e wC ⟨rfl,h1,h2⟩;have HR3:Hid (aW ak 6 base 75 g n c wC (P++bI (ltOf cv) Al Bl++S)):=Lib.hid (by rw[jy.out];simpa using h1);have z_:=Lib.hid (bD HG2.out h2);clear h1 h2 HI2;go_wp2;go_end0;exact⟨rfl,by simpa using HR3.out,z_.out⟩
     ·skip;rcases Nat.eq_zero_or_pos A2.length with z3 | z3
      ·exfalso;omega
      ·skip;rcases Nat.eq_zero_or_pos B2.length with z4 | z4
       ·skip;have f1:((r:Int)<(m:Int)):=by omega
        have YE:(r<m):=by omega
        have YF:decide (r<m)=true:=by simp;omega
        have f2:((m:Int)<(en:Int)):=by omega
        have YG:(m<en):=by omega
        have YH:decide (m<en)=true:=by simp;omega
        have f3:¬((a:Int)<(r:Int)):=by omega
        have YI:¬(a<r):=by omega
        have YJ:decide (a<r)=false:=by simp;omega
        have f4:((r:Int)<(mid:Int)):=by omega
        have YK:(r<mid):=by omega
        have YL:decide (r<mid)=true:=by simp;omega
        have f5:((mid:Int)<(en:Int)):=by omega
        have YM:(mid<en):=by omega
        have YN:decide (mid<en)=true:=by simp;omega
        have f6:¬((en:Int)<(b:Int)):=by omega
        have YO:¬(en<b):=by omega
        have YP:decide (en<b)=false:=by simp;omega
        have Au:=qB K caps base g n c r m en (P++A1) A2 B1 (B2++S) wr (by simp;omega) (by omega) (by omega) z3 z2 hn hrow;have Aw:=Lib.hid Au;clear Au hrow;have yT:=Lib.hid Gu;have yU:=Lib.hid Gv;have yV:=Lib.hid Gw;have yX:=Lib.hid sB2;have jE:=Lib.hid rC;have jv:=Lib.hid hlA;have jL:=Lib.hid hlB;have jM:=Lib.hid hq3;have jO:=Lib.hid hq6;have jP:=Lib.hid hen;have HZ:=Lib.hid (And.intro z1 (And.intro z2 (And.intro z3 z4)));have jA:=Lib.hid hap;clear Gu Gv Gw sB2 rC hlA hlB hq3 hq6 hen z1 z2 z3 z4 hap;go_wp2_with fail;refine Aw.out.mono ?_;rintro e wA ⟨rfl,h1,h2⟩;have HR1:=Lib.hid h1;have qZ:=Lib.hid (bD vM.out h2);clear h1 h2 Aw;have HR2:Hid (aW ak 6 base 75 g n c wA (P++bI (ltOf cv) A1 B1++A2++B2++S)):=Lib.hid (by have h0:A1=[]:=List.eq_nil_of_length_eq_zero (by have h1:=jv.out;have h2:=jL.out;have h3:=jM.out;have h4:=jO.out;have h5:=jP.out;have h6:=HZ.out;have h7:=jE.out;have h8:=jA.out;omega);have h:=HR1.out;rw[h0]at h⊢;simpa [dI,dN]using h);have HG2:=qZ;clear HR1;have HR3:Hid (aW ak 6 base 75 g n c wA (P++bI (ltOf cv) Al Bl++S)):=Lib.hid (by have h0:B2=[]:=List.eq_nil_of_length_eq_zero (by have h1:=jv.out;have h2:=jL.out;have h3:=jM.out;have h4:=jO.out;have h5:=jP.out;have h6:=HZ.out;have h7:=jE.out;have h8:=jA.out;omega);have h:=HR2.out;rw[jy.out];rw[h0]at h⊢;simpa [dI,dN]using h);have z_:=HG2;clear HR2;go_wp2;go_end0;exact⟨rfl,by simpa using HR3.out,z_.out⟩
       ·skip;have f1:((r:Int)<(m:Int)):=by omega
        have YE:(r<m):=by omega
        have YF:decide (r<m)=true:=by simp;omega
        have f2:((m:Int)<(en:Int)):=by omega
        have YG:(m<en):=by omega
        have YH:decide (m<en)=true:=by simp;omega
        have f3:¬((a:Int)<(r:Int)):=by omega
        have YI:¬(a<r):=by omega
        have YJ:decide (a<r)=false:=by simp;omega
        have f4:((r:Int)<(mid:Int)):=by omega
        have YK:(r<mid):=by omega
        have YL:decide (r<mid)=true:=by simp;omega
        have f5:((mid:Int)<(en:Int)):=by omega
        have YM:(mid<en):=by omega
        have YN:decide (mid<en)=true:=by simp;omega
        have f6:((en:Int)<(b:Int)):=by omega
        have YO:(en<b):=by omega
        have YP:decide (en<b)=true:=by simp;omega
        have Au:=qB K caps base g n c r m en (P++A1) A2 B1 (B2++S) wr (by simp;omega) (by omega) (by omega) z3 z2 hn hrow;have Aw:=Lib.hid Au;clear Au hrow;have yT:=Lib.hid Gu;have yU:=Lib.hid Gv;have yV:=Lib.hid Gw;have yX:=Lib.hid sB2;have jE:=Lib.hid rC;have jv:=Lib.hid hlA;have jL:=Lib.hid hlB;have jM:=Lib.hid hq3;have jO:=Lib.hid hq6;have jP:=Lib.hid hen;have HZ:=Lib.hid (And.intro z1 (And.intro z2 (And.intro z3 z4)));have jA:=Lib.hid hap;clear Gu Gv Gw sB2 rC hlA hlB hq3 hq6 hen z1 z2 z3 z4 hap;go_wp2_with fail;refine Aw.out.mono ?_;rintro e wA ⟨rfl,h1,h2⟩;have HR1:=Lib.hid h1;have qZ:=Lib.hid (bD vM.out h2);clear h1 h2 Aw;have HR2:Hid (aW ak 6 base 75 g n c wA (P++bI (ltOf cv) A1 B1++A2++B2++S)):=Lib.hid (by have h0:A1=[]:=List.eq_nil_of_length_eq_zero (by have h1:=jv.out;have h2:=jL.out;have h3:=jM.out;have h4:=jO.out;have h5:=jP.out;have h6:=HZ.out;have h7:=jE.out;have h8:=jA.out;omega);have h:=HR1.out;rw[h0]at h⊢;simpa [dI,dN]using h);have HG2:=qZ;clear HR1;have hml:(bI (ltOf cv) A1 B1).length=A1.length+B1.length:=jd _ _ _;have hi2:=HIH.out (P++bI (ltOf cv) A1 B1) A2 B2 S mid en b wA (by rw[List.length_append,hml];have h1:=jv.out;have h2:=jL.out;have h3:=jM.out;have h4:=jO.out;have h5:=jP.out;have h6:=HZ.out;have h7:=jE.out;have h8:=jA.out;omega) (by have h1:=jv.out;have h2:=jL.out;have h3:=jM.out;have h4:=jO.out;have h5:=jP.out;have h6:=HZ.out;have h7:=jE.out;have h8:=jA.out;omega) (by have h1:=jv.out;have h2:=jL.out;have h3:=jM.out;have h4:=jO.out;have h5:=jP.out;have h6:=HZ.out;have h7:=jE.out;have h8:=jA.out;omega) (by have h1:=jv.out;have h2:=jL.out;have h3:=jM.out;have h4:=jO.out;have h5:=jP.out;have h6:=HZ.out;have h7:=jE.out;have h8:=jA.out;omega) (by have h1:=jv.out;have h2:=jL.out;have h3:=jM.out;have h4:=jO.out;have h5:=jP.out;have h6:=HZ.out;have h7:=jE.out;have h8:=jA.out;omega) (by have h1:=jv.out;have h2:=jL.out;have h3:=jM.out;have h4:=jO.out;have h5:=jP.out;have h6:=HZ.out;have h7:=jE.out;have h8:=jA.out;omega) yU.out yX.out HR2.out;have HI2:=Lib.hid hi2;clear hi2 hml HR2;go_wp2_with fail;refine HI2.out.mono ?_;rintro e wC ⟨rfl,h1,h2⟩;have HR3:Hid (aW ak 6 base 75 g n c wC (P++bI (ltOf cv) Al Bl++S)):=Lib.hid (by rw[jy.out];simpa using h1);have z_:=Lib.hid (bD HG2.out h2);clear h1 h2 HI2;go_wp2;go_end0;exact⟨rfl,by simpa using HR3.out,z_.out⟩
    ·skip;rcases Nat.eq_zero_or_pos B1.length with z2 | z2
     ·skip;rcases Nat.eq_zero_or_pos A2.length with z3 | z3
      ·skip;rcases Nat.eq_zero_or_pos B2.length with z4 | z4
       ·exfalso;omega
       ·skip;have f1:¬((r:Int)<(m:Int)):=by omega
        have YE:¬(r<m):=by omega
        have YF:decide (r<m)=false:=by simp;omega
        have f2:¬((m:Int)<(en:Int)):=by omega
        have YG:¬(m<en):=by omega
        have YH:decide (m<en)=false:=by simp;omega
        have f3:((a:Int)<(r:Int)):=by omega
        have YI:(a<r):=by omega
        have YJ:decide (a<r)=true:=by simp;omega
        have f4:¬((r:Int)<(mid:Int)):=by omega
        have YK:¬(r<mid):=by omega
        have YL:decide (r<mid)=false:=by simp;omega
        have f5:¬((mid:Int)<(en:Int)):=by omega
        have YM:¬(mid<en):=by omega
        have YN:decide (mid<en)=false:=by simp;omega
        have f6:((en:Int)<(b:Int)):=by omega
        have YO:(en<b):=by omega
        have YP:decide (en<b)=true:=by simp;omega
        have HR1:Hid (aW ak 6 base 75 g n c wr ((P++A1)++B1++A2++(B2++S))):=Lib.hid (by first | exact hrow | simpa [List.eq_nil_of_length_eq_zero z3,List.eq_nil_of_length_eq_zero z2]using hrow);have qZ:=vM;clear hrow;have yT:=Lib.hid Gu;have yU:=Lib.hid Gv;have yV:=Lib.hid Gw;have yX:=Lib.hid sB2;have jE:=Lib.hid rC;have jv:=Lib.hid hlA;have jL:=Lib.hid hlB;have jM:=Lib.hid hq3;have jO:=Lib.hid hq6;have jP:=Lib.hid hen;have HZ:=Lib.hid (And.intro z1 (And.intro z2 (And.intro z3 z4)));have jA:=Lib.hid hap;clear Gu Gv Gw sB2 rC hlA hlB hq3 hq6 hen z1 z2 z3 z4 hap;have HR2:Hid (aW ak 6 base 75 g n c wr (P++bI (ltOf cv) A1 B1++A2++B2++S)):=Lib.hid (by have h0:B1=[]:=List.eq_nil_of_length_eq_zero (by have h1:=jv.out;have h2:=jL.out;have h3:=jM.out;have h4:=jO.out;have h5:=jP.out;have h6:=HZ.out;have h7:=jE.out;have h8:=jA.out;omega);have h:=HR1.out;rw[h0]at h⊢;simpa [dI,dN]using h);have HG2:=qZ;clear HR1;have HR3:Hid (aW ak 6 base 75 g n c wr (P++bI (ltOf cv) Al Bl++S)):=Lib.hid (by have h0:A2=[]:=List.eq_nil_of_length_eq_zero (by have h1:=jv.out;have h2:=jL.out;have h3:=jM.out;have h4:=jO.out;have h5:=jP.out;have h6:=HZ.out;have h7:=jE.out;have h8:=jA.out;omega);have h:=HR2.out;rw[jy.out];rw[h0]at h⊢;simpa [dI,dN]using h);have z_:=HG2;clear HR2;go_wp2;go_end0;exact⟨rfl,by simpa using HR3.out,z_.out⟩
      ·skip;rcases Nat.eq_zero_or_pos B2.length with z4 | z4
       ·exfalso;omega
       ·skip;have f1:((r:Int)<(m:Int)):=by omega
        have YE:(r<m):=by omega
        have YF:decide (r<m)=true:=by simp;omega
        have f2:¬((m:Int)<(en:Int)):=by omega
        have YG:¬(m<en):=by omega
        have YH:decide (m<en)=false:=by simp;omega
        have f3:((a:Int)<(r:Int)):=by omega
        have YI:(a<r):=by omega
        have YJ:decide (a<r)=true:=by simp;omega
        have f4:¬((r:Int)<(mid:Int)):=by omega
        have YK:¬(r<mid):=by omega
        have YL:decide (r<mid)=false:=by simp;omega
        have f5:((mid:Int)<(en:Int)):=by omega
        have YM:(mid<en):=by omega
        have YN:decide (mid<en)=true:=by simp;omega
        have f6:((en:Int)<(b:Int)):=by omega
        have YO:(en<b):=by omega
        have YP:decide (en<b)=true:=by simp;omega
        have HR1:Hid (aW ak 6 base 75 g n c wr ((P++A1)++B1++A2++(B2++S))):=Lib.hid (by first | exact hrow | simpa [List.eq_nil_of_length_eq_zero z2]using hrow);have qZ:=vM;clear hrow;have yT:=Lib.hid Gu;have yU:=Lib.hid Gv;have yV:=Lib.hid Gw;have yX:=Lib.hid sB2;have jE:=Lib.hid rC;have jv:=Lib.hid hlA;have jL:=Lib.hid hlB;have jM:=Lib.hid hq3;have jO:=Lib.hid hq6;have jP:=Lib.hid hen;have HZ:=Lib.hid (And.intro z1 (And.intro z2 (And.intro z3 z4)));have jA:=Lib.hid hap;clear Gu Gv Gw sB2 rC hlA hlB hq3 hq6 hen z1 z2 z3 z4 hap;have HR2:Hid (aW ak 6 base 75 g n c wr (P++bI (ltOf cv) A1 B1++A2++B2++S)):=Lib.hid (by have h0:B1=[]:=List.eq_nil_of_length_eq_zero (by have h1:=jv.out;have h2:=jL.out;have h3:=jM.out;have h4:=jO.out;have h5:=jP.out;have h6:=HZ.out;have h7:=jE.out;have h8:=jA.out;omega);have h:=HR1.out;rw[h0]at h⊢;simpa [dI,dN]using h);have HG2:=qZ;clear HR1;have hml:(bI (ltOf cv) A1 B1).length=A1.length+B1.length:=jd _ _ _;have hi2:=HIH.out (P++bI (ltOf cv) A1 B1) A2 B2 S mid en b wr (by rw[List.length_append,hml];have h1:=jv.out;have h2:=jL.out;have h3:=jM.out;have h4:=jO.out;have h5:=jP.out;have h6:=HZ.out;have h7:=jE.out;have h8:=jA.out;omega) (by have h1:=jv.out;have h2:=jL.out;have h3:=jM.out;have h4:=jO.out;have h5:=jP.out;have h6:=HZ.out;have h7:=jE.out;have h8:=jA.out;omega) (by have h1:=jv.out;have h2:=jL.out;have h3:=jM.out;have h4:=jO.out;have h5:=jP.out;have h6:=HZ.out;have h7:=jE.out;have h8:=jA.out;omega) (by have h1:=jv.out;have h2:=jL.out;have h3:=jM.out;have h4:=jO.out;have h5:=jP.out;have h6:=HZ.out;have h7:=jE.out;have h8:=jA.out;omega) (by have h1:=jv.out;have h2:=jL.out;have h3:=jM.out;have h4:=jO.out;have h5:=jP.out;have h6:=HZ.out;have h7:=jE.out;have h8:=jA.out;omega) (by have h1:=jv.out;have h2:=jL.out;have h3:=jM.out;have h4:=jO.out;have h5:=jP.out;have h6:=HZ.out;have h7:=jE.out;have h8:=jA.out;omega) yU.out yX.out HR2.out;have HI2:=Lib.hid hi2;clear hi2 hml HR2;go_wp2_with fail;refine HI2.out.mono ?_;rintro e wC ⟨rfl,h1,h2⟩;have HR3:Hid (aW ak 6 base 75 g n c wC (P++bI (ltOf cv) Al Bl++S)):=Lib.hid (by rw[jy.out];simpa using h1);have z_:=Lib.hid (bD HG2.out h2);clear h1 h2 HI2;go_wp2;go_end0;exact⟨rfl,by simpa using HR3.out,z_.out⟩
     ·skip;rcases Nat.eq_zero_or_pos A2.length with z3 | z3
      ·skip;rcases Nat.eq_zero_or_pos B2.length with z4 | z4
       ·skip;have f1:¬((r:Int)<(m:Int)):=by omega
        have YE:¬(r<m):=by omega
        have YF:decide (r<m)=false:=by simp;omega
        have f2:((m:Int)<(en:Int)):=by omega
        have YG:(m<en):=by omega
        have YH:decide (m<en)=true:=by simp;omega
        have f3:((a:Int)<(r:Int)):=by omega
        have YI:(a<r):=by omega
        have YJ:decide (a<r)=true:=by simp;omega
        have f4:((r:Int)<(mid:Int)):=by omega
        have YK:(r<mid):=by omega
        have YL:decide (r<mid)=true:=by simp;omega
        have f5:¬((mid:Int)<(en:Int)):=by omega
        have YM:¬(mid<en):=by omega
        have YN:decide (mid<en)=false:=by simp;omega
        have f6:¬((en:Int)<(b:Int)):=by omega
        have YO:¬(en<b):=by omega
        have YP:decide (en<b)=false:=by simp;omega
        have HR1:Hid (aW ak 6 base 75 g n c wr ((P++A1)++B1++A2++(B2++S))):=Lib.hid (by first | exact hrow | simpa [List.eq_nil_of_length_eq_zero z3]using hrow);have qZ:=vM;clear hrow;have yT:=Lib.hid Gu;have yU:=Lib.hid Gv;have yV:=Lib.hid Gw;have yX:=Lib.hid sB2;have jE:=Lib.hid rC;have jv:=Lib.hid hlA;have jL:=Lib.hid hlB;have jM:=Lib.hid hq3;have jO:=Lib.hid hq6;have jP:=Lib.hid hen;have HZ:=Lib.hid (And.intro z1 (And.intro z2 (And.intro z3 z4)));have jA:=Lib.hid hap;clear Gu Gv Gw sB2 rC hlA hlB hq3 hq6 hen z1 z2 z3 z4 hap;have hi1:=HIH.out P A1 B1 (A2++B2++S) a r mid wr jA.out (by have h1:=jv.out;have h2:=jL.out;have h3:=jM.out;have h4:=jO.out;have h5:=jP.out;have h6:=HZ.out;have h7:=jE.out;have h8:=jA.out;omega) (by have h1:=jv.out;have h2:=jL.out;have h3:=jM.out;have h4:=jO.out;have h5:=jP.out;have h6:=HZ.out;have h7:=jE.out;have h8:=jA.out;omega) (by have h1:=jv.out;have h2:=jL.out;have h3:=jM.out;have h4:=jO.out;have h5:=jP.out;have h6:=HZ.out;have h7:=jE.out;have h8:=jA.out;omega) (by have h1:=jv.out;have h2:=jL.out;have h3:=jM.out;have h4:=jO.out;have h5:=jP.out;have h6:=HZ.out;have h7:=jE.out;have h8:=jA.out;omega) (by have h1:=jv.out;have h2:=jL.out;have h3:=jM.out;have h4:=jO.out;have h5:=jP.out;have h6:=HZ.out;have h7:=jE.out;have h8:=jA.out;omega) yT.out yV.out (by simpa using HR1.out);have HI1:=Lib.hid hi1;clear hi1 HR1;go_wp2_with fail;refine HI1.out.mono ?_;rintro e wB ⟨rfl,h1,h2⟩;have HR2:Hid (aW ak 6 base 75 g n c wB (P++bI (ltOf cv) A1 B1++A2++B2++S)):=Lib.hid (by simpa using h1);have HG2:=Lib.hid (bD qZ.out h2);clear h1 h2 HI1;have HR3:Hid (aW ak 6 base 75 g n c wB (P++bI (ltOf cv) Al Bl++S)):=Lib.hid (by have h0:A2=[]:=List.eq_nil_of_length_eq_zero (by have h1:=jv.out;have h2:=jL.out;have h3:=jM.out;have h4:=jO.out;have h5:=jP.out;have h6:=HZ.out;have h7:=jE.out;have h8:=jA.out;omega);have h:=HR2.out;rw[jy.out];rw[h0]at h⊢;simpa [dI,dN]using h);have z_:=HG2;clear HR2;go_wp2;go_end0;exact⟨rfl,by simpa using HR3.out,z_.out⟩
       ·skip;have f1:¬((r:Int)<(m:Int)):=by omega
        have YE:¬(r<m):=by omega
        have YF:decide (r<m)=false:=by simp;omega
        have f2:((m:Int)<(en:Int)):=by omega
        have YG:(m<en):=by omega
        have YH:decide (m<en)=true:=by simp;omega
        have f3:((a:Int)<(r:Int)):=by omega
        have YI:(a<r):=by omega
        have YJ:decide (a<r)=true:=by simp;omega
        have f4:((r:Int)<(mid:Int)):=by omega
        have YK:(r<mid):=by omega
        have YL:decide (r<mid)=true:=by simp;omega
        have f5:¬((mid:Int)<(en:Int)):=by omega
        have YM:¬(mid<en):=by omega
        have YN:decide (mid<en)=false:=by simp;omega
        have f6:((en:Int)<(b:Int)):=by omega
        have YO:(en<b):=by omega
        have YP:decide (en<b)=true:=by simp;omega
        have HR1:Hid (aW ak 6 base 75 g n c wr ((P++A1)++B1++A2++(B2++S))):=Lib.hid (by first | exact hrow | simpa [List.eq_nil_of_length_eq_zero z3]using hrow);have qZ:=vM;clear hrow;have yT:=Lib.hid Gu;have yU:=Lib.hid Gv;have yV:=Lib.hid Gw;have yX:=Lib.hid sB2;have jE:=Lib.hid rC;have jv:=Lib.hid hlA;have jL:=Lib.hid hlB;have jM:=Lib.hid hq3;have jO:=Lib.hid hq6;have jP:=Lib.hid hen;have HZ:=Lib.hid (And.intro z1 (And.intro z2 (And.intro z3 z4)));have jA:=Lib.hid hap;clear Gu Gv Gw sB2 rC hlA hlB hq3 hq6 hen z1 z2 z3 z4 hap;have hi1:=HIH.out P A1 B1 (A2++B2++S) a r mid wr jA.out (by have h1:=jv.out;have h2:=jL.out;have h3:=jM.out;have h4:=jO.out;have h5:=jP.out;have h6:=HZ.out;have h7:=jE.out;have h8:=jA.out;omega) (by have h1:=jv.out;have h2:=jL.out;have h3:=jM.out;have h4:=jO.out;have h5:=jP.out;have h6:=HZ.out;have h7:=jE.out;have h8:=jA.out;omega) (by have h1:=jv.out;have h2:=jL.out;have h3:=jM.out;have h4:=jO.out;have h5:=jP.out;have h6:=HZ.out;have h7:=jE.out;have h8:=jA.out;omega) (by have h1:=jv.out;have h2:=jL.out;have h3:=jM.out;have h4:=jO.out;have h5:=jP.out;have h6:=HZ.out;have h7:=jE.out;have h8:=jA.out;omega) (by have h1:=jv.out;have h2:=jL.out;have h3:=jM.out;have h4:=jO.out;have h5:=jP.out;have h6:=HZ.out;have h7:=jE.out;have h8:=jA.out;omega) yT.out yV.out (by simpa using HR1.out);have HI1:=Lib.hid hi1;clear hi1 HR1;go_wp2_with fail;refine HI1.out.mono ?_;rintro e wB ⟨rfl,h1,h2⟩;have HR2:Hid (aW ak 6 base 75 g n c wB (P++bI (ltOf cv) A1 B1++A2++B2++S)):=Lib.hid (by simpa using h1);have HG2:=Lib.hid (bD qZ.out h2);clear h1 h2 HI1;have HR3:Hid (aW ak 6 base 75 g n c wB (P++bI (ltOf cv) Al Bl++S)):=Lib.hid (by have h0:A2=[]:=List.eq_nil_of_length_eq_zero (by have h1:=jv.out;have h2:=jL.out;have h3:=jM.out;have h4:=jO.out;have h5:=jP.out;have h6:=HZ.out;have h7:=jE.out;have h8:=jA.out;omega);have h:=HR2.out;rw[jy.out];rw[h0]at h⊢;simpa [dI,dN]using h);have z_:=HG2;clear HR2;go_wp2;go_end0;exact⟨rfl,by simpa using HR3.out,z_.out⟩
      ·skip;rcases Nat.eq_zero_or_pos B2.length with z4 | z4
       ·skip;have f1:((r:Int)<(m:Int)):=by omega
        have YE:(r<m):=by omega
        have YF:decide (r<m)=true:=by simp;omega
        have f2:((m:Int)<(en:Int)):=by omega
        have YG:(m<en):=by omega
        have YH:decide (m<en)=true:=by simp;omega
        have f3:((a:Int)<(r:Int)):=by omega
        have YI:(a<r):=by omega
        have YJ:decide (a<r)=true:=by simp;omega
        have f4:((r:Int)<(mid:Int)):=by omega
        have YK:(r<mid):=by omega
        have YL:decide (r<mid)=true:=by simp;omega
        have f5:((mid:Int)<(en:Int)):=by omega
        have YM:(mid<en):=by omega
        have YN:decide (mid<en)=true:=by simp;omega
        have f6:¬((en:Int)<(b:Int)):=by omega
        have YO:¬(en<b):=by omega
        have YP:decide (en<b)=false:=by simp;omega
        have Au:=qB K caps base g n c r m en (P++A1) A2 B1 (B2++S) wr (by simp;omega) (by omega) (by omega) z3 z2 hn hrow;have Aw:=Lib.hid Au;clear Au hrow;have yT:=Lib.hid Gu;have yU:=Lib.hid Gv;have yV:=Lib.hid Gw;have yX:=Lib.hid sB2;have jE:=Lib.hid rC;have jv:=Lib.hid hlA;have jL:=Lib.hid hlB;have jM:=Lib.hid hq3;have jO:=Lib.hid hq6;have jP:=Lib.hid hen;have HZ:=Lib.hid (And.intro z1 (And.intro z2 (And.intro z3 z4)));have jA:=Lib.hid hap;clear Gu Gv Gw sB2 rC hlA hlB hq3 hq6 hen z1 z2 z3 z4 hap;go_wp2_with fail;refine Aw.out.mono ?_;rintro e wA ⟨rfl,h1,h2⟩;have HR1:=Lib.hid h1;have qZ:=Lib.hid (bD vM.out h2);clear h1 h2 Aw;have hi1:=HIH.out P A1 B1 (A2++B2++S) a r mid wA jA.out (by have h1:=jv.out;have h2:=jL.out;have h3:=jM.out;have h4:=jO.out;have h5:=jP.out;have h6:=HZ.out;have h7:=jE.out;have h8:=jA.out;omega) (by have h1:=jv.out;have h2:=jL.out;have h3:=jM.out;have h4:=jO.out;have h5:=jP.out;have h6:=HZ.out;have h7:=jE.out;have h8:=jA.out;omega) (by have h1:=jv.out;have h2:=jL.out;have h3:=jM.out;have h4:=jO.out;have h5:=jP.out;have h6:=HZ.out;have h7:=jE.out;have h8:=jA.out;omega) (by have h1:=jv.out;have h2:=jL.out;have h3:=jM.out;have h4:=jO.out;have h5:=jP.out;have h6:=HZ.out;have h7:=jE.out;have h8:=jA.out;omega) (by have h1:=jv.out;have h2:=jL.out;have h3:=jM.out;have h4:=jO.out;have h5:=jP.out;have h6:=HZ.out;have h7:=jE.out;have h8:=jA.out;omega) yT.out yV.out (by simpa using HR1.out);have HI1:=Lib.hid hi1;clear hi1 HR1;go_wp2_with fail;refine HI1.out.mono ?_;rintro e wB ⟨rfl,h1,h2⟩;have HR2:Hid (aW ak 6 base 75 g n c wB (P++bI (ltOf cv) A1 B1++A2++B2++S)):=Lib.hid (by simpa using h1);have HG2:=Lib.hid (bD qZ.out h2);clear h1 h2 HI1;have HR3:Hid (aW ak 6 base 75 g n c wB (P++bI (ltOf cv) Al Bl++S)):=Lib.hid (by have h0:B2=[]:=List.eq_nil_of_length_eq_zero (by have h1:=jv.out;have h2:=jL.out;have h3:=jM.out;have h4:=jO.out;have h5:=jP.out;have h6:=HZ.out;have h7:=jE.out;have h8:=jA.out;omega);have h:=HR2.out;rw[jy.out];rw[h0]at h⊢;simpa [dI,dN]using h);have z_:=HG2;clear HR2;go_wp2;go_end0;exact⟨rfl,by simpa using HR3.out,z_.out⟩
       ·skip;have f1:((r:Int)<(m:Int)):=by omega
        have YE:(r<m):=by omega
        have YF:decide (r<m)=true:=by simp;omega
        have f2:((m:Int)<(en:Int)):=by omega
        have YG:(m<en):=by omega
        have YH:decide (m<en)=true:=by simp;omega
        have f3:((a:Int)<(r:Int)):=by omega
        have YI:(a<r):=by omega
        have YJ:decide (a<r)=true:=by simp;omega
        have f4:((r:Int)<(mid:Int)):=by omega
        have YK:(r<mid):=by omega
        have YL:decide (r<mid)=true:=by simp;omega
        have f5:((mid:Int)<(en:Int)):=by omega
        have YM:(mid<en):=by omega
        have YN:decide (mid<en)=true:=by simp;omega
        have f6:((en:Int)<(b:Int)):=by omega
        have YO:(en<b):=by omega
        have YP:decide (en<b)=true:=by simp;omega
        have Au:=qB K caps base g n c r m en (P++A1) A2 B1 (B2++S) wr (by simp;omega) (by omega) (by omega) z3 z2 hn hrow;have Aw:=Lib.hid Au;clear Au hrow;have yT:=Lib.hid Gu;have yU:=Lib.hid Gv;have yV:=Lib.hid Gw;have yX:=Lib.hid sB2;have jE:=Lib.hid rC;have jv:=Lib.hid hlA;have jL:=Lib.hid hlB;have jM:=Lib.hid hq3;have jO:=Lib.hid hq6;have jP:=Lib.hid hen;have HZ:=Lib.hid (And.intro z1 (And.intro z2 (And.intro z3 z4)));have jA:=Lib.hid hap;clear Gu Gv Gw sB2 rC hlA hlB hq3 hq6 hen z1 z2 z3 z4 hap;go_wp2_with fail;refine Aw.out.mono ?_;rintro e wA ⟨rfl,h1,h2⟩;have HR1:=Lib.hid h1;have qZ:=Lib.hid (bD vM.out h2);clear h1 h2 Aw;have hi1:=HIH.out P A1 B1 (A2++B2++S) a r mid wA jA.out (by have h1:=jv.out;have h2:=jL.out;have h3:=jM.out;have h4:=jO.out;have h5:=jP.out;have h6:=HZ.out;have h7:=jE.out;have h8:=jA.out;omega) (by have h1:=jv.out;have h2:=jL.out;have h3:=jM.out;have h4:=jO.out;have h5:=jP.out;have h6:=HZ.out;have h7:=jE.out;have h8:=jA.out;omega) (by have h1:=jv.out;have h2:=jL.out;have h3:=jM.out;have h4:=jO.out;have h5:=jP.out;have h6:=HZ.out;have h7:=jE.out;have h8:=jA.out;omega) (by have h1:=jv.out;have h2:=jL.out;have h3:=jM.out;have h4:=jO.out;have h5:=jP.out;have h6:=HZ.out;have h7:=jE.out;have h8:=jA.out;omega) (by have h1:=jv.out;have h2:=jL.out;have h3:=jM.out;have h4:=jO.out;have h5:=jP.out;have h6:=HZ.out;have h7:=jE.out;have h8:=jA.out;omega) yT.out yV.out (by simpa using HR1.out);have HI1:=Lib.hid hi1;clear hi1 HR1;go_wp2_with fail;refine HI1.out.mono ?_;rintro e wB ⟨rfl,h1,h2⟩;have HR2:Hid (aW ak 6 base 75 g n c wB (P++bI (ltOf cv) A1 B1++A2++B2++S)):=Lib.hid (by simpa using h1);have HG2:=Lib.hid (bD qZ.out h2);clear h1 h2 HI1;have hml:(bI (ltOf cv) A1 B1).length=A1.length+B1.length:=jd _ _ _;have hi2:=HIH.out (P++bI (ltOf cv) A1 B1) A2 B2 S mid en b wB (by rw[List.length_append,hml];have h1:=jv.out;have h2:=jL.out;have h3:=jM.out;have h4:=jO.out;have h5:=jP.out;have h6:=HZ.out;have h7:=jE.out;have h8:=jA.out;omega) (by have h1:=jv.out;have h2:=jL.out;have h3:=jM.out;have h4:=jO.out;have h5:=jP.out;have h6:=HZ.out;have h7:=jE.out;have h8:=jA.out;omega) (by have h1:=jv.out;have h2:=jL.out;have h3:=jM.out;have h4:=jO.out;have h5:=jP.out;have h6:=HZ.out;have h7:=jE.out;have h8:=jA.out;omega) (by have h1:=jv.out;have h2:=jL.out;have h3:=jM.out;have h4:=jO.out;have h5:=jP.out;have h6:=HZ.out;have h7:=jE.out;have h8:=jA.out;omega) (by have h1:=jv.out;have h2:=jL.out;have h3:=jM.out;have h4:=jO.out;have h5:=jP.out;have h6:=HZ.out;have h7:=jE.out;have h8:=jA.out;omega) (by have h1:=jv.out;have h2:=jL.out;have h3:=jM.out;have h4:=jO.out;have h5:=jP.out;have h6:=HZ.out;have h7:=jE.out;have h8:=jA.out;omega) yU.out yX.out HR2.out;have HI2:=Lib.hid hi2;clear hi2 hml HR2;go_wp2_with fail;refine HI2.out.mono ?_;rintro e wC ⟨rfl,h1,h2⟩;have HR3:Hid (aW ak 6 base 75 g n c wC (P++bI (ltOf cv) Al Bl++S)):=Lib.hid (by rw[jy.out];simpa using h1);have z_:=Lib.hid (bD HG2.out h2);clear h1 h2 HI2;go_wp2;go_end0;exact⟨rfl,by simpa using HR3.out,z_.out⟩
theorem WQ (K:Nat) (caps:Array Value) (cv:bP→bP→Int) (eg:∀args w,(callFunc K args).run Tryz.prog w=.ok (.enter K args) w) (hcmp:KC K caps cv) (hsw:SW (ltOf cv)) (base g n c:Nat) (hn:n≤1000000):∀N,YD K caps cv base g n c N:=by
 intro N
 induction N with
 |zero=>intro P A B S a m b w _ _ _ h1 h2 h3;omega
 |succ N ih =>
  intro P A B S a m b w ha hm hb hN hA hB hsa hsb hr;rcases Nat.lt_or_ge A.length 2 with h | h
  ·match A,h,hA with
   |[x],_,_=>exact sym_l K caps cv eg hcmp hsw base g n c hn P B S x a m b w ha (by simpa using hm) hb hsb (by simpa using hr)
  ·rcases Nat.lt_or_ge B.length 2 with h2 | h2
   ·match B,h2,hB with
    |[y],_,_=>exact sym_r K caps cv eg hcmp hsw base g n c hn P A S y a m b w ha hm (by simpa using hb) h hsa (by simpa using hr)
   ·exact SS K caps cv eg hcmp hsw base g n c hn N ih P A B S a m b w ha hm hb h h2 (by omega) hsa hsb hr
end Go.Proofs.YtjidhhfabfnhnaaGreat
