/- The orbit at a minute. -/
import Derived.Test.YtjidhhfabfnhnaaGreatT01
import Derived.Test.YtjidhhfabfnhnaaGreatT07
import Derived.Great.BuildSlice
namespace Go.Proofs.YtjidhhfabfnhnaaGreat
open Go.RowKit
theorem bY {P:Program} {ops:Array Oper} {rest:List Oper} {o:Oper} {a:Act} {w:World} {Q:Exit→Act→World→Prop} (hg:o.guard=none) (t e:TypeId) (x:Operand) (ho:o.op=.buildSlice t 1 #[(0,x)])
  (X:Array Value) (hx:a.eval x=.agg X) (hu:P.underlying t=some (.slice e)) (s:Nat) (hi:(P.info? e).map (fun i=>(i.zero.map (fun z=>z.cells.size),i.size))=some (some s,s)) (hs:X.size=s) (h0:0<s) (hsm:s≤2 ^ 24)
  (h:wpList P ops Q rest (a.put o.dst (.slice (some ⟨w.heap.size,0,none⟩) 1 1)) (w.alloc (.cells X e))):wpList P ops Q (o::rest) a w:=by
 cases hie:P.info? e with
 |none=>simp[hie]at hi
 |some ie =>
  cases hz:ie.zero with
  |none=>simp[hie,hz]at hi
  |some z =>
   simp only[hie,hz,Option.map_some,Option.some.injEq,Prod.mk.injEq]at hi;obtain⟨hzs,his⟩:=hi;refine wpList_buildSlice hg t e 1 _ ho X ie z hu hie hz (by omega) (by omega) ?_ h;have hf:=Great.fill_whole (s:=s) h0 [.agg X] ((Array.range (1*ie.size)).map (z.cells[· % z.cells.size]!)) (by intro v hv;obtain rfl:=List.mem_singleton.1 hv;exact hs) (by simp[his]);simp[hx,his]at hf⊢;exact hf
structure A7 where
 a0:Int
 a1:Int
 a2:Int
 a3:Int
 a4:Int
 a5:Int
 a6:Int
structure A4 where
 a0:Int
 a1:Int
 a2:Int
 a3:Int
def z7:A7:=⟨0,0,0,0,0,0,0⟩
def z4:A4:=⟨0,0,0,0⟩
def vK (x:A7):List Value:=[.int .i64 x.a0,.int .i64 x.a1,.int .i64 x.a2,.int .i64 x.a3,.int .i64 x.a4,.int .i64 x.a5,.int .i64 x.a6]
def jX (x:A4):List Value:=[.int .i64 x.a0,.int .i64 x.a1,.int .i64 x.a2,.int .i64 x.a3]
theorem Q_ (x:A7):(vK x).length=7:=rfl
theorem EU (x:A4):(jX x).length=4:=rfl
def A7.ok (x:A7):Prop:=dG x.a0∧dG x.a1∧dG x.a2∧dG x.a3∧dG x.a4∧dG x.a5∧dG x.a6
def A4.ok (x:A4):Prop:=dG x.a0∧dG x.a1∧dG x.a2∧dG x.a3
theorem z4_ok:z4.ok:=by simp[z4,A4.ok,dG]
def Ou (i:Nat) (a:A7) (b:A4):St:=EO (2*(i:Int)+1) a.a0 a.a1 a.a2 a.a3 a.a4 a.a5 a.a6 b.a0 b.a1 b.a2 b.a3
def ZN (i:Nat) (a:A4):iD:=Q7 (3*(i:Int)) a.a0 a.a1 a.a2 a.a3
def nX (x:List A7) (y:List A4) (k:Nat):List St:=(List.range k).map fun i=>Ou i (x.getD i z7) (y.getD i z4)
def rO (x:List A4) (k:Nat):List iD:=(List.range k).map fun i=>ZN i (x.getD i z4)
def nY (x:List A7) (y:List A4):List St:=nX x y (min x.length 3)
def Dy (x:List A4):List iD:=rO x (min x.length 3)
theorem zT (x:List A7) (y:List A4) (k:Nat):nX x y (k+1)=nX x y k++[Ou k (x.getD k z7) (y.getD k z4)]:=by simp[nX,List.range_succ]
theorem JX (x:List A4) (k:Nat):rO x (k+1)=rO x k++[ZN k (x.getD k z4)]:=by simp[rO,List.range_succ]
theorem xk (x:List A7) (y:List A4) (k:Nat):(nX x y k).length=k:=by simp[nX]
theorem Dz (x:List A4) (k:Nat):(rO x k).length=k:=by simp[rO]
def nZ {α:Type} (cells:α→List Value) (s:Nat) (t:TypeId) (l:List α) (w:World) (e:Ending) (w':World):Prop:=∃v,e=.returned v∧w'.ownsRow w.heap.size t s v l.length (l.flatMap cells)∧Below w.heap.size w w'
theorem G_:(Tryz.prog.info? 53).map (fun i=>(i.zero,i.size,i.bytes))=some (some (.agg #[.int .i64 0,.int .i64 0,.int .i64 0,.int .i64 0,.int .i64 0,.int .i64 0,.int .i64 0,.int .i64 0,.int .i64 0,.int .i64 0,.int .i64 0,.int .i64 0,.int .i64 0,.int .i64 0,.int .i64 0,.int .i64 0,.int .i64 0,.int .i64 0,.int .i64 0,.int .i64 0,.int .i64 0]),21,168):=by kernel_rfl
theorem Rf:(Tryz.prog.info? 71).map (fun i=>(i.zero,i.size,i.bytes))=some (some (.agg #[.int .i64 0,.int .i64 0,.int .i64 0,.int .i64 0,.int .i64 0,.int .i64 0]),6,48):=by kernel_rfl
theorem pq:(Tryz.prog.info? 53).map (fun i=>(i.zero.map (fun z=>z.cells.size),i.size))=some (some 21,21):=by kernel_rfl
theorem DC:(Tryz.prog.info? 71).map (fun i=>(i.zero.map (fun z=>z.cells.size),i.size))=some (some 6,6):=by kernel_rfl
theorem V9 (x:iD):(bJ x).toArray.all (·.oneCell')=true:=by simp[bJ,Value.oneCell']
set_option maxHeartbeats 2000000 in
set_option maxRecDepth 100000 in
theorem Rh (AX AY:Option Addr) (n c ny cy:Nat) (x:List A7) (y:List A4) (w:World) (hx:RA vK 7 w w.heap.size AX n c x) (hy:RA jX 4 w w.heap.size AY ny cy y) (Yv:∀a∈x,a.ok) (oky:∀a∈y,a.ok) :
  Calls Tryz.prog 39 #[.slice AX n c,.slice AY ny cy] w (nZ aC 21 53 (nY x y) w):=by
 have hle:=hx.le;have hley:=hy.le;have hxl:=hx.len;have hyl:=hy.len;have hps:nY x y=nX x y (min n 3):=by rw[nY,hxl]
 rw[hps];obtain⟨m,hm⟩:∃m,m=min n 3:=⟨_,rfl⟩;rw[←hm];have HX:=Lib.hid hx;have HY:=Lib.hid hy;have Qq:=Lib.hid Yv;have HOY:=Lib.hid oky;have HYL:=Lib.hid hyl;have HM:=Lib.hid hm;clear hx hy Yv oky hps hxl hyl hm;go_enter Tryz.func39,Tryz.ntmps39;go_wp2;go_loopw [5,6] (fun v i wr=>∃k:Nat,k≤m∧i=.int .i64 k∧Hid (wr.ownsRow w.heap.size 53 21 v k ((nX x y k).flatMap aC))∧Ext w wr) (fun _ i _=>m-(intOf i).toNat)
 case atStart=>exact⟨0,Nat.zero_le _,rfl,Lib.hid (World.ownsRow_nil _ _ _ _),Ext.refl _⟩
 case round =>
  obtain⟨k,hk,rfl,HR,hB⟩:=hrel;by_cases hlt:k<m
  ·have hkn:k<n:=by have:=HM.out;omega
   have hk3:(k:Int)<3:=by have:=HM.out;omega
   obtain⟨bx,ox,hz,hA,hbl,hc⟩:=(HX.out.below hB).at_ Q_ hkn;have hxk:x.getD k z7=x[k]:=by simp[hz]
   have He:=Qq.out x[k] (List.getElem_mem _);generalize x[k]=a at hc hxk He;obtain⟨x0,x1,x2,x3,x4,x5,x6⟩:=a;obtain⟨bx0,bx1,bx2,bx3,bx4,bx5,bx6⟩:=He;have v0:wr.cell? ⟨bx,ox+k*7,none⟩=some (.int .i64 x0):=hc 0 (by omega);have v1:wr.cell? ⟨bx,ox+k*7+1,none⟩=some (.int .i64 x1):=hc 1 (by omega);have v2:wr.cell? ⟨bx,ox+k*7+2,none⟩=some (.int .i64 x2):=hc 2 (by omega);have v3:wr.cell? ⟨bx,ox+k*7+3,none⟩=some (.int .i64 x3):=hc 3 (by omega);have v4:wr.cell? ⟨bx,ox+k*7+4,none⟩=some (.int .i64 x4):=hc 4 (by omega);have v5:wr.cell? ⟨bx,ox+k*7+5,none⟩=some (.int .i64 x5):=hc 5 (by omega);have v6:wr.cell? ⟨bx,ox+k*7+6,none⟩=some (.int .i64 x6):=hc 6 (by omega);have HXK:=Lib.hid hxk;clear hxk hc;subst hA;by_cases hky:k<ny
   ·obtain⟨b2,o2,hz2,hA2,hbl2,hc2⟩:=(HY.out.below hB).at_ EU hky;have hyk:y.getD k z4=y[k]:=by simp[hz2]
    have V_:=HOY.out y[k] (List.getElem_mem _);generalize y[k]=b at hc2 hyk V_;obtain⟨z0,z1,z2,z3⟩:=b;have u0:wr.cell? ⟨b2,o2+k*4,none⟩=some (.int .i64 z0):=hc2 0 (by omega);have u1:wr.cell? ⟨b2,o2+k*4+1,none⟩=some (.int .i64 z1):=hc2 1 (by omega);have u2:wr.cell? ⟨b2,o2+k*4+2,none⟩=some (.int .i64 z2):=hc2 2 (by omega);have u3:wr.cell? ⟨b2,o2+k*4+3,none⟩=some (.int .i64 z3):=hc2 3 (by omega);have q0:=ah (show Ext wr (wr.alloc (.cells #[.int .i64 0,.int .i64 0,.int .i64 0,.int .i64 0] 151)) from aj (Below.refl _ _) _) u0;have q1:=ah (show Ext wr (wr.alloc (.cells #[.int .i64 0,.int .i64 0,.int .i64 0,.int .i64 0] 151)) from aj (Below.refl _ _) _) u1;have q2:=ah (show Ext wr (wr.alloc (.cells #[.int .i64 0,.int .i64 0,.int .i64 0,.int .i64 0] 151)) from aj (Below.refl _ _) _) u2;have q3:=ah (show Ext wr (wr.alloc (.cells #[.int .i64 0,.int .i64 0,.int .i64 0,.int .i64 0] 151)) from aj (Below.refl _ _) _) u3;clear hc2;subst hA2;obtain⟨bz0,bz1,bz2,bz3⟩:=V_;have HYK:=Lib.hid hyk;clear hyk;go_upto_region 8 with (fail);obtain⟨g7,hg7⟩:∃g,g=wr.heap.size:=⟨_,rfl⟩;have J7:aG (wr.alloc (.cells #[.int .i64 z0,.int .i64 z1,.int .i64 z2,.int .i64 z3] 151)) g7 151 #[.int .i64 z0,.int .i64 z1,.int .i64 z2,.int .i64 z3]:=aG.bC _ _ _ hg7.symm;have hx1:Ext wr (wr.alloc (.cells #[.int .i64 z0,.int .i64 z1,.int .i64 z2,.int .i64 z3] 151)):=aj (Below.refl _ _) _;rw[←hg7];generalize wr.alloc (.cells #[.int .i64 z0,.int .i64 z1,.int .i64 z2,.int .i64 z3] 151)=W at J7 hx1⊢;have hB:=Ext.trans hB hx1;have hrw:=bT HR.out hx1;have v0:=ah hx1 v0;have v1:=ah hx1 v1;have v2:=ah hx1 v2;have v3:=ah hx1 v3;have v4:=ah hx1 v4;have v5:=ah hx1 v5;have v6:=ah hx1 v6;have t0:W.cell? ⟨g7,0,none⟩=some (.int .i64 z0):=J7.cell 0;have t1:W.cell? ⟨g7,1,none⟩=some (.int .i64 z1):=J7.cell 1;have t2:W.cell? ⟨g7,2,none⟩=some (.int .i64 z2):=J7.cell 2;have t3:W.cell? ⟨g7,3,none⟩=some (.int .i64 z3):=J7.cell 3;clear hx1 hg7 HR u0 u1 u2 u3 q0 q1 q2 q3;skip;have CV:=fun w=>Nr (2*(k:Int)+1) x0 x1 x2 x3 x4 x5 x6 z0 z1 z2 z3 w ⟨by omega,by omega⟩ bx0 bx1 bx2 bx3 bx4 bx5 bx6 bz0 bz1 bz2 bz3;obtain⟨SX,g_⟩:∃X,(aC (EO (2*(k:Int)+1) x0 x1 x2 x3 x4 x5 x6 z0 z1 z2 z3)).toArray=X:=⟨_,rfl⟩;have hS2:SX.size=21:=by rw[←g_];rfl
    rw[g_]at CV;have kF:=Lib.hid g_;have HS2:=Lib.hid hS2;have Rj:=Lib.hid CV;clear g_ hS2 CV;skip;obtain⟨A',c',hv,_,_⟩:=aX hrw;subst hv;have HRW:=Lib.hid hrw;clear hrw;have w1_:IntKind.i64.wrap (2*(k:Int))=2*(k:Int):=IntWalk.i64_in _ (by omega);have w2_:IntKind.i64.wrap (2*(k:Int)+1)=2*(k:Int)+1:=IntWalk.i64_in _ (by omega);refine aF 11 [some (.slice A' k c'),some (.int .i64 (k:Int)),some (.int .i64 (2*(k:Int))),some (.int .i64 (2*(k:Int)+1)),some (.slice (some ⟨bx,ox,none⟩) n c),some (.int .i64 (k:Int)),some (.pointer (some ⟨bx,ox+k*7,none⟩)),some (.agg #[.int .i64 x0,.int .i64 x1,.int .i64 x2,.int .i64 x3,.int .i64 x4,.int .i64 x5,.int .i64 x6]),some (.agg #[.int .i64 z0,.int .i64 z1,.int .i64 z2,.int .i64 z3]),some (.agg SX),none] [(10,.w fun v w1=>∃gx,v=.slice (some ⟨gx,0,none⟩) 1 1∧W.heap.size≤gx∧aG w1 gx 53 SX)] ?_ ?_ ?_
    ·refine⟨?_,trivial⟩
     ·intro v w1 w2 hr hx;obtain⟨gx,h1,h2,h3⟩:=hr;exact⟨gx,h1,h2,h3.ext hx⟩
    ·refine⟨?_,?_,?_,?_,?_,?_,?_,?_,?_,?x9,?x10,trivial⟩
     case x9 =>
      intro vals w1 hx hd;clear hd;simp only[Lf,au,Act.put,bH,bG];go_wp2_with fail;refine (Rj.out _).mono ?_;rintro e w2 ⟨rfl,hb2⟩;go_wp2;exact⟨rfl,hb2,rfl⟩
     case x10 =>
      intro vals w1 hx hd;clear hd;simp only[Lf,au,Act.put,bH,bG];have hz:=Below.size hx.aH;refine bY rfl _ _ _ rfl SX rfl Tryz.underlying28 21 pq HS2.out (by omega) (by omega) ?_;go_wp2;exact⟨rfl,(by repeat (first | exact Below.refl _ _ | assumption | refine Below.drew ?_ | refine below_drewN ?_ _ | refine aj ?_ _ | refine Below.setCell ?_ (by first | (simp;done) | omega | (simp;omega)) _ | refine aA ?_ (by assumption))),_,rfl,by omega,aG.new _ _ _⟩
     all_goals
      intro vals w1 hx hd;clear hd;simp only[Lf,au,Act.put,bH,bG];have v0:=ah hx v0;have v1:=ah hx v1;have v2:=ah hx v2;have v3:=ah hx v3;have v4:=ah hx v4;have v5:=ah hx v5;have v6:=ah hx v6;have t0:=ah hx t0;have t1:=ah hx t1;have t2:=ah hx t2;have t3:=ah hx t3;go_wp2;exact iq
    intro vals w5 hx5 hf;have e0:vals 0=.slice A' k c':=hf 0 (by omega);obtain⟨gx,e10,hgx,jx⟩:∃gx,vals 10=.slice (some ⟨gx,0,none⟩) 1 1∧W.heap.size≤gx∧aG w5 gx 53 SX:=hf 10 (by omega);clear hf v0 v1 v2 v3 v4 v5 v6 t0 t1 t2 t3;have hx5:=hx5.aH;have hrow:=bT HRW.out hx5;have iJ:=Ext.trans hB hx5;have hBs:=iJ.size;obtain⟨i0,hi0,hz0,hz1,hz2⟩:=info_parts G_;obtain⟨v2,W7,hr,hrow2,hg2,-⟩:=run_append_own (P:=Tryz.prog) w5 w.heap.size 28 28 53 i0 _ 21 168 Tryz.underlying28 hi0 hz0 hz1 hz2 rfl (by omega) _ k _ hrow ⟨gx,0,none⟩ 1 1 (aC (EO (2*(k:Int)+1) x0 x1 x2 x3 x4 x5 x6 z0 z1 z2 z3)) (by rfl) (by intro i u hu;rw[Addr.add_lit,Nat.zero_add,jx.cell,←kF.out];simpa using hu) (by simp[aC,Value.oneCell']) (by unfold maxLen;omega) (by omega) (by omega);have hB7:Ext w W7:=iJ.grown hg2 hBs (fun q e=>(World.ownsRow.lt hrow q e).1);have hnew:W7.ownsRow w.heap.size 53 21 v2 (k+1) ((nX x y (k+1)).flatMap aC):=by
     rw[zT,HXK.out,HYK.out,List.flatMap_append];simpa [Ou]using hrow2
    have ql:=Lib.hid hnew;have jY:=Lib.hid hr;clear hr hrow2 hg2 hrow hnew jx hx5 iJ hBs HRW;refine oK 11 _ _ 1 (by kernel_rfl) rfl ?_ (fun a w q=>eP 12 _ (by kernel_rfl) (by kernel_rfl) rfl q);simp only[Lf,au,Act.put,FR_];rw[e0,e10];clear e0 e10;refine aP rfl _ _ _ rfl rfl rfl jY.out ?_;go_wp2;go_roundw
    case rel=>exact⟨k+1,by omega,by go_num,ql,hB7⟩
    case measure=>simp[intOf];omega
   ·have hyk:y.getD k z4=⟨0,0,0,0⟩:=by rw[List.getD_eq_getElem?_getD,List.getElem?_eq_none (by rw[HYL.out];omega)];rfl
    have V_:A4.ok ⟨0,0,0,0⟩:=z4_ok;obtain⟨bz0,bz1,bz2,bz3⟩:=V_;have HYK:=Lib.hid hyk;clear hyk;go_upto_region 8 with (fail);obtain⟨g7,hg7⟩:∃g,g=wr.heap.size:=⟨_,rfl⟩;have J7:aG (wr.alloc (.cells #[.int .i64 0,.int .i64 0,.int .i64 0,.int .i64 0] 151)) g7 151 #[.int .i64 0,.int .i64 0,.int .i64 0,.int .i64 0]:=aG.bC _ _ _ hg7.symm;have hx1:Ext wr (wr.alloc (.cells #[.int .i64 0,.int .i64 0,.int .i64 0,.int .i64 0] 151)):=aj (Below.refl _ _) _;rw[←hg7];generalize wr.alloc (.cells #[.int .i64 0,.int .i64 0,.int .i64 0,.int .i64 0] 151)=W at J7 hx1⊢;have hB:=Ext.trans hB hx1;have hrw:=bT HR.out hx1;have v0:=ah hx1 v0;have v1:=ah hx1 v1;have v2:=ah hx1 v2;have v3:=ah hx1 v3;have v4:=ah hx1 v4;have v5:=ah hx1 v5;have v6:=ah hx1 v6;have t0:W.cell? ⟨g7,0,none⟩=some (.int .i64 0):=J7.cell 0;have t1:W.cell? ⟨g7,1,none⟩=some (.int .i64 0):=J7.cell 1;have t2:W.cell? ⟨g7,2,none⟩=some (.int .i64 0):=J7.cell 2;have t3:W.cell? ⟨g7,3,none⟩=some (.int .i64 0):=J7.cell 3;clear hx1 hg7 HR;skip;have CV:=fun w=>Nr (2*(k:Int)+1) x0 x1 x2 x3 x4 x5 x6 0 0 0 0 w ⟨by omega,by omega⟩ bx0 bx1 bx2 bx3 bx4 bx5 bx6 bz0 bz1 bz2 bz3;obtain⟨SX,g_⟩:∃X,(aC (EO (2*(k:Int)+1) x0 x1 x2 x3 x4 x5 x6 0 0 0 0)).toArray=X:=⟨_,rfl⟩;have hS2:SX.size=21:=by rw[←g_];rfl
    rw[g_]at CV;have kF:=Lib.hid g_;have HS2:=Lib.hid hS2;have Rj:=Lib.hid CV;clear g_ hS2 CV;skip;obtain⟨A',c',hv,_,_⟩:=aX hrw;subst hv;have HRW:=Lib.hid hrw;clear hrw;have w1_:IntKind.i64.wrap (2*(k:Int))=2*(k:Int):=IntWalk.i64_in _ (by omega);have w2_:IntKind.i64.wrap (2*(k:Int)+1)=2*(k:Int)+1:=IntWalk.i64_in _ (by omega);refine aF 11 [some (.slice A' k c'),some (.int .i64 (k:Int)),some (.int .i64 (2*(k:Int))),some (.int .i64 (2*(k:Int)+1)),some (.slice (some ⟨bx,ox,none⟩) n c),some (.int .i64 (k:Int)),some (.pointer (some ⟨bx,ox+k*7,none⟩)),some (.agg #[.int .i64 x0,.int .i64 x1,.int .i64 x2,.int .i64 x3,.int .i64 x4,.int .i64 x5,.int .i64 x6]),some (.agg #[.int .i64 0,.int .i64 0,.int .i64 0,.int .i64 0]),some (.agg SX),none] [(10,.w fun v w1=>∃gx,v=.slice (some ⟨gx,0,none⟩) 1 1∧W.heap.size≤gx∧aG w1 gx 53 SX)] ?_ ?_ ?_
    ·refine⟨?_,trivial⟩
     ·intro v w1 w2 hr hx;obtain⟨gx,h1,h2,h3⟩:=hr;exact⟨gx,h1,h2,h3.ext hx⟩
    ·refine⟨?_,?_,?_,?_,?_,?_,?_,?_,?_,?x9,?x10,trivial⟩
     case x9 =>
      intro vals w1 hx hd;clear hd;simp only[Lf,au,Act.put,bH,bG];go_wp2_with fail;refine (Rj.out _).mono ?_;rintro e w2 ⟨rfl,hb2⟩;go_wp2;exact⟨rfl,hb2,rfl⟩
     case x10 =>
      intro vals w1 hx hd;clear hd;simp only[Lf,au,Act.put,bH,bG];have hz:=Below.size hx.aH;refine bY rfl _ _ _ rfl SX rfl Tryz.underlying28 21 pq HS2.out (by omega) (by omega) ?_;go_wp2;exact⟨rfl,(by repeat (first | exact Below.refl _ _ | assumption | refine Below.drew ?_ | refine below_drewN ?_ _ | refine aj ?_ _ | refine Below.setCell ?_ (by first | (simp;done) | omega | (simp;omega)) _ | refine aA ?_ (by assumption))),_,rfl,by omega,aG.new _ _ _⟩
     all_goals
      intro vals w1 hx hd;clear hd;simp only[Lf,au,Act.put,bH,bG];have v0:=ah hx v0;have v1:=ah hx v1;have v2:=ah hx v2;have v3:=ah hx v3;have v4:=ah hx v4;have v5:=ah hx v5;have v6:=ah hx v6;have t0:=ah hx t0;have t1:=ah hx t1;have t2:=ah hx t2;have t3:=ah hx t3;go_wp2;exact iq
    intro vals w5 hx5 hf;have e0:vals 0=.slice A' k c':=hf 0 (by omega);obtain⟨gx,e10,hgx,jx⟩:∃gx,vals 10=.slice (some ⟨gx,0,none⟩) 1 1∧W.heap.size≤gx∧aG w5 gx 53 SX:=hf 10 (by omega);clear hf v0 v1 v2 v3 v4 v5 v6 t0 t1 t2 t3;have hx5:=hx5.aH;have hrow:=bT HRW.out hx5;have iJ:=Ext.trans hB hx5;have hBs:=iJ.size;obtain⟨i0,hi0,hz0,hz1,hz2⟩:=info_parts G_;obtain⟨v2,W7,hr,hrow2,hg2,-⟩:=run_append_own (P:=Tryz.prog) w5 w.heap.size 28 28 53 i0 _ 21 168 Tryz.underlying28 hi0 hz0 hz1 hz2 rfl (by omega) _ k _ hrow ⟨gx,0,none⟩ 1 1 (aC (EO (2*(k:Int)+1) x0 x1 x2 x3 x4 x5 x6 0 0 0 0)) (by rfl) (by intro i u hu;rw[Addr.add_lit,Nat.zero_add,jx.cell,←kF.out];simpa using hu) (by simp[aC,Value.oneCell']) (by unfold maxLen;omega) (by omega) (by omega);have hB7:Ext w W7:=iJ.grown hg2 hBs (fun q e=>(World.ownsRow.lt hrow q e).1);have hnew:W7.ownsRow w.heap.size 53 21 v2 (k+1) ((nX x y (k+1)).flatMap aC):=by
     rw[zT,HXK.out,HYK.out,List.flatMap_append];simpa [Ou]using hrow2
    have ql:=Lib.hid hnew;have jY:=Lib.hid hr;clear hr hrow2 hg2 hrow hnew jx hx5 iJ hBs HRW;refine oK 11 _ _ 1 (by kernel_rfl) rfl ?_ (fun a w q=>eP 12 _ (by kernel_rfl) (by kernel_rfl) rfl q);simp only[Lf,au,Act.put,FR_];rw[e0,e10];clear e0 e10;refine aP rfl _ _ _ rfl rfl rfl jY.out ?_;go_wp2;go_roundw
    case rel=>exact⟨k+1,by omega,by go_num,ql,hB7⟩
    case measure=>simp[intOf];omega
  ·have hkm:k=m:=by omega
   have zV:Hid (wr.ownsRow w.heap.size 53 21 u5 (nX x y m).length ((nX x y m).flatMap aC)):=Lib.hid (by rw[xk,←hkm];exact HR.out);have ZO:=Lib.hid hkm;clear HR hkm;by_cases hkn:k<n
   ·have hk3:¬(k:Int)<3:=by have:=ZO.out;have:=HM.out;omega
    go_wp2;go_ret;exact⟨_,rfl,zV.out,hB⟩
   ·skip;go_wp2;go_ret;exact⟨_,rfl,zV.out,hB⟩
set_option maxHeartbeats 2000000 in
set_option maxRecDepth 100000 in
theorem EW (AX:Option Addr) (n c:Nat) (x:List A4) (w:World) (hx:RA jX 4 w w.heap.size AX n c x) (Yv:∀a∈x,a.ok) :
  Calls Tryz.prog 40 #[.slice AX n c] w (nZ bJ 6 71 (Dy x) w):=by
 have hle:=hx.le;have hxl:=hx.len;have hps:Dy x=rO x (min n 3):=by rw[Dy,hxl]
 rw[hps];obtain⟨m,hm⟩:∃m,m=min n 3:=⟨_,rfl⟩;rw[←hm];have HX:=Lib.hid hx;have Qq:=Lib.hid Yv;have HM:=Lib.hid hm;clear hx Yv hps hxl hm;go_enter Tryz.func40,Tryz.ntmps40;go_wp2;go_loopw [3,4] (fun v i wr=>∃k:Nat,k≤m∧i=.int .i64 k∧Hid (wr.ownsRow w.heap.size 71 6 v k ((rO x k).flatMap bJ))∧Ext w wr) (fun _ i _=>m-(intOf i).toNat)
 case atStart=>exact⟨0,Nat.zero_le _,rfl,Lib.hid (World.ownsRow_nil _ _ _ _),Ext.refl _⟩
 case round =>
  obtain⟨k,hk,rfl,HR,hB⟩:=hrel;by_cases hlt:k<m
  ·have hkn:k<n:=by have:=HM.out;omega
   have hk3:(k:Int)<3:=by have:=HM.out;omega
   obtain⟨bx,ox,hz,hA,hbl,hc⟩:=(HX.out.below hB).at_ EU hkn;have hxk:x.getD k z4=x[k]:=by simp[hz]
   have He:=Qq.out x[k] (List.getElem_mem _);generalize x[k]=a at hc hxk He;obtain⟨x0,x1,x2,x3⟩:=a;obtain⟨bx0,bx1,bx2,bx3⟩:=He;have v0:wr.cell? ⟨bx,ox+k*4,none⟩=some (.int .i64 x0):=hc 0 (by omega);have v1:wr.cell? ⟨bx,ox+k*4+1,none⟩=some (.int .i64 x1):=hc 1 (by omega);have v2:wr.cell? ⟨bx,ox+k*4+2,none⟩=some (.int .i64 x2):=hc 2 (by omega);have v3:wr.cell? ⟨bx,ox+k*4+3,none⟩=some (.int .i64 x3):=hc 3 (by omega);have HXK:=Lib.hid hxk;clear hxk hc;subst hA;have Ov:=fun w=>G7 (3*(k:Int)) x0 x1 x2 x3 w ⟨by omega,by omega⟩ bx0 bx1 bx2 bx3;obtain⟨SX,g_⟩:∃X,(bJ (Q7 (3*(k:Int)) x0 x1 x2 x3)).toArray=X:=⟨_,rfl⟩;have hS2:SX.size=6:=by rw[←g_];rfl
   rw[g_]at Ov;have kF:=Lib.hid g_;have HS2:=Lib.hid hS2;have ZP:=Lib.hid Ov;clear g_ hS2 Ov;have hrw:=HR.out;obtain⟨A',c',hv,_,_⟩:=aX hrw;subst hv;have HRW:=Lib.hid hrw;clear hrw HR;go_wp2_with fail;refine (ZP.out _).mono ?_;rintro e w4 ⟨rfl,hb4⟩;clear v0 v1 v2 v3;have hB4:=Ext.trans hB hb4;have iJ:=Ext.trans hB4 (show Ext w4 (w4.alloc (.cells SX 71)) from aj (Below.refl _ _) _);have hrow:=bT HRW.out (Ext.trans hb4 (show Ext w4 (w4.alloc (.cells SX 71)) from aj (Below.refl _ _) _));have jx:aG (w4.alloc (.cells SX 71)) w4.heap.size 71 SX:=aG.new _ _ _;obtain⟨w5,hw5⟩:∃w5,w5=w4.alloc (.cells SX 71):=⟨_,rfl⟩;obtain⟨gx,hgx⟩:∃g,g=w4.heap.size:=⟨_,rfl⟩;rw[←hw5]at iJ hrow jx;rw[←hgx]at jx;have hBs:=iJ.size;obtain⟨i0,hi0,hz0,hz1,hz2⟩:=info_parts Rf;obtain⟨v2,W7,hr,hrow2,hg2,-⟩:=run_append_own (P:=Tryz.prog) w5 w.heap.size 29 29 71 i0 _ 6 48 Tryz.underlying29 hi0 hz0 hz1 hz2 rfl (by omega) _ k _ hrow ⟨gx,0,none⟩ 1 1 (bJ (Q7 (3*(k:Int)) x0 x1 x2 x3)) (by rfl) (by intro i u hu;rw[Addr.add_lit,Nat.zero_add,jx.cell,←kF.out];simpa using hu) (by simp[bJ,Value.oneCell']) (by unfold maxLen;omega) (by omega) (by omega);have hB7:Ext w W7:=iJ.grown hg2 hBs (fun q e=>(World.ownsRow.lt hrow q e).1);have hnew:W7.ownsRow w.heap.size 71 6 v2 (k+1) ((rO x (k+1)).flatMap bJ):=by
    rw[JX,HXK.out,List.flatMap_append];simpa [ZN]using hrow2
   rw[hw5,hgx]at hr;have ql:=Lib.hid hnew;have jY:=Lib.hid hr;clear hr hrow2 hg2 hrow hnew jx iJ hBs HRW hw5 hgx hB4 hb4;go_wp2_with (first | (refine bY rfl _ _ _ rfl SX rfl Tryz.underlying29 6 DC HS2.out (by omega) (by omega) ?_) | (refine aP rfl _ _ _ rfl rfl rfl jY.out ?_));go_roundw
   case rel=>exact⟨k+1,by omega,by go_num,ql,hB7⟩
   case measure=>simp[intOf];omega
  ·have hkm:k=m:=by omega
   have zV:Hid (wr.ownsRow w.heap.size 71 6 u3 (rO x m).length ((rO x m).flatMap bJ)):=Lib.hid (by rw[Dz,←hkm];exact HR.out);have ZO:=Lib.hid hkm;clear HR hkm;by_cases hkn:k<n
   ·have hk3:¬(k:Int)<3:=by have:=ZO.out;have:=HM.out;omega
    go_wp2;go_ret;exact⟨_,rfl,zV.out,hB⟩
   ·skip;go_wp2;go_ret;exact⟨_,rfl,zV.out,hB⟩
end Go.Proofs.YtjidhhfabfnhnaaGreat
namespace Go.Proofs.YtjidhhfabfnhnaaGreat
open Go.RowKit
attribute [local go_sem] Oper.semAt_some
theorem kP (c n:Int) (w:World) (h1 : -9223372036854775808≤c) (h2:c≤9223372036854775807) (hn:0<n) (hn2:n≤1000000) :
  Calls Tryz.prog 94 #[.int .i64 c,.int .i64 n] w fun e w'=>e=.returned (.int .i64 (aO c n))∧w=w':=by
 have hn0:¬n=0:=by omega
 have hn1:(n==0)=false:=by simp;omega
 by_cases hc:c<0
 ·have hp:aO c n = -((c+1).tmod n):=by unfold aO;rw[if_pos hc,←Int.tmod_eq_emod_of_nonneg (by omega),Int.neg_tmod]
  have hb:=aJ c n hn;rw[hp]at hb⊢;have hb1:=hb.1;have hb2:=hb.2;clear hb hp;go_enter Tryz.func94,Tryz.ntmps94;go_wp2;go_ret;exact⟨rfl,rfl⟩
 ·have hp:aO c n=c % n:=by unfold aO;rw[if_neg hc]
  have hb:=aJ c n hn;rw[hp]at hb⊢;have hb1:=hb.1;have hb2:=hb.2;clear hb hp;go_enter Tryz.func94,Tryz.ntmps94;go_wp2;go_ret;exact⟨rfl,rfl⟩
def EX (fr:Int) (x:List A4):Nat→Int
 |0=>fr
 |k+1=>if EX fr x k+aO (x.getD k z4).a2 60<1000000 then EX fr x k+aO (x.getD k z4).a2 60 else 1000000
def Rk (o:iM) (c:Int):iM:=⟨o.period,(o.phase+aO c 7) % o.period,o.low,o.high,(o.node+1000*aO (c.tdiv 7) 4) % 48000,o.turn,if o.dP+aO (c.tdiv 28) 2<10 then o.dP+aO (c.tdiv 28) 2 else 10⟩
def zS:St:=⟨0,0,⟨0,0,0,0,0,0,0⟩,0,0,0,0,0,0,0,0,0,0,0,0⟩
def ZQ (s:St) (fr kn:Int) (a:A4):fE:=⟨s.id,if fr+aO a.a1 300<1000000 then fr+aO a.a1 300 else 1000000,kn,Rk s.aY a.a3⟩
def Wi (sats:List St) (fr:Int) (x:List A4) (k:Nat):fE:=ZQ (sats.getD (aO (x.getD k z4).a0 sats.length).toNat zS) fr (EX fr x (k+1)) (x.getD k z4)
def uD (sats:List St) (fr:Int) (x:List A4) (k:Nat):List fE:=(List.range k).map (Wi sats fr x)
def qO (sats:List St) (fr:Int) (x:List A4):List fE:=if sats.length=0 then [] else uD sats fr x (min x.length 6)
theorem zW (sats:List St) (fr:Int) (x:List A4) (k:Nat):uD sats fr x (k+1)=uD sats fr x k++[Wi sats fr x k]:=by simp[uD,List.range_succ]
theorem xq (sats:List St) (fr:Int) (x:List A4) (k:Nat):(uD sats fr x k).length=k:=by simp[uD]
theorem JY (fr:Int) (x:List A4) (h:0≤fr∧fr≤1000000) (k:Nat):fr≤EX fr x k∧EX fr x k≤1000000:=by
 induction k with
 |zero=>exact⟨Int.le_refl _,h.2⟩
 |succ k ih =>
  rw[EX];have:=aJ (x.getD k z4).a2 60 (by omega)
  split<;>omega
theorem Rn:(Tryz.prog.info? 66).map (fun i=>(i.zero,i.size,i.bytes))=some (some (.agg #[.int .i64 0,.int .i64 0,.int .i64 0,.int .i64 0,.int .i64 0,.int .i64 0,.int .i64 0,.int .i64 0,.int .i64 0,.int .i64 0]),10,80):=by kernel_rfl
theorem DF:(Tryz.prog.info? 66).map (fun i=>(i.zero.map (fun z=>z.cells.size),i.size))=some (some 10,10):=by kernel_rfl
theorem kQ:(Tryz.prog.info? 66).map (·.size)=some 10:=by kernel_rfl
theorem Ro (x:fE):∀u∈aI x,u.oneCell'=true:=by simp[aI,Value.oneCell']
theorem Wj {W0 w:World} (ty:TypeId) (v:Value) (acc:List fE) (x:fE) (U:Array Value) (hU:(aI x).toArray=U) (hx:Ext W0 w) (h:w.ownsRow W0.heap.size 66 10 v acc.length (acc.flatMap aI)) (hn:acc.length≤100000) :
  ∃v' w',(Builtin.append_ #[30,30] ty #[v,.slice (some ⟨w.heap.size,0,none⟩) 1 1]).run Tryz.prog (w.alloc (.cells U 66))=.ok v' w'∧w'.ownsRow W0.heap.size 66 10 v' (acc.length+1) ((acc++[x]).flatMap aI)∧Ext W0 w':=by
 obtain⟨i0,hi0,hz0,hz1,hz2⟩:=info_parts Rn;have jx:=aG.new w 66 U;have hx5:Ext w (w.alloc (.cells U 66)):=aj (Below.refl _ _) _;have hrow:=bT h hx5;have hx6:=Ext.trans hx hx5;have hBs:=Below.size hx6;obtain⟨v2,W7,hr,hrow2,hg2,-⟩:=run_append_own (P:=Tryz.prog) (w.alloc (.cells U 66)) W0.heap.size 30 ty 66 i0 _ 10 80 Tryz.underlying30 hi0 hz0 hz1 hz2 rfl (by omega) _ _ _ hrow ⟨w.heap.size,0,none⟩ 1 1 (aI x) rfl (by intro i u hu;rw[Addr.add_lit,Nat.zero_add,jx.cell,←hU];simpa using hu) (Ro x) (by unfold maxLen;omega) (by omega) (by omega);exact⟨v2,W7,hr,by rw[List.flatMap_append];simpa using hrow2,hx6.grown hg2 hBs (fun q e=>(World.ownsRow.lt hrow q e).1)⟩
set_option maxHeartbeats 4000000 in
set_option maxRecDepth 100000 in
theorem Rq (sats:List St) (fr:Int) (x:List A4) (SA AX:Option Addr) (sn sc n c:Nat) (w:World) (hS:RA aC 21 w w.heap.size SA sn sc sats) (hX:RA jX 4 w w.heap.size AX n c x) (Yv:∀a∈x,a.ok) (hsn:sn≤1000000) (hfr:0≤fr∧fr≤1000000) (hso:∀s∈sats,dw s.aY=true) :
  Calls Tryz.prog 41 #[.slice SA sn sc,.int .i64 fr,.slice AX n c] w (nZ aI 10 66 (qO sats fr x) w):=by
 have hle:=hX.le;have hxl:=hX.len;have hsl:=hS.len;have hk0:=JY fr x hfr;obtain⟨hfr1,hfr2⟩:=hfr;by_cases h0:sn=0
 ·have hp:qO sats fr x=[]:=if_pos (by omega);rw[hp];obtain rfl:sn=0:=h0;clear hX hS hso hxl hsl hp hk0;go_enter Tryz.func41,Tryz.ntmps41;go_wp2;go_loopw [7,8,9] (fun v kn i wr=>v=.slice none 0 0∧kn=.int .i64 fr∧i=.int .i64 0∧wr=w) (fun _ _ i _=>0)
  case atStart=>exact⟨rfl,rfl,rfl,rfl⟩
  case round =>
   obtain⟨rfl,rfl,rfl,rfl⟩:=hrel;by_cases hn0:0<n
   all_goals
    go_wp2;go_ret;exact⟨_,rfl,World.ownsRow_nil _ _ _ _,Ext.refl _⟩
 ·have hps:qO sats fr x=uD sats fr x (min n 6):=by rw[qO,hxl,if_neg (by omega)]
  rw[hps];have hsp:0<sn:=by omega
  obtain⟨m,hm⟩:∃m,m=min n 6:=⟨_,rfl⟩;rw[←hm];have HX:=Lib.hid hX;have HS:=Lib.hid hS;have Qq:=Lib.hid Yv;have HSO:=Lib.hid hso;have HM:=Lib.hid hm;have HSL:=Lib.hid hsl;have Ns:=Lib.hid hk0;clear hX hS Yv hso hps hxl hsl hm hk0 h0;go_enter Tryz.func41,Tryz.ntmps41;go_wp2;go_loopw [7,8,9] (fun v kn i wr=>∃k:Nat,k≤m∧kn=.int .i64 (EX fr x k)∧i=.int .i64 k∧Hid (wr.ownsRow w.heap.size 66 10 v k ((uD sats fr x k).flatMap aI))∧Ext w wr) (fun _ _ i _=>m-(intOf i).toNat)
  case atStart=>exact⟨0,Nat.zero_le _,rfl,rfl,Lib.hid (World.ownsRow_nil _ _ _ _),Ext.refl _⟩
  case round =>
   obtain⟨k,hk,rfl,rfl,HR,hB⟩:=hrel;have hkb:=Ns.out k;have hkb2:=Ns.out (k+1);have rP:EX fr x (k+1)=if EX fr x k+aO (x.getD k z4).a2 60<1000000 then EX fr x k+aO (x.getD k z4).a2 60 else 1000000:=rfl
   have hua:Wi sats fr x k=ZQ (sats.getD (aO (x.getD k z4).a0 sats.length).toNat zS) fr (EX fr x (k+1)) (x.getD k z4):=rfl;have hus:=zW sats fr x k;have Ws:=xq sats fr x k;rw[hua]at hus;clear hua;generalize hg2:EX fr x (k+1)=kn2 at hkb2 rP hus;have HG2:=Lib.hid hg2;clear hg2;generalize EX fr x k=kn at hkb rP;by_cases hlt:k<m
   ·have hkn:k<n:=by have:=HM.out;omega
    have hk6:(k:Int)<6:=by have:=HM.out;omega
    obtain⟨bx,ox,hz,hA,hbl,hc⟩:=(HX.out.below hB).at_ EU hkn;have hxk:x.getD k z4=x[k]:=by simp[hz]
    have He:=Qq.out x[k] (List.getElem_mem _);rw[hxk]at rP hus;generalize x[k]=a at hc rP hus He;obtain⟨a0,a1,a2,a3⟩:=a;obtain⟨ba0,ba1,ba2,ba3⟩:=He;dsimp only at ba0 ba1 ba2 ba3 rP hus;have v0:wr.cell? ⟨bx,ox+k*4,none⟩=some (.int .i64 a0):=hc 0 (by omega);have v1:wr.cell? ⟨bx,ox+k*4+1,none⟩=some (.int .i64 a1):=hc 1 (by omega);have v2:wr.cell? ⟨bx,ox+k*4+2,none⟩=some (.int .i64 a2):=hc 2 (by omega);have v3:wr.cell? ⟨bx,ox+k*4+3,none⟩=some (.int .i64 a3):=hc 3 (by omega);subst hA;clear hc hxk hz;have P0:=fun w=>kP a0 sn w ba0.1 ba0.2 (by omega) (by omega);have q0:=aJ a0 sn (by omega);rw[show ((sats.length:Nat):Int)=(sn:Int) by rw[HSL.out]]at hus;generalize aO a0 sn=p0 at P0 q0 hus;obtain⟨q0a,q0b⟩:=q0;obtain⟨i0,rfl⟩:=Int.eq_ofNat_of_zero_le q0a;have hi0:i0<sn:=by omega
    have Qp:=Lib.hid P0;clear P0 q0b q0a;obtain⟨bs,os,hzs,hAs,hbs,hcs⟩:=RA.range gJ (HS.out.below hB) hi0;have hxs:sats.getD (i0:Int).toNat zS=sats[i0]:=by simp[hzs]
    rw[hxs]at hus;have hso:=HSO.out sats[i0] (List.getElem_mem _);generalize sats[i0]=s at hcs hus hso;clear hxs hzs;obtain⟨fO,own,⟨pe,ph,lo,hi,no,tu,sl⟩,wi,st,ch,su,rH,sh,se,wa,co,ho,sw,ra⟩:=s;have hso2:2≤pe∧pe≤10000∧0≤ph∧ph<pe∧0≤no∧no<48000∧0≤sl∧sl≤10:=by simp[dw,inB]at hso;omega
    clear hso;obtain⟨ZK,hpe2,hph1,hph2,hno1,hno2,hsl1,hsl2⟩:=hso2;subst hAs;obtain⟨SX,g_⟩:∃X,(aC ⟨fO,own,⟨pe,ph,lo,hi,no,tu,sl⟩,wi,st,ch,su,rH,sh,se,wa,co,ho,sw,ra⟩).toArray=X:=⟨_,rfl⟩;have kF:=Lib.hid g_;have HS2:Hid (SX.size=21):=Lib.hid (by rw[←g_];rfl);have Dx:Hid (SX.all (·.oneCell')=true):=Lib.hid (by rw[←g_];exact nU _);have HCS:=Lib.hid hcs;clear g_ hcs;obtain⟨bd7,ZR⟩:=tC ba3 (n:=7) (by omega);obtain⟨bd28,Rt⟩:=tC ba3 (n:=28) (by omega);obtain⟨xd7,ZT⟩:∃y,y=a3.tdiv 7:=⟨_,rfl⟩;obtain⟨xd28,Ru⟩:∃y,y=a3.tdiv 28:=⟨_,rfl⟩;simp only[ZQ,Rk]at hus;rw[←ZT]at bd7 ZR hus;rw[←Ru]at bd28 Rt hus;have HQ7:Hid (IntKind.i64.wrap (a3.tdiv 7)=xd7):=Lib.hid (by rw[←ZT];exact ZR);have HQ28:Hid (IntKind.i64.wrap (a3.tdiv 28)=xd28):=Lib.hid (by rw[←Ru];exact Rt);clear ZR Rt ZT Ru;have P1:=fun w=>kP a1 300 w ba1.1 ba1.2 (by omega) (by omega);have q1:=aJ a1 300 (by omega);generalize aO a1 300=p1 at P1 q1 hus;obtain⟨q1a,q1b⟩:=q1;have wV:=Lib.hid P1;clear P1;have P2:=fun w=>kP a2 60 w ba2.1 ba2.2 (by omega) (by omega);have q2:=aJ a2 60 (by omega);generalize aO a2 60=p2 at P2 q2 hus rP;obtain⟨q2a,q2b⟩:=q2;have HP2:=Lib.hid P2;clear P2;have P3:=fun w=>kP a3 7 w ba3.1 ba3.2 (by omega) (by omega);have q3:=aJ a3 7 (by omega);generalize aO a3 7=p3 at P3 q3 hus;obtain⟨q3a,q3b⟩:=q3;have Vk:=Lib.hid P3;clear P3;have P4:=fun w=>kP xd7 4 w bd7.1 bd7.2 (by omega) (by omega);have q4:=aJ xd7 4 (by omega);generalize aO xd7 4=p4 at P4 q4 hus;obtain⟨q4a,q4b⟩:=q4;have Vl:=Lib.hid P4;clear P4;have P5:=fun w=>kP xd28 2 w bd28.1 bd28.2 (by omega) (by omega);have q5:=aJ xd28 2 (by omega);generalize aO xd28 2=p5 at P5 q5 hus;obtain⟨q5a,q5b⟩:=q5;have Vm:=Lib.hid P5;clear P5;obtain⟨fr2,hfr3⟩:∃y,(if fr+p1<1000000 then fr+p1 else 1000000)=y:=⟨_,rfl⟩;obtain⟨sl2,Wu⟩:∃y,(if sl+p5<10 then sl+p5 else 10)=y:=⟨_,rfl⟩;obtain⟨ph2,Rw⟩:∃y,(ph+p3) % pe=y:=⟨_,rfl⟩;obtain⟨no2,Rz⟩:∃y,(no+1000*p4) % 48000=y:=⟨_,rfl⟩;rw[hfr3,Wu,Rw,Rz]at hus;have hph5:0≤ph2∧ph2<pe:=by rw[←Rw];exact⟨Int.emod_nonneg _ (by omega),Int.emod_lt_of_pos _ (by omega)⟩
    have hno5:0≤no2∧no2<48000:=by rw[←Rz];exact⟨Int.emod_nonneg _ (by omega),Int.emod_lt_of_pos _ (by omega)⟩
    have hph4:IntKind.i64.wrap ((ph+p3).tmod pe)=ph2:=by rw[Int.tmod_eq_emod_of_nonneg (by omega),Rw];exact IntWalk.i64_in _ (by omega)
    have hno4:IntKind.i64.wrap ((no+1000*p4).tmod 48000)=no2:=by rw[Int.tmod_eq_emod_of_nonneg (by omega),Rz];exact IntWalk.i64_in _ (by omega)
    have hfr4:0≤fr2∧fr2≤1000000:=by rw[←hfr3];split<;>omega
    have hsl4:0≤sl2∧sl2≤10:=by rw[←Wu];split<;>omega
    have HUS:=Lib.hid hus;have HUL:=Lib.hid Ws;have HKN1:Hid ((if kn+p2<1000000 then kn+p2 else 1000000)=kn2):=Lib.hid rP.symm;have HFR3:=Lib.hid hfr3;have HSL3:=Lib.hid Wu;have HPH4:=Lib.hid hph4;have HNO4:=Lib.hid hno4;have HPH3:=Lib.hid Rw;have HNO3:=Lib.hid Rz;clear hus Ws rP hfr3 Wu Rw hph4 Rz hno4;have K10:=aG.new wr 53 SX;have hx10:Ext wr (wr.alloc (.cells SX 53)):=aj (Below.refl _ _) _;go_upto_region 6 with (fail);go_upto_region 7 with (first | ((with_reducible refine (Qp.out _).mono ?_);rintro e w2 ⟨rfl,rfl⟩) | (refine ay rfl _ _ rfl bs (os+i0*21) rfl SX (aC ⟨fO,own,⟨pe,ph,lo,hi,no,tu,sl⟩,wi,st,ch,su,rH,sh,se,wa,co,ho,sw,ra⟩) kF.out _ HCS.out Tryz.underlying53 rfl aQ ?_) | (refine aS rfl 53 _ _ rfl _ SX rfl rfl (by rw[HS2.out];exact aQ) (by rw[HS2.out];rfl) Dx.out ?_));dsimp only[Act.put];obtain⟨g10,hg10⟩:∃k,k=wr.heap.size:=⟨_,rfl⟩;rw[←hg10]at K10⊢;generalize wr.alloc (.cells SX 53)=W at K10 hx10⊢;have hB:=Ext.trans hB hx10;have HR:=Lib.hid (bT HR.out hx10);have v1:=ah hx10 v1;have v2:=ah hx10 v2;have v3:=ah hx10 v3;have s0:W.cell? ⟨g10,0,none⟩=some (.int .i64 fO):=(K10.cell 0).trans (by rw[←kF.out];rfl);have s2:W.cell? ⟨g10,2,none⟩=some (.int .i64 pe):=(K10.cell 2).trans (by rw[←kF.out];rfl);have s3:W.cell? ⟨g10,3,none⟩=some (.int .i64 ph):=(K10.cell 3).trans (by rw[←kF.out];rfl);have s4:W.cell? ⟨g10,4,none⟩=some (.int .i64 lo):=(K10.cell 4).trans (by rw[←kF.out];rfl);have s5:W.cell? ⟨g10,5,none⟩=some (.int .i64 hi):=(K10.cell 5).trans (by rw[←kF.out];rfl);have s6:W.cell? ⟨g10,6,none⟩=some (.int .i64 no):=(K10.cell 6).trans (by rw[←kF.out];rfl);have s7:W.cell? ⟨g10,7,none⟩=some (.int .i64 tu):=(K10.cell 7).trans (by rw[←kF.out];rfl);have s8:W.cell? ⟨g10,8,none⟩=some (.int .i64 sl):=(K10.cell 8).trans (by rw[←kF.out];rfl);clear hx10 hg10 HCS;have rP:=HKN1.out;go_wp2_with fail;refine (HP2.out _).mono ?_;rintro e w2 ⟨rfl,rfl⟩;go_upto_region 8 with (fail);clear rP v2;have w1_:IntKind.i64.wrap (fr+p1)=fr+p1:=IntWalk.i64_in _ (by omega);refine aF 16 [some (.pointer (some ⟨g10,0,none⟩)),some (.int .i64 fO),some (.int .i64 fr),some (.slice (some ⟨bx,ox,none⟩) n c),some (.int .i64 (k:Int)),some (.pointer (some ⟨bx,ox+k*4,none⟩)),some (.pointer (some ⟨bx,ox+k*4+1,none⟩)),some (.int .i64 a1),some (.int .i64 p1),some (.int .i64 (fr+p1)),some (.int .i64 fr2),some (.int .i64 kn2),some (.pointer (some ⟨g10,2,none⟩)),some (.agg #[.int .i64 pe,.int .i64 ph,.int .i64 lo,.int .i64 hi,.int .i64 no,.int .i64 tu,.int .i64 sl]),some (.agg #[.int .i64 fO,.int .i64 fr2,.int .i64 kn2,.int .i64 pe,.int .i64 ph,.int .i64 lo,.int .i64 hi,.int .i64 no,.int .i64 tu,.int .i64 sl]),none] [(15,.w fun v w1=>∃g,v=.pointer (some ⟨g,0,none⟩)∧W.heap.size≤g∧aG w1 g 66 #[.int .i64 0,.int .i64 0,.int .i64 0,.int .i64 0,.int .i64 0,.int .i64 0,.int .i64 0,.int .i64 0,.int .i64 0,.int .i64 0])] ?_ ?_ ?_
    ·refine⟨?_,trivial⟩
     ·intro v w1 w2 hr hx;obtain⟨g,h1,h2,h3⟩:=hr;exact⟨g,h1,h2,h3.ext hx⟩
    ·refine⟨?_,?_,?_,?_,?_,?_,?_,?_,?x8,?_,?x10,?_,?_,?_,?_,?x15,trivial⟩
     case x8 =>
      intro vals w1 hx hd;clear hd;simp only[Lf,au,Act.put,bH,bG];go_wp2_with fail;refine (wV.out _).mono ?_;rintro e w2 ⟨rfl,rfl⟩;go_wp2;exact q_
     case x10 =>
      intro vals w1 hx hd;clear hd;simp only[Lf,au,Act.put,bH,bG];have hfr3:=HFR3.out;go_wp2;exact iq
     case x15 =>
      intro vals w1 hx hd;clear hd;simp only[Lf,au,Act.put,bH,bG];have hz:=Below.size hx.aH;go_wp2;exact⟨rfl,(by repeat (first | exact Below.refl _ _ | assumption | refine Below.drew ?_ | refine below_drewN ?_ _ | refine aj ?_ _ | refine Below.setCell ?_ (by first | (simp;done) | omega | (simp;omega)) _ | refine aA ?_ (by assumption))),_,rfl,by omega,aG.new _ _ _⟩
     all_goals
      intro vals w1 hx hd;clear hd;simp only[Lf,au,Act.put,bH,bG];have s0:=ah hx s0;have v1:=ah hx v1;have s2:=ah hx s2;have s3:=ah hx s3;have s4:=ah hx s4;have s5:=ah hx s5;have s6:=ah hx s6;have s7:=ah hx s7;have s8:=ah hx s8;go_wp2;exact iq
    intro vals w3 hx hf;have e14:vals 14=.agg #[.int .i64 fO,.int .i64 fr2,.int .i64 kn2,.int .i64 pe,.int .i64 ph,.int .i64 lo,.int .i64 hi,.int .i64 no,.int .i64 tu,.int .i64 sl]:=hf 14 (by omega);obtain⟨g11,e15,hg11,J⟩:∃g,vals 15=.pointer (some ⟨g,0,none⟩)∧W.heap.size≤g∧aG w3 g 66 #[.int .i64 0,.int .i64 0,.int .i64 0,.int .i64 0,.int .i64 0,.int .i64 0,.int .i64 0,.int .i64 0,.int .i64 0,.int .i64 0]:=hf 15 (by omega);have hE:=hx.aH;clear hf hx v1 w1_ s0 s2 s3 s4 s5 s6 s7 s8;refine eP 16 _ (by kernel_rfl) (by kernel_rfl) rfl ?_;simp only[Lf,au,Act.put,FR_];rw[e14,e15];clear e14 e15;refine wpList_store_row rfl 66 _ _ rfl g11 #[.int .i64 fO,.int .i64 fr2,.int .i64 kn2,.int .i64 pe,.int .i64 ph,.int .i64 lo,.int .i64 hi,.int .i64 no,.int .i64 tu,.int .i64 sl] rfl rfl 66 _ J kQ rfl (by simp[Value.oneCell']) ?_;have J:=J.row #[.int .i64 fO,.int .i64 fr2,.int .i64 kn2,.int .i64 pe,.int .i64 ph,.int .i64 lo,.int .i64 hi,.int .i64 no,.int .i64 tu,.int .i64 sl];have hE:=below_setRow hE hg11 #[.int .i64 fO,.int .i64 fr2,.int .i64 kn2,.int .i64 pe,.int .i64 ph,.int .i64 lo,.int .i64 hi,.int .i64 no,.int .i64 tu,.int .i64 sl];generalize w3.setRow g11 #[.int .i64 fO,.int .i64 fr2,.int .i64 kn2,.int .i64 pe,.int .i64 ph,.int .i64 lo,.int .i64 hi,.int .i64 no,.int .i64 tu,.int .i64 sl]=w4 at J hE⊢;go_upto_region 9 with (fail);have Nu:=ah hE v3;have o4:w4.cell? ⟨g11,4,none⟩=some (.int .i64 ph):=J.cell 4;have o3:w4.cell? ⟨g11,3,none⟩=some (.int .i64 pe):=J.cell 3;have Gt:IntKind.i64.wrap (ph+p3)=ph+p3:=IntWalk.i64_in _ (by omega);refine aF 16 [some (.pointer (some ⟨g11,3,none⟩)),some (.pointer (some ⟨g11,4,none⟩)),some (.int .i64 ph),some (.slice (some ⟨bx,ox,none⟩) n c),some (.int .i64 (k:Int)),some (.pointer (some ⟨bx,ox+k*4,none⟩)),some (.pointer (some ⟨bx,ox+k*4+3,none⟩)),some (.int .i64 a3),some (.int .i64 p3),some (.int .i64 (ph+p3)),some (.pointer (some ⟨g11,3,none⟩)),some (.pointer (some ⟨g11,3,none⟩)),some (.int .i64 pe),some (.int .i64 ph2),some (.pointer (some ⟨g11,3,none⟩)),some (.pointer (some ⟨g11,4,none⟩))] [] ?_ ?_ ?_
    ·trivial
    ·refine⟨?_,?_,?_,?_,?_,?_,?_,?_,?x8,?_,?_,?_,?_,?x13,?_,?_,trivial⟩
     case x8 =>
      intro vals w1 hx hd;clear hd;simp only[Lf,au,Act.put,bH,bG];go_wp2_with fail;refine (Vk.out _).mono ?_;rintro e w2 ⟨rfl,rfl⟩;go_wp2;exact q_
     case x13 =>
      intro vals w1 hx hd;clear hd;simp only[Lf,au,Act.put,bH,bG];have hq1:=HPH4.out;have hq2:=HPH3.out;go_wp2;exact iq
     all_goals
      intro vals w1 hx hd;clear hd;simp only[Lf,au,Act.put,bH,bG];have o4:=ah hx o4;have Nu:=ah hx Nu;have o3:=ah hx o3;go_wp2;exact iq
    intro vals w5 hx hf;have hx:=hx.aH;have ev:vals 13=.int .i64 ph2:=hf 13 (by omega);have ep:vals 15=.pointer (some ⟨g11,4,none⟩):=hf 15 (by omega);have J:=J.ext hx;have hE:=Ext.trans hE hx;clear hf hx Nu o4 o3 Gt;refine eP 16 _ (by kernel_rfl) (by kernel_rfl) rfl ?_;simp only[Lf,au,Act.put,FR_];rw[ev,ep];clear ev ep;have f0:w5.frozen? ⟨g11,4,none⟩=false:=J.frozen 4;have c0:w5.cell? ⟨g11,4,none⟩=some (.int .i64 ph):=J.cell 4;go_upto_region 10 with (fail);clear f0 c0;have J:=J.cZ 4 (.int .i64 ph2);have hE:=hE.setCell (p:=⟨g11,4,none⟩) (by show W.heap.size≤g11;omega) (.int .i64 ph2);simp only[List.setIfInBounds_toArray,List.set_cons_zero,List.set_cons_succ]at J;generalize w5.setCell ⟨g11,4,none⟩ (.int .i64 ph2)=w6 at J hE⊢;have Nu:=ah hE v3;have o7:w6.cell? ⟨g11,7,none⟩=some (.int .i64 no):=J.cell 7;have Gt:IntKind.i64.wrap (1000*p4)=1000*p4:=IntWalk.i64_in _ (by omega);have u2_:IntKind.i64.wrap (no+1000*p4)=no+1000*p4:=IntWalk.i64_in _ (by omega);refine aF 15 [some (.pointer (some ⟨g11,3,none⟩)),some (.pointer (some ⟨g11,7,none⟩)),some (.int .i64 no),some (.slice (some ⟨bx,ox,none⟩) n c),some (.int .i64 (k:Int)),some (.pointer (some ⟨bx,ox+k*4,none⟩)),some (.pointer (some ⟨bx,ox+k*4+3,none⟩)),some (.int .i64 a3),some (.int .i64 xd7),some (.int .i64 p4),some (.int .i64 (1000*p4)),some (.int .i64 (no+1000*p4)),some (.int .i64 no2),some (.pointer (some ⟨g11,3,none⟩)),some (.pointer (some ⟨g11,7,none⟩))] [] ?_ ?_ ?_
    ·trivial
    ·refine⟨?_,?_,?_,?_,?_,?_,?_,?_,?x8,?x9,?_,?_,?x12,?_,?_,trivial⟩
     case x8 =>
      intro vals w1 hx hd;clear hd;simp only[Lf,au,Act.put,bH,bG];have hq1:=HQ7.out;go_wp2;exact iq
     case x9 =>
      intro vals w1 hx hd;clear hd;simp only[Lf,au,Act.put,bH,bG];go_wp2_with fail;refine (Vl.out _).mono ?_;rintro e w2 ⟨rfl,rfl⟩;go_wp2;exact q_
     case x12 =>
      intro vals w1 hx hd;clear hd;simp only[Lf,au,Act.put,bH,bG];have hq1:=HNO4.out;have hq2:=HNO3.out;go_wp2;refine⟨rfl,Ext.refl _,congrArg (Value.int .i64) ?_⟩;have hq2:=HNO3.out;omega
     all_goals
      intro vals w1 hx hd;clear hd;simp only[Lf,au,Act.put,bH,bG];have o7:=ah hx o7;have Nu:=ah hx Nu;go_wp2;exact iq
    intro vals w7 hx hf;have hx:=hx.aH;have ev:vals 12=.int .i64 no2:=hf 12 (by omega);have ep:vals 14=.pointer (some ⟨g11,7,none⟩):=hf 14 (by omega);have J:=J.ext hx;have hE:=Ext.trans hE hx;clear hf hx Nu o7 Gt u2_;refine eP 15 _ (by kernel_rfl) (by kernel_rfl) rfl ?_;simp only[Lf,au,Act.put,FR_];rw[ev,ep];clear ev ep;have f0:w7.frozen? ⟨g11,7,none⟩=false:=J.frozen 7;have c0:w7.cell? ⟨g11,7,none⟩=some (.int .i64 no):=J.cell 7;go_upto_region 11 with (fail);clear f0 c0;have J:=J.cZ 7 (.int .i64 no2);have hE:=hE.setCell (p:=⟨g11,7,none⟩) (by show W.heap.size≤g11;omega) (.int .i64 no2);simp only[List.setIfInBounds_toArray,List.set_cons_zero,List.set_cons_succ]at J;generalize w7.setCell ⟨g11,7,none⟩ (.int .i64 no2)=w8 at J hE⊢;have Nu:=ah hE v3;have o9:w8.cell? ⟨g11,9,none⟩=some (.int .i64 sl):=J.cell 9;have Gt:IntKind.i64.wrap (sl+p5)=sl+p5:=IntWalk.i64_in _ (by omega);refine aF 14 [some (.pointer (some ⟨g11,3,none⟩)),some (.pointer (some ⟨g11,9,none⟩)),some (.int .i64 sl),some (.slice (some ⟨bx,ox,none⟩) n c),some (.int .i64 (k:Int)),some (.pointer (some ⟨bx,ox+k*4,none⟩)),some (.pointer (some ⟨bx,ox+k*4+3,none⟩)),some (.int .i64 a3),some (.int .i64 xd28),some (.int .i64 p5),some (.int .i64 (sl+p5)),some (.int .i64 sl2),some (.pointer (some ⟨g11,3,none⟩)),some (.pointer (some ⟨g11,9,none⟩))] [] ?_ ?_ ?_
    ·trivial
    ·refine⟨?_,?_,?_,?_,?_,?_,?_,?_,?x8,?x9,?_,?x11,?_,?_,trivial⟩
     case x8 =>
      intro vals w1 hx hd;clear hd;simp only[Lf,au,Act.put,bH,bG];have hq1:=HQ28.out;go_wp2;exact iq
     case x9 =>
      intro vals w1 hx hd;clear hd;simp only[Lf,au,Act.put,bH,bG];go_wp2_with fail;refine (Vm.out _).mono ?_;rintro e w2 ⟨rfl,rfl⟩;go_wp2;exact q_
     case x11 =>
      intro vals w1 hx hd;clear hd;simp only[Lf,au,Act.put,bH,bG];have hq1:=HSL3.out;go_wp2;exact iq
     all_goals
      intro vals w1 hx hd;clear hd;simp only[Lf,au,Act.put,bH,bG];have o9:=ah hx o9;have Nu:=ah hx Nu;go_wp2;exact iq
    intro vals w9 hx hf;have hx:=hx.aH;have ev:vals 11=.int .i64 sl2:=hf 11 (by omega);have ep:vals 13=.pointer (some ⟨g11,9,none⟩):=hf 13 (by omega);have J:=J.ext hx;have hE:=Ext.trans hE hx;clear hf hx Nu o9 Gt;refine eP 14 _ (by kernel_rfl) (by kernel_rfl) rfl ?_;simp only[Lf,au,Act.put,FR_];rw[ev,ep];clear ev ep;have f0:w9.frozen? ⟨g11,9,none⟩=false:=J.frozen 9;have c0:w9.cell? ⟨g11,9,none⟩=some (.int .i64 sl):=J.cell 9;go_upto_region 12 with (fail);clear f0 c0;have J:=J.cZ 9 (.int .i64 sl2);have hE:=hE.setCell (p:=⟨g11,9,none⟩) (by show W.heap.size≤g11;omega) (.int .i64 sl2);simp only[List.setIfInBounds_toArray,List.set_cons_zero,List.set_cons_succ]at J;generalize w9.setCell ⟨g11,9,none⟩ (.int .i64 sl2)=w10 at J hE⊢;obtain⟨U,hU⟩:∃X,(aI ⟨fO,fr2,kn2,⟨pe,ph2,lo,hi,no2,tu,sl2⟩⟩).toArray=X:=⟨_,rfl⟩;have JU:aG w10 g11 66 U:=by rw[←hU];exact J
    have HJU:=Lib.hid JU;have hB10:=Ext.trans hB hE;have ZU:=bT HR.out hE;obtain⟨A5,c5,hv5,_,_⟩:=aX ZU;subst hv5;have hlen:=HUL.out;obtain⟨v5,w11,hrun,hown,hext⟩:=Wj 30 (.slice A5 k c5) (uD sats fr x k) _ U hU hB10 (by rw[hlen];exact ZU) (by rw[hlen];omega);rw[hlen,←HUS.out]at hown;have HU:=Lib.hid hU;have HUZ:Hid (U.size=10):=Lib.hid (by rw[←hU];rfl);have jY:=Lib.hid hrun;have HOWN:=Lib.hid hown;clear hU hrun hown hlen J JU ZU;go_wp2_with (first | (refine ay rfl _ _ rfl g11 0 rfl U (aI ⟨fO,fr2,kn2,⟨pe,ph2,lo,hi,no2,tu,sl2⟩⟩) HU.out _ (aG.range HJU.out (aI ⟨fO,fr2,kn2,⟨pe,ph2,lo,hi,no2,tu,sl2⟩⟩) (by rw[←HU.out])) Tryz.underlying66 rfl kQ ?_) | (refine bY rfl _ _ _ rfl U rfl Tryz.underlying30 10 DF HUZ.out (by omega) (by omega) ?_) | (refine aP rfl _ _ _ rfl rfl rfl jY.out ?_));go_roundw
    case rel=>exact⟨k+1,by omega,by rw[HG2.out],by go_num,HOWN,hext⟩
    case measure=>simp[intOf];omega
   ·have hkm:k=m:=by omega
    have HE:=HR;clear HR;by_cases hkn:k<n
    ·have hk6:¬(k:Int)<6:=by have:=HM.out;omega
     have ZO:=Lib.hid hkm;clear hkm hus rP;go_wp2;go_ret;exact⟨_,rfl,by rw[←ZO.out,Ws];exact HE.out,hB⟩
    ·have ZO:=Lib.hid hkm;clear hkm hus rP;go_wp2;go_ret;exact⟨_,rfl,by rw[←ZO.out,Ws];exact HE.out,hB⟩
end Go.Proofs.YtjidhhfabfnhnaaGreat
namespace Go.Proofs.YtjidhhfabfnhnaaGreat
open Go.RowKit
theorem aB {α:Type} {cells:α→List Value} {s:Nat} {W W':World} {n c:Nat} {A:Option Addr} {l:List α} (h:RA cells s W W.heap.size A n c l) (hx:Ext W W'):RA cells s W' W'.heap.size A n c l:=(h.below hx).more (Below.size hx)
theorem aG.part {w:World} {g:Nat} {t:TypeId} {X:Array Value} (h:aG w g t X) (o:Nat) (l:List Value) (hp:∀j v,l[j]?=some v→X[o+j]?=some v):w.rangeAt g o l:=fun j v hv=>by rw[h.cell];exact hp j v hv
theorem Wy (x:St) (A:Option Addr) (n c:Nat) (kn:Int):∀j v,(aN x.aY)[j]?=some v→(dZ x A n c kn).toArray[2+j]?=some v:=by
 intro j v h;have hj:j<7:=(List.getElem?_eq_some_iff.1 h).1
 match j,hj with
 |0,_=>exact h
 |1,_=>exact h
 |2,_=>exact h
 |3,_=>exact h
 |4,_=>exact h
 |5,_=>exact h
 |6,_=>exact h
theorem Nv (u:fE):∀j v,(aN u.eY)[j]?=some v→(aI u).toArray[3+j]?=some v:=by
 intro j v h;have hj:j<7:=(List.getElem?_eq_some_iff.1 h).1
 match j,hj with
 |0,_=>exact h
 |1,_=>exact h
 |2,_=>exact h
 |3,_=>exact h
 |4,_=>exact h
 |5,_=>exact h
 |6,_=>exact h
theorem zi (o:iM) (X:Array Value) (h:(aN o).toArray=X):X.size=7∧X.all (·.oneCell')=true:=by
 subst h;exact⟨rfl,vI o⟩
set_option maxRecDepth 100000 in
set_option maxHeartbeats 2000000 in
theorem Nw (x:St) (l:List fE) (A:Option Addr) (n c:Nat) (kn t:Int) (w:World) (h:RA aI 10 w w.heap.size A n c l) :
  Calls Tryz.prog 53 #[.agg (dZ x A n c kn).toArray,.int .i64 t] w fun e w'=>e=.returned (.agg (aN (fK x l kn t)).toArray)∧Ext w w':=by
 have hpo:=Wy x A n c kn;obtain⟨P,hP⟩:∃P,P=(dZ x A n c kn).toArray:=⟨_,rfl⟩;have p0:P[0]?=some (.int .i64 x.id):=by rw[hP];rfl
 have p21:P[21]?=some (.slice A n c):=by rw[hP];rfl
 have p22:P[22]?=some (.int .i64 kn):=by rw[hP];rfl
 rw[←hP]at hpo⊢;clear hP;have hxa:Ext w (w.alloc (.cells P 117)):=aj (Below.refl _ _) _;have hxb:Ext (w.alloc (.cells P 117)) ((w.alloc (.cells P 117)).alloc (.cells #[.int .i64 t] 3)):=aj (Below.refl _ _) _;have hxc:Ext ((w.alloc (.cells P 117)).alloc (.cells #[.int .i64 t] 3)) (((w.alloc (.cells P 117)).alloc (.cells #[.int .i64 t] 3)).alloc (.cells #[.int .i64 0,.int .i64 0,.int .i64 0,.int .i64 0,.int .i64 0,.int .i64 0,.int .i64 0] 51)):=aj (Below.refl _ _) _;have J2:=((aG.new w 117 P).ext hxb).ext hxc;have J3:=(aG.new (w.alloc (.cells P 117)) 3 #[.int .i64 t]).ext hxc;have J4:=aG.new ((w.alloc (.cells P 117)).alloc (.cells #[.int .i64 t] 3)) 51 #[.int .i64 0,.int .i64 0,.int .i64 0,.int .i64 0,.int .i64 0,.int .i64 0,.int .i64 0];have hx3:=Ext.trans hxa (Ext.trans hxb hxc);simp only[World.size_alloc]at J3 J4;have xg:=Lib.hid h;have hO:∀R,R=fF x.id kn t l none→fK x l kn t=(match R with | none=>x.aY | some u=>u.eY):=by rintro _ rfl;rfl
 obtain⟨R,hR⟩:∃R,R=fF x.id kn t l none:=⟨_,rfl⟩;rw[hO R hR];have HRR:=Lib.hid hR;have hg4:w.heap.size≤w.heap.size+1+1:=by omega
 have h24:w.heap.size<w.heap.size+1+1:=by omega
 clear h hxa hxb hxc hO hR;go_enter Tryz.func53,Tryz.ntmps53;go_upto_region 1 with (fail);generalize ((w.alloc (.cells P 117)).alloc (.cells #[.int .i64 t] 3)).alloc (.cells #[.int .i64 0,.int .i64 0,.int .i64 0,.int .i64 0,.int .i64 0,.int .i64 0,.int .i64 0] 51)=W3 at J2 J3 J4 hx3⊢;generalize w.heap.size+1+1=g4 at J4 hg4 h24⊢;generalize w.heap.size+1=g3 at J3⊢;obtain⟨g2,hg2⟩:∃g,g=w.heap.size:=⟨_,rfl⟩;rw[←hg2]at J2 h24⊢;have jv:=Lib.hid (last_any x.id kn t g2 g3 P p0 p22 l A n c W3 J2 J3 (aB xg.out hx3));rw[←HRR.out]at jv;have a21:W3.cell? ⟨g2,21,none⟩=some (.slice A n c):=by rw[J2.cell];exact p21
 have HG4:=Lib.hid hg4;have HPO:=Lib.hid hpo;have HJ2:=Lib.hid J2;have qY:=Lib.hid J4;clear hg2 J3 J2 J4 p0 p21 p22 hg4 hpo;go_wp2_with fail;refine jv.out.mono ?_;rintro e W4 ⟨rfl,hy⟩;have hx4:=Ext.trans hx3 hy;obtain⟨X,hX⟩:∃X,(aI (R.getD zU)).toArray=X:=⟨_,rfl⟩;obtain⟨tH,hX1⟩:=oZ _ X hX;rw[hX];have iP:=Lib.hid hX;have qg:=Lib.hid tH;have kC:=Lib.hid hX1;have HJ2:=Lib.hid (HJ2.out.ext hy);have qY:=Lib.hid (qY.out.ext hy);have hxd:Ext W4 (W4.alloc (.cells X 66)):=aj (Below.refl _ _) _;have KX:=aG.new W4 66 X;clear hx3 hy a21 jv hX tH hX1;go_upto_region 3 with (refine aS rfl 66 _ _ rfl _ X rfl rfl (by rw[qg.out];exact dF) (by rw[qg.out];rfl) kC.out ?_);have hx5:=Ext.trans hx4 hxd;have HJ2:=Lib.hid (HJ2.out.ext hxd);have qY:=Lib.hid (qY.out.ext hxd);have HK:=Lib.hid KX;generalize W4.heap.size=g6 at HK⊢;generalize W4.alloc (.cells X 66)=W5 at HK HJ2 qY hx5⊢;clear hx4 hxd KX;have yZ:=Lib.hid hx5;clear hx5;cases R with
 |none =>
  obtain⟨Y,hY⟩:∃Y,(aN x.aY).toArray=Y:=⟨_,rfl⟩;obtain⟨hYs,Jw⟩:=zi _ Y hY;have vC:=Lib.hid hY;have Gs:=Lib.hid hYs;have V8:=Lib.hid Jw;have JN:=qY.out.row Y;have hxn:=below_setRow yZ.out (g:=g4) HG4.out Y;clear hY hYs Jw;go_wp2_with (first | (refine ay rfl _ _ rfl g2 2 rfl Y (aN x.aY) vC.out _ (aG.part HJ2.out 2 _ HPO.out) Tryz.underlying51 rfl aZ ?_) | (refine wpList_store_row rfl 51 _ _ rfl g4 Y rfl rfl 51 _ qY.out (by rw[Gs.out];exact aZ) (by rw[Gs.out];rfl) V8.out ?_));exact bodyPost_ret (gG Tryz.results53 _ _ g4 Y rfl JN _ Tryz.underlying51 rfl (by rw[Gs.out];exact aZ)) rfl ⟨by rw[vC.out],hxn⟩
 |some u =>
  obtain⟨Y,hY⟩:∃Y,(aN u.eY).toArray=Y:=⟨_,rfl⟩;obtain⟨hYs,Jw⟩:=zi _ Y hY;have vC:=Lib.hid hY;have Gs:=Lib.hid hYs;have V8:=Lib.hid Jw;have JN:=qY.out.row Y;have hxn:=below_setRow yZ.out (g:=g4) HG4.out Y;have hpu:∀j v,(aN u.eY)[j]?=some v→X[3+j]?=some v:=by rw[←iP.out];exact Nv u
  have ZV:=Lib.hid hpu;clear hY hYs Jw hpu;go_wp2_with (first | (refine ay rfl _ _ rfl g6 3 rfl Y (aN u.eY) vC.out _ (aG.part HK.out 3 _ ZV.out) Tryz.underlying51 rfl aZ ?_) | (refine wpList_store_row rfl 51 _ _ rfl g4 Y rfl rfl 51 _ qY.out (by rw[Gs.out];exact aZ) (by rw[Gs.out];rfl) V8.out ?_));exact bodyPost_ret (gG Tryz.results53 _ _ g4 Y rfl JN _ Tryz.underlying51 rfl (by rw[Gs.out];exact aZ)) rfl ⟨by rw[vC.out],hxn⟩
end Go.Proofs.YtjidhhfabfnhnaaGreat
