/- The region rule inside a round of a range over a function (printed by mk_reg6.py). -/
import Derived.Test.YtjidhhfabfnhnaaGreatT06
import Derived.Laws.Rows
import Derived.Test.YtjidhhfabfnhnaaGreatT01
import Derived.Test.YtjidhhfabfnhnaaGreatT05
import Derived.RangeFuncNested
import Derived.RangeFuncCalls
import Derived.OrdersIn
import Derived.OwnWalkIn
namespace Go.Proofs.YtjidhhfabfnhnaaGreat
open Go.RowKit
theorem rM {P:Program} {w:World} {g:Nat} {t:TypeId} {X:Array Value} (J:aG w g t X) (d:TypeDesc) (hu:P.underlying t=some d) (hd:d.isRow=true) (hi:(P.info? t).map (·.size)=some X.size):(loadVar t ⟨g,0,none⟩).run P w=.ok (.agg X) w :=
 run_loadVar_row w g t t X (0,0) d J hu (by cases d<;>first | rfl | exact hd) hi
theorem gG {P:Program} {fn:Func} {p:Tmp} {t:TypeId} (h:fn.results=#[.cell p t]) (tmps:Array Value) (w:World) (g:Nat) (X:Array Value) (hp:tmps.getD p undef=.pointer (some ⟨g,0,none⟩)) (J:aG w g t X) (d:TypeDesc) (hu:P.underlying t=some d) (hd:d.isRow=true) (hi:(P.info? t).map (·.size)=some X.size) :
  (results fn tmps).run P w=.ok (.agg X) w:=by
 have hl:=rM J d hu hd hi;have hp':tmps[p]?.getD undef=.pointer (some ⟨g,0,none⟩):=by simpa using hp
 simp only[results,h];simp[hp',asAddr,hl]
def EO (id x0 x1 x2 x3 x4 x5 x6 y0 y1 y2 y3:Int):St:=⟨aO id 24,aO y0 4,zQ x0 x1 x2 x3 x4 x5 x6,aO y0 4,20+aO y1 200,100+aO y1 2000,aO y2 12,aO y2 4,2+aO y2 30,1+aO y3 20,1+aO y3 9,1+aO y3 4,5+aO y1 60,aO (y0.tdiv 4) 4,1+aO y2 9⟩
set_option maxHeartbeats 4000000 in
set_option maxRecDepth 100000 in
theorem Nr (id x0 x1 x2 x3 x4 x5 x6 y0 y1 y2 y3:Int) (w:World) (bid:dG id) (bx0:dG x0) (bx1:dG x1) (bx2:dG x2) (bx3:dG x3) (bx4:dG x4) (bx5:dG x5) (bx6:dG x6) (by0:dG y0) (by1:dG y1) (by2:dG y2) (by3:dG y3) :
  Calls Tryz.prog 92 #[.int .i64 id,.agg #[.int .i64 x0,.int .i64 x1,.int .i64 x2,.int .i64 x3,.int .i64 x4,.int .i64 x5,.int .i64 x6],.agg #[.int .i64 y0,.int .i64 y1,.int .i64 y2,.int .i64 y3]] w fun e w'=>e=.returned (.agg (aC (EO id x0 x1 x2 x3 x4 x5 x6 y0 y1 y2 y3)).toArray)∧Below w.heap.size w w':=by
 have hm:=fun w=>Q5 x0 x1 x2 x3 x4 x5 x6 w bx0 bx1 bx2 bx3 bx4 bx5 bx6;unfold EO aC;dsimp only;generalize zQ x0 x1 x2 x3 x4 x5 x6=om at hm⊢;obtain⟨o0,o1,o2,o3,o4,o5,o6⟩:=om;unfold ZB at hm;dsimp only[I64]at hm⊢;have HM:=Lib.hid hm;clear hm;obtain⟨byd,hwd⟩:=tC by0 (n:=4) (by omega);obtain⟨yd,V7⟩:∃y,y=y0.tdiv 4:=⟨_,rfl⟩;rw[←V7]at byd hwd⊢;have P0:=fun w=>dS id 24 w bid.1 bid.2 (by omega) (by omega);have q0:=aJ id 24 (by omega);generalize aO id 24=p0 at P0 q0⊢;obtain⟨q0a,q0b⟩:=q0;have Qp:=Lib.hid P0;clear P0;have P1:=fun w=>dS y0 4 w by0.1 by0.2 (by omega) (by omega);have q1:=aJ y0 4 (by omega);generalize aO y0 4=p1 at P1 q1⊢;obtain⟨q1a,q1b⟩:=q1;have wV:=Lib.hid P1;clear P1;have P2:=fun w=>dS y1 200 w by1.1 by1.2 (by omega) (by omega);have q2:=aJ y1 200 (by omega);generalize aO y1 200=p2 at P2 q2⊢;obtain⟨q2a,q2b⟩:=q2;have HP2:=Lib.hid P2;clear P2;have P3:=fun w=>dS y1 2000 w by1.1 by1.2 (by omega) (by omega);have q3:=aJ y1 2000 (by omega);generalize aO y1 2000=p3 at P3 q3⊢;obtain⟨q3a,q3b⟩:=q3;have Vk:=Lib.hid P3;clear P3;have P4:=fun w=>dS y2 12 w by2.1 by2.2 (by omega) (by omega);have q4:=aJ y2 12 (by omega);generalize aO y2 12=p4 at P4 q4⊢;obtain⟨q4a,q4b⟩:=q4;have Vl:=Lib.hid P4;clear P4;have P5:=fun w=>dS y2 4 w by2.1 by2.2 (by omega) (by omega);have q5:=aJ y2 4 (by omega);generalize aO y2 4=p5 at P5 q5⊢;obtain⟨q5a,q5b⟩:=q5;have Vm:=Lib.hid P5;clear P5;have P6:=fun w=>dS y2 30 w by2.1 by2.2 (by omega) (by omega);have q6:=aJ y2 30 (by omega);generalize aO y2 30=p6 at P6 q6⊢;obtain⟨q6a,q6b⟩:=q6;have HP6:=Lib.hid P6;clear P6;have P7:=fun w=>dS y3 20 w by3.1 by3.2 (by omega) (by omega);have q7:=aJ y3 20 (by omega);generalize aO y3 20=p7 at P7 q7⊢;obtain⟨q7a,q7b⟩:=q7;have HP7:=Lib.hid P7;clear P7;have P8:=fun w=>dS y3 9 w by3.1 by3.2 (by omega) (by omega);have q8:=aJ y3 9 (by omega);generalize aO y3 9=p8 at P8 q8⊢;obtain⟨q8a,q8b⟩:=q8;have HP8:=Lib.hid P8;clear P8;have P9:=fun w=>dS y3 4 w by3.1 by3.2 (by omega) (by omega);have q9:=aJ y3 4 (by omega);generalize aO y3 4=p9 at P9 q9⊢;obtain⟨q9a,q9b⟩:=q9;have HP9:=Lib.hid P9;clear P9;have P10:=fun w=>dS y1 60 w by1.1 by1.2 (by omega) (by omega);have q10:=aJ y1 60 (by omega);generalize aO y1 60=p10 at P10 q10⊢;obtain⟨q10a,q10b⟩:=q10;have HP10:=Lib.hid P10;clear P10;have P11:=fun w=>dS yd 4 w byd.1 byd.2 (by omega) (by omega);have q11:=aJ yd 4 (by omega);generalize aO yd 4=p11 at P11 q11⊢;obtain⟨q11a,q11b⟩:=q11;have HP11:=Lib.hid P11;clear P11;have P12:=fun w=>dS y2 9 w by2.1 by2.2 (by omega) (by omega);have q12:=aJ y2 9 (by omega);generalize aO y2 9=p12 at P12 q12⊢;obtain⟨q12a,q12b⟩:=q12;have HP12:=Lib.hid P12;clear P12;have z2:IntKind.i64.wrap (20+p2)=20+p2:=IntWalk.i64_in _ (by omega);have z3:IntKind.i64.wrap (100+p3)=100+p3:=IntWalk.i64_in _ (by omega);have z6:IntKind.i64.wrap (2+p6)=2+p6:=IntWalk.i64_in _ (by omega);have z7:IntKind.i64.wrap (1+p7)=1+p7:=IntWalk.i64_in _ (by omega);have z8:IntKind.i64.wrap (1+p8)=1+p8:=IntWalk.i64_in _ (by omega);have z9:IntKind.i64.wrap (1+p9)=1+p9:=IntWalk.i64_in _ (by omega);have z10:IntKind.i64.wrap (5+p10)=5+p10:=IntWalk.i64_in _ (by omega);have z12:IntKind.i64.wrap (1+p12)=1+p12:=IntWalk.i64_in _ (by omega);have hq:IntKind.i64.wrap (y0.tdiv 4)=yd:=by rw[←V7];exact hwd
 clear hwd;have HYD:=Lib.hid V7;clear V7;go_enter Tryz.func92,Tryz.ntmps92;go_upto_region 1 with (fail);obtain⟨g1,hg1⟩:∃g,g=w.heap.size:=⟨_,rfl⟩;obtain⟨g2,hg2⟩:∃g,g=w.heap.size+1:=⟨_,rfl⟩;obtain⟨g3,hg3⟩:∃g,g=w.heap.size+1+1:=⟨_,rfl⟩;have J1:aG (((w.alloc (.cells #[.int .i64 x0,.int .i64 x1,.int .i64 x2,.int .i64 x3,.int .i64 x4,.int .i64 x5,.int .i64 x6] 153)).alloc (.cells #[.int .i64 y0,.int .i64 y1,.int .i64 y2,.int .i64 y3] 151)).alloc (.cells #[.int .i64 0,.int .i64 0,.int .i64 0,.int .i64 0,.int .i64 0,.int .i64 0,.int .i64 0,.int .i64 0,.int .i64 0,.int .i64 0,.int .i64 0,.int .i64 0,.int .i64 0,.int .i64 0,.int .i64 0,.int .i64 0,.int .i64 0,.int .i64 0,.int .i64 0,.int .i64 0,.int .i64 0] 53)) g1 153 #[.int .i64 x0,.int .i64 x1,.int .i64 x2,.int .i64 x3,.int .i64 x4,.int .i64 x5,.int .i64 x6]:=((aG.bC _ _ _ hg1.symm).alloc _).alloc _;have J2:aG (((w.alloc (.cells #[.int .i64 x0,.int .i64 x1,.int .i64 x2,.int .i64 x3,.int .i64 x4,.int .i64 x5,.int .i64 x6] 153)).alloc (.cells #[.int .i64 y0,.int .i64 y1,.int .i64 y2,.int .i64 y3] 151)).alloc (.cells #[.int .i64 0,.int .i64 0,.int .i64 0,.int .i64 0,.int .i64 0,.int .i64 0,.int .i64 0,.int .i64 0,.int .i64 0,.int .i64 0,.int .i64 0,.int .i64 0,.int .i64 0,.int .i64 0,.int .i64 0,.int .i64 0,.int .i64 0,.int .i64 0,.int .i64 0,.int .i64 0,.int .i64 0] 53)) g2 151 #[.int .i64 y0,.int .i64 y1,.int .i64 y2,.int .i64 y3]:=(aG.bC _ _ _ (by simp[hg2])).alloc _;have J3:aG (((w.alloc (.cells #[.int .i64 x0,.int .i64 x1,.int .i64 x2,.int .i64 x3,.int .i64 x4,.int .i64 x5,.int .i64 x6] 153)).alloc (.cells #[.int .i64 y0,.int .i64 y1,.int .i64 y2,.int .i64 y3] 151)).alloc (.cells #[.int .i64 0,.int .i64 0,.int .i64 0,.int .i64 0,.int .i64 0,.int .i64 0,.int .i64 0,.int .i64 0,.int .i64 0,.int .i64 0,.int .i64 0,.int .i64 0,.int .i64 0,.int .i64 0,.int .i64 0,.int .i64 0,.int .i64 0,.int .i64 0,.int .i64 0,.int .i64 0,.int .i64 0] 53)) g3 53 #[.int .i64 0,.int .i64 0,.int .i64 0,.int .i64 0,.int .i64 0,.int .i64 0,.int .i64 0,.int .i64 0,.int .i64 0,.int .i64 0,.int .i64 0,.int .i64 0,.int .i64 0,.int .i64 0,.int .i64 0,.int .i64 0,.int .i64 0,.int .i64 0,.int .i64 0,.int .i64 0,.int .i64 0]:=aG.bC _ _ _ (by simp[hg3]);have hB:Below w.heap.size w (((w.alloc (.cells #[.int .i64 x0,.int .i64 x1,.int .i64 x2,.int .i64 x3,.int .i64 x4,.int .i64 x5,.int .i64 x6] 153)).alloc (.cells #[.int .i64 y0,.int .i64 y1,.int .i64 y2,.int .i64 y3] 151)).alloc (.cells #[.int .i64 0,.int .i64 0,.int .i64 0,.int .i64 0,.int .i64 0,.int .i64 0,.int .i64 0,.int .i64 0,.int .i64 0,.int .i64 0,.int .i64 0,.int .i64 0,.int .i64 0,.int .i64 0,.int .i64 0,.int .i64 0,.int .i64 0,.int .i64 0,.int .i64 0,.int .i64 0,.int .i64 0] 53)):=(by repeat (first | exact Below.refl _ _ | assumption | refine Below.drew ?_ | refine below_drewN ?_ _ | refine aj ?_ _ | refine Below.setCell ?_ (by first | (simp;done) | omega | (simp;omega)) _ | refine aA ?_ (by assumption)));have hl3:w.heap.size≤g3:=by omega
 rw[←hg3,←hg2,←hg1];generalize ((w.alloc (.cells #[.int .i64 x0,.int .i64 x1,.int .i64 x2,.int .i64 x3,.int .i64 x4,.int .i64 x5,.int .i64 x6] 153)).alloc (.cells #[.int .i64 y0,.int .i64 y1,.int .i64 y2,.int .i64 y3] 151)).alloc (.cells #[.int .i64 0,.int .i64 0,.int .i64 0,.int .i64 0,.int .i64 0,.int .i64 0,.int .i64 0,.int .i64 0,.int .i64 0,.int .i64 0,.int .i64 0,.int .i64 0,.int .i64 0,.int .i64 0,.int .i64 0,.int .i64 0,.int .i64 0,.int .i64 0,.int .i64 0,.int .i64 0,.int .i64 0] 53)=W at J1 J2 J3 hB⊢;clear hg1 hg2 hg3;have hl3W:g3<W.heap.size:=J3.lt;have k0:W.cell? ⟨g1,0,none⟩=some (.int .i64 x0):=J1.cell 0;have k1:W.cell? ⟨g1,1,none⟩=some (.int .i64 x1):=J1.cell 1;have k2:W.cell? ⟨g1,2,none⟩=some (.int .i64 x2):=J1.cell 2;have k3:W.cell? ⟨g1,3,none⟩=some (.int .i64 x3):=J1.cell 3;have k4:W.cell? ⟨g1,4,none⟩=some (.int .i64 x4):=J1.cell 4;have k5:W.cell? ⟨g1,5,none⟩=some (.int .i64 x5):=J1.cell 5;have k6:W.cell? ⟨g1,6,none⟩=some (.int .i64 x6):=J1.cell 6;have m0:W.cell? ⟨g2,0,none⟩=some (.int .i64 y0):=J2.cell 0;have m1:W.cell? ⟨g2,1,none⟩=some (.int .i64 y1):=J2.cell 1;have m2:W.cell? ⟨g2,2,none⟩=some (.int .i64 y2):=J2.cell 2;have m3:W.cell? ⟨g2,3,none⟩=some (.int .i64 y3):=J2.cell 3;obtain⟨SX,g_⟩:∃X,X=(#[.int .i64 p0,.int .i64 p1,.int .i64 o0,.int .i64 o1,.int .i64 o2,.int .i64 o3,.int .i64 o4,.int .i64 o5,.int .i64 o6,.int .i64 p1,.int .i64 (20+p2),.int .i64 (100+p3),.int .i64 p4,.int .i64 p5,.int .i64 (2+p6),.int .i64 (1+p7),.int .i64 (1+p8),.int .i64 (1+p9),.int .i64 (5+p10),.int .i64 p11,.int .i64 (1+p12)]:Array Value):=⟨_,rfl⟩;have hS1:SX.all (·.oneCell')=true:=by rw[g_];simp[Value.oneCell']
 have hS2:SX.size=21:=by rw[g_];rfl
 have kF:=Lib.hid g_;have Dx:=Lib.hid hS1;have HS2:=Lib.hid hS2;clear g_ hS1 hS2;refine iw 54 (fun ix vals v w1=>match ix with | 0=>v=.int .i64 id | 1=>v=.int .i64 p0 | 2=>v=.pointer (some ⟨g2,0,none⟩) | 3=>v=.int .i64 y0 | 4=>v=.int .i64 p1 | 5=>v=.agg #[.int .i64 x0,.int .i64 x1,.int .i64 x2,.int .i64 x3,.int .i64 x4,.int .i64 x5,.int .i64 x6] | 6=>v=.agg #[.int .i64 o0,.int .i64 o1,.int .i64 o2,.int .i64 o3,.int .i64 o4,.int .i64 o5,.int .i64 o6] | 7=>v=.pointer (some ⟨g2,0,none⟩) | 8=>v=.int .i64 y0 | 9=>v=.int .i64 p1 | 10=>v=.pointer (some ⟨g2,1,none⟩) | 11=>v=.int .i64 y1 | 12=>v=.int .i64 p2 | 13=>v=.int .i64 (20+p2) | 14=>v=.pointer (some ⟨g2,1,none⟩) | 15=>v=.int .i64 y1 | 16=>v=.int .i64 p3 | 17=>v=.int .i64 (100+p3) | 18=>v=.pointer (some ⟨g2,2,none⟩) | 19=>v=.int .i64 y2 | 20=>v=.int .i64 p4 | 21=>v=.pointer (some ⟨g2,2,none⟩) | 22=>v=.int .i64 y2 | 23=>v=.int .i64 p5 | 24=>v=.pointer (some ⟨g2,2,none⟩) | 25=>v=.int .i64 y2 | 26=>v=.int .i64 p6 | 27=>v=.int .i64 (2+p6) | 28=>v=.pointer (some ⟨g2,3,none⟩) | 29=>v=.int .i64 y3 | 30=>v=.int .i64 p7 | 31=>v=.int .i64 (1+p7) | 32=>v=.pointer (some ⟨g2,3,none⟩) | 33=>v=.int .i64 y3 | 34=>v=.int .i64 p8 | 35=>v=.int .i64 (1+p8) | 36=>v=.pointer (some ⟨g2,3,none⟩) | 37=>v=.int .i64 y3 | 38=>v=.int .i64 p9 | 39=>v=.int .i64 (1+p9) | 40=>v=.pointer (some ⟨g2,1,none⟩) | 41=>v=.int .i64 y1 | 42=>v=.int .i64 p10 | 43=>v=.int .i64 (5+p10) | 44=>v=.pointer (some ⟨g2,0,none⟩) | 45=>v=.int .i64 y0 | 46=>v=.int .i64 yd | 47=>v=.int .i64 p11 | 48=>v=.pointer (some ⟨g2,2,none⟩) | 49=>v=.int .i64 y2 | 50=>v=.int .i64 p12 | 51=>v=.int .i64 (1+p12) | 52=>v=.agg SX | _=>∃g Z,v=.pointer (some ⟨g,0,none⟩)∧W.heap.size≤g∧Z.size=21∧aG w1 g 53 Z) (by kernel_rfl) (by kernel_rfl) ?_ ?_ ?_ ?_
 ·intro ix vals v w1 w2 hi hr hx
  match ix,hr with
  |0,hr=>exact hr
  |1,hr=>exact hr
  |2,hr=>exact hr
  |3,hr=>exact hr
  |4,hr=>exact hr
  |5,hr=>exact hr
  |6,hr=>exact hr
  |7,hr=>exact hr
  |8,hr=>exact hr
  |9,hr=>exact hr
  |10,hr=>exact hr
  |11,hr=>exact hr
  |12,hr=>exact hr
  |13,hr=>exact hr
  |14,hr=>exact hr
  |15,hr=>exact hr
  |16,hr=>exact hr
  |17,hr=>exact hr
  |18,hr=>exact hr
  |19,hr=>exact hr
  |20,hr=>exact hr
  |21,hr=>exact hr
  |22,hr=>exact hr
  |23,hr=>exact hr
  |24,hr=>exact hr
  |25,hr=>exact hr
  |26,hr=>exact hr
  |27,hr=>exact hr
  |28,hr=>exact hr
  |29,hr=>exact hr
  |30,hr=>exact hr
  |31,hr=>exact hr
  |32,hr=>exact hr
  |33,hr=>exact hr
  |34,hr=>exact hr
  |35,hr=>exact hr
  |36,hr=>exact hr
  |37,hr=>exact hr
  |38,hr=>exact hr
  |39,hr=>exact hr
  |40,hr=>exact hr
  |41,hr=>exact hr
  |42,hr=>exact hr
  |43,hr=>exact hr
  |44,hr=>exact hr
  |45,hr=>exact hr
  |46,hr=>exact hr
  |47,hr=>exact hr
  |48,hr=>exact hr
  |49,hr=>exact hr
  |50,hr=>exact hr
  |51,hr=>exact hr
  |52,hr=>exact hr
  |(kx+53),hr=>obtain⟨g,Z,h1,h2,h3,h4⟩:=hr;exact⟨g,Z,h1,h2,h3,h4.ext hx⟩
 ·intro ix vals vJ v w1 hi hv hr;exact hr
 ·refine⟨?_,?_,?_,?_,?_,?_,?_,?_,?_,?_,?_,?_,?_,?_,?_,?_,?_,?_,?_,?_,?_,?_,?_,?_,?_,?_,?_,?_,?_,?_,?_,?_,?_,?_,?_,?_,?_,?_,?_,?_,?_,?_,?_,?_,?_,?_,?_,?_,?_,?_,?_,?_,?_,?_,trivial⟩
  ·intro vals w1 hx hd ha;clear hd ha;simp only[Lf];go_wp2;exact q_
  ·intro vals w1 hx hd ha;have e0:vals 0=.int .i64 id:=hd 0 (by decide);clear hd ha;simp only[Lf,au,Act.put,FR_,e0];clear e0;go_wp2_with fail;refine (Qp.out _).mono ?_;rintro e w2 ⟨rfl,rfl⟩;go_wp2;exact q_
  ·intro vals w1 hx hd ha;clear hd ha;simp only[Lf,au,Act.put,FR_];go_wp2;exact q_
  ·intro vals w1 hx hd ha;have e2:vals 2=.pointer (some ⟨g2,0,none⟩):=hd 2 (by decide);clear hd ha;simp only[Lf,au,Act.put,FR_,e2];clear e2;have m0:=ah hx m0;go_wp2;exact q_
  ·intro vals w1 hx hd ha;have e1:vals 1=.int .i64 p0:=hd 1 (by decide);have e3:vals 3=.int .i64 y0:=hd 3 (by decide);clear hd ha;simp only[Lf,au,Act.put,FR_,e1];simp only[e3];clear e1 e3;go_wp2_with fail;refine (wV.out _).mono ?_;rintro e w2 ⟨rfl,rfl⟩;go_wp2;exact q_
  ·intro vals w1 hx hd ha;clear hd ha;simp only[Lf,au,Act.put,FR_];have k0:=ah hx k0;have k1:=ah hx k1;have k2:=ah hx k2;have k3:=ah hx k3;have k4:=ah hx k4;have k5:=ah hx k5;have k6:=ah hx k6;go_wp2;exact q_
  ·intro vals w1 hx hd ha;have e4:vals 4=.int .i64 p1:=hd 4 (by decide);have e5:vals 5=.agg #[.int .i64 x0,.int .i64 x1,.int .i64 x2,.int .i64 x3,.int .i64 x4,.int .i64 x5,.int .i64 x6]:=hd 5 (by decide);clear hd ha;simp only[Lf,au,Act.put,FR_,e4];simp only[e5];clear e4 e5;go_wp2_with fail;refine (HM.out _).mono ?_;rintro e w2 ⟨rfl,hb2⟩;go_wp2;exact⟨rfl,hb2,rfl⟩
  ·intro vals w1 hx hd ha;clear hd ha;simp only[Lf,au,Act.put,FR_];go_wp2;exact q_
  ·intro vals w1 hx hd ha;have e7:vals 7=.pointer (some ⟨g2,0,none⟩):=hd 7 (by decide);clear hd ha;simp only[Lf,au,Act.put,FR_,e7];clear e7;have m0:=ah hx m0;go_wp2;exact q_
  ·intro vals w1 hx hd ha;have e6:vals 6=.agg #[.int .i64 o0,.int .i64 o1,.int .i64 o2,.int .i64 o3,.int .i64 o4,.int .i64 o5,.int .i64 o6]:=hd 6 (by decide);have e8:vals 8=.int .i64 y0:=hd 8 (by decide);clear hd ha;simp only[Lf,au,Act.put,FR_,e6];simp only[e8];clear e6 e8;go_wp2_with fail;refine (wV.out _).mono ?_;rintro e w2 ⟨rfl,rfl⟩;go_wp2;exact q_
  ·intro vals w1 hx hd ha;clear hd ha;simp only[Lf,au,Act.put,FR_];go_wp2;exact q_
  ·intro vals w1 hx hd ha;have e10:vals 10=.pointer (some ⟨g2,1,none⟩):=hd 10 (by decide);clear hd ha;simp only[Lf,au,Act.put,FR_,e10];clear e10;have m1:=ah hx m1;go_wp2;exact q_
  ·intro vals w1 hx hd ha;have e9:vals 9=.int .i64 p1:=hd 9 (by decide);have e11:vals 11=.int .i64 y1:=hd 11 (by decide);clear hd ha;simp only[Lf,au,Act.put,FR_,e9];simp only[e11];clear e9 e11;go_wp2_with fail;refine (HP2.out _).mono ?_;rintro e w2 ⟨rfl,rfl⟩;go_wp2;exact q_
  ·intro vals w1 hx hd ha;have e12:vals 12=.int .i64 p2:=hd 12 (by decide);clear hd ha;simp only[Lf,au,Act.put,FR_,e12];clear e12;go_wp2;exact q_
  ·intro vals w1 hx hd ha;clear hd ha;simp only[Lf,au,Act.put,FR_];go_wp2;exact q_
  ·intro vals w1 hx hd ha;have e14:vals 14=.pointer (some ⟨g2,1,none⟩):=hd 14 (by decide);clear hd ha;simp only[Lf,au,Act.put,FR_,e14];clear e14;have m1:=ah hx m1;go_wp2;exact q_
  ·intro vals w1 hx hd ha;have e12:vals 12=.int .i64 p2:=hd 12 (by decide);have e15:vals 15=.int .i64 y1:=hd 15 (by decide);clear hd ha;simp only[Lf,au,Act.put,FR_,e12];simp only[e15];clear e12 e15;go_wp2_with fail;refine (Vk.out _).mono ?_;rintro e w2 ⟨rfl,rfl⟩;go_wp2;exact q_
  ·intro vals w1 hx hd ha;have e16:vals 16=.int .i64 p3:=hd 16 (by decide);clear hd ha;simp only[Lf,au,Act.put,FR_,e16];clear e16;go_wp2;exact q_
  ·intro vals w1 hx hd ha;clear hd ha;simp only[Lf,au,Act.put,FR_];go_wp2;exact q_
  ·intro vals w1 hx hd ha;have e18:vals 18=.pointer (some ⟨g2,2,none⟩):=hd 18 (by decide);clear hd ha;simp only[Lf,au,Act.put,FR_,e18];clear e18;have m2:=ah hx m2;go_wp2;exact q_
  ·intro vals w1 hx hd ha;have e16:vals 16=.int .i64 p3:=hd 16 (by decide);have e19:vals 19=.int .i64 y2:=hd 19 (by decide);clear hd ha;simp only[Lf,au,Act.put,FR_,e16];simp only[e19];clear e16 e19;go_wp2_with fail;refine (Vl.out _).mono ?_;rintro e w2 ⟨rfl,rfl⟩;go_wp2;exact q_
  ·intro vals w1 hx hd ha;clear hd ha;simp only[Lf,au,Act.put,FR_];go_wp2;exact q_
  ·intro vals w1 hx hd ha;have e21:vals 21=.pointer (some ⟨g2,2,none⟩):=hd 21 (by decide);clear hd ha;simp only[Lf,au,Act.put,FR_,e21];clear e21;have m2:=ah hx m2;go_wp2;exact q_
  ·intro vals w1 hx hd ha;have e20:vals 20=.int .i64 p4:=hd 20 (by decide);have e22:vals 22=.int .i64 y2:=hd 22 (by decide);clear hd ha;simp only[Lf,au,Act.put,FR_,e20];simp only[e22];clear e20 e22;go_wp2_with fail;refine (Vm.out _).mono ?_;rintro e w2 ⟨rfl,rfl⟩;go_wp2;exact q_
  ·intro vals w1 hx hd ha;clear hd ha;simp only[Lf,au,Act.put,FR_];go_wp2;exact q_
  ·intro vals w1 hx hd ha;have e24:vals 24=.pointer (some ⟨g2,2,none⟩):=hd 24 (by decide);clear hd ha;simp only[Lf,au,Act.put,FR_,e24];clear e24;have m2:=ah hx m2;go_wp2;exact q_
  ·intro vals w1 hx hd ha;have e23:vals 23=.int .i64 p5:=hd 23 (by decide);have e25:vals 25=.int .i64 y2:=hd 25 (by decide);clear hd ha;simp only[Lf,au,Act.put,FR_,e23];simp only[e25];clear e23 e25;go_wp2_with fail;refine (HP6.out _).mono ?_;rintro e w2 ⟨rfl,rfl⟩;go_wp2;exact q_
  ·intro vals w1 hx hd ha;have e26:vals 26=.int .i64 p6:=hd 26 (by decide);clear hd ha;simp only[Lf,au,Act.put,FR_,e26];clear e26;go_wp2;exact q_
  ·intro vals w1 hx hd ha;clear hd ha;simp only[Lf,au,Act.put,FR_];go_wp2;exact q_
  ·intro vals w1 hx hd ha;have e28:vals 28=.pointer (some ⟨g2,3,none⟩):=hd 28 (by decide);clear hd ha;simp only[Lf,au,Act.put,FR_,e28];clear e28;have m3:=ah hx m3;go_wp2;exact q_
  ·intro vals w1 hx hd ha;have e26:vals 26=.int .i64 p6:=hd 26 (by decide);have e29:vals 29=.int .i64 y3:=hd 29 (by decide);clear hd ha;simp only[Lf,au,Act.put,FR_,e26];simp only[e29];clear e26 e29;go_wp2_with fail;refine (HP7.out _).mono ?_;rintro e w2 ⟨rfl,rfl⟩;go_wp2;exact q_
  ·intro vals w1 hx hd ha;have e30:vals 30=.int .i64 p7:=hd 30 (by decide);clear hd ha;simp only[Lf,au,Act.put,FR_,e30];clear e30;go_wp2;exact q_
  ·intro vals w1 hx hd ha;clear hd ha;simp only[Lf,au,Act.put,FR_];go_wp2;exact q_
  ·intro vals w1 hx hd ha;have e32:vals 32=.pointer (some ⟨g2,3,none⟩):=hd 32 (by decide);clear hd ha;simp only[Lf,au,Act.put,FR_,e32];clear e32;have m3:=ah hx m3;go_wp2;exact q_
  ·intro vals w1 hx hd ha;have e30:vals 30=.int .i64 p7:=hd 30 (by decide);have e33:vals 33=.int .i64 y3:=hd 33 (by decide);clear hd ha;simp only[Lf,au,Act.put,FR_,e30];simp only[e33];clear e30 e33;go_wp2_with fail;refine (HP8.out _).mono ?_;rintro e w2 ⟨rfl,rfl⟩;go_wp2;exact q_
  ·intro vals w1 hx hd ha;have e34:vals 34=.int .i64 p8:=hd 34 (by decide);clear hd ha;simp only[Lf,au,Act.put,FR_,e34];clear e34;go_wp2;exact q_
  ·intro vals w1 hx hd ha;clear hd ha;simp only[Lf,au,Act.put,FR_];go_wp2;exact q_
  ·intro vals w1 hx hd ha;have e36:vals 36=.pointer (some ⟨g2,3,none⟩):=hd 36 (by decide);clear hd ha;simp only[Lf,au,Act.put,FR_,e36];clear e36;have m3:=ah hx m3;go_wp2;exact q_
  ·intro vals w1 hx hd ha;have e34:vals 34=.int .i64 p8:=hd 34 (by decide);have e37:vals 37=.int .i64 y3:=hd 37 (by decide);clear hd ha;simp only[Lf,au,Act.put,FR_,e34];simp only[e37];clear e34 e37;go_wp2_with fail;refine (HP9.out _).mono ?_;rintro e w2 ⟨rfl,rfl⟩;go_wp2;exact q_
  ·intro vals w1 hx hd ha;have e38:vals 38=.int .i64 p9:=hd 38 (by decide);clear hd ha;simp only[Lf,au,Act.put,FR_,e38];clear e38;go_wp2;exact q_
  ·intro vals w1 hx hd ha;clear hd ha;simp only[Lf,au,Act.put,FR_];go_wp2;exact q_
  ·intro vals w1 hx hd ha;have e40:vals 40=.pointer (some ⟨g2,1,none⟩):=hd 40 (by decide);clear hd ha;simp only[Lf,au,Act.put,FR_,e40];clear e40;have m1:=ah hx m1;go_wp2;exact q_
  ·intro vals w1 hx hd ha;have e38:vals 38=.int .i64 p9:=hd 38 (by decide);have e41:vals 41=.int .i64 y1:=hd 41 (by decide);clear hd ha;simp only[Lf,au,Act.put,FR_,e38];simp only[e41];clear e38 e41;go_wp2_with fail;refine (HP10.out _).mono ?_;rintro e w2 ⟨rfl,rfl⟩;go_wp2;exact q_
  ·intro vals w1 hx hd ha;have e42:vals 42=.int .i64 p10:=hd 42 (by decide);clear hd ha;simp only[Lf,au,Act.put,FR_,e42];clear e42;go_wp2;exact q_
  ·intro vals w1 hx hd ha;clear hd ha;simp only[Lf,au,Act.put,FR_];go_wp2;exact q_
  ·intro vals w1 hx hd ha;have e44:vals 44=.pointer (some ⟨g2,0,none⟩):=hd 44 (by decide);clear hd ha;simp only[Lf,au,Act.put,FR_,e44];clear e44;have m0:=ah hx m0;go_wp2;exact q_
  ·intro vals w1 hx hd ha;have e45:vals 45=.int .i64 y0:=hd 45 (by decide);clear hd ha;simp only[Lf,au,Act.put,FR_,e45];clear e45;go_wp2;exact q_
  ·intro vals w1 hx hd ha;have e42:vals 42=.int .i64 p10:=hd 42 (by decide);have e46:vals 46=.int .i64 yd:=hd 46 (by decide);clear hd ha;simp only[Lf,au,Act.put,FR_,e42];simp only[e46];clear e42 e46;go_wp2_with fail;refine (HP11.out _).mono ?_;rintro e w2 ⟨rfl,rfl⟩;go_wp2;exact q_
  ·intro vals w1 hx hd ha;clear hd ha;simp only[Lf,au,Act.put,FR_];go_wp2;exact q_
  ·intro vals w1 hx hd ha;have e48:vals 48=.pointer (some ⟨g2,2,none⟩):=hd 48 (by decide);clear hd ha;simp only[Lf,au,Act.put,FR_,e48];clear e48;have m2:=ah hx m2;go_wp2;exact q_
  ·intro vals w1 hx hd ha;have e47:vals 47=.int .i64 p11:=hd 47 (by decide);have e49:vals 49=.int .i64 y2:=hd 49 (by decide);clear hd ha;simp only[Lf,au,Act.put,FR_,e47];simp only[e49];clear e47 e49;go_wp2_with fail;refine (HP12.out _).mono ?_;rintro e w2 ⟨rfl,rfl⟩;go_wp2;exact q_
  ·intro vals w1 hx hd ha;have e50:vals 50=.int .i64 p12:=hd 50 (by decide);clear hd ha;simp only[Lf,au,Act.put,FR_,e50];clear e50;go_wp2;exact q_
  ·intro vals w1 hx hd ha;have e1:vals 1=.int .i64 p0:=hd 1 (by decide);have e4:vals 4=.int .i64 p1:=hd 4 (by decide);have e6:vals 6=.agg #[.int .i64 o0,.int .i64 o1,.int .i64 o2,.int .i64 o3,.int .i64 o4,.int .i64 o5,.int .i64 o6]:=hd 6 (by decide);have e9:vals 9=.int .i64 p1:=hd 9 (by decide);have e13:vals 13=.int .i64 (20+p2):=hd 13 (by decide);have e17:vals 17=.int .i64 (100+p3):=hd 17 (by decide);have e20:vals 20=.int .i64 p4:=hd 20 (by decide);have e23:vals 23=.int .i64 p5:=hd 23 (by decide);have e27:vals 27=.int .i64 (2+p6):=hd 27 (by decide);have e31:vals 31=.int .i64 (1+p7):=hd 31 (by decide);have e35:vals 35=.int .i64 (1+p8):=hd 35 (by decide);have e39:vals 39=.int .i64 (1+p9):=hd 39 (by decide);have e43:vals 43=.int .i64 (5+p10):=hd 43 (by decide);have e47:vals 47=.int .i64 p11:=hd 47 (by decide);have e51:vals 51=.int .i64 (1+p12):=hd 51 (by decide);clear hd ha;simp only[Lf,au,Act.put,FR_,e1];simp only[e4];simp only[e6];simp only[e9];simp only[e13];simp only[e17];simp only[e20];simp only[e23];simp only[e27];simp only[e31];simp only[e35];simp only[e39];simp only[e43];simp only[e47];simp only[e51];clear e1 e4 e6 e9 e13 e17 e20 e23 e27 e31 e35 e39 e43 e47 e51;go_wp2;exact⟨rfl,Ext.refl _,by rw[kF.out];rfl⟩
  ·intro vals w1 hx hd ha;clear hd ha;simp only[Lf,au,Act.put,FR_];have hz:=Below.size hx.aH;go_wp2;exact⟨rfl,(by repeat (first | exact Below.refl _ _ | assumption | refine Below.drew ?_ | refine below_drewN ?_ _ | refine aj ?_ _ | refine Below.setCell ?_ (by first | (simp;done) | omega | (simp;omega)) _ | refine aA ?_ (by assumption))),_,_,rfl,by omega,rfl,aG.new _ _ _⟩
 intro vals w3 hx hf;have e52:vals 52=.agg SX:=hf 52 (by omega);obtain⟨g4,Z4,e53,hg4,hZ4,J4⟩:∃g Z,vals 53=.pointer (some ⟨g,0,none⟩)∧W.heap.size≤g∧Z.size=21∧aG w3 g 53 Z:=hf 53 (by omega);have hx:=hx.aH;have J3:=J3.ext hx;have hWl:=hB.size;have hB3:=aA hB hx;have n34:g3≠g4:=by omega
 clear hf hx J1 J2 k0 k1 k2 k3 k4 k5 k6 m0 m1 m2 m3;refine eP 54 _ (by kernel_rfl) (by kernel_rfl) rfl ?_;simp only[Lf,au,Act.put,FR_];rw[e52,e53];clear e52 e53;refine wpList_store_row rfl 53 _ _ rfl g4 SX rfl rfl 53 _ J4 (by rw[HS2.out];exact aQ) (by rw[HS2.out];exact hZ4) Dx.out ?_;have J3:=J3.jm (k:=g4) n34 SX;have J4:=J4.row SX;have hB3:=below_setRow hB3 (g:=g4) (by omega) SX;generalize w3.setRow g4 SX=w4 at J3 J4 hB3⊢;go_wp2_with (first | (refine ay rfl _ _ rfl g4 0 rfl SX SX.toList (by simp) _ (aG.range J4 _ rfl) Tryz.underlying53 rfl (by rw[Array.length_toList,HS2.out];exact aQ) ?_) | (refine wpList_store_row rfl 53 _ _ rfl g3 SX rfl rfl 53 _ J3 (by rw[HS2.out];exact aQ) (by rw[HS2.out];rfl) Dx.out ?_));have J3:=J3.row SX;have hB3:=below_setRow hB3 (g:=g3) hl3 SX;generalize w4.setRow g3 SX=w9 at J3 hB3⊢;exact bodyPost_ret (gG Tryz.results92 _ _ g3 SX rfl J3 _ Tryz.underlying53 rfl (by rw[HS2.out];exact aQ)) rfl ⟨by rw[kF.out],hB3⟩
end Go.Proofs.YtjidhhfabfnhnaaGreat
namespace Go.Proofs.YtjidhhfabfnhnaaGreat
open Go.RowKit
theorem fU {P:Program} {fn:Func} {p q:Tmp} {t:TypeId} (h:fn.results=#[.cell p t,.tmp q]) (tmps:Array Value) (w:World) (g:Nat) (X:Array Value) (v:Value) (hp:tmps.getD p undef=.pointer (some ⟨g,0,none⟩)) (hq:tmps.getD q undef=v) (J:aG w g t X) (d:TypeDesc) (hu:P.underlying t=some d) (hd:d.isRow=true) (hi:(P.info? t).map (·.size)=some X.size) :
  (results fn tmps).run P w=.ok (.tuple #[.agg X,v]) w:=by
 have hl:=rM J d hu hd hi;have hp':tmps[p]?.getD undef=.pointer (some ⟨g,0,none⟩):=by simpa using hp
 have hq':tmps[q]?.getD undef=v:=by simpa using hq
 simp only[results,h];simp[hp',hq',asAddr,hl]
def zU:fE:=⟨0,0,0,⟨0,0,0,0,0,0,0⟩⟩
theorem Oq (id kn t:Int) (l:List fE) (k:Nat) (b:Option fE) (h:k<l.length):fF id kn t (l.drop k) b=fF id kn t (l.drop (k+1)) (Gq id kn t b l[k]):=by
 rw[List.drop_eq_getElem_cons h,fF]
theorem oZ (x:fE) (X:Array Value) (h:(aI x).toArray=X):X.size=10∧X.all (·.oneCell')=true:=by
 subst h;exact⟨rfl,EN x⟩
set_option maxRecDepth 100000 in
set_option maxHeartbeats 2000000 in
theorem last_any (id kn t:Int) (gp gt:Nat) (P:Array Value) (p0:P[0]?=some (.int .i64 id)) (p22:P[22]?=some (.int .i64 kn)) (l:List fE) (A:Option Addr) (n c:Nat) (w:World) (kp:aG w gp 117 P) (kt:aG w gt 3 #[.int .i64 t]) (h:RA aI 10 w w.heap.size A n c l) :
  Calls Tryz.prog 113 #[.slice A n c,.func (.func 112) #[] #[.pointer (some ⟨gp,0,none⟩),.pointer (some ⟨gt,0,none⟩)],.func (.func 114) #[] #[]] w fun e w'=>e=.returned (.tuple #[.agg (aI ((fF id kn t l none).getD zU)).toArray,.bool (fF id kn t l none).isSome])∧Ext w w':=by
 have HCH:=Lib.hid (fun (u:fE) (W:World) (hx:Ext w W)=>ZJ u gp gt id kn t W P (kp.ext hx) p0 p22 (kt.ext hx));obtain⟨R,hR⟩:∃R,R=fF id kn t l none:=⟨_,rfl⟩;rw[←hR];have HR0:Hid (R=fF id kn t (l.drop 0) none):=Lib.hid hR;have xg:=Lib.hid h;have hle:=h.le;have uz:=Lib.hid h.len;clear h hR p0 p22 kp kt;have hxa:Ext w (w.alloc (.cells (aI zU).toArray 66)):=aj (Below.refl _ _) _;have J:=aG.new w 66 (aI zU).toArray;have HXA:=Lib.hid hxa;have hg6:w.heap.size≤w.heap.size:=Nat.le_refl _;go_enter Tryz.func113,Tryz.ntmps113;go_upto_region 1 with (fail)
 change Code.wp _ _ _ _ (w.alloc (.cells (aI zU).toArray 66))
 generalize w.alloc (.cells (aI zU).toArray 66)=W1 at J HXA hxa⊢;generalize hgg:w.heap.size=g6 at J hg6⊢;have HGG:Hid (w.heap.size≤g6):=Lib.hid (by omega);clear hgg hg6 hxa;have Ot:Hid (aG W1 g6 66 (aI ((none:Option fE).getD zU)).toArray):=Lib.hid J;clear J;go_wp2;go_loopw [7,12] (fun b i wr=>∃(k:Nat) (best:Option fE),k≤n∧i=.int .i64 k∧b=.bool best.isSome∧Hid (R=fF id kn t (l.drop k) best)∧Hid (aG wr g6 66 (aI (best.getD zU)).toArray)∧Hid (Ext w wr)) (fun _ i _=>n-(intOf i).toNat)
 case atStart=>exact⟨0,none,Nat.zero_le _,rfl,rfl,HR0,Ot,HXA⟩
 case round =>
  clear HR0 Ot HXA;obtain⟨k,best,hk,rfl,rfl,HB,HJ,HX⟩:=hrel;by_cases hkn:k<n
  ·obtain⟨b,o,hz,hA,hbl,hc⟩:=RA.range iR (xg.out.below HX.out) hkn;have hst:=Oq id kn t l k best hz;rw[←HB.out]at hst;generalize l[k]=u at hst hc;have hch:=HCH.out u;have hky:=Nq u;have hko:=Nq (best.getD zU);obtain⟨X,hX⟩:∃X,(aI u).toArray=X:=⟨_,rfl⟩;obtain⟨Y,hY⟩:∃Y,(aI (best.getD zU)).toArray=Y:=⟨_,rfl⟩;obtain⟨tH,hX1⟩:=oZ u X hX;have hYs:=(oZ _ Y hY).1;have hYl:Y.toList=aI (best.getD zU):=by rw[←hY]
   rw[hX]at hch hky;rw[hY]at hko HJ;have HC:=Lib.hid hc;have HCH1:=Lib.hid hch;have HKY:=Lib.hid hky;have HKO:=Lib.hid hko;have iP:=Lib.hid hX;have vC:=Lib.hid hY;have qg:=Lib.hid tH;have Gs:=Lib.hid hYs;have kC:=Lib.hid hX1;have HST:=Lib.hid hst;have hkz:(k:Int)<(n:Int):=by omega
   subst hA;have KX:aG (wr.alloc (.cells X 66)) wr.heap.size 66 X:=aG.new _ _ _;have hx1:Ext wr (wr.alloc (.cells X 66)):=aj (Below.refl _ _) _;clear hc hch hky hko hX hY tH hYs hX1 hst hz hYl;go_upto_region 4 with (first | (refine ay rfl _ _ rfl b (o+k*10) rfl X (aI u) iP.out _ HC.out Tryz.underlying66 rfl dF ?_) | (refine aS rfl 66 _ _ rfl _ X rfl rfl (by rw[qg.out];exact dF) (by rw[qg.out];rfl) kC.out ?_));generalize wr.heap.size=g9 at KX⊢;generalize wr.alloc (.cells X 66)=W2 at KX hx1⊢;have HJ:=Lib.hid (HJ.out.ext hx1);have K:=Lib.hid KX;have Q8:=Lib.hid hx1;have Q9:Hid (∀W,Ext W2 W→Calls Tryz.prog 112 #[.agg X,.pointer (some ⟨gp,0,none⟩),.pointer (some ⟨gt,0,none⟩)] W fun e w'=>e=.returned (.bool (Np id kn t u))∧Ext W w'):=Lib.hid (fun W hx=>HCH1.out W (Ext.trans (Ext.trans HX.out Q8.out) hx));clear KX hx1 HCH1;have LX:Hid (∀W,Ext W2 W→W.rangeAt g9 0 (aI u)):=Lib.hid (fun W hx=>aG.range (K.out.ext hx) (aI u) (by rw[←iP.out]));have LY:Hid (∀W,Ext W2 W→W.rangeAt g6 0 (aI (best.getD zU))):=Lib.hid (fun W hx=>aG.range (HJ.out.ext hx) (aI (best.getD zU)) (by rw[←vC.out]));obtain⟨q,hq⟩:∃q,q=Np id kn t u:=⟨_,rfl⟩;rw[←hq]at Q9;cases q
   ·have ZM:Hid (Gq id kn t best u=best):=Lib.hid (by unfold Gq;rw[←hq];rfl);clear hq;refine aF 16 [some (.func (.func 112) #[] #[.pointer (some ⟨gp,0,none⟩),.pointer (some ⟨gt,0,none⟩)]),some (.agg X),some (.bool false),some (.bool false),some (undef),some (undef),some (undef),some (undef),some (undef),some (undef),some (undef),some (undef),some (undef),some (undef),some (undef),some (.bool false)] [] ?_ ?_ ?_
    ·trivial
    ·refine⟨?_,?x1,?x2,?_,?_,?_,?_,?_,?_,?_,?_,?_,?_,?_,?_,?_,trivial⟩
     case x1 =>
      intro vals w1 hx hd;clear hd;simp only[Lf,au,Act.put,bH,bG];refine ay rfl _ _ rfl g9 0 rfl X (aI u) iP.out _ (LX.out _ hx.aH) Tryz.underlying66 rfl dF ?_;go_wp2;exact q_
     case x2 =>
      intro vals w1 hx hd;clear hd;simp only[Lf,au,Act.put,bH,bG];go_wp2_with fail;refine (Q9.out _ hx.aH).mono ?_;rintro e w2 ⟨rfl,hb2⟩;go_wp2;exact⟨rfl,hb2,rfl⟩
     all_goals
      intro vals w1 hx hd;clear hd;simp only[Lf,au,Act.put,bH,bG];go_wp2;exact iq
    intro vals w5 hx5 hf;have e15:vals 15=.bool false:=hf 15 (by omega);clear hf;have hx5:=hx5.aH;refine dO (by kernel_rfl) ?_;simp only[Lf,au,Act.put,FR_];rw[e15];clear e15;have o_:Hid (R=fF id kn t (l.drop (k+1)) (best)):=Lib.hid (by rw[HST.out,ZM.out]);have HJ2:Hid (aG w5 g6 66 (aI ((best).getD zU)).toArray):=Lib.hid (by rw[vC.out];exact HJ.out.ext hx5);have EP:=Lib.hid (Ext.trans (Ext.trans HX.out Q8.out) hx5);clear hx5;go_wp2;go_roundw
    case rel=>exact⟨k+1,best,by omega,by go_num,rfl,o_,HJ2,EP⟩
    case measure=>simp[intOf];omega
   ·cases best with
    |none =>
     have ZM:Hid (Gq id kn t none u=some u):=Lib.hid (by unfold Gq;rw[←hq];rfl);clear hq;refine aF 16 [some (.func (.func 112) #[] #[.pointer (some ⟨gp,0,none⟩),.pointer (some ⟨gt,0,none⟩)]),some (.agg X),some (.bool true),some (.bool true),some (.bool false),some (.bool true),some (.bool true),some (undef),some (undef),some (undef),some (undef),some (undef),some (undef),some (undef),some (.bool true),some (.bool true)] [] ?_ ?_ ?_
     ·trivial
     ·refine⟨?_,?x1,?x2,?_,?_,?_,?_,?_,?_,?_,?_,?_,?_,?_,?_,?_,trivial⟩
      case x1 =>
       intro vals w1 hx hd;clear hd;simp only[Lf,au,Act.put,bH,bG];refine ay rfl _ _ rfl g9 0 rfl X (aI u) iP.out _ (LX.out _ hx.aH) Tryz.underlying66 rfl dF ?_;go_wp2;exact q_
      case x2 =>
       intro vals w1 hx hd;clear hd;simp only[Lf,au,Act.put,bH,bG];go_wp2_with fail;refine (Q9.out _ hx.aH).mono ?_;rintro e w2 ⟨rfl,hb2⟩;go_wp2;exact⟨rfl,hb2,rfl⟩
      all_goals
       intro vals w1 hx hd;clear hd;simp only[Lf,au,Act.put,bH,bG];go_wp2;exact iq
     intro vals w5 hx5 hf;have e15:vals 15=.bool true:=hf 15 (by omega);clear hf;have hx5:=hx5.aH;refine dO (by kernel_rfl) ?_;simp only[Lf,au,Act.put,FR_];rw[e15];clear e15;have K9:=K.out.ext hx5;have KJ:=HJ.out.ext hx5;have hxw:=Ext.trans (Ext.trans HX.out Q8.out) hx5;have JN:=KJ.row X;have hxn:=below_setRow hxw (g:=g6) HGG.out X;have Yu:=Lib.hid K9;have HKJ:=Lib.hid KJ;clear hx5 K9 KJ hxw;go_upto_region 6 with (first | (refine ay rfl _ _ rfl g9 0 rfl X (aI u) iP.out _ (aG.range Yu.out (aI u) (by rw[←iP.out])) Tryz.underlying66 rfl dF ?_) | (refine wpList_store_row rfl 66 _ _ rfl g6 X rfl rfl 66 _ HKJ.out (by rw[qg.out];exact dF) (by rw[qg.out,Gs.out]) kC.out ?_));have o_:Hid (R=fF id kn t (l.drop (k+1)) (some u)):=Lib.hid (by rw[HST.out,ZM.out]);have HJ2:Hid (aG (w5.setRow g6 X) g6 66 (aI ((some u).getD zU)).toArray):=Lib.hid (by rw[Option.getD_some,iP.out];exact JN);have EP:=Lib.hid hxn;clear JN hxn;generalize w5.setRow g6 X=W6 at HJ2 EP⊢;go_wp2;go_roundw
     case rel=>exact⟨k+1,some u,by omega,by go_num,rfl,o_,HJ2,EP⟩
     case measure=>simp[intOf];omega
    |some ub =>
     have hnx:Gq id kn t (some ub) u=if ub.fr≤u.fr then some u else some ub:=by unfold Gq;rw[←hq];simp
     have HNX0:=Lib.hid hnx;clear hq hnx;by_cases hvu:ub.fr≤u.fr
     ·have ZM:Hid (Gq id kn t (some ub) u=some u):=Lib.hid (by rw[HNX0.out,if_pos hvu]);refine aF 16 [some (.func (.func 112) #[] #[.pointer (some ⟨gp,0,none⟩),.pointer (some ⟨gt,0,none⟩)]),some (.agg X),some (.bool true),some (.bool true),some (.bool true),some (.bool false),some (.bool false),some (.func (.func 114) #[] #[]),some (.agg X),some (.int .i64 u.fr),some (.func (.func 114) #[] #[]),some (.agg Y),some (.int .i64 ub.fr),some (.bool true),some (.bool true),some (.bool true)] [] ?_ ?_ ?_
      ·trivial
      ·refine⟨?_,?x1,?x2,?_,?_,?_,?_,?_,?x8,?x9,?_,?x11,?x12,?_,?_,?_,trivial⟩
       case x1 =>
        intro vals w1 hx hd;clear hd;simp only[Lf,au,Act.put,bH,bG];refine ay rfl _ _ rfl g9 0 rfl X (aI u) iP.out _ (LX.out _ hx.aH) Tryz.underlying66 rfl dF ?_;go_wp2;exact q_
       case x2 =>
        intro vals w1 hx hd;clear hd;simp only[Lf,au,Act.put,bH,bG];go_wp2_with fail;refine (Q9.out _ hx.aH).mono ?_;rintro e w2 ⟨rfl,hb2⟩;go_wp2;exact⟨rfl,hb2,rfl⟩
       case x8 =>
        intro vals w1 hx hd;clear hd;simp only[Lf,au,Act.put,bH,bG];refine aT rfl _ _ rfl g9 0 rfl X (aI u) iP.out _ (LX.out _ hx.aH) Tryz.underlying66 rfl dF ?_;go_wp2;exact q_
       case x9 =>
        intro vals w1 hx hd;clear hd;simp only[Lf,au,Act.put,bH,bG];go_wp2_with fail;refine (HKY.out _).mono ?_;rintro e w2 ⟨rfl,hb2⟩;go_wp2;exact⟨rfl,hb2,rfl⟩
       case x11 =>
        intro vals w1 hx hd;clear hd;simp only[Lf,au,Act.put,bH,bG];refine aT rfl _ _ rfl g6 0 rfl Y (aI ub) vC.out _ (LY.out _ hx.aH) Tryz.underlying66 rfl dF ?_;go_wp2;exact q_
       case x12 =>
        intro vals w1 hx hd;clear hd;simp only[Lf,au,Act.put,bH,bG];go_wp2_with fail;refine (HKO.out _).mono ?_;rintro e w2 ⟨rfl,hb2⟩;go_wp2;exact⟨rfl,hb2,rfl⟩
       all_goals
        intro vals w1 hx hd;clear hd;simp only[Lf,au,Act.put,bH,bG];go_wp2;exact iq
      intro vals w5 hx5 hf;have e15:vals 15=.bool true:=hf 15 (by omega);clear hf;have hx5:=hx5.aH;refine dO (by kernel_rfl) ?_;simp only[Lf,au,Act.put,FR_];rw[e15];clear e15;have K9:=K.out.ext hx5;have KJ:=HJ.out.ext hx5;have hxw:=Ext.trans (Ext.trans HX.out Q8.out) hx5;have JN:=KJ.row X;have hxn:=below_setRow hxw (g:=g6) HGG.out X;have Yu:=Lib.hid K9;have HKJ:=Lib.hid KJ;clear hx5 K9 KJ hxw;go_upto_region 6 with (first | (refine ay rfl _ _ rfl g9 0 rfl X (aI u) iP.out _ (aG.range Yu.out (aI u) (by rw[←iP.out])) Tryz.underlying66 rfl dF ?_) | (refine wpList_store_row rfl 66 _ _ rfl g6 X rfl rfl 66 _ HKJ.out (by rw[qg.out];exact dF) (by rw[qg.out,Gs.out]) kC.out ?_));have o_:Hid (R=fF id kn t (l.drop (k+1)) (some u)):=Lib.hid (by rw[HST.out,ZM.out]);have HJ2:Hid (aG (w5.setRow g6 X) g6 66 (aI ((some u).getD zU)).toArray):=Lib.hid (by rw[Option.getD_some,iP.out];exact JN);have EP:=Lib.hid hxn;clear JN hxn;generalize w5.setRow g6 X=W6 at HJ2 EP⊢;go_wp2;go_roundw
      case rel=>exact⟨k+1,some u,by omega,by go_num,rfl,o_,HJ2,EP⟩
      case measure=>simp[intOf];omega
     ·have ZM:Hid (Gq id kn t (some ub) u=some ub):=Lib.hid (by rw[HNX0.out,if_neg hvu]);refine aF 16 [some (.func (.func 112) #[] #[.pointer (some ⟨gp,0,none⟩),.pointer (some ⟨gt,0,none⟩)]),some (.agg X),some (.bool true),some (.bool true),some (.bool true),some (.bool false),some (.bool false),some (.func (.func 114) #[] #[]),some (.agg X),some (.int .i64 u.fr),some (.func (.func 114) #[] #[]),some (.agg Y),some (.int .i64 ub.fr),some (.bool false),some (.bool false),some (.bool false)] [] ?_ ?_ ?_
      ·trivial
      ·refine⟨?_,?x1,?x2,?_,?_,?_,?_,?_,?x8,?x9,?_,?x11,?x12,?_,?_,?_,trivial⟩
       case x1 =>
        intro vals w1 hx hd;clear hd;simp only[Lf,au,Act.put,bH,bG];refine ay rfl _ _ rfl g9 0 rfl X (aI u) iP.out _ (LX.out _ hx.aH) Tryz.underlying66 rfl dF ?_;go_wp2;exact q_
       case x2 =>
        intro vals w1 hx hd;clear hd;simp only[Lf,au,Act.put,bH,bG];go_wp2_with fail;refine (Q9.out _ hx.aH).mono ?_;rintro e w2 ⟨rfl,hb2⟩;go_wp2;exact⟨rfl,hb2,rfl⟩
       case x8 =>
        intro vals w1 hx hd;clear hd;simp only[Lf,au,Act.put,bH,bG];refine aT rfl _ _ rfl g9 0 rfl X (aI u) iP.out _ (LX.out _ hx.aH) Tryz.underlying66 rfl dF ?_;go_wp2;exact q_
       case x9 =>
        intro vals w1 hx hd;clear hd;simp only[Lf,au,Act.put,bH,bG];go_wp2_with fail;refine (HKY.out _).mono ?_;rintro e w2 ⟨rfl,hb2⟩;go_wp2;exact⟨rfl,hb2,rfl⟩
       case x11 =>
        intro vals w1 hx hd;clear hd;simp only[Lf,au,Act.put,bH,bG];refine aT rfl _ _ rfl g6 0 rfl Y (aI ub) vC.out _ (LY.out _ hx.aH) Tryz.underlying66 rfl dF ?_;go_wp2;exact q_
       case x12 =>
        intro vals w1 hx hd;clear hd;simp only[Lf,au,Act.put,bH,bG];go_wp2_with fail;refine (HKO.out _).mono ?_;rintro e w2 ⟨rfl,hb2⟩;go_wp2;exact⟨rfl,hb2,rfl⟩
       all_goals
        intro vals w1 hx hd;clear hd;simp only[Lf,au,Act.put,bH,bG];go_wp2;exact iq
      intro vals w5 hx5 hf;have e15:vals 15=.bool false:=hf 15 (by omega);clear hf;have hx5:=hx5.aH;refine dO (by kernel_rfl) ?_;simp only[Lf,au,Act.put,FR_];rw[e15];clear e15;have o_:Hid (R=fF id kn t (l.drop (k+1)) (some ub)):=Lib.hid (by rw[HST.out,ZM.out]);have HJ2:Hid (aG w5 g6 66 (aI ((some ub).getD zU)).toArray):=Lib.hid (by rw[vC.out];exact HJ.out.ext hx5);have EP:=Lib.hid (Ext.trans (Ext.trans HX.out Q8.out) hx5);clear hx5;go_wp2;go_roundw
      case rel=>exact⟨k+1,some ub,by omega,by go_num,rfl,o_,HJ2,EP⟩
      case measure=>simp[intOf];omega
  ·have hkz:¬(k:Int)<(n:Int):=by omega
   obtain rfl:R=best:=by rw[HB.out,List.drop_of_length_le (by rw[uz.out];omega)];rfl
   obtain⟨Y,hY⟩:∃Y,(aI (R.getD zU)).toArray=Y:=⟨_,rfl⟩;obtain⟨hYs,Jw⟩:=oZ _ Y hY;rw[hY]at HJ;have vC:=Lib.hid hY;have Gs:=Lib.hid hYs;have V8:=Lib.hid Jw;have JN:=HJ.out.row Y;have hxn:=below_setRow HX.out (g:=g6) HGG.out Y;clear hY hYs Jw HB;go_wp2_with (first | (refine ay rfl _ _ rfl g6 0 rfl Y (aI (R.getD zU)) vC.out _ (aG.range HJ.out (aI (R.getD zU)) (by rw[←vC.out])) Tryz.underlying66 rfl dF ?_) | (refine wpList_store_row rfl 66 _ _ rfl g6 Y rfl rfl 66 _ HJ.out (by rw[Gs.out];exact dF) rfl V8.out ?_));exact bodyPost_ret (fU Tryz.results113 _ _ g6 Y (.bool R.isSome) rfl rfl JN _ Tryz.underlying66 rfl (by rw[Gs.out];exact dF)) rfl ⟨by rw[vC.out],hxn⟩
end Go.Proofs.YtjidhhfabfnhnaaGreat
namespace Go.Proofs.YtjidhhfabfnhnaaGreat
open Go.RowKit
section
variable {P:Program} {ops:Array Oper} {Q:Exit→Act→World→Prop} {a0:Act} {w0:World} {R:Nat→(Nat→Value)→Value→World→Prop} {m:Nat}
theorem G8 {a:Act} {w:World} (m:Nat) (R:Nat→(Nat→Value)→Value→World→Prop) (hc:iG ops m=true) (hst:∀i vals v w w',i<m→R i vals v w→Ext w w'→R i vals v w') (hloc:∀i vals vals' v w,i<m→(∀d,zC ops i d=true→vals d=vals' d)→R i vals v w→R i vals' v w)
  (hob:uK P ops a w.drew R 0 (ops.toList.take m))
  (hfin:∀(vals:Nat→Value) (w':World),Ext w.drew w'→(∀i,i<m→R i vals (vals i) w')→wpAny P .any ops Q (ops.size-m) (mM ops.size m) (Lf ops a vals m) w'):wpAny P .any ops Q ops.size (Array.replicate ops.size false) a w.drew:=by
 have hsz:=mG hc;have QE:Gn (Array.replicate ops.size false) m=m:=by
  unfold Gn;rw[List.filter_eq_self.2 (fun i hi=>by simp[Array.getD_eq_getD_getElem?,Array.getElem?_replicate];split<;>rfl)];simp
 have h:=lW (P:=P) (Q:=Q) (a0:=a) (w0:=w.drew) hc hst hloc (fun i o hi ho=>by
  have:=qh (P:=P) (ops:=ops) (a0:=a) (w0:=w.drew) (R:=R) _ 0 hob i o (by rw[List.getElem?_take,if_pos hi];simpa using ho);simpa using this) hfin m (Array.replicate ops.size false) (fun _=>undef) a w.drew QE ?_
 ·rw[show ops.size-m+m=ops.size by omega]at h;exact h
 ·have hf:∀i,(Array.replicate ops.size false).getD i false=false:=fun i=>by simp[Array.getD_eq_getD_getElem?,Array.getElem?_replicate];split<;>rfl
  constructor
  ·exact Ext.refl _
  ·simp
  ·intro i _;exact hf i
  ·intro i _ h;rw[hf]at h;cases h
  ·intro i _ h;rw[hf]at h;cases h
  ·rfl
  ·rfl
  ·intro t _;rfl
  ·intro i t _ h;rw[hf]at h;cases h
end
theorem ER {n:Nat} {P:Program} {row:String} {args:Array Value} {w:World} {R:Value→World→Prop} (h:Rows P row args w R):RowsIn Fence.wide n P row args w R :=
 fun c cs _=>let ⟨v,w',r,s⟩:=h c cs;⟨v,w',r,stepsIn_wide.2 s⟩
def ES (ops:Array Oper):Bool:=ops.all fun o=>match o.op with | .defer _=>false | _=>true
theorem ET {ops:Array Oper} (h:ES ops=true) {i:Nat} {o:Oper} (ho:ops[i]?=some o):∀c,o.op≠.defer c:=by
 intro c hc;have:=Array.all_eq_true_iff_forall_mem.1 h o (Array.mem_of_getElem? ho);simp[hc]at this
theorem G9 {P:Program} {ops:Array Oper} {Q:Exit→Act→World→Prop} {K:Act→World→Prop} {l n:Nat} (hnd:ES ops=true) (hK:∀a w,K a w→Q .normal a w) :
  ∀(fuel:Nat) (listed:Array Bool) (a:Act) (w:World),wpAny P .any ops (Qn K) fuel listed a w→wpAnyIn (Fence.wide.inRound l) n P .any ops Q fuel listed a w:=by
 intro fuel
 induction fuel with
 |zero=>intro listed a w h;exact⟨h.1,hK _ _ h.2⟩
 |succ f ih =>
  intro listed a w h;unfold wpAny at h;unfold wpAnyIn;refine⟨fun e=>hK _ _ (h.1 e),fun i hi=>?_⟩;have h2:=h.2 i hi;unfold wpOp at h2;unfold wpOpIn;cases ho:ops[i]? with
  |none=>rw[ho]at h2;exact ih _ _ _ h2
  |some o =>
   rw[ho]at h2;simp only at h2⊢;by_cases hw:Region.wanted o (yielded ops a.tmps)=true
   ·rw[if_pos hw]at h2⊢;rcases h2 with h2 | h2
    ·refine⟨fun _ _=>trivial,?_⟩;rw[Oper.semAt_plain _ _ _ (ET hnd ho)];unfold Oper.wp at h2;generalize (execOp a.eval o).run P w=r at h2;cases r with
     |ok x w' =>
      cases x<;>simp only[Oper.upon]at h2<;>simp only[Oper.uponIn]
      case value v=>exact ih _ _ _ h2
      case skip=>exact ih _ _ _ h2
      case defer d=>exact ih _ _ _ h2
      case enter g args =>
       refine⟨fun h=>(by cases h),CallsIn.inRound l (callsIn_wide.2 (Calls.mono h2 fun e w'' hq=>?_))⟩;cases e with
       |returned v=>exact ih _ _ _ hq
       |panicked ch=>exact absurd hq (by simp[Qn])
       |outgrown=>exact absurd hq (sW _)
      case row row args=>exact⟨fun h=>(by cases h),ER (Rows.mono h2 fun v w'' hq=>ih _ _ _ hq)⟩
      all_goals exact h2.elim
     |halt x w'=>cases x<;>simp only[Oper.upon]at h2<;>simp only[Oper.uponIn]<;>first | exact h2.elim | exact absurd h2 (by simp[Qn])
    ·exact absurd h2.2 (sW _)
   ·rw[if_neg hw]at h2⊢;exact⟨fun _ _=>trivial,ih _ _ _ h2⟩
theorem nV {P:Program} {ops:Array Oper} {Q:Exit→Act→World→Prop} {a:Act} {w:World} {l n id:Nat} (m:Nat) (R:Nat→(Nat→Value)→Value→World→Prop) (hm:P.follows .mixedOrders=true) (hnd:ES ops=true) (hc:iG ops m=true)
  (hst:∀i vals v w w',i<m→R i vals v w→Ext w w'→R i vals v w') (hloc:∀i vals vals' v w,i<m→(∀d,zC ops i d=true→vals d=vals' d)→R i vals v w→R i vals' v w)
  (hob:uK P ops a w.drew R 0 (ops.toList.take m))
  (hfin:∀(vals:Nat→Value) (w':World),Ext w.drew w'→(∀i,i<m→R i vals (vals i) w')→wpAny P .any ops (Qn (Q .normal)) (ops.size-m) (mM ops.size m) (Lf ops a vals m) w'):(Code.region id ops true).wpIn (Fence.wide.inRound l) n P Q a w :=
 wpIn_region_any hm (G9 (K:=Q .normal) hnd (fun _ _ h=>h) _ _ _ _ (G8 m R hc hst hloc hob hfin))
theorem aP {P:Program} {w:World} {ops:Array Oper} {rest:List Oper} {o:Oper} {a:Act} {Q:Exit→Act→World→Prop}
  (hg:o.guard=none) (s x:Operand) (t:TypeId) (hop:o.op=Op.call { callee:=Callee.builtin Builtin.append,args:=#[s,x],argTypes:=#[t,t] })
  {v1 v2 v':Value} {w':World} (hs:a.eval s=v1) (hx:a.eval x=v2) (hrun:(Builtin.append_ #[t,t] o.type #[v1,v2]).run P w=.ok v' w')
  (hK:wpList P ops Q rest (a.put o.dst v') w'):wpList P ops Q (o::rest) a w:=by
 refine wpList_plain hg fun K hK'=>?_;unfold Oper.wp;simp[execOp,hop,resolve,invoke,builtin,hs,hx,hrun,Result.andThen];exact hK' _ _ hK
end Go.Proofs.YtjidhhfabfnhnaaGreat
