/- The reference: own, Valid (printed by eph_r2.py). -/
import Derived.Test.YtjidhhfabfnhnaaGreatT01
import Derived.Test.YtjidhhfabfnhnaaGreatT27
import Derived.Test.YtjidhhfabfnhnaaGreatT08
import Derived.Test.YtjidhhfabfnhnaaGreatT13
import Derived.BigQuiet
import Derived.Laws.Small
import Derived.Test.YtjidhhfabfnhnaaGreatT24
import Derived.Test.YtjidhhfabfnhnaaGreatT19
import Derived.Test.YtjidhhfabfnhnaaGreatT10
namespace Go.Proofs.YtjidhhfabfnhnaaGreat
open Go.RowKit
attribute [local go_sem] Oper.semAt_some
def Us (fO:Int) (P:List bP) (w:World) (e:Ending) (w':World):Prop:=∃v os,e=.returned v∧ji w' w.heap.size v os∧(∀o∈os,lV fO P o.o)∧os.length≤5∧Ext w w'
set_option maxRecDepth 100000 in
set_option maxHeartbeats 8000000 in
theorem Dk (s:St) (P:List bP) (X:List A5) (PA XA:Option Addr) (pn pc xn xc:Nat) (fr id:Int) (w:World) (hs:dQ s=true) (hP:RA ak 6 w w.heap.size PA pn pc P) (hX:RA qJ 5 w w.heap.size XA xn xc X) (Zm:∀x∈X,x.ok)
  (hPb:∀p∈P,(0≤p.sure.fr∧p.sure.fr≤1000001)∧0≤p.sure.tt∧p.sure.tt≤1000001) (hpn:pn≤64) (hfr0:0≤fr) (hfr1:fr≤900000) (hid0:0≤id) (hid1:id≤1000) :
  Calls Tryz.prog 42 #[.agg (aC s).toArray,.slice PA pn pc,.int .i64 fr,.int .i64 id,.slice XA xn xc] w (Us s.id P w):=by
 have HSOK:=Lib.hid hs;have hs2:(0≤s.id∧s.id≤23)∧(0≤s.wide∧s.wide≤4)∧(1≤s.store∧s.store≤1000000)∧1≤s.rate∧s.rate≤1000:=by
  simp only[dQ,Bool.and_eq_true,jf]at hs;omega
 have HP:=Lib.hid hP;have HX:=Lib.hid hX;have Y8:=Lib.hid Zm;have HPB:=Lib.hid hPb;have hxl:=hX.le;have hpl:=hP.le;have hxc:=hX.cap;have hpc:=hP.cap;clear hs hP hX Zm hPb;have HPR:Hid (∀id ord zx sat a b look size LA ln lc sl W,Ext w W→RA dR 3 W W.heap.size LA ln lc sl→Calls Tryz.prog 96 #[.agg (aC s).toArray,.agg #[.int .i64 id,.int .i64 ord,.int .i64 zx,.int .i64 sat,.int .i64 a,.int .i64 b,.int .i64 look,.int .i64 size,.slice LA ln lc],.slice PA pn pc] W (Ze W)):=Lib.hid (fun id ord zx sat a b look size LA ln lc sl W hx hl=>F9 s id ord zx sat a b look size LA PA ln lc pn pc sl P W hl (aB HP.out hx));obtain⟨SX,g_⟩:∃X,(aC s).toArray=X:=⟨_,rfl⟩;rw[g_]at HPR⊢;have Vz:Hid (SX.size=21):=Lib.hid (by rw[←g_];rfl);have VA:SX[0]?=some (.int .i64 s.id):=by rw[←g_];rfl
 have XR:SX[9]?=some (.int .i64 s.wide):=by rw[←g_];rfl
 have est:SX[10]?=some (.int .i64 s.store):=by rw[←g_];rfl
 have era:SX[20]?=some (.int .i64 s.rate):=by rw[←g_];rfl
 clear g_;generalize s.id=fO at hs2 VA⊢;generalize s.wide=Dj at hs2 XR;generalize s.store=VB at hs2 est;generalize s.rate=XT at hs2 era;obtain⟨⟨i1,i2⟩,⟨i3,i4⟩,⟨i5,i6⟩,i7,i8⟩:=hs2;obtain⟨PR,hPR⟩:∃Q:Ending→World→Prop,Q=Us fO P w:=⟨_,rfl⟩;rw[←hPR];have IQ:Hid (∀v os W,ji W w.heap.size v os→(∀o∈os,lV fO P o.o)→os.length≤5→Ext w W→PR (.returned v) W):=Lib.hid (fun v os W h1 h2 h3 h4=>by rw[hPR];exact⟨v,os,rfl,h1,h2,h3,h4⟩);clear hPR;go_enter Tryz.func42,Tryz.ntmps42;go_upto_region 1 with (fail);have J5:aG (w.alloc (.cells SX 53)) w.heap.size 53 SX:=aG.new _ _ _;have hB:Ext w (w.alloc (.cells SX 53)):=aj (Below.refl _ _) _;obtain⟨g5,hg5⟩:∃g,g=w.heap.size:=⟨_,rfl⟩;rw[←hg5]at J5⊢;generalize w.alloc (.cells SX 53)=W0 at J5 hB⊢;clear hg5;have HJ5:=Lib.hid J5;have HB:=Lib.hid hB;clear J5 hB;go_wp2;go_loopw [11,12] (fun u i wr=>∃(k:Nat) (os:List iY),k≤xn∧k≤5∧i=.int .i64 k∧os.length≤k∧Hid (∀o∈os,lV fO P o.o)∧Hid (ji wr W0.heap.size u os)∧Ext W0 wr) (fun _ i _=>xn-(intOf i).toNat)
 case atStart=>exact⟨0,[],Nat.zero_le _,Nat.zero_le _,rfl,Nat.zero_le _,Lib.hid (fun o h=>by cases h),Lib.hid (ji.nil _ _),Ext.refl _⟩
 case round =>
  rename World=>Wo
  obtain⟨k,os,hk,hk5,rfl,hol,HG,HO,hx⟩:=hrel;obtain⟨A3,c3,hv3,_,_⟩:=aX HO.out.1;subst hv3;by_cases hkn:k<xn
  ·skip;have hkz:(k:Int)<(xn:Int):=by omega
   by_cases hk6:k<5
   ·skip;have hkz5:(k:Int)<5:=by omega
    have hBw:=Ext.trans HB.out hx;have J5:=HJ5.out.ext hx;obtain⟨b,ob,hz,hA,hbl,hc⟩:=(HX.out.below hBw).at_ a5_len hkn;have hok:=Y8.out X[k] (List.getElem_mem hz);subst hA;generalize X[k]=x at hc hok;obtain⟨y0,y1,y2,y3,y4⟩:=x;obtain⟨ok0,ok1,ok2,ok3,ok4⟩:=hok;dsimp only at ok0 ok1 ok2 ok3 ok4;have d0:Wo.cell? ⟨b,ob+k*5,none⟩=some (.int .i64 y0):=hc 0 (by omega);have d1:Wo.cell? ⟨b,ob+k*5+1,none⟩=some (.int .i64 y1):=hc 1 (by omega);have d2:Wo.cell? ⟨b,ob+k*5+2,none⟩=some (.int .i64 y2):=hc 2 (by omega);have d3:Wo.cell? ⟨b,ob+k*5+3,none⟩=some (.int .i64 y3):=hc 3 (by omega);have d4:Wo.cell? ⟨b,ob+k*5+4,none⟩=some (.int .i64 y4):=hc 4 (by omega);clear hc hz hbl;obtain⟨bd3,hwd3⟩:=tC ok3 (n:=4) (by omega);obtain⟨bd4,hwd4⟩:=tC ok4 (n:=4) (by omega);obtain⟨yd3,hyd3⟩:∃z,z=y3.tdiv 4:=⟨_,rfl⟩;obtain⟨yd4,hyd4⟩:∃z,z=y4.tdiv 4:=⟨_,rfl⟩;rw[←hyd3]at bd3 hwd3;rw[←hyd4]at bd4 hwd4;have HD3:Hid (IntKind.i64.wrap (y3.tdiv 4)=yd3):=Lib.hid (by rw[←hyd3];exact hwd3);have HD4:Hid (IntKind.i64.wrap (y4.tdiv 4)=yd4):=Lib.hid (by rw[←hyd4];exact hwd4);clear hyd3 hyd4 hwd3 hwd4;have P0:=fun w=>jK y0 (40) w ok0.1 ok0.2 (by omega) (by omega);have b0:=aJ y0 (40) (by omega);generalize aO y0 (40)=q0 at P0 b0;obtain⟨b0a,b0b⟩:=b0;have Qp:=Lib.hid P0;clear P0;have P1:=fun w=>jK y1 (5) w ok1.1 ok1.2 (by omega) (by omega);have b1:=aJ y1 (5) (by omega);generalize aO y1 (5)=q1 at P1 b1;obtain⟨b1a,b1b⟩:=b1;have wV:=Lib.hid P1;clear P1;have P2:=fun w=>jK y2 (2*Dj+1) w ok2.1 ok2.2 (by omega) (by omega);have b2:=aJ y2 (2*Dj+1) (by omega);generalize aO y2 (2*Dj+1)=q2 at P2 b2;obtain⟨b2a,b2b⟩:=b2;have HP2:=Lib.hid P2;clear P2;have P3:=fun w=>jK y3 (4) w ok3.1 ok3.2 (by omega) (by omega);have b3:=aJ y3 (4) (by omega);generalize aO y3 (4)=q3 at P3 b3;obtain⟨b3a,b3b⟩:=b3;have Vk:=Lib.hid P3;clear P3;have P4:=fun w=>jK y4 (4) w ok4.1 ok4.2 (by omega) (by omega);have b4:=aJ y4 (4) (by omega);generalize aO y4 (4)=q4 at P4 b4;obtain⟨b4a,b4b⟩:=b4;have Vl:=Lib.hid P4;clear P4;have P5:=fun w=>jK yd4 (3) w bd4.1 bd4.2 (by omega) (by omega);have b5:=aJ yd4 (3) (by omega);generalize aO yd4 (3)=q5 at P5 b5;obtain⟨b5a,b5b⟩:=b5;have Vm:=Lib.hid P5;clear P5;have P6:=fun w=>jK yd3 (3) w bd3.1 bd3.2 (by omega) (by omega);have b6:=aJ yd3 (3) (by omega);generalize aO yd3 (3)=q6 at P6 b6;obtain⟨b6a,b6b⟩:=b6;have HP6:=Lib.hid P6;clear P6;have HQ5:Hid (∀W,Calls Tryz.prog 95 #[.int .i64 yd4,.int .i64 3] W fun e w'=>e=.returned (.int .i64 q5)∧w'=W):=Lib.hid (fun W=>(Vm.out W).mono fun e w' h=>⟨h.1,h.2.symm⟩);clear Vm;obtain⟨zy,v1_⟩:∃z,IntKind.i64.wrap (id+(k:Int))=z:=⟨_,rfl⟩;obtain⟨lk,v2_⟩:∃z,IntKind.i64.wrap (q2-Dj)=z:=⟨_,rfl⟩;have Nu:IntKind.i64.wrap (2*Dj)=2*Dj:=IntWalk.i64_in _ (by omega);have v4_:IntKind.i64.wrap (2*Dj+1)=2*Dj+1:=IntWalk.i64_in _ (by omega);have s0:Wo.cell? ⟨g5,0,none⟩=some (.int .i64 fO):=(J5.cell 0).trans VA;have s9:Wo.cell? ⟨g5,9,none⟩=some (.int .i64 Dj):=(J5.cell 9).trans XR;have HHX:=Lib.hid hx;have Xk:=Lib.hid hBw;have HJ:=Lib.hid J5;clear hx hBw J5;go_upto_region 5 with (fail);refine aF 26 [some (.int .i64 id),some (.int .i64 (k:Int)),some (.int .i64 zy),some (.slice (some ⟨b,ob,none⟩) xn xc),some (.int .i64 (k:Int)),some (.pointer (some ⟨b,ob+k*5,none⟩)),some (.pointer (some ⟨b,ob+k*5+4,none⟩)),some (.int .i64 y4),some (.int .i64 q4),some (.pointer (some ⟨g5,0,none⟩)),some (.int .i64 fO),some (.slice (some ⟨b,ob,none⟩) xn xc),some (.int .i64 (k:Int)),some (.pointer (some ⟨b,ob+k*5,none⟩)),some (.pointer (some ⟨b,ob+k*5+2,none⟩)),some (.int .i64 y2),some (.pointer (some ⟨g5,9,none⟩)),some (.int .i64 Dj),some (.int .i64 (2*Dj)),some (.int .i64 (2*Dj+1)),some (.int .i64 q2),some (.pointer (some ⟨g5,9,none⟩)),some (.int .i64 Dj),some (.int .i64 lk),some (.agg #[.int .i64 zy,.int .i64 q4,.int .i64 0,.int .i64 fO,.int .i64 0,.int .i64 0,.int .i64 lk,.int .i64 0,.slice none 0 0]),none] [(25,.w fun v w1=>∃g,v=.pointer (some ⟨g,0,none⟩)∧Wo.heap.size≤g∧aG w1 g 49 #[.int .i64 0,.int .i64 0,.int .i64 0,.int .i64 0,.int .i64 0,.int .i64 0,.int .i64 0,.int .i64 0,.slice none 0 0])] ?_ ?_ ?_
    ·refine⟨?_,trivial⟩
     ·intro v w1 w2 hr hx;obtain⟨g,h1,h2,h3⟩:=hr;exact⟨g,h1,h2,h3.ext hx⟩
    ·refine⟨?_,?_,?_,?_,?_,?_,?_,?_,?x8,?_,?_,?_,?_,?_,?_,?_,?_,?_,?_,?_,?x20,?_,?_,?_,?_,?x25,trivial⟩
     case x8 =>
      intro vals w1 hx hd;clear hd;simp only[Lf,au,Act.put,bH,bG];go_wp2_with fail;refine (Vl.out _).mono ?_;rintro e w2 ⟨rfl,rfl⟩;go_wp2;exact q_
     case x20 =>
      intro vals w1 hx hd;clear hd;simp only[Lf,au,Act.put,bH,bG];go_wp2_with fail;refine (HP2.out _).mono ?_;rintro e w2 ⟨rfl,rfl⟩;go_wp2;exact q_
     case x25 =>
      intro vals w1 hx hd;clear hd;simp only[Lf,au,Act.put,bH,bG];have hz:=Below.size hx.aH;go_wp2;exact⟨rfl,(by repeat (first | exact Below.refl _ _ | assumption | refine Below.drew ?_ | refine below_drewN ?_ _ | refine aj ?_ _ | refine Below.setCell ?_ (by first | (simp;done) | omega | (simp;omega)) _ | refine aA ?_ (by assumption))),_,rfl,by omega,aG.new _ _ _⟩
     all_goals
      intro vals w1 hx hd;clear hd;simp only[Lf,au,Act.put,bH,bG];have d4:=ah hx d4;have s0:=ah hx s0;have d2:=ah hx d2;have s9:=ah hx s9;go_wp2;exact iq
    intro vals W1 hx hf;have e24:vals 24=.agg #[.int .i64 zy,.int .i64 q4,.int .i64 0,.int .i64 fO,.int .i64 0,.int .i64 0,.int .i64 lk,.int .i64 0,.slice none 0 0]:=hf 24 (by omega);obtain⟨g13,e25,hg13,wW⟩:∃g,vals 25=.pointer (some ⟨g,0,none⟩)∧Wo.heap.size≤g∧aG W1 g 49 #[.int .i64 0,.int .i64 0,.int .i64 0,.int .i64 0,.int .i64 0,.int .i64 0,.int .i64 0,.int .i64 0,.slice none 0 0]:=hf 25 (by omega);have hE:=hx.aH;clear hf hx s0 s9 v1_ v2_ Nu v4_ HP2 Vl;refine eP 26 _ (by kernel_rfl) (by kernel_rfl) rfl ?_;simp only[Lf,au,Act.put,FR_];rw[e24,e25];clear e24 e25;refine wpList_store_row rfl 49 _ _ rfl g13 #[.int .i64 zy,.int .i64 q4,.int .i64 0,.int .i64 fO,.int .i64 0,.int .i64 0,.int .i64 lk,.int .i64 0,.slice none 0 0] rfl rfl 49 _ wW tV rfl (by simp[Value.oneCell']) ?_;have wW:=wW.row #[.int .i64 zy,.int .i64 q4,.int .i64 0,.int .i64 fO,.int .i64 0,.int .i64 0,.int .i64 lk,.int .i64 0,.slice none 0 0];have hE:=below_setRow hE hg13 #[.int .i64 zy,.int .i64 q4,.int .i64 0,.int .i64 fO,.int .i64 0,.int .i64 0,.int .i64 lk,.int .i64 0,.slice none 0 0];generalize W1.setRow g13 #[.int .i64 zy,.int .i64 q4,.int .i64 0,.int .i64 fO,.int .i64 0,.int .i64 0,.int .i64 lk,.int .i64 0,.slice none 0 0]=V1 at wW hE⊢;obtain⟨a0,Gt,ha0,ha1⟩:∃z,IntKind.i64.wrap (fr+q0)=z∧0≤z∧z≤900100:=⟨_,IntWalk.i64_in _ (by omega),by omega,by omega⟩;have e0:=ah hE d0;have o4:V1.cell? ⟨g13,4,none⟩=some (.int .i64 0):=wW.cell 4;have f4:V1.frozen? ⟨g13,4,none⟩=false:=wW.frozen 4;clear d0;go_wp2_with fail;refine (Qp.out _).mono ?_;rintro e w2 ⟨rfl,rfl⟩;go_upto_region 7 with (fail);clear o4 f4 Gt e0 Qp;have wW:=wW.cZ 4 (.int .i64 a0);have hE:=hE.setCell (p:=⟨g13,4,none⟩) hg13 (.int .i64 a0);simp only[List.setIfInBounds_toArray,List.set_cons_zero,List.set_cons_succ]at wW;generalize V1.setCell ⟨g13,4,none⟩ (.int .i64 a0)=V2 at wW hE⊢;obtain⟨b0,Gt,hb0,hb1⟩:∃z,IntKind.i64.wrap (a0+1)=z∧a0<z∧z≤a0+1:=⟨_,IntWalk.i64_in _ (by omega),by omega,by omega⟩;obtain⟨a1,u2_,hc0,hc1⟩:∃z,IntKind.i64.wrap (b0+q1)=z∧a0<z∧z≤a0+5:=⟨_,IntWalk.i64_in _ (by omega),by omega,by omega⟩;have e1:=ah hE d1;have o4:V2.cell? ⟨g13,4,none⟩=some (.int .i64 a0):=wW.cell 4;clear d1;refine aF 13 [some (.pointer (some ⟨g13,4,none⟩)),some (.pointer (some ⟨g13,4,none⟩)),some (.int .i64 a0),some (.int .i64 b0),some (.slice (some ⟨b,ob,none⟩) xn xc),some (.int .i64 (k:Int)),some (.pointer (some ⟨b,ob+k*5,none⟩)),some (.pointer (some ⟨b,ob+k*5+1,none⟩)),some (.int .i64 y1),some (.int .i64 q1),some (.int .i64 a1),some (.pointer (some ⟨g13,4,none⟩)),some (.pointer (some ⟨g13,5,none⟩))] [] ?_ ?_ ?_
    ·trivial
    ·refine⟨?_,?_,?_,?_,?_,?_,?_,?_,?_,?x9,?_,?_,?_,trivial⟩
     case x9 =>
      intro vals w1 hx hd;clear hd;simp only[Lf,au,Act.put,bH,bG];go_wp2_with fail;refine (wV.out _).mono ?_;rintro e w2 ⟨rfl,rfl⟩;go_wp2;exact q_
     all_goals
      intro vals w1 hx hd;clear hd;simp only[Lf,au,Act.put,bH,bG];have o4:=ah hx o4;have e1:=ah hx e1;go_wp2;exact iq
    intro vals V3 hx hf;have hx:=hx.aH;have ev:vals 10=.int .i64 a1:=hf 10 (by omega);have ep:vals 12=.pointer (some ⟨g13,5,none⟩):=hf 12 (by omega);have wW:=wW.ext hx;have hE:=Ext.trans hE hx;clear hf hx o4 e1 Gt u2_ wV;refine eP 13 _ (by kernel_rfl) (by kernel_rfl) rfl ?_;simp only[Lf,au,Act.put,FR_];rw[ev,ep];clear ev ep;have f5:V3.frozen? ⟨g13,5,none⟩=false:=wW.frozen 5;have o5:V3.cell? ⟨g13,5,none⟩=some (.int .i64 0):=wW.cell 5;go_upto_region 8 with (fail);clear f5 o5;have wW:=wW.cZ 5 (.int .i64 a1);have hE:=hE.setCell (p:=⟨g13,5,none⟩) hg13 (.int .i64 a1);simp only[List.setIfInBounds_toArray,List.set_cons_zero,List.set_cons_succ]at wW;generalize V3.setCell ⟨g13,5,none⟩ (.int .i64 a1)=V4 at wW hE⊢;obtain⟨mn,Gt,hm0,hm1⟩:∃z,IntKind.i64.wrap (1+q3)=z∧1≤z∧z≤4:=⟨_,IntWalk.i64_in _ (by omega),by omega,by omega⟩;obtain⟨z1,u2_⟩:∃z,IntKind.i64.wrap (mn*XT)=z:=⟨_,rfl⟩;obtain⟨sz,u3_⟩:∃z,(if z1<VB then z1 else VB)=z:=⟨_,rfl⟩;have e3:=ah hE d3;have s10:V4.cell? ⟨g5,10,none⟩=some (.int .i64 VB):=ah hE ((HJ.out.cell 10).trans est);have s20:V4.cell? ⟨g5,20,none⟩=some (.int .i64 XT):=ah hE ((HJ.out.cell 20).trans era);have o7:V4.cell? ⟨g13,7,none⟩=some (.int .i64 0):=wW.cell 7;have f7:V4.frozen? ⟨g13,7,none⟩=false:=wW.frozen 7;go_wp2_with fail;refine (Vk.out _).mono ?_;rintro e w2 ⟨rfl,rfl⟩;go_upto_region 10 with (fail);clear e3 s10 s20 o7 f7 Gt u2_ u3_ Vk;have wW:=wW.cZ 7 (.int .i64 sz);have hE:=hE.setCell (p:=⟨g13,7,none⟩) hg13 (.int .i64 sz);simp only[List.setIfInBounds_toArray,List.set_cons_zero,List.set_cons_succ]at wW;generalize V4.setCell ⟨g13,7,none⟩ (.int .i64 sz)=V5 at wW hE⊢;have o5:V5.cell? ⟨g13,5,none⟩=some (.int .i64 a1):=wW.cell 5;have HJ13:=Lib.hid wW;have HE:=Lib.hid hE;clear wW hE;go_wp2;clear o5;go_loopw [15,16] (fun x y wz=>∃(m:Nat) (en:Int) (sl:List xu) (LA:Option Addr) (lc:Nat),m≤pn∧x=.int .i64 en∧y=.int .i64 m∧0≤en∧en≤1000001∧sl.length≤3∧Hid (aG wz g13 49 #[.int .i64 zy,.int .i64 q4,.int .i64 0,.int .i64 fO,.int .i64 a0,.int .i64 a1,.int .i64 lk,.int .i64 sz,.slice LA sl.length lc])∧Hid (uj wz Wo.heap.size (.slice LA sl.length lc) sl)∧Hid (∀s∈sl,I7 fO P s)∧Ext Wo wz) (fun _ y _=>pn-(intOf y).toNat)
    case atStart=>exact⟨0,_,[],none,0,Nat.zero_le _,rfl,rfl,by omega,by omega,by simp,HJ13,Lib.hid (World.ownsRow_nil _ _ _ _),Lib.hid (fun s h=>by cases h),HE.out⟩
    case round =>
     obtain⟨m,en,sl,LA,lc,hm,rfl,rfl,hen0,hen1,hsl,HJ2,HS2,WU,hy⟩:=hrel;obtain⟨ln,hln⟩:∃z,z=sl.length:=⟨_,rfl⟩;rw[←hln]at hsl HJ2 HS2;have uz:=Lib.hid hln;clear hln;have HY:=Lib.hid hy;clear hy;obtain⟨n5,u5_,hn5a,hn5b⟩:∃z,IntKind.i64.wrap (1+q5)=z∧1≤z∧z≤3:=⟨_,IntWalk.i64_in _ (by omega),by omega,by omega⟩;have o8:wr.cell? ⟨g13,8,none⟩=some (.slice LA ln lc):=HJ2.out.cell 8;have e4:=ah HY.out d4;have hD4:=HD4.out;by_cases hmn:m<pn
     ·skip;have hmz:(m:Int)<(pn:Int):=by omega
      by_cases hls:(ln:Int)<n5
      ·skip;go_upto_region 12 with (fail);go_quiet (with_reducible exact Calls.quiet_of_same (HQ5.out _))
       clear o8 e4 hD4 u5_;obtain⟨pb,po,hz,hA,_,hc⟩:=(HP.out.below (Ext.trans Xk.out HY.out)).at_ bg hmn;have hpb:=HPB.out P[m] (List.getElem_mem hz);have hzz:=hz;subst hA;obtain⟨pp,hpp⟩:∃x,x=P[m]:=⟨_,rfl⟩;rw[←hpp]at hc hpb;obtain⟨x0,x1,⟨x2,x3⟩,⟨x4,x5⟩⟩:=pp;dsimp only at hpb;have oH:Hid (∃h:m<P.length,P[m].sat=x0):=Lib.hid ⟨hzz,by rw[←hpp]⟩;have f0:wr.cell? ⟨pb,po+m*6,none⟩=some (.int .i64 x0):=hc 0 (by omega);have f2:wr.cell? ⟨pb,po+m*6+2,none⟩=some (.int .i64 x2):=hc 2 (by omega);have f3:wr.cell? ⟨pb,po+m*6+3,none⟩=some (.int .i64 x3):=hc 3 (by omega);clear hc hz hpp hzz;obtain⟨⟨hp1,hp2⟩,hp3,hp4⟩:=hpb;have e3:=ah HY.out d3;have s0:wr.cell? ⟨g5,0,none⟩=some (.int .i64 fO):=ah HY.out ((HJ.out.cell 0).trans VA);obtain⟨sm,v1_,hs1,hs2⟩:∃z,IntKind.i64.wrap (x2+q6)=z∧0≤z∧z≤1000010:=⟨_,IntWalk.i64_in _ (by omega),by omega,by omega⟩;obtain⟨mx,v2_,hx1,hx2,hx3⟩:∃z,(if en<sm then sm else en)=z∧0≤z∧z≤1000010∧en≤z:=⟨_,rfl,by split<;>omega,by split<;>omega,by split<;>omega⟩;obtain⟨en2,Nu,hy1,hy2⟩:∃z,IntKind.i64.wrap (mx+mn)=z∧mx<z∧z≤1000020:=⟨_,IntWalk.i64_in _ (by omega),by omega,by omega⟩;have hD3:=HD3.out;go_upto_region 14 with (fail);refine aF 16 [some (.int .i64 en),some (.slice (some ⟨pb,po,none⟩) pn pc),some (.int .i64 (m:Int)),some (.pointer (some ⟨pb,po+m*6,none⟩)),some (.pointer (some ⟨pb,po+m*6+2,none⟩)),some (.pointer (some ⟨pb,po+m*6+2,none⟩)),some (.int .i64 x2),some (.slice (some ⟨b,ob,none⟩) xn xc),some (.int .i64 (k:Int)),some (.pointer (some ⟨b,ob+k*5,none⟩)),some (.pointer (some ⟨b,ob+k*5+3,none⟩)),some (.int .i64 y3),some (.int .i64 yd3),some (.int .i64 q6),some (.int .i64 sm),some (.int .i64 mx)] [] ?_ ?_ ?_
       ·trivial
       ·refine⟨?_,?_,?_,?_,?_,?_,?_,?_,?_,?_,?_,?_,?_,?x13,?_,?_,trivial⟩
        case x13 =>
         intro vals w1 hx hd;clear hd;simp only[Lf,au,Act.put,bH,bG];go_wp2_with fail;refine (HP6.out _).mono ?_;rintro e w2 ⟨rfl,rfl⟩;go_wp2;exact q_
        all_goals
         intro vals w1 hx hd;clear hd;simp only[Lf,au,Act.put,bH,bG];have f2:=ah hx f2;have e3:=ah hx e3;go_wp2;exact iq
       intro vals Wa hx hf;have ev:vals 15=.int .i64 mx:=hf 15 (by omega);have hx:=Ext.trans (below_drewN (Below.refl _ _) _:Ext wr (wr.drewN _)) hx.aH;clear hf;have f0:=ah hx f0;have f3:=ah hx f3;have s0:=ah hx s0;have HY:=Lib.hid (Ext.trans HY.out hx);have HJ2:=Lib.hid (HJ2.out.ext hx);have HS2:=Lib.hid (HS2.out.ext hx);clear hx e3 f2 v1_ v2_ hD3;refine eP 16 _ (by kernel_rfl) (by kernel_rfl) rfl ?_;simp only[Lf,au,Act.put,FR_];rw[ev];clear ev;by_cases hx0:x0=fO
       ·skip;have hx0b:(x0==fO)=true:=by simp[hx0]
        by_cases hle:en2≤x3
        ·skip;go_upto_region 15 with (fail);go_quiet (fail)
         clear f0 f3 s0;go_upto_region 16 with (fail);have nC:Ext Wa (Wa.drewN nq):=below_drewN (Below.refl _ _) nq;generalize Wa.drewN nq=Wb at nC⊢;have hJ:=HJ2.out.ext nC;have hS:=HS2.out.ext nC;have hY:=Ext.trans HY.out nC;clear nC;have jx:aG (Wb.alloc (.cells #[.int .i64 (m:Int),.int .i64 mx,.int .i64 en2] 103)) Wb.heap.size 103 (dR ⟨(m:Int),mx,en2⟩).toArray:=aG.new _ _ _;have hxa:Ext Wb (Wb.alloc (.cells #[.int .i64 (m:Int),.int .i64 mx,.int .i64 en2] 103)):=aj (Below.refl _ _) _;have hJa:=hJ.ext hxa;have XV:=hS.ext hxa;have hln:=uz.out;have o8:Wb.cell? ⟨g13,8,none⟩=some (.slice LA ln lc):=hJ.cell 8;rw[hln]at hJa XV;obtain⟨A7,c7,W7,hrun,hcl,hfr,hblk,hown,hext⟩:=XU _ _ jx hJa XV (by omega) hg13;have hy7:=hext Wo (Ext.trans hY hxa) (Nat.le_refl _);rw[←hln]at hrun hcl hblk hown hy7;have jY:=Lib.hid hrun;have HBLK:=Lib.hid hblk;have HOWN:=Lib.hid hown;have HY7:=Lib.hid hy7;have HGS7:Hid (∀s∈sl++[(⟨(m:Int),mx,en2⟩:xu)],I7 fO P s):=Lib.hid (fun s hs=>by
          rcases List.mem_append.1 hs with hs | hs
          ·exact WU.out s hs
          ·obtain⟨hq1,hq2⟩:=oH.out;rw[List.mem_singleton.1 hs];exact⟨hy1,m,hq1,rfl,by rw[hq2,hx0]⟩)
         clear hrun hblk hown hext hy7 hJa XV hxa jx hJ hS hY hln WU oH;go_upto_region 17 with (refine aP rfl _ _ _ rfl rfl rfl jY.out ?_);clear hcl hfr o8 jY;generalize W7.setCell ⟨g13,8,none⟩ (.slice A7 (ln+1) c7)=W8 at HBLK HOWN HY7⊢;go_wp2;go_roundw
         case rel=>exact⟨m+1,en2,sl++[⟨(m:Int),mx,en2⟩],A7,c7,by omega,rfl,by go_num,by omega,by omega,by rw[List.length_append,←uz.out];simp;omega,Lib.hid (by rw[List.length_append,←uz.out];exact HBLK.out),Lib.hid (by rw[List.length_append,←uz.out];exact HOWN.out),HGS7,HY7.out⟩
         case measure=>simp[intOf];omega
        ·skip;have hle2:decide (en2≤x3)=false:=by simp;omega
         go_upto_region 15 with (fail);go_quiet (fail)
         clear f0 f3 s0;go_wp2;go_roundw
         case rel=>exact⟨m+1,en,sl,LA,lc,by omega,rfl,by go_num,hen0,hen1,by rw[←uz.out];exact hsl,Lib.hid (by rw[←uz.out];exact HJ2.out.ext (below_drewN (Below.refl _ _) _)),Lib.hid (by rw[←uz.out];exact HS2.out.ext (below_drewN (Below.refl _ _) _)),WU,Ext.trans HY.out (below_drewN (Below.refl _ _) _)⟩
         case measure=>simp[intOf];omega
       ·skip;have hx0b:(x0==fO)=false:=by simp[hx0]
        go_upto_region 15 with (fail);go_quiet (fail)
        clear f0 f3 s0;go_wp2;go_roundw
        case rel=>exact⟨m+1,en,sl,LA,lc,by omega,rfl,by go_num,hen0,hen1,by rw[←uz.out];exact hsl,Lib.hid (by rw[←uz.out];exact HJ2.out.ext (below_drewN (Below.refl _ _) _)),Lib.hid (by rw[←uz.out];exact HS2.out.ext (below_drewN (Below.refl _ _) _)),WU,Ext.trans HY.out (below_drewN (Below.refl _ _) _)⟩
        case measure=>simp[intOf];omega
      ·skip;have hls2:decide ((ln:Int)<n5)=false:=by simp;omega
       go_upto_region 12 with (fail);go_quiet (with_reducible exact Calls.quiet_of_same (HQ5.out _))
       clear o8 e4 hD4 u5_;go_upto_region 18 with (fail);have hOz:=HO.out.ext (Ext.trans HY.out (below_drewN (Below.refl _ _) nq));have HOZ:Hid (ji (wr.drewN nq) W0.heap.size (.slice A3 os.length c3) os):=Lib.hid hOz;clear hOz;have nC:Ext wr (wr.drewN nq):=below_drewN (Below.refl _ _) nq;generalize wr.drewN nq=Wz at nC HOZ⊢;have hJ:=HJ2.out.ext nC;have hS:=HS2.out.ext nC;have hY:=Ext.trans HY.out nC;clear nC;have HJ5:=Lib.hid (HJ.out.ext hY);have hW0:=Ext.trans HHX.out hY;have t0:Wz.cell? ⟨g13,0,none⟩=some (.int .i64 zy):=hJ.cell 0;have t1:Wz.cell? ⟨g13,1,none⟩=some (.int .i64 q4):=hJ.cell 1;have t2:Wz.cell? ⟨g13,2,none⟩=some (.int .i64 0):=hJ.cell 2;have t3:Wz.cell? ⟨g13,3,none⟩=some (.int .i64 fO):=hJ.cell 3;have t4:Wz.cell? ⟨g13,4,none⟩=some (.int .i64 a0):=hJ.cell 4;have t5:Wz.cell? ⟨g13,5,none⟩=some (.int .i64 a1):=hJ.cell 5;have t6:Wz.cell? ⟨g13,6,none⟩=some (.int .i64 lk):=hJ.cell 6;have t7:Wz.cell? ⟨g13,7,none⟩=some (.int .i64 sz):=hJ.cell 7;have t8:Wz.cell? ⟨g13,8,none⟩=some (.slice LA ln lc):=hJ.cell 8;have xg:=Lib.hid (hS.ra uz.out (by omega));have HWW:=Lib.hid (Ext.trans HB.out hW0);have HW0:=Lib.hid hW0;have Qs:=Lib.hid hS;clear hS hY hW0;go_wp2_with (refine ay rfl 53 _ rfl g5 0 rfl SX SX.toList (by simp) _ (aG.range HJ5.out _ rfl) Tryz.underlying53 rfl (by rw[Array.length_toList,Vz.out];exact aQ) ?_);refine (HPR.out _ _ _ _ _ _ _ _ _ _ _ sl _ HWW.out xg.out).mono ?_;rintro e Wp ⟨⟨q,rfl⟩,hxp⟩;have hJ:=hJ.ext hxp;have hW0:=Ext.trans HW0.out hxp;have hS:=Qs.out.ext hxp;have hQ:=HOZ.out.ext hxp;clear t0 t1 t2 t3 t4 t5 t6 t7 t8 hxp HWW HW0 Qs HOZ xg;cases q with
       |true =>
        have t0:Wp.cell? ⟨g13,0,none⟩=some (.int .i64 zy):=hJ.cell 0;have t1:Wp.cell? ⟨g13,1,none⟩=some (.int .i64 q4):=hJ.cell 1;have t2:Wp.cell? ⟨g13,2,none⟩=some (.int .i64 0):=hJ.cell 2;have t3:Wp.cell? ⟨g13,3,none⟩=some (.int .i64 fO):=hJ.cell 3;have t4:Wp.cell? ⟨g13,4,none⟩=some (.int .i64 a0):=hJ.cell 4;have t5:Wp.cell? ⟨g13,5,none⟩=some (.int .i64 a1):=hJ.cell 5;have t6:Wp.cell? ⟨g13,6,none⟩=some (.int .i64 lk):=hJ.cell 6;have t7:Wp.cell? ⟨g13,7,none⟩=some (.int .i64 sz):=hJ.cell 7;have t8:Wp.cell? ⟨g13,8,none⟩=some (.slice LA ln lc):=hJ.cell 8;have jx:aG (Wp.alloc (.cells #[.int .i64 zy,.int .i64 q4,.int .i64 0,.int .i64 fO,.int .i64 a0,.int .i64 a1,.int .i64 lk,.int .i64 sz,.slice LA ln lc] 49)) Wp.heap.size 49 (dX (⟨⟨zy,q4,0,fO,a0,a1,lk,sz,sl⟩,LA,ln,lc⟩:iY)).toArray:=aG.new _ _ _;have hxa:Ext Wp (Wp.alloc (.cells #[.int .i64 zy,.int .i64 q4,.int .i64 0,.int .i64 fO,.int .i64 a0,.int .i64 a1,.int .i64 lk,.int .i64 sz,.slice LA ln lc] 49)):=aj (Below.refl _ _) _;have hQa:=hQ.ext hxa;have XV:=own_base (uj.ext hS hxa) (Below.size HHX.out);have hWa:=Ext.trans hW0 hxa;obtain⟨v7,W7,hrun,hgr,hown⟩:=I5 35 os (.slice A3 os.length c3) (⟨⟨zy,q4,0,fO,a0,a1,lk,sz,sl⟩,LA,ln,lc⟩:iY) _ _ jx hQa uz.out XV (by omega) (Below.size hWa);have hx7:Ext W0 W7:=hWa.grown hgr (Below.size hWa) (fun q e=>(World.ownsRow.lt hQa.1 q e).1);have HG7:Hid (∀o∈os++[(⟨⟨zy,q4,0,fO,a0,a1,lk,sz,sl⟩,LA,ln,lc⟩:iY)],lV fO P o.o):=Lib.hid (fun o ho=>by
         rcases List.mem_append.1 ho with ho | ho
         ·exact HG.out o ho
         ·rw[List.mem_singleton.1 ho];exact⟨rfl,ha0,hc0,by show a1≤1000000;omega,by show a1-a0≤5;omega,WU.out⟩)
        have jY:=Lib.hid hrun;have HOWN:=Lib.hid hown;have Xu:=Lib.hid hx7;clear hrun hgr hown hx7 hWa XV hQa hxa jx hS hQ hW0 hJ;go_wp2_with (refine aP rfl _ _ _ rfl rfl rfl jY.out ?_);go_roundw
        case rel=>exact⟨k+1,os++[(⟨⟨zy,q4,0,fO,a0,a1,lk,sz,sl⟩,LA,ln,lc⟩:iY)],by omega,by omega,by go_num,by rw[List.length_append];simp;omega,HG7,HOWN,Xu.out⟩
        case measure=>simp[intOf];omega
       |false =>
        have HQ7:=Lib.hid hQ;have Xu:=Lib.hid hW0;clear hS hQ hW0 hJ;go_wp2;go_roundw
        case rel=>exact⟨k+1,os,by omega,by omega,by go_num,by omega,HG,HQ7,Xu.out⟩
        case measure=>simp[intOf];omega
     ·skip;have hmz2:decide ((m:Int)<(pn:Int))=false:=by simp;omega
      go_upto_region 12 with (fail);go_quiet (with_reducible exact Calls.quiet_of_same (HQ5.out _))
      clear o8 e4 hD4 u5_;go_upto_region 18 with (fail);have hOz:=HO.out.ext (Ext.trans HY.out (below_drewN (Below.refl _ _) nq));have HOZ:Hid (ji (wr.drewN nq) W0.heap.size (.slice A3 os.length c3) os):=Lib.hid hOz;clear hOz;have nC:Ext wr (wr.drewN nq):=below_drewN (Below.refl _ _) nq;generalize wr.drewN nq=Wz at nC HOZ⊢;have hJ:=HJ2.out.ext nC;have hS:=HS2.out.ext nC;have hY:=Ext.trans HY.out nC;clear nC;have HJ5:=Lib.hid (HJ.out.ext hY);have hW0:=Ext.trans HHX.out hY;have t0:Wz.cell? ⟨g13,0,none⟩=some (.int .i64 zy):=hJ.cell 0;have t1:Wz.cell? ⟨g13,1,none⟩=some (.int .i64 q4):=hJ.cell 1;have t2:Wz.cell? ⟨g13,2,none⟩=some (.int .i64 0):=hJ.cell 2;have t3:Wz.cell? ⟨g13,3,none⟩=some (.int .i64 fO):=hJ.cell 3;have t4:Wz.cell? ⟨g13,4,none⟩=some (.int .i64 a0):=hJ.cell 4;have t5:Wz.cell? ⟨g13,5,none⟩=some (.int .i64 a1):=hJ.cell 5;have t6:Wz.cell? ⟨g13,6,none⟩=some (.int .i64 lk):=hJ.cell 6;have t7:Wz.cell? ⟨g13,7,none⟩=some (.int .i64 sz):=hJ.cell 7;have t8:Wz.cell? ⟨g13,8,none⟩=some (.slice LA ln lc):=hJ.cell 8;have xg:=Lib.hid (hS.ra uz.out (by omega));have HWW:=Lib.hid (Ext.trans HB.out hW0);have HW0:=Lib.hid hW0;have Qs:=Lib.hid hS;clear hS hY hW0;go_wp2_with (refine ay rfl 53 _ rfl g5 0 rfl SX SX.toList (by simp) _ (aG.range HJ5.out _ rfl) Tryz.underlying53 rfl (by rw[Array.length_toList,Vz.out];exact aQ) ?_);refine (HPR.out _ _ _ _ _ _ _ _ _ _ _ sl _ HWW.out xg.out).mono ?_;rintro e Wp ⟨⟨q,rfl⟩,hxp⟩;have hJ:=hJ.ext hxp;have hW0:=Ext.trans HW0.out hxp;have hS:=Qs.out.ext hxp;have hQ:=HOZ.out.ext hxp;clear t0 t1 t2 t3 t4 t5 t6 t7 t8 hxp HWW HW0 Qs HOZ xg;cases q with
      |true =>
       have t0:Wp.cell? ⟨g13,0,none⟩=some (.int .i64 zy):=hJ.cell 0;have t1:Wp.cell? ⟨g13,1,none⟩=some (.int .i64 q4):=hJ.cell 1;have t2:Wp.cell? ⟨g13,2,none⟩=some (.int .i64 0):=hJ.cell 2;have t3:Wp.cell? ⟨g13,3,none⟩=some (.int .i64 fO):=hJ.cell 3;have t4:Wp.cell? ⟨g13,4,none⟩=some (.int .i64 a0):=hJ.cell 4;have t5:Wp.cell? ⟨g13,5,none⟩=some (.int .i64 a1):=hJ.cell 5;have t6:Wp.cell? ⟨g13,6,none⟩=some (.int .i64 lk):=hJ.cell 6;have t7:Wp.cell? ⟨g13,7,none⟩=some (.int .i64 sz):=hJ.cell 7;have t8:Wp.cell? ⟨g13,8,none⟩=some (.slice LA ln lc):=hJ.cell 8;have jx:aG (Wp.alloc (.cells #[.int .i64 zy,.int .i64 q4,.int .i64 0,.int .i64 fO,.int .i64 a0,.int .i64 a1,.int .i64 lk,.int .i64 sz,.slice LA ln lc] 49)) Wp.heap.size 49 (dX (⟨⟨zy,q4,0,fO,a0,a1,lk,sz,sl⟩,LA,ln,lc⟩:iY)).toArray:=aG.new _ _ _;have hxa:Ext Wp (Wp.alloc (.cells #[.int .i64 zy,.int .i64 q4,.int .i64 0,.int .i64 fO,.int .i64 a0,.int .i64 a1,.int .i64 lk,.int .i64 sz,.slice LA ln lc] 49)):=aj (Below.refl _ _) _;have hQa:=hQ.ext hxa;have XV:=own_base (uj.ext hS hxa) (Below.size HHX.out);have hWa:=Ext.trans hW0 hxa;obtain⟨v7,W7,hrun,hgr,hown⟩:=I5 35 os (.slice A3 os.length c3) (⟨⟨zy,q4,0,fO,a0,a1,lk,sz,sl⟩,LA,ln,lc⟩:iY) _ _ jx hQa uz.out XV (by omega) (Below.size hWa);have hx7:Ext W0 W7:=hWa.grown hgr (Below.size hWa) (fun q e=>(World.ownsRow.lt hQa.1 q e).1);have HG7:Hid (∀o∈os++[(⟨⟨zy,q4,0,fO,a0,a1,lk,sz,sl⟩,LA,ln,lc⟩:iY)],lV fO P o.o):=Lib.hid (fun o ho=>by
        rcases List.mem_append.1 ho with ho | ho
        ·exact HG.out o ho
        ·rw[List.mem_singleton.1 ho];exact⟨rfl,ha0,hc0,by show a1≤1000000;omega,by show a1-a0≤5;omega,WU.out⟩)
       have jY:=Lib.hid hrun;have HOWN:=Lib.hid hown;have Xu:=Lib.hid hx7;clear hrun hgr hown hx7 hWa XV hQa hxa jx hS hQ hW0 hJ;go_wp2_with (refine aP rfl _ _ _ rfl rfl rfl jY.out ?_);go_roundw
       case rel=>exact⟨k+1,os++[(⟨⟨zy,q4,0,fO,a0,a1,lk,sz,sl⟩,LA,ln,lc⟩:iY)],by omega,by omega,by go_num,by rw[List.length_append];simp;omega,HG7,HOWN,Xu.out⟩
       case measure=>simp[intOf];omega
      |false =>
       have HQ7:=Lib.hid hQ;have Xu:=Lib.hid hW0;clear hS hQ hW0 hJ;go_wp2;go_roundw
       case rel=>exact⟨k+1,os,by omega,by omega,by go_num,by omega,HG,HQ7,Xu.out⟩
       case measure=>simp[intOf];omega
   ·skip;have hkz5:¬(k:Int)<5:=by omega
    have DY:=Lib.hid (Ext.trans HB.out hx);clear hx;go_wp2;exact IQ.out _ os _ (HO.out.base (Below.size HB.out)) HG.out (by omega) DY.out
  ·skip;have hkz:¬(k:Int)<(xn:Int):=by omega
   have DY:=Lib.hid (Ext.trans HB.out hx);clear hx;go_wp2;exact IQ.out _ os _ (HO.out.base (Below.size HB.out)) HG.out (by omega) DY.out
end Go.Proofs.YtjidhhfabfnhnaaGreat
namespace Go.Proofs.YtjidhhfabfnhnaaGreat
theorem Ed (x:List A7) (y:List A4):(nY x y).length≤3:=by rw[nY,xk];omega
theorem yh (x:List A7) (y:List A4) (i:Nat) (h:i<(nY x y).length):dQ (nY x y)[i]=true∧(nY x y)[i].id=2*(i:Int)+1:=by
 have h3:=Ed x y;simp only[nY,nX,List.getElem_map,List.getElem_range];exact⟨N8 _ _ _,XE _ _ _ (by omega)⟩
theorem Ee {α:Type} {ok:α→Bool} {id:α→Int} : ∀(l:List α) (p:Option α),(∀(i:Nat) (h:i<l.length),ok l[i]=true)→(∀(i:Nat) (h:i+1<l.length),id l[i]<id l[i+1])→(∀y,p=some y→∀h:0<l.length,id y<id l[0])→dH ok id p l=true
 |[],_,_,_,_=>rfl
 |x::l,p,h1,h2,h3=>by
  have hx:ok x=true:=h1 0 (by simp);have hl:dH ok id (some x) l=true:=Ee l (some x) (fun i hi=>h1 (i+1) (by simpa using hi)) (fun i hi=>h2 (i+1) (by simpa using hi)) (fun y hy h=>by cases hy;exact h2 0 (by simpa using h));cases p with
  |none=>simp only[dH,hx,hl,Bool.and_true]
  |some y =>
   have h0:id y<id x:=h3 y rfl (by simp);simp only[dH,hx,hl,decide_eq_true h0,Bool.and_true]
theorem Ut (x:List A7) (y:List A4):eH (nY x y)=true:=by
 have h3:=Ed x y;rw[eH,decide_eq_true (by omega),Bool.true_and];exact Ee _ _ (fun i h=>(yh x y i h).1) (fun i h=>by rw[(yh x y i (by omega)).2,(yh x y (i+1) h).2];omega) (fun _ h=>by cases h)
end Go.Proofs.YtjidhhfabfnhnaaGreat
namespace Go.Proofs.YtjidhhfabfnhnaaGreat
theorem getD_in {α:Type} (l:List α) (i:Nat) (h:i<l.length) (d:α):l.getD i d=l[i]:=by simp[h]
theorem XW {o:iM} (h:dw o=true) (c:Int):dw (Rk o c)=true:=by
 have h7:=aJ c 7 (by omega);have h4:=aJ (c.tdiv 7) 4 (by omega);have h2:=aJ (c.tdiv 28) 2 (by omega);have e:dw (Rk o c)=(inB o.period 20 2000&&(o.period % 2==0)&&inB ((o.phase+aO c 7) % o.period) 0 (o.period-1)&&inB o.low 0 23999&&inB o.high 0 23999&&decide (o.low<o.high)&&inB ((o.node+1000*aO (c.tdiv 7) 4) % 48000) 0 47999&&inB o.turn (-2000) 2000&&inB (if o.dP+aO (c.tdiv 28) 2<10 then o.dP+aO (c.tdiv 28) 2 else 10) 0 10):=rfl;rw[e];unfold dw at h;simp only[Bool.and_eq_true,jf,decide_eq_true_eq]at h⊢;obtain⟨⟨⟨⟨⟨⟨⟨⟨a1,a2⟩,a3⟩,a4⟩,a5⟩,a6⟩,a7⟩,a8⟩,a9⟩:=h;have e1:=Int.emod_nonneg (o.phase+aO c 7) (b:=o.period) (by omega);have e2:=Int.emod_lt_of_pos (o.phase+aO c 7) (b:=o.period) (by omega);refine⟨⟨⟨⟨⟨⟨⟨⟨a1,a2⟩,by omega⟩,a4⟩,a5⟩,a6⟩,by omega⟩,a8⟩,?_⟩
 split<;>omega
def PK (ids:List Int):Int→List fE→Prop
 |_,[]=>True
 |p,u::r=>u.sat∈ids∧yE u=true∧p≤u.kn∧PK ids u.kn r
theorem Ef {ids:List Int} : ∀ {l:List fE} {p:Int} {q:Option Int},PK ids p l→(∀k,q=some k→k≤p)→jV ids q l=true
 |[],_,_,_,_=>rfl
 |u::r,p,q,⟨h1,h2,h3,h4⟩,hq=>by
  unfold jV;rw[decide_eq_true h1,h2,Ef h4 (fun k e=>by injection e with e;omega)];cases q with
  |none=>rfl
  |some k=>simp;have:=hq k rfl;omega
theorem Uu {ids:List Int} : ∀ {l:List fE} {p q:Int},PK ids p l→q≤p→PK ids q l
 |[],_,_,_,_=>trivial
 |_::_,_,_,⟨h1,h2,h3,h4⟩,hq=>⟨h1,h2,by omega,h4⟩
theorem uU {ids:List Int} (id:Int):∀ {l:List fE} {p:Int},PK ids p l→PK [id] p (t_ id l)
 |[],_,_=>trivial
 |u::r,p,⟨h1,h2,h3,h4⟩=>by
  unfold t_;rw[List.filter_cons]
  split
  ·rename_i hu
   exact⟨by simp at hu⊢;exact hu,h2,h3,uU id h4⟩
  ·exact Uu (uU id h4) h3
theorem I8 {ids:List Int} {u:fE} : ∀ {l:List fE} {p:Int},PK ids p l→u.sat∈ids→yE u=true→p≤u.kn→(∀v∈l,v.kn≤u.kn)→PK ids p (l++[u])
 |[],_,_,h1,h2,h3,_=>⟨h1,h2,h3,trivial⟩
 |v::_,_,⟨g1,g2,g3,g4⟩,h1,h2,_,h4=>⟨g1,g2,g3,I8 g4 h1 h2 (h4 v (List.mem_cons_self ..)) (fun x hx=>h4 x (List.mem_cons_of_mem _ hx))⟩
theorem Uw (fr:Int) (x:List A4) (h:0≤fr∧fr≤1000000) (k:Nat):EX fr x k≤EX fr x (k+1):=by
 have:=JY fr x h k;rw[EX];have:=aJ (x.getD k z4).a2 60 (by omega)
 split<;>omega
theorem knA_le (fr:Int) (x:List A4) (h:0≤fr∧fr≤1000000) (i:Nat):∀k,i≤k→EX fr x i≤EX fr x k:=by
 intro k hk
 induction k with
 |zero=>rw[Nat.le_zero.1 hk];exact Int.le_refl _
 |succ k ih =>
  by_cases e:i=k+1
  ·rw[e];exact Int.le_refl _
  ·exact Int.le_trans (ih (by omega)) (Uw fr x h k)
theorem Ux (sats:List St) (fr:Int) (x:List A4) (h:0≤fr∧fr≤1000000) (hs:∀s∈sats,dw s.aY=true) (h0:0<sats.length) (k:Nat):PK (sats.map (·.id)) fr (uD sats fr x k):=by
 induction k with
 |zero=>exact trivial
 |succ k ih =>
  rw[zW];have hp:=aJ (x.getD k z4).a0 sats.length (by omega);have hi:(aO (x.getD k z4).a0 sats.length).toNat<sats.length:=by omega
  have hm:sats.getD (aO (x.getD k z4).a0 sats.length).toNat zS∈sats:=by
   rw[getD_in _ _ hi];exact List.getElem_mem hi
  have h1:=aJ (x.getD k z4).a1 300 (by omega);have h2:=JY fr x h (k+1);refine I8 ih (List.mem_map.2 ⟨_,hm,rfl⟩) ?_ h2.1 (fun v hv=>?_)
  ·have ho:=XW (hs _ hm) (x.getD k z4).a3;have e:yE (Wi sats fr x k)=(inB (if fr+aO (x.getD k z4).a1 300<1000000 then fr+aO (x.getD k z4).a1 300 else 1000000) 0 1000000&&inB (EX fr x (k+1)) 0 1000000&&dw (Rk (sats.getD (aO (x.getD k z4).a0 sats.length).toNat zS).aY (x.getD k z4).a3)):=rfl;rw[e,ho];simp only[Bool.and_true,Bool.and_eq_true,jf];refine⟨?_,by omega,h2.2⟩
   split<;>omega
  ·obtain⟨i,hi,rfl⟩:=List.mem_map.1 hv;have:=List.mem_range.1 hi;exact knA_le fr x h (i+1) (k+1) (by omega)
theorem Uy (sats:List St) (fr:Int) (x:List A4) (h:0≤fr∧fr≤1000000) (hs:∀s∈sats,dw s.aY=true):PK (sats.map (·.id)) fr (qO sats fr x):=by
 unfold qO
 split
 ·exact trivial
 ·exact Ux sats fr x h hs (by omega) _
theorem Uz (sats:List St) (fr:Int) (x:List A4):(qO sats fr x).length≤6:=by
 unfold qO
 split
 ·simp
 ·rw[xq];omega
theorem PN {sats:List St} {l:List fE} {p:Int} (h:PK (sats.map (·.id)) p l) (hl:l.length≤24) (hs:eH sats=true):fV sats l=true:=by
 unfold fV;rw[Ef (q:=none) h (fun _ e=>by cases e),decide_eq_true hl,hs];rfl
theorem PO {ids:List Int} {x:St} {l:List fE} {p:Int} (h:PK ids p l) (hl:l.length≤24) (hx:dQ x=true):qj x l=true :=
 PN (uU x.id h) (Nat.le_trans (List.length_filter_le _ _) hl) (by simp[eH,dH,hx])
def Chn (f:Int→iM):Int→List Str→Int→Prop
 |a,[],b=>a=b
 |a,s::r,b=>s.sp.fr=a∧a<s.sp.tt∧s.sp.tt≤b∧(∀u,a≤u→u<s.sp.tt→f u=s.eY)∧(∀x,r.head?=some x→s.eY≠x.eY)∧Chn f s.sp.tt r b
end Go.Proofs.YtjidhhfabfnhnaaGreat
namespace Go.Proofs.YtjidhhfabfnhnaaGreat
open Go.RowKit
theorem I9 (sat kn t:Int):∀(l1 l2:List fE) (b:Option fE),fF sat kn t (l1++l2) b=fF sat kn t l2 (fF sat kn t l1 b)
 |[],_,_=>rfl
 |u::r,l2,b=>by
  show fF sat kn t (r++l2) (Gq sat kn t b u)=fF sat kn t l2 (fF sat kn t r (Gq sat kn t b u))
  exact I9 sat kn t r l2 _
def epE (R:Option (List bP)):Int:=match R with
 |none=>360
 |some _=>0
theorem N9 {R:Option (List bP)} {w:World} {e:Ending} {w':World} (h:pJ R w e w') (hR:∀o,R=some o→o.length≤64) :
  ∃A n c,e=.returned (.tuple #[.slice A n c,.int .i64 (epE R)])∧RA ak 6 w' w'.heap.size A n c (R.getD [])∧n≤64∧Ext w w':=by
 cases R with
 |none=>exact⟨none,0,0,h.1,RA.d_ (base:=0) (e:=0) (World.ownsRow_nil _ _ _ _) rfl (by omega),by omega,h.2⟩
 |some o =>
  obtain⟨⟨v,rfl,hown⟩,hx⟩:=h;obtain⟨A,c,rfl,_,_⟩:=aX hown;have:=hR o rfl;exact⟨A,_,c,rfl,RA.d_ hown rfl (by omega),this,hx⟩
end Go.Proofs.YtjidhhfabfnhnaaGreat
namespace Go.Proofs.YtjidhhfabfnhnaaGreat
open Go.RowKit
attribute [local go_sem] Oper.semAt_some
theorem Eh (n lo hi:Int) (w:World):Calls Tryz.prog 75 #[.int .i64 n,.int .i64 lo,.int .i64 hi] w fun e w'=>e=.returned (.bool (inB n lo hi))∧w=w':=by
 by_cases h1:n≥lo
 ·by_cases h2:n≤hi
  ·have hs:inB n lo hi=true:=by simp[inB];omega
   rw[hs];clear hs;go_enter Tryz.func75,Tryz.ntmps75;go_wp2;go_ret;exact⟨by simp[*],rfl⟩
  ·have hs:inB n lo hi=false:=by simp[inB];omega
   rw[hs];clear hs;go_enter Tryz.func75,Tryz.ntmps75;go_wp2;go_ret;exact⟨by simp[*],rfl⟩
 ·have hs:inB n lo hi=false:=by simp[inB];omega
  rw[hs];clear hs;go_enter Tryz.func75,Tryz.ntmps75;go_wp2;go_ret;exact⟨by simp[*],rfl⟩
def PU (x:St):Option fE→iM
 |none=>x.aY
 |some u=>u.eY
def frU:Option fE→Int
 |none=>-1
 |some u=>u.fr
theorem UC (x:St) (l:List fE) (kn t:Int):fK x l kn t=PU x (fF x.id kn t l none):=by
 unfold fK PU;cases fF x.id kn t l none<;>rfl
theorem PV (sat kn t:Int) (l:List fE) (k:Nat) (h:k<l.length):fF sat kn t (l.take (k+1)) none=Gq sat kn t (fF sat kn t (l.take k) none) l[k]:=by
 rw[List.take_succ_eq_append_getElem h,I9];rfl
theorem nx_ref (sat kn t:Int) (b:Option fE) (u:fE) (h:u.sat=sat→0≤u.fr):Gq sat kn t b u=if u.sat=sat∧u.kn≤kn∧u.fr≤t∧frU b≤u.fr then some u else b:=by
 unfold Gq Np;by_cases h1:u.sat=sat
 ·have h0:=h h1;by_cases h2:u.kn≤kn
  ·by_cases h3:u.fr≤t
   ·cases b with
    |none =>
     have h4:frU none≤u.fr:=by show (-1:Int)≤u.fr;omega
     rw[if_pos (by simp[h1,h2,h3]),if_pos ⟨h1,h2,h3,h4⟩]
    |some v =>
     by_cases h4:v.fr≤u.fr
     ·rw[if_pos (by simp[h1,h2,h3,h4]),if_pos ⟨h1,h2,h3,h4⟩]
     ·rw[if_neg (by simp[h4]),if_neg (fun hh=>h4 hh.2.2.2)]
   ·rw[if_neg (by simp[h3]),if_neg (fun hh=>h3 hh.2.2.1)]
  ·rw[if_neg (by simp[h2]),if_neg (fun hh=>h2 hh.2.1)]
 ·rw[if_neg (by simp[h1]),if_neg (fun hh=>h1 hh.1)]
set_option maxRecDepth 100000 in
set_option maxHeartbeats 4000000 in
theorem Gf (x:St) (l:List fE) (A:Option Addr) (n c:Nat) (t kn:Int) (w:World) (h:RA aI 10 w w.heap.size A n c l) (hfr:∀u∈l,u.sat=x.id→0≤u.fr) :
  Calls Tryz.prog 77 #[.agg (aC x).toArray,.slice A n c,.int .i64 t,.int .i64 kn] w fun e w'=>e=.returned (.agg (aN (fK x l kn t)).toArray)∧Ext w w':=by
 have hn:n≤9223372036854775807:=h.le;have HL:Hid (l.length=n):=Lib.hid h.len;have H:=Lib.hid h;have HFR:=Lib.hid hfr;have HOE:=Lib.hid (UC x l kn t);clear h hfr;obtain⟨SX,g_⟩:∃X,(aC x).toArray=X:=⟨_,rfl⟩;have kF:=Lib.hid g_;rw[g_];clear g_;go_enter Tryz.func77,Tryz.ntmps77;go_upto_region 1 with (fail);have J4:aG ((w.alloc (.cells SX 53)).alloc (.cells #[.int .i64 0,.int .i64 0,.int .i64 0,.int .i64 0,.int .i64 0,.int .i64 0,.int .i64 0] 51)) w.heap.size 53 SX:=(aG.new _ _ _).alloc _;have J8:aG ((w.alloc (.cells SX 53)).alloc (.cells #[.int .i64 0,.int .i64 0,.int .i64 0,.int .i64 0,.int .i64 0,.int .i64 0,.int .i64 0] 51)) (w.heap.size+1) 51 #[.int .i64 0,.int .i64 0,.int .i64 0,.int .i64 0,.int .i64 0,.int .i64 0,.int .i64 0]:=aG.bC _ _ _ (by simp);have hx0:Ext w ((w.alloc (.cells SX 53)).alloc (.cells #[.int .i64 0,.int .i64 0,.int .i64 0,.int .i64 0,.int .i64 0,.int .i64 0,.int .i64 0] 51)):=aj (aj (Below.refl _ _) _) _;obtain⟨g4,hg4⟩:∃g,g=w.heap.size:=⟨_,rfl⟩;obtain⟨g8,hg8⟩:∃g,g=w.heap.size+1:=⟨_,rfl⟩;have hl8:w.heap.size≤g8∧g4≠g8:=by omega
 rw[←hg8,←hg4];rw[←hg4]at J4;rw[←hg8]at J8;generalize (w.alloc (.cells SX 53)).alloc (.cells #[.int .i64 0,.int .i64 0,.int .i64 0,.int .i64 0,.int .i64 0,.int .i64 0,.int .i64 0] 51)=W0 at J4 J8 hx0⊢;clear hg4 hg8;obtain⟨hl8a,hl8b⟩:=hl8;have o0:W0.cell? ⟨g4,0,none⟩=some (.int .i64 x.id):=(J4.cell 0).trans (by rw[←kF.out];rfl);have o2:W0.cell? ⟨g4,2,none⟩=some (.int .i64 x.aY.period):=(J4.cell 2).trans (by rw[←kF.out];rfl);have o3:W0.cell? ⟨g4,3,none⟩=some (.int .i64 x.aY.phase):=(J4.cell 3).trans (by rw[←kF.out];rfl);have o4:W0.cell? ⟨g4,4,none⟩=some (.int .i64 x.aY.low):=(J4.cell 4).trans (by rw[←kF.out];rfl);have o5:W0.cell? ⟨g4,5,none⟩=some (.int .i64 x.aY.high):=(J4.cell 5).trans (by rw[←kF.out];rfl);have o6:W0.cell? ⟨g4,6,none⟩=some (.int .i64 x.aY.node):=(J4.cell 6).trans (by rw[←kF.out];rfl);have o7:W0.cell? ⟨g4,7,none⟩=some (.int .i64 x.aY.turn):=(J4.cell 7).trans (by rw[←kF.out];rfl);have o8:W0.cell? ⟨g4,8,none⟩=some (.int .i64 x.aY.dP):=(J4.cell 8).trans (by rw[←kF.out];rfl);go_upto_region 2 with (refine aS rfl 51 _ _ rfl _ #[.int .i64 x.aY.period,.int .i64 x.aY.phase,.int .i64 x.aY.low,.int .i64 x.aY.high,.int .i64 x.aY.node,.int .i64 x.aY.turn,.int .i64 x.aY.dP] rfl rfl aZ rfl (by simp[Value.oneCell']) ?_);have hy:Ext W0 (W0.alloc (.cells #[.int .i64 x.aY.period,.int .i64 x.aY.phase,.int .i64 x.aY.low,.int .i64 x.aY.high,.int .i64 x.aY.node,.int .i64 x.aY.turn,.int .i64 x.aY.dP] 51)):=aj (Below.refl _ _) _;have J9:aG (W0.alloc (.cells #[.int .i64 x.aY.period,.int .i64 x.aY.phase,.int .i64 x.aY.low,.int .i64 x.aY.high,.int .i64 x.aY.node,.int .i64 x.aY.turn,.int .i64 x.aY.dP] 51)) W0.heap.size 51 (aN (PU x none)).toArray:=aG.new _ _ _;obtain⟨g9,hg9⟩:∃g,g=W0.heap.size:=⟨_,rfl⟩;rw[←hg9]at J9⊢;have hl9:w.heap.size≤g9:=by rw[hg9];exact hx0.size
 have hl94:g4<g9∧g8<g9:=by rw[hg9];exact⟨J4.lt,J8.lt⟩
 obtain⟨hl94,hl98⟩:=hl94;have J4:=J4.ext hy;have J8:=J8.ext hy;have hx1:=Ext.trans hx0 hy;generalize W0.alloc (.cells #[.int .i64 x.aY.period,.int .i64 x.aY.phase,.int .i64 x.aY.low,.int .i64 x.aY.high,.int .i64 x.aY.node,.int .i64 x.aY.turn,.int .i64 x.aY.dP] 51)=W1 at J4 J8 J9 hx1⊢;clear hy hg9 hx0 o0 o2 o3 o4 o5 o6 o7 o8;have qY:=Lib.hid J4;have uP:=Lib.hid J8;have VD:=Lib.hid J9;have kC:=Lib.hid hx1;clear J4 J8 J9 hx1;have HB0:Hid (fF x.id kn t (l.take 0) none=none):=Lib.hid (by simp[fF]);go_wp2;go_loopw [10,11] (fun fr i wr=>∃(k:Nat) (b:Option fE),k≤n∧fr=.int .i64 (frU b)∧i=.int .i64 k∧Hid (fF x.id kn t (l.take k) none=b)∧Hid (aG wr g9 51 (aN (PU x b)).toArray)∧Hid (aG wr g8 51 #[.int .i64 0,.int .i64 0,.int .i64 0,.int .i64 0,.int .i64 0,.int .i64 0,.int .i64 0])∧Hid (aG wr g4 53 SX)∧Hid (Ext w wr)) (fun _ i _=>n-(intOf i).toNat)
 case atStart=>exact⟨0,none,Nat.zero_le _,rfl,rfl,HB0,VD,uP,qY,kC⟩
 case round =>
  clear HB0 VD uP qY kC;obtain⟨k,b,hk,rfl,rfl,VE,VD,uP,qY,HX⟩:=hrel;by_cases hkn:k<n
  ·have hkz:(k:Int)<(n:Int):=by omega
   obtain⟨bu,ou,hzu,hAu,hbu,tZ⟩:=H.out.at_ iR hkn;subst hAu;have hbt:=PV x.id kn t l k hzu;rw[VE.out,nx_ref x.id kn t b _ (HFR.out _ (List.getElem_mem _))]at hbt;generalize l[k]=u at tZ hbt;obtain⟨us,uf,uk,⟨pe,ph,lo,hi,no,tu,sl⟩⟩:=u;dsimp only at hbt;have Qx:=Lib.hid hbt;have yw0:w.cell? ⟨bu,ou+k*10,none⟩=some (.int .i64 us):=tZ 0 (by simp);have y0:=ah HX.out yw0;have yw1:w.cell? ⟨bu,ou+k*10+1,none⟩=some (.int .i64 uf):=tZ 1 (by simp);have y1:=ah HX.out yw1;have yw2:w.cell? ⟨bu,ou+k*10+2,none⟩=some (.int .i64 uk):=tZ 2 (by simp);have y2:=ah HX.out yw2;have yw3:w.cell? ⟨bu,ou+k*10+3,none⟩=some (.int .i64 pe):=tZ 3 (by simp);have y3:=ah HX.out yw3;have yw4:w.cell? ⟨bu,ou+k*10+4,none⟩=some (.int .i64 ph):=tZ 4 (by simp);have y4:=ah HX.out yw4;have yw5:w.cell? ⟨bu,ou+k*10+5,none⟩=some (.int .i64 lo):=tZ 5 (by simp);have y5:=ah HX.out yw5;have yw6:w.cell? ⟨bu,ou+k*10+6,none⟩=some (.int .i64 hi):=tZ 6 (by simp);have y6:=ah HX.out yw6;have yw7:w.cell? ⟨bu,ou+k*10+7,none⟩=some (.int .i64 no):=tZ 7 (by simp);have y7:=ah HX.out yw7;have yw8:w.cell? ⟨bu,ou+k*10+8,none⟩=some (.int .i64 tu):=tZ 8 (by simp);have y8:=ah HX.out yw8;have yw9:w.cell? ⟨bu,ou+k*10+9,none⟩=some (.int .i64 sl):=tZ 9 (by simp);have y9:=ah HX.out yw9;have z0:wr.cell? ⟨g4,0,none⟩=some (.int .i64 x.id):=(qY.out.cell 0).trans (by rw[←kF.out];rfl);obtain⟨fb,hfb⟩:∃z,z=frU b:=⟨_,rfl⟩;rw[←hfb]at Qx⊢;have HFB:=Lib.hid hfb;generalize x.id=fO at Qx z0 VE;clear tZ hzu hbt hbu hfb;by_cases h1:us=fO
   ·by_cases h2:uk≤kn
    ·by_cases h3:uf≤t
     ·by_cases h4:fb≤uf
      ·have HB2:Hid (fF fO kn t (l.take (k+1)) none=some ⟨us,uf,uk,⟨pe,ph,lo,hi,no,tu,sl⟩⟩):=Lib.hid (by rw[Qx.out,if_pos ⟨h1,h2,h3,h4⟩]);have q1:(us==fO)=true:=by simp[h1]
       clear h1 Qx;go_wp2;go_quiet (fail)
       have V7:=fun a=>(below_drewN (Below.refl _ _) a:Ext wr (wr.drewN a));generalize hV:wr.drewN _=V;have Qy:Ext wr V:=by rw[←hV];exact V7 _
       clear V7 hV;have Zn:=Lib.hid (Ext.trans HX.out Qy);have Yu:=Lib.hid (VD.out.ext Qy);have HK8:=Lib.hid (uP.out.ext Qy);have HK4:=Lib.hid (qY.out.ext Qy);have v3:=ah Qy y3;have v4:=ah Qy y4;have v5:=ah Qy y5;have v6:=ah Qy y6;have v7:=ah Qy y7;have v8:=ah Qy y8;have v9:=ah Qy y9;clear Qy y0 y1 y2 y3 y4 y5 y6 y7 y8 y9 z0;go_upto_region 8 with (refine wpList_store_row rfl 51 _ _ rfl g9 #[.int .i64 pe,.int .i64 ph,.int .i64 lo,.int .i64 hi,.int .i64 no,.int .i64 tu,.int .i64 sl] rfl rfl 51 _ Yu.out aZ rfl (by simp[Value.oneCell']) ?_);have HE2:=Lib.hid (below_setRow Zn.out hl9 #[.int .i64 pe,.int .i64 ph,.int .i64 lo,.int .i64 hi,.int .i64 no,.int .i64 tu,.int .i64 sl]);have HJ9b:Hid (aG (V.setRow g9 #[.int .i64 pe,.int .i64 ph,.int .i64 lo,.int .i64 hi,.int .i64 no,.int .i64 tu,.int .i64 sl]) g9 51 (aN (PU x (some ⟨us,uf,uk,⟨pe,ph,lo,hi,no,tu,sl⟩⟩))).toArray):=Lib.hid (Yu.out.row #[.int .i64 pe,.int .i64 ph,.int .i64 lo,.int .i64 hi,.int .i64 no,.int .i64 tu,.int .i64 sl]);have HJ8b:=Lib.hid (HK8.out.jm (k:=g9) (by omega) #[.int .i64 pe,.int .i64 ph,.int .i64 lo,.int .i64 hi,.int .i64 no,.int .i64 tu,.int .i64 sl]);have HJ4b:=Lib.hid (HK4.out.jm (k:=g9) (by omega) #[.int .i64 pe,.int .i64 ph,.int .i64 lo,.int .i64 hi,.int .i64 no,.int .i64 tu,.int .i64 sl]);generalize V.setRow g9 #[.int .i64 pe,.int .i64 ph,.int .i64 lo,.int .i64 hi,.int .i64 no,.int .i64 tu,.int .i64 sl]=V2 at HE2 HJ9b HJ8b HJ4b⊢;have y1:=ah HE2.out yw1;go_wp2;go_roundw
       case rel=>exact⟨k+1,some ⟨us,uf,uk,⟨pe,ph,lo,hi,no,tu,sl⟩⟩,by omega,rfl,by go_num,HB2,HJ9b,HJ8b,HJ4b,HE2⟩
       case measure=>simp[intOf];omega
      ·have HB2:Hid (fF fO kn t (l.take (k+1)) none=b):=Lib.hid (by rw[Qx.out,if_neg (fun hh=>h4 hh.2.2.2)]);have q1:(us==fO)=true:=by simp[h1]
       have q4:uf<fb:=by omega
       clear h1 Qx;go_wp2;go_quiet (fail)
       go_wp2;go_roundw
       case rel=>exact⟨k+1,b,by omega,by rw[HFB.out],by go_num,HB2,Lib.hid (VD.out.ext (below_drewN (Below.refl _ _) _)),Lib.hid (uP.out.ext (below_drewN (Below.refl _ _) _)),Lib.hid (qY.out.ext (below_drewN (Below.refl _ _) _)),Lib.hid (Ext.trans HX.out (below_drewN (Below.refl _ _) _))⟩
       case measure=>simp[intOf];omega
     ·have HB2:Hid (fF fO kn t (l.take (k+1)) none=b):=Lib.hid (by rw[Qx.out,if_neg (fun hh=>h3 hh.2.2.1)]);have q1:(us==fO)=true:=by simp[h1]
      have q3:decide (uf≤t)=false:=decide_eq_false h3;clear h1 Qx;go_wp2;go_quiet (fail)
      go_wp2;go_roundw
      case rel=>exact⟨k+1,b,by omega,by rw[HFB.out],by go_num,HB2,Lib.hid (VD.out.ext (below_drewN (Below.refl _ _) _)),Lib.hid (uP.out.ext (below_drewN (Below.refl _ _) _)),Lib.hid (qY.out.ext (below_drewN (Below.refl _ _) _)),Lib.hid (Ext.trans HX.out (below_drewN (Below.refl _ _) _))⟩
      case measure=>simp[intOf];omega
    ·have HB2:Hid (fF fO kn t (l.take (k+1)) none=b):=Lib.hid (by rw[Qx.out,if_neg (fun hh=>h2 hh.2.1)]);have q1:(us==fO)=true:=by simp[h1]
     have q2:decide (uk≤kn)=false:=decide_eq_false h2;clear h1 Qx;go_wp2;go_quiet (fail)
     go_wp2;go_roundw
     case rel=>exact⟨k+1,b,by omega,by rw[HFB.out],by go_num,HB2,Lib.hid (VD.out.ext (below_drewN (Below.refl _ _) _)),Lib.hid (uP.out.ext (below_drewN (Below.refl _ _) _)),Lib.hid (qY.out.ext (below_drewN (Below.refl _ _) _)),Lib.hid (Ext.trans HX.out (below_drewN (Below.refl _ _) _))⟩
     case measure=>simp[intOf];omega
   ·have HB2:Hid (fF fO kn t (l.take (k+1)) none=b):=Lib.hid (by rw[Qx.out,if_neg (fun hh=>h1 hh.1)]);have q1:(us==fO)=false:=by simp[h1]
    clear h1 Qx;go_wp2;go_quiet (fail)
    go_wp2;go_roundw
    case rel=>exact⟨k+1,b,by omega,by rw[HFB.out],by go_num,HB2,Lib.hid (VD.out.ext (below_drewN (Below.refl _ _) _)),Lib.hid (uP.out.ext (below_drewN (Below.refl _ _) _)),Lib.hid (qY.out.ext (below_drewN (Below.refl _ _) _)),Lib.hid (Ext.trans HX.out (below_drewN (Below.refl _ _) _))⟩
    case measure=>simp[intOf];omega
  ·have hkz:¬(k:Int)<(n:Int):=by omega
   have HTK:Hid (fF x.id kn t l none=b):=Lib.hid (by have h:=VE.out;rwa[List.take_of_length_le (by rw[HL.out];omega)]at h);clear VE;obtain⟨OX,yM⟩:∃X,(aN (PU x b)).toArray=X:=⟨_,rfl⟩;have hJ9:=VD.out;rw[yM]at hJ9;have XI:Hid (OX.size=7):=Lib.hid (by rw[←yM];rfl);have HO1:Hid (OX.all (·.oneCell')=true):=Lib.hid (by rw[←yM];simp[aN,Value.oneCell']);have Qq:=Lib.hid yM;have Yu:=Lib.hid hJ9;clear yM hJ9 VD;go_wp2_with (first | (refine ay rfl 51 _ rfl g9 0 rfl OX OX.toList (by simp) _ (aG.range Yu.out _ rfl) Tryz.underlying51 rfl (by rw[Array.length_toList,XI.out];exact aZ) ?_) | (refine wpList_store_row rfl 51 _ _ rfl g8 OX rfl rfl 51 _ uP.out (by rw[XI.out];exact aZ) (by rw[XI.out];rfl) HO1.out ?_));have K8:=uP.out.row OX;exact bodyPost_ret (gG Tryz.results77 _ _ g8 OX rfl K8 _ Tryz.underlying51 rfl (by rw[XI.out];exact aZ)) rfl ⟨by rw[HOE.out,HTK.out,Qq.out],below_setRow HX.out hl8a OX⟩
end Go.Proofs.YtjidhhfabfnhnaaGreat
namespace Go.Proofs.YtjidhhfabfnhnaaGreat
open Go.RowKit
attribute [local go_sem] Oper.semAt_some
end Go.Proofs.YtjidhhfabfnhnaaGreat
