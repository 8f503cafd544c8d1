/- What tasks need: bounds, picks, valid exposures, membership (printed by eph_o1.py). -/
import Derived.Test.YtjidhhfabfnhnaaGreatT01
import Derived.Test.YtjidhhfabfnhnaaGreatT24
import Derived.Test.YtjidhhfabfnhnaaGreatT05
import Derived.Test.YtjidhhfabfnhnaaGreatT23
import Derived.BigQuiet
namespace Go.Proofs.YtjidhhfabfnhnaaGreat
open Go.RowKit
attribute [local go_sem] Oper.semAt_some
theorem sO (c n:Int) (w:World) (h1 : -9223372036854775808≤c) (h2:c≤9223372036854775807) (hn:0<n) (hn2:n≤1000000) :
  Calls Tryz.prog 13 #[.int .i64 c,.int .i64 n] w fun e w'=>e=.returned (.int .i64 (aO c n))∧w=w':=by
 have hn0:¬n=0:=by omega
 have hn1:(n==0)=false:=by simp;omega
 by_cases hc:c<0
 ·have hp:aO c n = -((c+1).tmod n):=by unfold aO;rw[if_pos hc,←Int.tmod_eq_emod_of_nonneg (by omega),Int.neg_tmod]
  have hb:=aJ c n hn;rw[hp]at hb⊢;have hb1:=hb.1;have hb2:=hb.2;clear hb hp;go_enter Tryz.func13,Tryz.ntmps13;go_wp2;go_ret;exact⟨rfl,rfl⟩
 ·have hp:aO c n=c % n:=by unfold aO;rw[if_neg hc]
  have hb:=aJ c n hn;rw[hp]at hb⊢;have hb1:=hb.1;have hb2:=hb.2;clear hb hp;go_enter Tryz.func13,Tryz.ntmps13;go_wp2;go_ret;exact⟨rfl,rfl⟩
structure D_ where
 x:List A7
 y:List A4
 z:List A4
 u:List A4
 fr:Int
 lo:Int
 xa:Option Addr
 xn:Nat
 xc:Nat
 ya:Option Addr
 yn:Nat
 yc:Nat
 za:Option Addr
 zn:Nat
 zc:Nat
 ua:Option Addr
 un:Nat
 uc:Nat
def Uh (c:D_):Value:=.agg #[.slice c.xa c.xn c.xc,.slice c.ya c.yn c.yc,.slice c.za c.zn c.zc,.slice c.ua c.un c.uc,.int .i64 c.fr,.int .i64 c.lo]
structure Pq (W:World) (c:D_):Prop where
 x:RA vK 7 W W.heap.size c.xa c.xn c.xc c.x
 y:RA jX 4 W W.heap.size c.ya c.yn c.yc c.y
 z:RA jX 4 W W.heap.size c.za c.zn c.zc c.z
 u:RA jX 4 W W.heap.size c.ua c.un c.uc c.u
 xo:∀a∈c.x,a.ok
 yo:∀a∈c.y,a.ok
 zo:∀a∈c.z,a.ok
 uo:∀a∈c.u,a.ok
 fr:dG c.fr
 lo:dG c.lo
theorem Pq.ext {W W':World} {c:D_} (h:Pq W c) (hx:Ext W W'):Pq W' c:=⟨aB h.x hx,aB h.y hx,aB h.z hx,aB h.u hx,h.xo,h.yo,h.zo,h.uo,h.fr,h.lo⟩
def qQ (c:D_):List St:=nY (c.x.take 2) c.y
def Ui (c:D_):List iD:=Dy (c.z.take 2)
def Uj (c:D_):Int:=aO c.fr 900000
def BG (c:D_):List fE:=qO (qQ c) (Uj c) c.u
def Pv (c:D_):Int:=Uj c+1+aO c.lo 200
theorem LZ {α:Type} {cells:α→List Value} {s:Nat} (hs:∀x,(cells x).length=s) (l:List α) (k:Nat):(l.take k).flatMap cells=(l.flatMap cells).take (k*s):=by
 induction l generalizing k with
 |nil=>simp
 |cons x r ih =>
  cases k with
  |zero=>simp
  |succ k =>
   rw[List.take_succ_cons,List.flatMap_cons,List.flatMap_cons,ih,List.take_append,hs,Nat.succ_mul,List.take_of_length_le (l:=cells x) (i:=k*s+s) (by rw[hs];omega),Nat.add_sub_cancel]
theorem RA.cut6 {α:Type} {cells:α→List Value} {s:Nat} (hs:∀x,(cells x).length=s) {w:World} {B n c:Nat} {A:Option Addr} {l:List α} (h:RA cells s w B A n c l) (k:Nat) (hk:k≤n):RA cells s w B A k c (l.take k):=by
 refine⟨?_,by rw[List.length_take,h.len];omega,Nat.le_trans hk h.cap,h.vw,Nat.le_trans hk h.le⟩;rw[LZ hs];exact h.rd.upto hk
theorem qH {w:World} {base:Nat} {e:TypeId} {size:Nat} {v:Value} {n:Nat} {xs:List Value} (h:w.ownsRow base e size v n xs):∃A c,v=.slice A n c∧(A=none→n=0∧c=0):=by
 rcases h.2 with ⟨rfl,h0⟩ | ⟨g,cap,cur,rfl,_⟩
 ·first | exact⟨none,0,by rw[h0],fun _=>⟨h0,rfl⟩⟩ | (have:=h.1;exact⟨none,0,by simp_all,fun _=>by simp_all⟩)
 ·exact⟨_,_,rfl,fun h=>by cases h⟩
theorem BH {w:World} {base:Nat} {e:TypeId} {size:Nat} {v:Value} {n:Nat} {xs:List Value} (h:w.ownsRow base e size v n xs) {g:Nat} (hg:g<base) (X:Array Value):(w.setRow g X).ownsRow base e size v n xs:=by
 refine⟨h.1,?_⟩;rcases h.2 with hn | ⟨b,cap,cur,rfl,hb,hgg,r⟩
 ·exact .inl hn
 ·exact .inr ⟨b,cap,cur,rfl,hb,(setRow_other w g b X (by omega)).trans hgg,r⟩
theorem yg (c:D_):(qQ c).length≤2:=by unfold qQ nY;rw[xk,List.length_take];omega
theorem Ea (sats:List St) (fr:Int) (x:List A4):(qO sats fr x).length≤6:=by
 unfold qO
 split
 ·simp
 ·rw[xq];omega
theorem wJ (c:D_):∀s∈qQ c,dQ s=true:=by
 intro s hs;unfold qQ nY nX at hs;obtain⟨i,_,rfl⟩:=List.mem_map.1 hs;exact N8 _ _ _
theorem Eb {s:St} (h:dQ s=true):dw s.aY=true:=by
 unfold dQ at h;simp only[Bool.and_eq_true]at h;simp[h]
theorem L6 (c:D_):0≤Uj c∧Uj c<900000:=aJ _ _ (by omega)
theorem XF (c:D_):Uj c<Pv c∧Pv c≤Uj c+200:=by have:=aJ c.lo 200 (by omega);unfold Pv;omega
def XG (w:World) (A1 A2 A3:Option Addr):Prop:=∀b o,(A1=some ⟨b,o,none⟩∨A2=some ⟨b,o,none⟩∨A3=some ⟨b,o,none⟩)→w.heap.size≤b
theorem L8 {w:World} {base:Nat} {e:TypeId} {size n c b o:Nat} {A:Option Addr} {xs:List Value} (h:w.ownsRow base e size (.slice A n c) n xs) (hA:A=some ⟨b,o,none⟩):base≤b:=by
 rcases h.2 with ⟨hv,_⟩ | ⟨g,cap,cur,hv,hb,_⟩
 ·injection hv with h1;rw[h1]at hA;cases hA
 ·injection hv with h1;rw[h1]at hA;injection hA with hA;injection hA with h2;omega
theorem XH {w W:World} {base:Nat} {e1 e2 e3:TypeId} {s1 s2 s3 n1 c1 n2 c2 n3 c3:Nat} {A1 A2 A3:Option Addr} {x1 x2 x3:List Value} (hb:w.heap.size≤base) (h1:W.ownsRow (base+1) e1 s1 (.slice A1 n1 c1) n1 x1) (h2:W.ownsRow (base+1) e2 s2 (.slice A2 n2 c2) n2 x2) (h3:W.ownsRow (base+1) e3 s3 (.slice A3 n3 c3) n3 x3):XG w A1 A2 A3:=by
 intro b o h;rcases h with h | h | h
 ·have:=L8 h1 h;omega
 ·have:=L8 h2 h;omega
 ·have:=L8 h3 h;omega
def BI (c:D_) (w:World) (e:Ending) (w':World):Prop:=∃A1 n1 c1 A2 n2 c2 A3 n3 c3,e=.returned (.tuple #[.slice A1 n1 c1,.slice A2 n2 c2,.slice A3 n3 c3,.agg #[.int .i64 (Uj c),.int .i64 (Pv c)]])∧RA aC 21 w' w'.heap.size A1 n1 c1 (qQ c)∧RA bJ 6 w' w'.heap.size A2 n2 c2 (Ui c)∧RA aI 10 w' w'.heap.size A3 n3 c3 (BG c)∧((A3=none→n3=0∧c3=0)∧XG w A1 A2 A3)∧Ext w w'
set_option maxHeartbeats 4000000 in
set_option maxRecDepth 100000 in
theorem L9 (c:D_) (w:World) (h:Pq w c):Calls Tryz.prog 11 #[Uh c] w (BI c w):=by
 have hsl:=yg c;have Px:=wJ c;have hfb:=L6 c;obtain⟨S,hS⟩:∃S,S=qQ c:=⟨_,rfl⟩;obtain⟨ST,hST⟩:∃S,S=Ui c:=⟨_,rfl⟩;obtain⟨US,hUS⟩:∃S,S=BG c:=⟨_,rfl⟩;obtain⟨f0,hf0⟩:∃S,S=Uj c:=⟨_,rfl⟩;obtain⟨e0,he0⟩:∃S,S=Pv c:=⟨_,rfl⟩;have HMR:Hid (∀e w',(∃A1 n1 c1 A2 n2 c2 A3 n3 c3,e=.returned (.tuple #[.slice A1 n1 c1,.slice A2 n2 c2,.slice A3 n3 c3,.agg #[.int .i64 f0,.int .i64 e0]])∧RA aC 21 w' w'.heap.size A1 n1 c1 S∧RA bJ 6 w' w'.heap.size A2 n2 c2 ST∧RA aI 10 w' w'.heap.size A3 n3 c3 US∧((A3=none→n3=0∧c3=0)∧XG w A1 A2 A3)∧Ext w w')→BI c w e w'):=Lib.hid (by rw[hS,hST,hUS,hf0,he0];exact fun _ _ h=>h);have hupd:US=qO S f0 c.u:=by rw[hUS,hS,hf0];rfl
 have hend:e0=f0+1+aO c.lo 200:=by rw[he0,hf0];rfl
 have hfr:f0=aO c.fr 900000:=hf0;have hso:∀s∈S,dw s.aY=true:=by rw[hS];exact fun s hs=>Eb (Px s hs)
 have hSl:S.length≤2:=by rw[hS];exact hsl
 have hS2:S=nY (c.x.take 2) c.y:=hS;have hST2:ST=Dy (c.z.take 2):=hST;rw[←hf0]at hfb;clear hsl Px hS hST hUS hf0 he0;obtain⟨hfb1,hfb2⟩:=hfb;obtain⟨PR,hPR⟩:∃P:Ending→World→Prop,P=BI c w:=⟨_,rfl⟩;rw[←hPR];rw[←hPR]at HMR;clear hPR;obtain⟨x,y,z,u,fr,lo,xa,xn,xc,ya,yn,yc,za,zn,zc,ua,un,uc⟩:=c;obtain⟨rx,ry,rz,ru,ox,oy,oz,ou,ofr,olo⟩:=h;unfold Uh;dsimp only at *;have hxle:=rx.le;have hzle:=rz.le;obtain⟨m,hm⟩:∃m,m=min xn 2:=⟨_,rfl⟩;obtain⟨m2,hm2⟩:∃m,m=min zn 2:=⟨_,rfl⟩;have hxc:=rx.cap;have hzc:=rz.cap;have hmx:m≤xn:=by omega
 have hmz:m2≤zn:=by omega
 have rx2:=rx.cut6 Q_ m hmx;have rz2:=rz.cut6 EU m2 hmz;rw[show x.take m=x.take 2 by rw[hm,←rx.len,List.take_eq_take_iff];omega]at rx2;rw[show z.take m2=z.take 2 by rw[hm2,←rz.len,List.take_eq_take_iff];omega]at rz2;have ox2:∀a∈x.take 2,a.ok:=fun a ha=>ox a (List.mem_of_mem_take ha);have oz2:∀a∈z.take 2,a.ok:=fun a ha=>oz a (List.mem_of_mem_take ha);have HIF:Hid ((if (2:Int)<(xn:Int) then (2:Int) else (xn:Int))=(m:Int)):=Lib.hid (by split<;>omega);have HIF2:Hid ((if (2:Int)<(zn:Int) then (2:Int) else (zn:Int))=(m2:Int)):=Lib.hid (by split<;>omega);have NK:Hid (∀W,Ext w W→Calls Tryz.prog 39 #[.slice xa m xc,.slice ya yn yc] W (nZ aC 21 53 S W)):=Lib.hid (fun W hx=>by rw[hS2];exact Rh xa ya m xc yn yc _ y W (aB rx2 hx) (aB ry hx) ox2 oy);have HTA:Hid (∀W,Ext w W→Calls Tryz.prog 40 #[.slice za m2 zc] W (nZ bJ 6 71 ST W)):=Lib.hid (fun W hx=>by rw[hST2];exact EW za m2 zc _ W (aB rz2 hx) oz2);have HUA:Hid (∀W SA sn sc,Ext w W→RA aC 21 W W.heap.size SA sn sc S→Calls Tryz.prog 41 #[.slice SA sn sc,.int .i64 f0,.slice ua un uc] W (nZ aI 10 66 US W)):=Lib.hid (fun W SA sn sc hx hs=>by rw[hupd];exact Rq S f0 u SA ua sn sc un uc W hs (aB ru hx) ou (by have:=hs.len;omega) ⟨hfb1,by omega⟩ hso);have P1:=fun w=>sO fr 900000 w ofr.1 ofr.2 (by omega) (by omega);have P2:=fun w=>sO lo 200 w olo.1 olo.2 (by omega) (by omega);have q2:=aJ lo 200 (by omega);rw[←hfr]at P1;generalize aO lo 200=p2 at P2 q2 hend;obtain⟨q2a,q2b⟩:=q2;have wV:=Lib.hid P1;have HP2:=Lib.hid P2;have zV:=Lib.hid hend;have Ws:US.length≤6:=by rw[hupd];exact Ea _ _ _
 have hstl:ST.length≤2:=by rw[hST2];unfold Dy;rw[Dz,List.length_take];omega
 clear P1 P2 hend hfr hupd hso hS2 hST2 rx2 rz2 rx ry rz ru ox oy oz ou ox2 oz2 hm hm2 ofr olo;go_enter Tryz.func11,Tryz.ntmps11;go_upto_region 1 with (fail);obtain⟨g1,hg1⟩:∃g,g=w.heap.size:=⟨_,rfl⟩;obtain⟨g5,hg5⟩:∃g,g=w.heap.size+1:=⟨_,rfl⟩;have J1:aG ((w.alloc (.cells #[.slice xa xn xc,.slice ya yn yc,.slice za zn zc,.slice ua un uc,.int .i64 fr,.int .i64 lo] 25)).alloc (.cells #[.int .i64 0,.int .i64 0] 32)) g1 25 #[.slice xa xn xc,.slice ya yn yc,.slice za zn zc,.slice ua un uc,.int .i64 fr,.int .i64 lo]:=(aG.bC _ _ _ (by simp[hg1])).alloc _;have J5:aG ((w.alloc (.cells #[.slice xa xn xc,.slice ya yn yc,.slice za zn zc,.slice ua un uc,.int .i64 fr,.int .i64 lo] 25)).alloc (.cells #[.int .i64 0,.int .i64 0] 32)) g5 32 #[.int .i64 0,.int .i64 0]:=aG.bC _ _ _ (by simp[hg5]);have hB:Ext w ((w.alloc (.cells #[.slice xa xn xc,.slice ya yn yc,.slice za zn zc,.slice ua un uc,.int .i64 fr,.int .i64 lo] 25)).alloc (.cells #[.int .i64 0,.int .i64 0] 32)):=aj (aj (Below.refl _ _) _) _;have hl5:w.heap.size≤g5:=by omega
 rw[←hg5,←hg1];generalize (w.alloc (.cells #[.slice xa xn xc,.slice ya yn yc,.slice za zn zc,.slice ua un uc,.int .i64 fr,.int .i64 lo] 25)).alloc (.cells #[.int .i64 0,.int .i64 0] 32)=W at J1 J5 hB⊢;clear hg1 hg5;have h5W:g5<W.heap.size:=J5.lt;have k0:W.cell? ⟨g1,0,none⟩=some (.slice xa xn xc):=J1.cell 0;have k1:W.cell? ⟨g1,1,none⟩=some (.slice ya yn yc):=J1.cell 1;refine aF 10 [some (.pointer (some ⟨g1,0,none⟩)),some (.slice xa xn xc),some (.pointer (some ⟨g1,0,none⟩)),some (.slice xa xn xc),some (.int .i64 (xn:Int)),some (.int .i64 (m:Int)),some (.slice xa m xc),some (.pointer (some ⟨g1,1,none⟩)),some (.slice ya yn yc),none] [(9,.w fun v w1=>∃SA sc,v=.slice SA S.length sc∧w1.ownsRow (g5+1) 53 21 (.slice SA S.length sc) S.length (S.flatMap aC))] ?_ ?_ ?_
 ·refine⟨?_,trivial⟩
  ·intro v w1 w2 hr hx;obtain⟨SA,sc,h1,h2⟩:=hr;exact⟨SA,sc,h1,bT h2 hx⟩
 ·refine⟨?_,?_,?_,?_,?_,?x5,?_,?_,?_,?x9,trivial⟩
  case x5 =>
   intro vals w1 hx hd;clear hd;simp only[Lf,au,Act.put,bH,bG];have hif:=HIF.out;go_wp2;exact iq
  case x9 =>
   intro vals w1 hx hd;clear hd;simp only[Lf,au,Act.put,bH,bG];have hz:=Below.size hx.aH;go_wp2_with fail;refine (NK.out _ (Ext.trans hB hx.aH)).mono ?_;rintro e w2 ⟨v2,rfl,hown,hb2⟩;obtain⟨SA,sc,hv,_,_⟩:=aX hown;subst hv;have hown:=own_base hown (show g5+1≤w1.heap.size by omega);have HOWN:=Lib.hid hown;clear hown;go_wp2;exact⟨rfl,hb2,SA,sc,rfl,HOWN.out⟩
  all_goals
   intro vals w1 hx hd;clear hd;simp only[Lf,au,Act.put,bH,bG];have k0:=ah hx k0;have k1:=ah hx k1;go_wp2;exact iq
 intro vals W1 hx hf;obtain⟨SA,sc,e9,OS⟩:∃SA sc,vals 9=.slice SA S.length sc∧W1.ownsRow (g5+1) 53 21 (.slice SA S.length sc) S.length (S.flatMap aC):=hf 9 (by omega);have hx:=hx.aH;have J1:=J1.ext hx;have J5:=J5.ext hx;have hB:=Ext.trans hB hx;have hBz:=hx.size;clear hf hx k0 k1;refine eP 10 _ (by kernel_rfl) (by kernel_rfl) rfl ?_;simp only[Lf,au,Act.put,FR_];rw[e9];clear e9;obtain⟨sn,hsn⟩:∃n,n=S.length:=⟨_,rfl⟩;have RS:=RA.d_ (l:=S) OS rfl (by omega);rw[←hsn]at RS OS⊢;have hsn2:sn≤2:=by omega
 have Ai:=Lib.hid hsn;clear hsn;have k2:W1.cell? ⟨g1,2,none⟩=some (.slice za zn zc):=J1.cell 2;have hif:=HIF2.out;go_wp2_with fail;refine (HTA.out _ hB).mono ?_;rintro e W2 ⟨v2,rfl,hown,hx⟩;obtain⟨TA,tc,hv,_,_⟩:=aX hown;subst hv;have OT:=own_base hown (show g5+1≤W1.heap.size by omega);have hBz2:=hx.size;obtain⟨tn,htn⟩:∃n,n=ST.length:=⟨_,rfl⟩;have HTN:=Lib.hid htn;have htl:tn≤2:=by omega
 rw[←htn]at OT⊢;clear htn hown k2 hif;have OS:=bT OS hx;have J1:=J1.ext hx;have J5:=J5.ext hx;have hB:=Ext.trans hB hx;have RS:=aB RS hx;clear hx;have k4:W2.cell? ⟨g1,4,none⟩=some (.int .i64 fr):=J1.cell 4;go_wp2_with fail;refine (wV.out _).mono ?_;rintro e w2 ⟨rfl,rfl⟩;go_upto_region 4 with (fail);clear k4;have k3:W2.cell? ⟨g1,3,none⟩=some (.slice ua un uc):=J1.cell 3;have k5:W2.cell? ⟨g1,5,none⟩=some (.int .i64 lo):=J1.cell 5;have Gt:IntKind.i64.wrap (f0+1)=f0+1:=IntWalk.i64_in _ (by omega);have u2_:IntKind.i64.wrap (f0+1+p2)=f0+1+p2:=IntWalk.i64_in _ (by omega);refine aF 18 [some (.slice SA sn sc),some (.slice TA tn tc),some (.slice SA sn sc),some (.int .i64 f0),some (.pointer (some ⟨g1,3,none⟩)),some (.slice ua un uc),none,some (.int .i64 f0),some (.int .i64 f0),some (.int .i64 (f0+1)),some (.pointer (some ⟨g1,5,none⟩)),some (.int .i64 lo),some (.int .i64 p2),some (.int .i64 (f0+1+p2)),some (.agg #[.int .i64 f0,.int .i64 (f0+1+p2)]),some (.slice SA sn sc),some (.slice TA tn tc),none] [(6,.w fun v w1=>∃UA uc,v=.slice UA US.length uc∧w1.ownsRow (g5+1) 66 10 (.slice UA US.length uc) US.length (US.flatMap aI)∧(UA=none→US.length=0∧uc=0)),(17,.v fun vals v w1=>v=vals 6)] ?_ ?_ ?_
 ·refine⟨?_,?_,trivial⟩
  ·intro v w1 w2 hr hx;obtain⟨UA,uc,h1,h2,h3⟩:=hr;exact⟨UA,uc,h1,bT h2 hx,h3⟩
  ·exact⟨fun vals v w1 w2 hr hx=>(by exact hr),fun vals vJ v w1 hv hr=>(by dsimp only at hr⊢;rw[←hv 6 (by kernel_rfl)];exact hr)⟩
 ·refine⟨?_,?_,?_,?_,?_,?_,?x6,?_,?_,?_,?_,?_,?x12,?_,?_,?_,?_,?_,trivial⟩
  case x6 =>
   intro vals w1 hx hd;clear hd;simp only[Lf,au,Act.put,bH,bG];have hz:=Below.size hx.aH;go_wp2_with fail;refine (HUA.out _ _ _ _ (Ext.trans hB hx.aH) (aB RS hx.aH)).mono ?_;rintro e w2 ⟨v2,rfl,hown,hb2⟩;obtain⟨UA,uc,hv,hnil⟩:=qH hown;subst hv;have hown:=own_base hown (show g5+1≤w1.heap.size by omega);have HOWN:=Lib.hid hown;have FP:=Lib.hid hnil;clear hown hnil;go_wp2;exact⟨rfl,hb2,UA,uc,rfl,HOWN.out,FP.out⟩
  case x12 =>
   intro vals w1 hx hd;have r6:(fun v w1=>∃UA uc,v=.slice UA US.length uc∧w1.ownsRow (g5+1) 66 10 (.slice UA US.length uc) US.length (US.flatMap aI)∧(UA=none→US.length=0∧uc=0)) (vals 6) w1:=hd 6 (by decide) rfl;dsimp only at r6;clear hd;simp only[Lf,au,Act.put,bH,bG];go_wp2_with fail;refine (HP2.out _).mono ?_;rintro e w2 ⟨rfl,rfl⟩;go_wp2;exact q_
  all_goals
   intro vals w1 hx hd;clear hd;simp only[Lf,au,Act.put,bH,bG];have k3:=ah hx k3;have k5:=ah hx k5;go_wp2;exact iq
 intro vals W3 hx hf;have e0_:vals 15=.slice SA sn sc:=hf 15 (by omega);have e1_:vals 16=.slice TA tn tc:=hf 16 (by omega);have e17_:vals 17=vals 6:=hf 17 (by omega);obtain⟨UA,uc2,e6_,OU,hnil⟩:∃UA uc,vals 6=.slice UA US.length uc∧W3.ownsRow (g5+1) 66 10 (.slice UA US.length uc) US.length (US.flatMap aI)∧(UA=none→US.length=0∧uc=0):=hf 6 (by omega);have e14_:vals 14=.agg #[.int .i64 f0,.int .i64 (f0+1+p2)]:=hf 14 (by omega);have hx:=hx.aH;have J5:=J5.ext hx;have hB:=Ext.trans hB hx;have OS:=bT OS hx;have OT:=bT OT hx;clear hf hx k3 k5 J1 RS;refine eP 18 _ (by kernel_rfl) (by kernel_rfl) rfl ?_;simp only[Lf,au,Act.put,FR_];rw[e17_,e0_,e1_,e6_,e14_];clear e0_ e1_ e6_ e14_ e17_;have FP:=Lib.hid hnil;have l5:=J5.lt;refine wpList_store_row rfl 32 _ _ rfl g5 #[.int .i64 f0,.int .i64 (f0+1+p2)] rfl rfl 32 _ J5 (by kernel_rfl) rfl (by simp[Value.oneCell']) ?_;have OS:=BH OS (Nat.lt_succ_self g5) #[.int .i64 f0,.int .i64 (f0+1+p2)];have OT:=BH OT (Nat.lt_succ_self g5) #[.int .i64 f0,.int .i64 (f0+1+p2)];have OU:=BH OU (Nat.lt_succ_self g5) #[.int .i64 f0,.int .i64 (f0+1+p2)];have J5:=J5.row #[.int .i64 f0,.int .i64 (f0+1+p2)];have hE:=below_setRow hB (g:=g5) hl5 #[.int .i64 f0,.int .i64 (f0+1+p2)];generalize W3.setRow g5 #[.int .i64 f0,.int .i64 (f0+1+p2)]=W4 at J5 hE OS OT OU⊢;have Vw:W4.cell? ⟨g5,0,none⟩=some (.int .i64 f0):=J5.cell 0;have Vx:W4.cell? ⟨g5,1,none⟩=some (.int .i64 (f0+1+p2)):=J5.cell 1;have XI:=Lib.hid OS;have HOT:=Lib.hid OT;have HOU:=Lib.hid OU;have HE:=Lib.hid hE;clear OS OT OU hE hB J5 hnil;go_wp2;exact bodyPost_ret (show (results _ _).run _ _=.ok (.tuple #[.slice SA sn sc,.slice TA tn tc,.slice UA US.length uc2,.agg #[.int .i64 f0,.int .i64 (f0+1+p2)]]) _ by simp[results,Tryz.results11,go_sem,Vw,Vx]) rfl (HMR.out _ _ ⟨SA,sn,sc,TA,tn,tc,UA,US.length,uc2,by rw[zV.out],RA.d_ XI.out Ai.out.symm (by omega),RA.d_ HOT.out HTN.out.symm (by omega),RA.d_ HOU.out rfl (by omega),⟨FP.out,XH hl5 XI.out HOT.out HOU.out⟩,HE.out⟩)
end Go.Proofs.YtjidhhfabfnhnaaGreat
namespace Go.Proofs.YtjidhhfabfnhnaaGreat
open Go.RowKit
set_option maxHeartbeats 1000000 in
theorem mF (x y:Int) (w:World) :
  Calls Tryz.prog 159 #[.agg #[.int .i64 x,.int .i64 y]] w fun e w'=>e=.returned (.bool (jk ⟨x,y⟩))∧Below w.heap.size w w':=by
 have hb:jk ⟨x,y⟩=((decide (0≤x)&&decide (x≤47))&&decide (0≤y)&&decide (y≤23)):=by
  simp[jk,inB,Bool.and_assoc]
 rw[hb];clear hb;go_enter Tryz.func159,Tryz.ntmps159;go_wp2
 all_goals
  go_ret;exact⟨by simp[*]<;>(intros;omega),(by repeat (first | exact Below.refl _ _ | assumption | refine Below.drew ?_ | refine below_drewN ?_ _ | refine aj ?_ _ | refine Below.setCell ?_ (by first | (simp;done) | omega | (simp;omega)) _ | refine aA ?_ (by assumption)))⟩
theorem XJ {a b c d:Int} (_k1:0≤a∧a≤47) (_k2:0≤c∧c≤47) (e1:jk ⟨a,b⟩=true) (e2:jk ⟨c,d⟩=true) :
  (24<vg (a-c)→jB ⟨a,b⟩ ⟨c,d⟩=max (48-vg (a-c)) (vg (b-d)))∧(vg (a-c)≤24→jB ⟨a,b⟩ ⟨c,d⟩=max (vg (a-c)) (vg (b-d))):=by
 unfold jB;rw[e1,e2];simp only[Bool.and_self,if_true,vg];constructor<;>intro h<;>omega
set_option maxHeartbeats 1000000 in
theorem Py (a b c d:Int) (w:World) :
  Calls Tryz.prog 168 #[.agg #[.int .i64 a,.int .i64 b],.agg #[.int .i64 c,.int .i64 d]] w fun e w'=>e=.returned (.int .i64 (jB ⟨a,b⟩ ⟨c,d⟩))∧Below w.heap.size w w':=by
 generalize e1:jk ⟨a,b⟩=q;generalize e2:jk ⟨c,d⟩=r;have E1:=Lib.hid e1;have E2:=Lib.hid e2;cases q
 ·have hn:jB ⟨a,b⟩ ⟨c,d⟩ = -1:=by simp[jB,e1]
  rw[hn];clear hn e1 e2;go_enter Tryz.func168,Tryz.ntmps168;go_wp2_with fail;refine (mF a b _).mono ?_;rintro e w1 ⟨rfl,hb1⟩;rw[E1.out];go_wp2;go_ret;exact⟨rfl,(by repeat (first | exact Below.refl _ _ | assumption | refine Below.drew ?_ | refine below_drewN ?_ _ | refine aj ?_ _ | refine Below.setCell ?_ (by first | (simp;done) | omega | (simp;omega)) _ | refine aA ?_ (by assumption)))⟩
 ·cases r
  ·have hn:jB ⟨a,b⟩ ⟨c,d⟩ = -1:=by simp[jB,e2]
   rw[hn];clear hn e1 e2;go_enter Tryz.func168,Tryz.ntmps168;go_wp2_with fail;refine (mF a b _).mono ?_;rintro e w1 ⟨rfl,hb1⟩;rw[E1.out];obtain⟨hc1,hf1⟩:=yC hb1;go_wp2_with fail;refine (mF c d _).mono ?_;rintro e w2 ⟨rfl,hb2⟩;rw[E2.out];go_wp2;go_ret;exact⟨rfl,(by repeat (first | exact Below.refl _ _ | assumption | refine Below.drew ?_ | refine below_drewN ?_ _ | refine aj ?_ _ | refine Below.setCell ?_ (by first | (simp;done) | omega | (simp;omega)) _ | refine aA ?_ (by assumption)))⟩
  ·have k1:0≤a∧a≤47∧0≤b∧b≤23:=by simp[jk,inB]at e1;omega
   have k2:0≤c∧c≤47∧0≤d∧d≤23:=by simp[jk,inB]at e2;omega
   have hn:=XJ ⟨k1.1,k1.2.1⟩ ⟨k2.1,k2.2.1⟩ e1 e2;have HN:=Lib.hid hn;clear hn e1 e2;obtain⟨a1,a2,b1,b2⟩:=k1;obtain⟨c1,c2,d1,d2⟩:=k2;generalize jB ⟨a,b⟩ ⟨c,d⟩=res at HN⊢;have hr1:∀n,res=n→Ending.returned (.int .i64 n)=.returned (.int .i64 res):=fun n h=>by rw[h]
   have HR1:=Lib.hid hr1;clear hr1;go_enter Tryz.func168,Tryz.ntmps168;go_wp2_with fail;refine (mF a b _).mono ?_;rintro e w1 ⟨rfl,hb1⟩;rw[E1.out];obtain⟨hc1,hf1⟩:=yC hb1;go_wp2_with fail;refine (mF c d _).mono ?_;rintro e w2 ⟨rfl,hb2⟩;rw[E2.out];obtain⟨hc2,hf2⟩:=yC hb2;have hz:=hb1.size;simp at hz;have k0:aG w2 w.heap.size 69 #[.int .i64 a,.int .i64 b]:=(((aG.new w _ _).alloc _).below hb1 (by simp<;>omega)).below hb2 (by omega);have k1:aG w2 (w.heap.size+1) 69 #[.int .i64 c,.int .i64 d]:=by
    have k:=(aG.new (w.alloc (.cells #[.int .i64 a,.int .i64 b] 69)) 69 #[.int .i64 c,.int .i64 d]).below hb1 (by simp);rw[World.size_alloc]at k;exact k.below hb2 (by omega)
   have f0:w2.cell? ⟨w.heap.size,0,none⟩=some (.int .i64 a):=k0.cell 0;have f1:w2.cell? ⟨w.heap.size,1,none⟩=some (.int .i64 b):=k0.cell 1;have f2:w2.cell? ⟨w.heap.size+1,0,none⟩=some (.int .i64 c):=k1.cell 0;have f3:w2.cell? ⟨w.heap.size+1,1,none⟩=some (.int .i64 d):=k1.cell 1;have hB:Below w.heap.size w w2:=(by repeat (first | exact Below.refl _ _ | assumption | refine Below.drew ?_ | refine below_drewN ?_ _ | refine aj ?_ _ | refine Below.setCell ?_ (by first | (simp;done) | omega | (simp;omega)) _ | refine aA ?_ (by assumption)));clear hc1 hc2 hf1 hf2 k0 k1 hb1 hb2 hz;rcases (show a<c∨c≤a by omega)with h1 | h1<;>rcases (show b<d∨d≤b by omega)with h2 | h2
   all_goals
    go_wp2
   all_goals
    go_ret;exact⟨HR1.out _ (by
     obtain⟨n1,n2⟩:=HN.out;by_cases hh:24<vg (a-c)
     ·rw[n1 hh];simp only[vg]at hh⊢;omega
     ·rw[n2 (by omega)];simp only[vg]at hh⊢;omega),hB⟩
set_option maxHeartbeats 2000000 in
theorem lZ (p f lo hi no tu sl:Int) (w:World) :
  Calls Tryz.prog 74 #[.agg #[.int .i64 p,.int .i64 f,.int .i64 lo,.int .i64 hi,.int .i64 no,.int .i64 tu,.int .i64 sl]] w fun e w'=>e=.returned (.bool (dw ⟨p,f,lo,hi,no,tu,sl⟩))∧Below w.heap.size w w':=by
 have hb:dw ⟨p,f,lo,hi,no,tu,sl⟩=(inB p 20 2000&&(p % 2==0)&&inB f 0 (p-1)&&inB lo 0 23999&&inB hi 0 23999&&decide (lo<hi)&&inB no 0 47999&&inB tu (-2000) 2000&&inB sl 0 10):=rfl;rw[hb];clear hb;generalize e0:inB p 20 2000=b0;generalize e1:inB f 0 (p-1)=b1;generalize e2:inB lo 0 23999=b2;generalize e3:inB hi 0 23999=b3;generalize e4:inB no 0 47999=b4;generalize e5:inB tu (-2000) 2000=b5;generalize e6:inB sl 0 10=b6;have E0:=Lib.hid e0;have E1:=Lib.hid e1;have E2:=Lib.hid e2;have E3:=Lib.hid e3;have E4:=Lib.hid e4;have E5:=Lib.hid e5;have E6:=Lib.hid e6;clear e0 e1 e2 e3 e4 e5 e6;generalize hlt:decide (lo<hi)=lt;cases b0
 ·go_enter Tryz.func74,Tryz.ntmps74;go_wp2_with (go_at_call 130;refine (ED _ _ _ _).mono ?_;rintro e w' ⟨rfl,rfl⟩;first | rw[E0.out] | rw[E1.out] | rw[E2.out] | rw[E3.out] | rw[E4.out] | rw[E5.out] | rw[E6.out])
  all_goals
   go_ret;exact⟨by cases b1<;>simp_all,(by repeat (first | exact Below.refl _ _ | assumption | refine Below.drew ?_ | refine below_drewN ?_ _ | refine aj ?_ _ | refine Below.setCell ?_ (by first | (simp;done) | omega | (simp;omega)) _ | refine aA ?_ (by assumption)))⟩
 ·obtain⟨p1,p2⟩:=jf.1 E0.out;have hm:p.tmod 2=p % 2:=Int.tmod_eq_emod_of_nonneg (by omega);generalize hq:p % 2=q at hm⊢;go_enter Tryz.func74,Tryz.ntmps74;go_wp2_with (go_at_call 130;refine (ED _ _ _ _).mono ?_;rintro e w' ⟨rfl,rfl⟩;first | rw[E0.out] | rw[E1.out] | rw[E2.out] | rw[E3.out] | rw[E4.out] | rw[E5.out] | rw[E6.out])
  all_goals
   go_ret;exact⟨by cases b1<;>simp_all,(by repeat (first | exact Below.refl _ _ | assumption | refine Below.drew ?_ | refine below_drewN ?_ _ | refine aj ?_ _ | refine Below.setCell ?_ (by first | (simp;done) | omega | (simp;omega)) _ | refine aA ?_ (by assumption)))⟩
theorem Ec (p f lo hi no tu sl t la:Int) (w:World) :
  Calls Tryz.prog 173 #[.agg #[.int .i64 p,.int .i64 f,.int .i64 lo,.int .i64 hi,.int .i64 no,.int .i64 tu,.int .i64 sl],.int .i64 t,.int .i64 la] w fun e w'=>e=.returned (.bool (inB t 0 1000000&&inB la (-10) 10&&dw ⟨p,f,lo,hi,no,tu,sl⟩))∧Below w.heap.size w w':=by
 have V:=lZ p f lo hi no tu sl;generalize dw ⟨p,f,lo,hi,no,tu,sl⟩=q at V⊢;generalize e0:inB t 0 1000000=b0;generalize e1:inB la (-10) 10=b1;have HV:=Lib.hid V;have E0:=Lib.hid e0;have E1:=Lib.hid e1;clear V e0 e1;go_enter Tryz.func173,Tryz.ntmps173;go_wp2_with fail;refine (HV.out _).mono ?_;rintro e w1 ⟨rfl,hb1⟩;cases q
 ·go_wp2;go_ret;exact⟨by simp,(by repeat (first | exact Below.refl _ _ | assumption | refine Below.drew ?_ | refine below_drewN ?_ _ | refine aj ?_ _ | refine Below.setCell ?_ (by first | (simp;done) | omega | (simp;omega)) _ | refine aA ?_ (by assumption)))⟩
 ·go_wp2_with (go_at_call 130;refine (ED _ _ _ _).mono ?_;rintro e w' ⟨rfl,rfl⟩;first | rw[E0.out] | rw[E1.out])
  all_goals
   go_ret;exact⟨by simp[*],(by repeat (first | exact Below.refl _ _ | assumption | refine Below.drew ?_ | refine below_drewN ?_ _ | refine aj ?_ _ | refine Below.setCell ?_ (by first | (simp;done) | omega | (simp;omega)) _ | refine aA ?_ (by assumption)))⟩
theorem yL (n c:Int) (h1:0<c) (h2:c≤1000000) (w:World) :
  Calls Tryz.prog 174 #[.int .i64 n,.int .i64 c] w fun e w'=>e=.returned (.int .i64 (n % c))∧w=w':=by
 have b1:=Int.lt_tmod_of_pos n h1;have b2:=Int.tmod_lt_of_pos n h1;have e1:=yD n c;have hr:n.tmod c<0→n % c=n.tmod c+c:=fun h=>by rw[←e1];exact Int.emod_eq_of_lt (by omega) (by omega)
 have hr2:¬n.tmod c<0→n % c=n.tmod c:=fun h=>by rw[←e1,Int.add_emod_right];exact Int.emod_eq_of_lt (by omega) (by omega)
 have hk:∀z,n % c=z→Ending.returned (.int .i64 z)=.returned (.int .i64 (n % c)):=fun z h=>by rw[h]
 generalize n % c=m at hr hr2 hk⊢;generalize hT:n.tmod c=T at *;have HR:=Lib.hid hr;have HR2:=Lib.hid hr2;have HK:=Lib.hid hk;have cz:c≠0:=by omega
 clear e1 hr hr2 hk;by_cases h0:T<0
 ·go_enter Tryz.func174,Tryz.ntmps174;go_wp2;go_ret;exact⟨HK.out _ (HR.out h0),rfl⟩
 ·go_enter Tryz.func174,Tryz.ntmps174;go_wp2;go_ret;exact⟨HK.out _ (HR2.out h0),rfl⟩
def rowO (o:iM) (t la:Int):Option Int:=if (inB t 0 1000000&&inB la (-10) 10&&dw o)=true then some (rowP o (t-la)) else none
def colO (o:iM) (t la:Int):Option Int:=if (inB t 0 1000000&&inB la (-10) 10&&dw o)=true then some (qX o (t-la)) else none
def L_:Option Int→Value
 |none=>.tuple #[.int .i64 0,.int .i64 70]
 |some n=>.tuple #[.int .i64 n,.int .i64 0]
theorem BJ {p f lo hi no tu sl t la:Int} (hok:(inB t 0 1000000&&inB la (-10) 10&&dw ⟨p,f,lo,hi,no,tu,sl⟩)=true) :
  (0≤t∧t≤1000000)∧(-10≤la∧la≤10)∧(20≤p∧p≤2000)∧(0≤f∧f≤1999)∧(0≤lo∧lo<hi∧hi≤23999)∧(0≤no∧no≤47999)∧(-2000≤tu∧tu≤2000):=by
 simp only[dw,inB,Bool.and_eq_true,decide_eq_true_eq]at hok;obtain⟨⟨⟨i1,i2⟩,i3,i4⟩,⟨⟨⟨⟨⟨⟨⟨⟨o1,o2⟩,o3⟩,o4,o5⟩,o6,o7⟩,o8,o9⟩,o10⟩,o11,o12⟩,o13,o14⟩,o15,o16⟩:=hok;exact⟨⟨i1,i2⟩,⟨i3,i4⟩,⟨o1,o2⟩,⟨o4,by omega⟩,⟨o6,o10,o9⟩,⟨o11,o12⟩,⟨o13,o14⟩⟩
theorem XK {tu t:Int} (h1 : -2000≤tu∧tu≤2000) (h2 : -10≤t∧t≤1000010) : -4000000000≤tu*t∧tu*t≤4000000000:=by
 obtain⟨h12,h13⟩:=h1;obtain⟨h8,h9⟩:=h2;have a1:tu*t≤2000*1000010:=by
  by_cases ht:0≤t
  ·exact Int.mul_le_mul h13 h9 ht (by omega)
  ·have:=Int.mul_le_mul_of_nonpos_right h12 (show t≤0 by omega);omega
 have a2 : -(2000*1000010)≤tu*t:=by
  by_cases ht:0≤t
  ·have:=Int.mul_le_mul_of_nonneg_right h12 ht;omega
  ·have:=Int.mul_le_mul_of_nonpos_right h13 (show t≤0 by omega);omega
 omega
set_option maxHeartbeats 2000000 in
theorem Uk (p f lo hi no tu sl t la:Int) (w:World) :
  Calls Tryz.prog 171 #[.agg #[.int .i64 p,.int .i64 f,.int .i64 lo,.int .i64 hi,.int .i64 no,.int .i64 tu,.int .i64 sl],.int .i64 t,.int .i64 la] w fun e w'=>e=.returned (L_ (rowO ⟨p,f,lo,hi,no,tu,sl⟩ t la))∧Below w.heap.size w w':=by
 have A1:=Ec p f lo hi no tu sl t la;have hbd:=@BJ p f lo hi no tu sl t la;unfold rowO;generalize (inB t 0 1000000&&inB la (-10) 10&&dw ⟨p,f,lo,hi,no,tu,sl⟩)=ok at A1 hbd⊢;have HA:=Lib.hid A1;clear A1;cases ok
 ·clear hbd;go_enter Tryz.func171,Tryz.ntmps171;go_wp2_with fail;refine (HA.out _).mono ?_;rintro e w1 ⟨rfl,hb1⟩;go_wp2;go_ret2
  exact⟨rfl,(by repeat (first | exact Below.refl _ _ | assumption | refine Below.drew ?_ | refine below_drewN ?_ _ | refine aj ?_ _ | refine Below.setCell ?_ (by first | (simp;done) | omega | (simp;omega)) _ | refine aA ?_ (by assumption)))⟩
 ·obtain⟨⟨t1,t2⟩,⟨l1,l2⟩,⟨p1,p2⟩,⟨f1,f2⟩,⟨lo1,lo2,hi1⟩,⟨no1,no2⟩,⟨tu1,tu2⟩⟩:=hbd rfl;have hm:rowP ⟨p,f,lo,hi,no,tu,sl⟩ (t-la)=lo+(hi-lo)*2*(if p-(t-la+f) % p<(t-la+f) % p then p-(t-la+f) % p else (t-la+f) % p) / p:=by
   simp only[rowP];congr 3
   split<;>omega
  have hret:∀z,rowP ⟨p,f,lo,hi,no,tu,sl⟩ (t-la)=z→Ending.returned (.tuple #[.int .i64 z,.int .i64 0])=.returned (L_ (some (rowP ⟨p,f,lo,hi,no,tu,sl⟩ (t-la)))):=fun z h=>by rw[h];rfl
  simp only[if_true];generalize rowP ⟨p,f,lo,hi,no,tu,sl⟩ (t-la)=R at hm hret⊢;have u1:=Int.emod_nonneg (t-la+f) (b:=p) (by omega);have u2:=Int.emod_lt_of_pos (t-la+f) (b:=p) (by omega);have A1:=fun w=>yL (t-la+f) p (by omega) (by omega) w;have xs1:IntKind.i64.wrap (t-la)=t-la:=IntWalk.i64_in _ (by omega);have xs2:IntKind.i64.wrap (t-la+f)=t-la+f:=IntWalk.i64_in _ (by omega);generalize (t-la+f) % p=u at u1 u2 A1 hm;have AA:=Lib.hid A1;have IQ:=Lib.hid hret;have pz:p≠0:=by omega
  have hv:∃v,v=(if p-u<u then p-u else u)∧0≤v∧v≤2000:=⟨_,rfl,by split<;>omega,by split<;>omega⟩;obtain⟨v,hv,v1,v2⟩:=hv;rw[←hv]at hm;have HV:=Lib.hid hv;have m1:0≤(hi-lo)*2*v:=Int.mul_nonneg (by omega) v1;have m2:(hi-lo)*2*v≤96000000:=by
   have:=Int.mul_le_mul (a:=(hi-lo)*2) (b:=v) (c:=48000) (d:=2000) (by omega) v2 v1 (by omega);omega
  have d0:((hi-lo)*2*v).tdiv p=(hi-lo)*2*v / p:=Int.tdiv_eq_ediv_of_nonneg m1;have x1:IntKind.i64.wrap (hi-lo)=hi-lo:=IntWalk.i64_in _ (by omega);have x2:IntKind.i64.wrap ((hi-lo)*2)=(hi-lo)*2:=IntWalk.i64_in _ (by omega);have x3:IntKind.i64.wrap (p-u)=p-u:=IntWalk.i64_in _ (by omega);have x4:IntKind.i64.wrap ((hi-lo)*2*v)=(hi-lo)*2*v:=IntWalk.i64_in _ (by omega);have d1:0≤(hi-lo)*2*v / p:=Int.ediv_nonneg m1 (by omega);have d2:(hi-lo)*2*v / p≤96000000:=Int.le_trans (Int.ediv_le_self _ m1) m2;have x5:IntKind.i64.wrap ((hi-lo)*2*v / p)=(hi-lo)*2*v / p:=IntWalk.i64_in _ (by omega);have x6:IntKind.i64.wrap (lo+(hi-lo)*2*v / p)=lo+(hi-lo)*2*v / p:=IntWalk.i64_in _ (by omega);have HM:=Lib.hid hm;clear A1 hm hret hv hbd;by_cases hc:p-u<u
  all_goals
   go_enter Tryz.func171,Tryz.ntmps171;go_wp2_with fail;refine (HA.out _).mono ?_;rintro e w1 ⟨rfl,hb1⟩;have K:aG w1 w.heap.size 51 #[.int .i64 p,.int .i64 f,.int .i64 lo,.int .i64 hi,.int .i64 no,.int .i64 tu,.int .i64 sl]:=(aG.new w _ _).below hb1 (by simp);have g0:w1.cell? ⟨w.heap.size,0,none⟩=some (.int .i64 p):=K.cell 0;have g1:w1.cell? ⟨w.heap.size,1,none⟩=some (.int .i64 f):=K.cell 1;have g2:w1.cell? ⟨w.heap.size,2,none⟩=some (.int .i64 lo):=K.cell 2;have g3:w1.cell? ⟨w.heap.size,3,none⟩=some (.int .i64 hi):=K.cell 3;have hB:Below w.heap.size w w1:=(by repeat (first | exact Below.refl _ _ | assumption | refine Below.drew ?_ | refine below_drewN ?_ _ | refine aj ?_ _ | refine Below.setCell ?_ (by first | (simp;done) | omega | (simp;omega)) _ | refine aA ?_ (by assumption)));clear K hb1;go_upto_region 5 with (go_at_call 174;refine (AA.out _).mono ?_;rintro e w' ⟨rfl,rfl⟩)
  ·obtain rfl:v=p-u:=by rw[HV.out,if_pos hc]
   go_region_held3 (fun w'=>w'.cell? ⟨w.heap.size,0,none⟩=some (.int .i64 p)∧w'.cell? ⟨w.heap.size,2,none⟩=some (.int .i64 lo)∧w'.cell? ⟨w.heap.size,3,none⟩=some (.int .i64 hi))
    (first | go_keep)
    (fail)
   go_wp2;go_ret2
   exact⟨IQ.out _ HM.out,(by repeat (first | exact Below.refl _ _ | assumption | refine Below.drew ?_ | refine below_drewN ?_ _ | refine aj ?_ _ | refine Below.setCell ?_ (by first | (simp;done) | omega | (simp;omega)) _ | refine aA ?_ (by assumption)))⟩
  ·obtain rfl:v=u:=by rw[HV.out,if_neg (by omega)]
   go_region_held3 (fun w'=>w'.cell? ⟨w.heap.size,0,none⟩=some (.int .i64 p)∧w'.cell? ⟨w.heap.size,2,none⟩=some (.int .i64 lo)∧w'.cell? ⟨w.heap.size,3,none⟩=some (.int .i64 hi))
    (first | go_keep)
    (fail)
   go_wp2;go_ret2
   exact⟨IQ.out _ HM.out,(by repeat (first | exact Below.refl _ _ | assumption | refine Below.drew ?_ | refine below_drewN ?_ _ | refine aj ?_ _ | refine Below.setCell ?_ (by first | (simp;done) | omega | (simp;omega)) _ | refine aA ?_ (by assumption)))⟩
set_option maxHeartbeats 2000000 in
theorem Ul (p f lo hi no tu sl t la:Int) (w:World) :
  Calls Tryz.prog 172 #[.agg #[.int .i64 p,.int .i64 f,.int .i64 lo,.int .i64 hi,.int .i64 no,.int .i64 tu,.int .i64 sl],.int .i64 t,.int .i64 la] w fun e w'=>e=.returned (L_ (colO ⟨p,f,lo,hi,no,tu,sl⟩ t la))∧Below w.heap.size w w':=by
 have A1:=Ec p f lo hi no tu sl t la;have hbd:=@BJ p f lo hi no tu sl t la;unfold colO;generalize (inB t 0 1000000&&inB la (-10) 10&&dw ⟨p,f,lo,hi,no,tu,sl⟩)=ok at A1 hbd⊢;have HA:=Lib.hid A1;clear A1;cases ok
 ·clear hbd;go_enter Tryz.func172,Tryz.ntmps172;go_wp2_with fail;refine (HA.out _).mono ?_;rintro e w1 ⟨rfl,hb1⟩;go_wp2;go_ret2
  exact⟨rfl,(by repeat (first | exact Below.refl _ _ | assumption | refine Below.drew ?_ | refine below_drewN ?_ _ | refine aj ?_ _ | refine Below.setCell ?_ (by first | (simp;done) | omega | (simp;omega)) _ | refine aA ?_ (by assumption)))⟩
 ·obtain⟨⟨t1,t2⟩,⟨l1,l2⟩,⟨p1,p2⟩,⟨f1,f2⟩,⟨lo1,lo2,hi1⟩,⟨no1,no2⟩,⟨tu1,tu2⟩⟩:=hbd rfl;obtain⟨q1,q2⟩:=XK (t:=t-la) ⟨tu1,tu2⟩ (by omega);have A1:=fun w=>yL (no+tu*(t-la)) 48000 (by omega) (by omega) w;have hc:qX ⟨p,f,lo,hi,no,tu,sl⟩ (t-la)=(no+tu*(t-la)) % 48000:=rfl;simp only[if_true];rw[hc];have xs1:IntKind.i64.wrap (t-la)=t-la:=IntWalk.i64_in _ (by omega);have xs2:IntKind.i64.wrap (tu*(t-la))=tu*(t-la):=IntWalk.i64_in _ (by omega);have xs3:IntKind.i64.wrap (no+tu*(t-la))=no+tu*(t-la):=IntWalk.i64_in _ (by omega);have AA:=Lib.hid A1;clear A1 hc hbd;go_enter Tryz.func172,Tryz.ntmps172;go_wp2_with fail;refine (HA.out _).mono ?_;rintro e w1 ⟨rfl,hb1⟩;have K:aG w1 w.heap.size 51 #[.int .i64 p,.int .i64 f,.int .i64 lo,.int .i64 hi,.int .i64 no,.int .i64 tu,.int .i64 sl]:=(aG.new w _ _).below hb1 (by simp);have g4:w1.cell? ⟨w.heap.size,4,none⟩=some (.int .i64 no):=K.cell 4;have g5:w1.cell? ⟨w.heap.size,5,none⟩=some (.int .i64 tu):=K.cell 5;have hB:Below w.heap.size w w1:=(by repeat (first | exact Below.refl _ _ | assumption | refine Below.drew ?_ | refine below_drewN ?_ _ | refine aj ?_ _ | refine Below.setCell ?_ (by first | (simp;done) | omega | (simp;omega)) _ | refine aA ?_ (by assumption)));clear K hb1;go_wp2_with (go_at_call 174;refine (AA.out _).mono ?_;rintro e w' ⟨rfl,rfl⟩);go_ret2
  exact⟨rfl,(by repeat (first | exact Below.refl _ _ | assumption | refine Below.drew ?_ | refine below_drewN ?_ _ | refine aj ?_ _ | refine Below.setCell ?_ (by first | (simp;done) | omega | (simp;omega)) _ | refine aA ?_ (by assumption)))⟩
set_option maxHeartbeats 2000000 in
theorem XL (p f lo hi no tu sl t la:Int) (w:World) :
  Calls Tryz.prog 167 #[.agg #[.int .i64 p,.int .i64 f,.int .i64 lo,.int .i64 hi,.int .i64 no,.int .i64 tu,.int .i64 sl],.int .i64 t,.int .i64 la] w fun e w'=>e=.returned (Yr (Nb ⟨p,f,lo,hi,no,tu,sl⟩ t la))∧Below w.heap.size w w':=by
 have A1:=Uk p f lo hi no tu sl t la;have A2:=Ul p f lo hi no tu sl t la;have hbd:=@BJ p f lo hi no tu sl t la;have hp:0<p→0≤lo→lo<hi→0≤rowP ⟨p,f,lo,hi,no,tu,sl⟩ (t-la)∧rowP ⟨p,f,lo,hi,no,tu,sl⟩ (t-la)≤lo+(hi-lo):=fun h1 h2 h3=>EF ⟨p,f,lo,hi,no,tu,sl⟩ (t-la) h1 h2 h3;have hq1:=Int.emod_nonneg (no+tu*(t-la)) (b:=48000) (by omega);have hq2:=Int.emod_lt_of_pos (no+tu*(t-la)) (b:=48000) (by omega);have hc:qX ⟨p,f,lo,hi,no,tu,sl⟩ (t-la)=(no+tu*(t-la)) % 48000:=rfl;rw[←hc]at hq1 hq2;unfold Nb;unfold rowO at A1;unfold colO at A2;clear hc;generalize rowP ⟨p,f,lo,hi,no,tu,sl⟩ (t-la)=Y at A1 hp⊢;generalize qX ⟨p,f,lo,hi,no,tu,sl⟩ (t-la)=X at A2 hq1 hq2⊢;generalize (inB t 0 1000000&&inB la (-10) 10&&dw ⟨p,f,lo,hi,no,tu,sl⟩)=ok at A1 A2 hbd⊢;cases ok
 ·simp only[Bool.false_eq_true,if_false]at A1 A2⊢;have HA:=Lib.hid A1;have HB:=Lib.hid A2;clear A1 A2 hbd hp hq1 hq2;go_enter Tryz.func167,Tryz.ntmps167;go_wp2_with fail;refine (HA.out _).mono ?_;rintro e w1 ⟨rfl,hb1⟩;obtain⟨hc1,hf1⟩:=yC hb1;have hz:=hb1.size;simp at hz;simp only[L_];go_wp2_with fail;refine (HB.out _).mono ?_;rintro e w2 ⟨rfl,hb2⟩;simp only[L_];have K2:aG w2 (w.heap.size+1) 69 #[.int .i64 0,.int .i64 0]:=((aG.bC _ _ _ (by simp)).below hb1 (by simp)).below hb2 (by omega);have hB:Below w.heap.size w w2:=(by repeat (first | exact Below.refl _ _ | assumption | refine Below.drew ?_ | refine below_drewN ?_ _ | refine aj ?_ _ | refine Below.setCell ?_ (by first | (simp;done) | omega | (simp;omega)) _ | refine aA ?_ (by assumption)));have z0:w2.cell? ⟨w.heap.size+1,0,none⟩=some (.int .i64 0):=K2.cell 0;have z1:w2.cell? ⟨w.heap.size+1,1,none⟩=some (.int .i64 0):=K2.cell 1;have y0:=K2.frozen 0;have y1:=K2.frozen 1;clear hc1 hf1 hb1 hb2 hz;go_wp2;have K4:=(K2.cZ 0 (.int .i64 0)).cZ 1 (.int .i64 0);have hB4:Below w.heap.size w ((w2.setCell ⟨w.heap.size+1,0,none⟩ (.int .i64 0)).setCell ⟨w.heap.size+1,1,none⟩ (.int .i64 0)):=(hB.setCell (p:=⟨w.heap.size+1,0,none⟩) (Nat.le_succ _) _).setCell (p:=⟨w.heap.size+1,1,none⟩) (Nat.le_succ _) _;generalize (w2.setCell ⟨w.heap.size+1,0,none⟩ (.int .i64 0)).setCell ⟨w.heap.size+1,1,none⟩ (.int .i64 0)=w4 at K4 hB4⊢;have c0:w4.cell? ⟨w.heap.size+1,0,none⟩=some (.int .i64 0):=K4.cell 0;have c1:w4.cell? ⟨w.heap.size+1,1,none⟩=some (.int .i64 0):=K4.cell 1;exact bodyPost_ret (v:=.tuple #[.agg #[.int .i64 0,.int .i64 0],.int .i64 70]) (by simp[results,Tryz.results167,go_sem,c0,c1]) rfl ⟨rfl,hB4⟩
 ·simp only[if_true]at A1 A2⊢;obtain⟨⟨t1,t2⟩,⟨l1,l2⟩,⟨p1,p2⟩,⟨f1,f2⟩,⟨lo1,lo2,hi1⟩,⟨no1,no2⟩,⟨tu1,tu2⟩⟩:=hbd rfl;obtain⟨y1,y2⟩:=hp (by omega) lo1 lo2;have HA:=Lib.hid A1;have HB:=Lib.hid A2;clear A1 A2 hbd hp;go_enter Tryz.func167,Tryz.ntmps167;go_wp2_with fail;refine (HA.out _).mono ?_;rintro e w1 ⟨rfl,hb1⟩;obtain⟨hc1,hf1⟩:=yC hb1;have hz:=hb1.size;simp at hz;simp only[L_];go_wp2_with fail;refine (HB.out _).mono ?_;rintro e w2 ⟨rfl,hb2⟩;simp only[L_];have K2:aG w2 (w.heap.size+1) 69 #[.int .i64 0,.int .i64 0]:=((aG.bC _ _ _ (by simp)).below hb1 (by simp)).below hb2 (by omega);have hB:Below w.heap.size w w2:=(by repeat (first | exact Below.refl _ _ | assumption | refine Below.drew ?_ | refine below_drewN ?_ _ | refine aj ?_ _ | refine Below.setCell ?_ (by first | (simp;done) | omega | (simp;omega)) _ | refine aA ?_ (by assumption)));have z0:w2.cell? ⟨w.heap.size+1,0,none⟩=some (.int .i64 0):=K2.cell 0;have z1:w2.cell? ⟨w.heap.size+1,1,none⟩=some (.int .i64 0):=K2.cell 1;have y0_:=K2.frozen 0;have y1_:=K2.frozen 1;clear hc1 hf1 hb1 hb2 hz;go_wp2;have K4:=(K2.cZ 0 (.int .i64 (X / 1000))).cZ 1 (.int .i64 (Y / 1000));have hB4:Below w.heap.size w ((w2.setCell ⟨w.heap.size+1,0,none⟩ (.int .i64 (X / 1000))).setCell ⟨w.heap.size+1,1,none⟩ (.int .i64 (Y / 1000))):=(hB.setCell (p:=⟨w.heap.size+1,0,none⟩) (Nat.le_succ _) _).setCell (p:=⟨w.heap.size+1,1,none⟩) (Nat.le_succ _) _;generalize (w2.setCell ⟨w.heap.size+1,0,none⟩ (.int .i64 (X / 1000))).setCell ⟨w.heap.size+1,1,none⟩ (.int .i64 (Y / 1000))=w4 at K4 hB4⊢;have c0:w4.cell? ⟨w.heap.size+1,0,none⟩=some (.int .i64 (X / 1000)):=K4.cell 0;have c1:w4.cell? ⟨w.heap.size+1,1,none⟩=some (.int .i64 (Y / 1000)):=K4.cell 1;exact bodyPost_ret (v:=.tuple #[.agg #[.int .i64 (X / 1000),.int .i64 (Y / 1000)],.int .i64 0]) (by simp[results,Tryz.results167,go_sem,c0,c1]) rfl ⟨rfl,hB4⟩
end Go.Proofs.YtjidhhfabfnhnaaGreat
namespace Go.Proofs.YtjidhhfabfnhnaaGreat
open Go.RowKit
attribute [local go_sem] Oper.semAt_some
theorem kX (n lo hi:Int) (w:World):Calls Tryz.prog 144 #[.int .i64 n,.int .i64 lo,.int .i64 hi] w fun e w'=>e=.returned (.bool (inB n lo hi))∧w=w':=by
 by_cases h1:n≥lo
 ·by_cases h2:n≤hi
  ·have hs:inB n lo hi=true:=by simp[inB];omega
   rw[hs];clear hs;go_enter Tryz.func144,Tryz.ntmps144;go_wp2;go_ret;exact⟨by simp[*],rfl⟩
  ·have hs:inB n lo hi=false:=by simp[inB];omega
   rw[hs];clear hs;go_enter Tryz.func144,Tryz.ntmps144;go_wp2;go_ret;exact⟨by simp[*],rfl⟩
 ·have hs:inB n lo hi=false:=by simp[inB];omega
  rw[hs];clear hs;go_enter Tryz.func144,Tryz.ntmps144;go_wp2;go_ret;exact⟨by simp[*],rfl⟩
theorem jK (c n:Int) (w:World) (h1 : -9223372036854775808≤c) (h2:c≤9223372036854775807) (hn:0<n) (hn2:n≤1000000) :
  Calls Tryz.prog 95 #[.int .i64 c,.int .i64 n] w fun e w'=>e=.returned (.int .i64 (aO c n))∧w=w':=by
 have hn0:¬n=0:=by omega
 have hn1:(n==0)=false:=by simp;omega
 by_cases hc:c<0
 ·have hp:aO c n = -((c+1).tmod n):=by unfold aO;rw[if_pos hc,←Int.tmod_eq_emod_of_nonneg (by omega),Int.neg_tmod]
  have hb:=aJ c n hn;rw[hp]at hb⊢;have hb1:=hb.1;have hb2:=hb.2;clear hb hp;go_enter Tryz.func95,Tryz.ntmps95;go_wp2;go_ret;exact⟨rfl,rfl⟩
 ·have hp:aO c n=c % n:=by unfold aO;rw[if_neg hc]
  have hb:=aJ c n hn;rw[hp]at hb⊢;have hb1:=hb.1;have hb2:=hb.2;clear hb hp;go_enter Tryz.func95,Tryz.ntmps95;go_wp2;go_ret;exact⟨rfl,rfl⟩
def wK (o:iM) (a b look:Int):Bool:=dw o&&decide (0≤a∧a<b∧b≤1000001∧b-a≤60∧-4≤look∧look≤4)
set_option maxHeartbeats 2000000 in
theorem IU (o:iM) (a b look:Int) (w:World) :
  Calls Tryz.prog 145 #[.agg (aN o).toArray,.agg #[.int .i64 a,.int .i64 b],.int .i64 look] w fun e w'=>e=.returned (.bool (wK o a b look))∧Ext w w':=by
 have hv:∀W,Calls Tryz.prog 74 #[.agg (aN o).toArray] W fun e w'=>e=.returned (.bool (dw o))∧Ext W w':=by
  obtain⟨p,f,lo,hi,no,tu,sl⟩:=o;exact fun W=>lZ p f lo hi no tu sl W
 obtain⟨r,hr⟩:∃r,r=wK o a b look:=⟨_,rfl⟩;rw[←hr];unfold wK at hr;generalize dw o=q at hv hr;obtain⟨OX,yM⟩:∃X,(aN o).toArray=X:=⟨_,rfl⟩;rw[yM]at hv⊢;have HZ:Hid (OX.size=7):=Lib.hid (by rw[←yM];rfl);have HV:=Lib.hid hv;clear yM hv;go_enter Tryz.func145,Tryz.ntmps145;go_upto_region 1 with (fail);have J3:aG ((w.alloc (.cells OX 51)).alloc (.cells #[.int .i64 a,.int .i64 b] 32)) w.heap.size 51 OX:=(aG.new _ _ _).alloc _;have J4:aG ((w.alloc (.cells OX 51)).alloc (.cells #[.int .i64 a,.int .i64 b] 32)) (w.heap.size+1) 32 #[.int .i64 a,.int .i64 b]:=aG.bC _ _ _ (by simp);have hx0:Ext w ((w.alloc (.cells OX 51)).alloc (.cells #[.int .i64 a,.int .i64 b] 32)):=aj (aj (Below.refl _ _) _) _;obtain⟨g4,hg4⟩:∃g,g=w.heap.size+1:=⟨_,rfl⟩;rw[←hg4]at J4⊢;obtain⟨g3,hg3⟩:∃g,g=w.heap.size:=⟨_,rfl⟩;rw[←hg3]at J3⊢;generalize (w.alloc (.cells OX 51)).alloc (.cells #[.int .i64 a,.int .i64 b] 32)=W0 at J3 J4 hx0⊢;clear hg3 hg4;have HR3:=Lib.hid (aG.range J3 _ rfl);go_wp2_with (refine ay rfl 51 _ rfl g3 0 rfl OX OX.toList (by simp) _ HR3.out Tryz.underlying51 rfl (by rw[Array.length_toList,HZ.out];exact aZ) ?_);refine (HV.out _).mono ?_;rintro e W ⟨rfl,hx⟩;have HX:=Lib.hid (Ext.trans hx0 hx);have J4:=J4.ext hx;have t0:W.cell? ⟨g4,0,none⟩=some (.int .i64 a):=J4.cell 0;have t1:W.cell? ⟨g4,1,none⟩=some (.int .i64 b):=J4.cell 1;clear J3 J4 hx0 hx HR3;cases q with
 |false =>
  obtain rfl:r=false:=by simpa using hr
  clear hr;go_wp2;go_ret;exact⟨rfl,HX.out⟩
 |true =>
  rw[Bool.true_and]at hr;by_cases c1:0≤a
  ·by_cases c2:a<b
   ·by_cases c3:b≤1000001
    ·have Gt:IntKind.i64.wrap (b-a)=b-a:=IntWalk.i64_in _ (by omega);by_cases c4:b-a≤60
     ·by_cases c5 : -4≤look
      ·by_cases c6:look≤4
       ·obtain rfl:r=true:=by rw[hr];simp;omega
        clear hr;go_wp2;all_goals first|(exfalso;omega)|(go_ret;exact⟨by simp[*],HX.out⟩)
       ·obtain rfl:r=false:=by rw[hr];simp;omega
        clear hr;go_wp2;all_goals first|(exfalso;omega)|(go_ret;exact⟨by simp[*],HX.out⟩)
      ·obtain rfl:r=false:=by rw[hr];simp;omega
       clear hr;go_wp2;all_goals first|(exfalso;omega)|(go_ret;exact⟨by simp[*],HX.out⟩)
     ·obtain rfl:r=false:=by rw[hr];simp;omega
      clear hr;go_wp2;all_goals first|(exfalso;omega)|(go_ret;exact⟨by simp[*],HX.out⟩)
    ·obtain rfl:r=false:=by rw[hr];simp;omega
     clear hr;go_wp2;all_goals first|(exfalso;omega)|(go_ret;exact⟨by simp[*],HX.out⟩)
   ·obtain rfl:r=false:=by rw[hr];simp;omega
    clear hr;go_wp2;all_goals first|(exfalso;omega)|(go_ret;exact⟨by simp[*],HX.out⟩)
  ·obtain rfl:r=false:=by rw[hr];simp;omega
   clear hr;go_wp2;all_goals first|(exfalso;omega)|(go_ret;exact⟨by simp[*],HX.out⟩)
theorem Pz (A:Option Addr) (n c:Nat) (l:List Int) (x:Int) (w:World) (h:RA bW 1 w w.heap.size A n c l) :
  Calls Tryz.prog 21 #[.slice A n c,.int .i64 x] w fun e w'=>e=.returned (.bool (decide (x∈l)))∧Ext w w':=by
 have hn:n≤9223372036854775807:=h.le;have HL:Hid (l.length=n):=Lib.hid h.len;have H:=Lib.hid h;clear h;go_enter Tryz.func21,Tryz.ntmps21;go_wp2;go_loopw [5] (fun i wr=>∃k:Nat,k≤n∧i=.int .i64 k∧Hid (x∉l.take k)∧Ext w wr) (fun i _=>n-(intOf i).toNat)
 case atStart=>exact⟨0,Nat.zero_le _,rfl,Lib.hid (by simp),Below.refl _ _⟩
 case round =>
  obtain⟨k,hk,rfl,HN,hX⟩:=hrel;by_cases hlt:k<n
  ·have hkz:(k:Int)<(n:Int):=by omega
   obtain⟨b,o,hz,hA,hb,hc⟩:=RA.at_ (cells:=bW) (s:=1) (fun _=>rfl) (H.out.below hX) hlt;subst hA;have hstep:l.take (k+1)=l.take k++[l[k]]:=List.take_succ_eq_append_getElem hz;have hmem:l[k]∈l:=List.getElem_mem _;generalize l[k]=y at hc hstep hmem;have c0:wr.cell? ⟨b,o+k*1,none⟩=some (.int .i64 y):=hc 0 (by simp);rw[Nat.mul_one]at c0;have HB:=Lib.hid hX;by_cases hxy:y=x
   ·have hd:(y==x)=true:=by simp[hxy]
    have HM:Hid (x∈l):=Lib.hid (hxy ▸ hmem);clear hstep hmem hxy HN hc hX;go_wp2;go_ret;exact⟨by rw[decide_eq_true HM.out];rfl,HB.out⟩
   ·have hd:(y==x)=false:=by simp[hxy]
    have HS:Hid (x∉l.take (k+1)):=Lib.hid (by rw[hstep,List.mem_append,List.mem_singleton];exact fun h=>h.elim HN.out (fun e=>hxy e.symm));clear hstep hmem hxy HN hc hX;go_wp2;go_roundw
    case rel=>exact⟨k+1,by omega,by go_num,HS,HB.out⟩
    case measure=>simp[intOf];omega
  ·have hkz:¬(k:Int)<(n:Int):=by omega
   have HB:=Lib.hid hX;have HM:Hid (x∉l):=Lib.hid (by have h:=HN.out;rwa[List.take_of_length_le (by rw[HL.out];omega)]at h);clear HN hX;go_wp2;go_ret;exact⟨by rw[decide_eq_false HM.out];rfl,HB.out⟩
end Go.Proofs.YtjidhhfabfnhnaaGreat
