/- The reference: own, Valid (printed by eph_r2.py). -/
import Derived.Test.YtjidhhfabfnhnaaGreatN01
import Derived.Test.YtjidhhfabfnhnaaGreatN24
import Derived.Test.YtjidhhfabfnhnaaGreatN08
import Derived.Test.YtjidhhfabfnhnaaGreatN19
import Derived.Test.YtjidhhfabfnhnaaGreatN10
namespace Go.Proofs.YtjidhhfabfnhnaaGreat
open Go.RowKit
attribute [local go_sem] Oper.semAt_some
theorem jI (c n:Int) (w:World) (h1 : -9223372036854775808≤c) (h2:c≤9223372036854775807) (hn:0<n) (hn2:n≤1000000) :
  Calls Tryz.prog 13 #[.int .i64 c,.int .i64 n] w fun e w'=>e=.returned (.int .i64 (aT c n))∧w=w':=by
 have hn0:¬n=0:=by omega
 have hn1:(n==0)=false:=by simp;omega
 by_cases hc:c<0
 ·have hp:aT c n = -((c+1).tmod n):=by unfold aT;rw[if_pos hc,←Int.tmod_eq_emod_of_nonneg (by omega),Int.neg_tmod]
  have hb:=aK c n hn;rw[hp]at hb⊢;have hb1:=hb.1;have hb2:=hb.2;clear hb hp;go_enter Tryz.func13,Tryz.ntmps13;go_wp2;go_ret;exact⟨rfl,rfl⟩
 ·have hp:aT c n=c % n:=by unfold aT;rw[if_neg hc]
  have hb:=aK c n hn;rw[hp]at hb⊢;have hb1:=hb.1;have hb2:=hb.2;clear hb hp;go_enter Tryz.func13,Tryz.ntmps13;go_wp2;go_ret;exact⟨rfl,rfl⟩
structure Gy where
 x:List A7
 y:List A4
 z:List A4
 u:List A4
 fr:Int
 lo:Int
 xa:Option Addr
 xn:Nat
 xc:Nat
 ya:Option Addr
 yn:Nat
 yc:Nat
 za:Option Addr
 zn:Nat
 zc:Nat
 ua:Option Addr
 un:Nat
 uc:Nat
def QH (c:Gy):Value:=.agg #[.slice c.xa c.xn c.xc,.slice c.ya c.yn c.yc,.slice c.za c.zn c.zc,.slice c.ua c.un c.uc,.int .i64 c.fr,.int .i64 c.lo]
structure Nb (W:World) (c:Gy):Prop where
 x:RA tJ 7 W W.heap.size c.xa c.xn c.xc c.x
 y:RA jQ 4 W W.heap.size c.ya c.yn c.yc c.y
 z:RA jQ 4 W W.heap.size c.za c.zn c.zc c.z
 u:RA jQ 4 W W.heap.size c.ua c.un c.uc c.u
 xo:∀a∈c.x,a.ok
 yo:∀a∈c.y,a.ok
 zo:∀a∈c.z,a.ok
 uo:∀a∈c.u,a.ok
 fr:dF c.fr
 lo:dF c.lo
theorem Nb.ext {W W':World} {c:Gy} (h:Nb W c) (hx:Ext W W'):Nb W' c:=⟨aB h.x hx,aB h.y hx,aB h.z hx,aB h.u hx,h.xo,h.yo,h.zo,h.uo,h.fr,h.lo⟩
def uq (c:Gy):List St:=xX (c.x.take 2) c.y
def QI (c:Gy):List jd:=Aw (c.z.take 2)
def RZ (c:Gy):Int:=aT c.fr 900000
def KZ (c:Gy):List fE:=vU (uq c) (RZ c) c.u
def Nc (c:Gy):Int:=RZ c+1+aT c.lo 200
theorem I7 {α:Type} {cells:α→List Value} {s:Nat} (hs:∀x,(cells x).length=s) (l:List α) (k:Nat):(l.take k).flatMap cells=(l.flatMap cells).take (k*s):=by
 induction l generalizing k with
 |nil=>simp
 |cons x r ih =>
  cases k with
  |zero=>simp
  |succ k =>
   rw[List.take_succ_cons,List.flatMap_cons,List.flatMap_cons,ih,List.take_append,hs,Nat.succ_mul,List.take_of_length_le (l:=cells x) (i:=k*s+s) (by rw[hs];omega),Nat.add_sub_cancel]
theorem RA.cut6 {α:Type} {cells:α→List Value} {s:Nat} (hs:∀x,(cells x).length=s) {w:World} {B n c:Nat} {A:Option Addr} {l:List α} (h:RA cells s w B A n c l) (k:Nat) (hk:k≤n):RA cells s w B A k c (l.take k):=by
 refine⟨?_,by rw[List.length_take,h.len];omega,Nat.le_trans hk h.cap,h.sJ,Nat.le_trans hk h.le⟩;rw[I7 hs];exact h.rd.upto hk
theorem I8 {w:World} {base:Nat} {e:TypeId} {size:Nat} {v:Value} {n:Nat} {xs:List Value} (h:w.ownsRow base e size v n xs):∃A c,v=.slice A n c∧(A=none→n=0∧c=0):=by
 rcases h.2 with ⟨rfl,h0⟩ | ⟨g,cap,cur,rfl,_⟩
 ·first | exact⟨none,0,by rw[h0],fun _=>⟨h0,rfl⟩⟩ | (have:=h.1;exact⟨none,0,by simp_all,fun _=>by simp_all⟩)
 ·exact⟨_,_,rfl,fun h=>by cases h⟩
theorem zA {w:World} {base:Nat} {e:TypeId} {size:Nat} {v:Value} {n:Nat} {xs:List Value} (h:w.ownsRow base e size v n xs) {g:Nat} (hg:g<base) (X:Array Value):(w.setRow g X).ownsRow base e size v n xs:=by
 refine⟨h.1,?_⟩;rcases h.2 with hn | ⟨b,cap,cur,rfl,hb,hgg,r⟩
 ·exact .inl hn
 ·exact .inr ⟨b,cap,cur,rfl,hb,(setRow_other w g b X (by omega)).trans hgg,r⟩
theorem BI (c:Gy):(uq c).length≤2:=by unfold uq xX;rw[Az,List.length_take];omega
theorem BJ (sats:List St) (fr:Int) (x:List A4):(vU sats fr x).length≤6:=by
 unfold vU
 split
 ·simp
 ·rw[AU];omega
theorem QJ (c:Gy):∀s∈uq c,fA s=true:=by
 intro s hs;unfold uq xX og at hs;obtain⟨i,_,rfl⟩:=List.mem_map.1 hs;exact UH _ _ _
theorem Nh {s:St} (h:fA s=true):dO s.bH=true:=by
 unfold fA at h;simp only[Bool.and_eq_true]at h;simp[h]
theorem QK (c:Gy):0≤RZ c∧RZ c<900000:=aK _ _ (by omega)
theorem UJ (c:Gy):RZ c<Nc c∧Nc c≤RZ c+200:=by have:=aK c.lo 200 (by omega);unfold Nc;omega
def UK (w:World) (A1 A2 A3:Option Addr):Prop:=∀b o,(A1=some ⟨b,o,none⟩∨A2=some ⟨b,o,none⟩∨A3=some ⟨b,o,none⟩)→w.heap.size≤b
theorem I9 {w:World} {base:Nat} {e:TypeId} {size n c b o:Nat} {A:Option Addr} {xs:List Value} (h:w.ownsRow base e size (.slice A n c) n xs) (hA:A=some ⟨b,o,none⟩):base≤b:=by
 rcases h.2 with ⟨hv,_⟩ | ⟨g,cap,cur,hv,hb,_⟩
 ·injection hv with h1;rw[h1]at hA;cases hA
 ·injection hv with h1;rw[h1]at hA;injection hA with hA;injection hA with h2;omega
theorem UL {w W:World} {base:Nat} {e1 e2 e3:TypeId} {s1 s2 s3 n1 c1 n2 c2 n3 c3:Nat} {A1 A2 A3:Option Addr} {x1 x2 x3:List Value} (hb:w.heap.size≤base) (h1:W.ownsRow (base+1) e1 s1 (.slice A1 n1 c1) n1 x1) (h2:W.ownsRow (base+1) e2 s2 (.slice A2 n2 c2) n2 x2) (h3:W.ownsRow (base+1) e3 s3 (.slice A3 n3 c3) n3 x3):UK w A1 A2 A3:=by
 intro b o h;rcases h with h | h | h
 ·have:=I9 h1 h;omega
 ·have:=I9 h2 h;omega
 ·have:=I9 h3 h;omega
def zB (c:Gy) (w:World) (e:Ending) (w':World):Prop:=∃A1 n1 c1 A2 n2 c2 A3 n3 c3,e=.returned (.tuple #[.slice A1 n1 c1,.slice A2 n2 c2,.slice A3 n3 c3,.agg #[.int .i64 (RZ c),.int .i64 (Nc c)]])∧RA aC 21 w' w'.heap.size A1 n1 c1 (uq c)∧RA bJ 6 w' w'.heap.size A2 n2 c2 (QI c)∧RA aF 10 w' w'.heap.size A3 n3 c3 (KZ c)∧((A3=none→n3=0∧c3=0)∧UK w A1 A2 A3)∧Ext w w'
set_option maxHeartbeats 4000000 in
set_option maxRecDepth 100000 in
theorem I_ (c:Gy) (w:World) (h:Nb w c):Calls Tryz.prog 11 #[QH c] w (zB c w):=by
 have hsl:=BI c;have hsok:=QJ c;have hfb:=QK c;obtain⟨S,hS⟩:∃S,S=uq c:=⟨_,rfl⟩;obtain⟨ST,hST⟩:∃S,S=QI c:=⟨_,rfl⟩;obtain⟨US,hUS⟩:∃S,S=KZ c:=⟨_,rfl⟩;obtain⟨f0,hf0⟩:∃S,S=RZ c:=⟨_,rfl⟩;obtain⟨e0,he0⟩:∃S,S=Nc c:=⟨_,rfl⟩;have HMR:Hid (∀e w',(∃A1 n1 c1 A2 n2 c2 A3 n3 c3,e=.returned (.tuple #[.slice A1 n1 c1,.slice A2 n2 c2,.slice A3 n3 c3,.agg #[.int .i64 f0,.int .i64 e0]])∧RA aC 21 w' w'.heap.size A1 n1 c1 S∧RA bJ 6 w' w'.heap.size A2 n2 c2 ST∧RA aF 10 w' w'.heap.size A3 n3 c3 US∧((A3=none→n3=0∧c3=0)∧UK w A1 A2 A3)∧Ext w w')→zB c w e w'):=Lib.hid (by rw[hS,hST,hUS,hf0,he0];exact fun _ _ h=>h);have Yx:US=vU S f0 c.u:=by rw[hUS,hS,hf0];rfl
 have hend:e0=f0+1+aT c.lo 200:=by rw[he0,hf0];rfl
 have hfr:f0=aT c.fr 900000:=hf0;have hso:∀s∈S,dO s.bH=true:=by rw[hS];exact fun s hs=>Nh (hsok s hs)
 have hSl:S.length≤2:=by rw[hS];exact hsl
 have hS2:S=xX (c.x.take 2) c.y:=hS;have Yy:ST=Aw (c.z.take 2):=hST;rw[←hf0]at hfb;clear hsl hsok hS hST hUS hf0 he0;obtain⟨hfb1,hfb2⟩:=hfb;obtain⟨PR,hPR⟩:∃P:Ending→World→Prop,P=zB c w:=⟨_,rfl⟩;rw[←hPR];rw[←hPR]at HMR;clear hPR;obtain⟨x,y,z,u,fr,lo,xa,xn,xc,ya,yn,yc,za,zn,zc,ua,un,uc⟩:=c;obtain⟨rx,ry,rz,ru,ox,oy,oz,ou,ofr,olo⟩:=h;unfold QH;dsimp only at *;have hxle:=rx.le;have hzle:=rz.le;obtain⟨m,hm⟩:∃m,m=min xn 2:=⟨_,rfl⟩;obtain⟨m2,hm2⟩:∃m,m=min zn 2:=⟨_,rfl⟩;have hxc:=rx.cap;have hzc:=rz.cap;have hmx:m≤xn:=by omega
 have hmz:m2≤zn:=by omega
 have rx2:=rx.cut6 OB m hmx;have rz2:=rz.cut6 CZ m2 hmz;rw[show x.take m=x.take 2 by rw[hm,←rx.len,List.take_eq_take_iff];omega]at rx2;rw[show z.take m2=z.take 2 by rw[hm2,←rz.len,List.take_eq_take_iff];omega]at rz2;have ox2:∀a∈x.take 2,a.ok:=fun a ha=>ox a (List.mem_of_mem_take ha);have oz2:∀a∈z.take 2,a.ok:=fun a ha=>oz a (List.mem_of_mem_take ha);have HIF:Hid ((if (2:Int)<(xn:Int) then (2:Int) else (xn:Int))=(m:Int)):=Lib.hid (by split<;>omega);have HIF2:Hid ((if (2:Int)<(zn:Int) then (2:Int) else (zn:Int))=(m2:Int)):=Lib.hid (by split<;>omega);have RN:Hid (∀W,Ext w W→Calls Tryz.prog 39 #[.slice xa m xc,.slice ya yn yc] W (jc aC 21 53 S W)):=Lib.hid (fun W hx=>by rw[hS2];exact OE xa ya m xc yn yc _ y W (aB rx2 hx) (aB ry hx) ox2 oy);have HTA:Hid (∀W,Ext w W→Calls Tryz.prog 40 #[.slice za m2 zc] W (jc bJ 6 71 ST W)):=Lib.hid (fun W hx=>by rw[Yy];exact C9 za m2 zc _ W (aB rz2 hx) oz2);have HUA:Hid (∀W SA sn sc,Ext w W→RA aC 21 W W.heap.size SA sn sc S→Calls Tryz.prog 41 #[.slice SA sn sc,.int .i64 f0,.slice ua un uc] W (jc aF 10 66 US W)):=Lib.hid (fun W SA sn sc hx hs=>by rw[Yx];exact OH S f0 u SA ua sn sc un uc W hs (aB ru hx) ou (by have:=hs.len;omega) ⟨hfb1,by omega⟩ hso);have P1:=fun w=>jI fr 900000 w ofr.1 ofr.2 (by omega) (by omega);have P2:=fun w=>jI lo 200 w olo.1 olo.2 (by omega) (by omega);have q2:=aK lo 200 (by omega);rw[←hfr]at P1;generalize aT lo 200=p2 at P2 q2 hend;obtain⟨ZJ,ZK⟩:=q2;have wL:=Lib.hid P1;have HP2:=Lib.hid P2;have yg:=Lib.hid hend;have LK:US.length≤6:=by rw[Yx];exact BJ _ _ _
 have hstl:ST.length≤2:=by rw[Yy];unfold Aw;rw[AB,List.length_take];omega
 clear P1 P2 hend hfr Yx hso hS2 Yy rx2 rz2 rx ry rz ru ox oy oz ou ox2 oz2 hm hm2 ofr olo;go_enter Tryz.func11,Tryz.ntmps11;go_upto_region 1 with (fail);obtain⟨g1,hg1⟩:∃g,g=w.heap.size:=⟨_,rfl⟩;obtain⟨g5,hg5⟩:∃g,g=w.heap.size+1:=⟨_,rfl⟩;have J1:aI ((w.alloc (.cells #[.slice xa xn xc,.slice ya yn yc,.slice za zn zc,.slice ua un uc,.int .i64 fr,.int .i64 lo] 25)).alloc (.cells #[.int .i64 0,.int .i64 0] 32)) g1 25 #[.slice xa xn xc,.slice ya yn yc,.slice za zn zc,.slice ua un uc,.int .i64 fr,.int .i64 lo]:=(aI.aU _ _ _ (by simp[hg1])).alloc _;have J5:aI ((w.alloc (.cells #[.slice xa xn xc,.slice ya yn yc,.slice za zn zc,.slice ua un uc,.int .i64 fr,.int .i64 lo] 25)).alloc (.cells #[.int .i64 0,.int .i64 0] 32)) g5 32 #[.int .i64 0,.int .i64 0]:=aI.aU _ _ _ (by simp[hg5]);have hB:Ext w ((w.alloc (.cells #[.slice xa xn xc,.slice ya yn yc,.slice za zn zc,.slice ua un uc,.int .i64 fr,.int .i64 lo] 25)).alloc (.cells #[.int .i64 0,.int .i64 0] 32)):=aj (aj (Below.refl _ _) _) _;have hl5:w.heap.size≤g5:=by omega
 rw[←hg5,←hg1];generalize (w.alloc (.cells #[.slice xa xn xc,.slice ya yn yc,.slice za zn zc,.slice ua un uc,.int .i64 fr,.int .i64 lo] 25)).alloc (.cells #[.int .i64 0,.int .i64 0] 32)=W at J1 J5 hB⊢;clear hg1 hg5;have h5W:g5<W.heap.size:=J5.lt;have k0:W.cell? ⟨g1,0,none⟩=some (.slice xa xn xc):=J1.cell 0;have k1:W.cell? ⟨g1,1,none⟩=some (.slice ya yn yc):=J1.cell 1;refine aH 10 [some (.pointer (some ⟨g1,0,none⟩)),some (.slice xa xn xc),some (.pointer (some ⟨g1,0,none⟩)),some (.slice xa xn xc),some (.int .i64 (xn:Int)),some (.int .i64 (m:Int)),some (.slice xa m xc),some (.pointer (some ⟨g1,1,none⟩)),some (.slice ya yn yc),none] [(9,.w fun v w1=>∃SA sc,v=.slice SA S.length sc∧w1.ownsRow (g5+1) 53 21 (.slice SA S.length sc) S.length (S.flatMap aC))] ?_ ?_ ?_
 ·refine⟨?_,trivial⟩
  ·intro v w1 w2 hr hx;obtain⟨SA,sc,h1,h2⟩:=hr;exact⟨SA,sc,h1,bM h2 hx⟩
 ·refine⟨?_,?_,?_,?_,?_,?x5,?_,?_,?_,?x9,trivial⟩
  case x5 =>
   intro vals w1 hx hd;clear hd;simp only[Lf,au,Act.put,aX,aW];have hif:=HIF.out;go_wp2;exact gW
  case x9 =>
   intro vals w1 hx hd;clear hd;simp only[Lf,au,Act.put,aX,aW];have hz:=Below.size hx.aG;go_wp2_with fail;refine (RN.out _ (Ext.trans hB hx.aG)).mono ?_;rintro e w2 ⟨v2,rfl,hown,hb2⟩;obtain⟨SA,sc,hv,_,_⟩:=aP hown;subst hv;have hown:=own_base hown (show g5+1≤w1.heap.size by omega);have HOWN:=Lib.hid hown;clear hown;go_wp2;exact⟨rfl,hb2,SA,sc,rfl,HOWN.out⟩
  all_goals
   intro vals w1 hx hd;clear hd;simp only[Lf,au,Act.put,aX,aW];have k0:=ah hx k0;have k1:=ah hx k1;go_wp2;exact gW
 intro vals W1 hx hf;obtain⟨SA,sc,e9,OS⟩:∃SA sc,vals 9=.slice SA S.length sc∧W1.ownsRow (g5+1) 53 21 (.slice SA S.length sc) S.length (S.flatMap aC):=hf 9 (by omega);have hx:=hx.aG;have J1:=J1.ext hx;have J5:=J5.ext hx;have hB:=Ext.trans hB hx;have hBz:=hx.size;clear hf hx k0 k1;refine d_ 10 _ (by kernel_rfl) (by kernel_rfl) rfl ?_;simp only[Lf,au,Act.put,FR_];rw[e9];clear e9;obtain⟨sn,hsn⟩:∃n,n=S.length:=⟨_,rfl⟩;have RS:=RA.dD (l:=S) OS rfl (by omega);rw[←hsn]at RS OS⊢;have hsn2:sn≤2:=by omega
 have yH:=Lib.hid hsn;clear hsn;have k2:W1.cell? ⟨g1,2,none⟩=some (.slice za zn zc):=J1.cell 2;have hif:=HIF2.out;go_wp2_with fail;refine (HTA.out _ hB).mono ?_;rintro e W2 ⟨v2,rfl,hown,hx⟩;obtain⟨TA,tc,hv,_,_⟩:=aP hown;subst hv;have OT:=own_base hown (show g5+1≤W1.heap.size by omega);have hBz2:=hx.size;obtain⟨tn,htn⟩:∃n,n=ST.length:=⟨_,rfl⟩;have XO:=Lib.hid htn;have htl:tn≤2:=by omega
 rw[←htn]at OT⊢;clear htn hown k2 hif;have OS:=bM OS hx;have J1:=J1.ext hx;have J5:=J5.ext hx;have hB:=Ext.trans hB hx;have RS:=aB RS hx;clear hx;have k4:W2.cell? ⟨g1,4,none⟩=some (.int .i64 fr):=J1.cell 4;go_wp2_with fail;refine (wL.out _).mono ?_;rintro e w2 ⟨rfl,rfl⟩;go_upto_region 4 with (fail);clear k4;have k3:W2.cell? ⟨g1,3,none⟩=some (.slice ua un uc):=J1.cell 3;have k5:W2.cell? ⟨g1,5,none⟩=some (.int .i64 lo):=J1.cell 5;have NP:IntKind.i64.wrap (f0+1)=f0+1:=IntWalk.i64_in _ (by omega);have u2_:IntKind.i64.wrap (f0+1+p2)=f0+1+p2:=IntWalk.i64_in _ (by omega);refine aH 18 [some (.slice SA sn sc),some (.slice TA tn tc),some (.slice SA sn sc),some (.int .i64 f0),some (.pointer (some ⟨g1,3,none⟩)),some (.slice ua un uc),none,some (.int .i64 f0),some (.int .i64 f0),some (.int .i64 (f0+1)),some (.pointer (some ⟨g1,5,none⟩)),some (.int .i64 lo),some (.int .i64 p2),some (.int .i64 (f0+1+p2)),some (.agg #[.int .i64 f0,.int .i64 (f0+1+p2)]),some (.slice SA sn sc),some (.slice TA tn tc),none] [(6,.w fun v w1=>∃UA uc,v=.slice UA US.length uc∧w1.ownsRow (g5+1) 66 10 (.slice UA US.length uc) US.length (US.flatMap aF)∧(UA=none→US.length=0∧uc=0)),(17,.v fun vals v w1=>v=vals 6)] ?_ ?_ ?_
 ·refine⟨?_,?_,trivial⟩
  ·intro v w1 w2 hr hx;obtain⟨UA,uc,h1,h2,h3⟩:=hr;exact⟨UA,uc,h1,bM h2 hx,h3⟩
  ·exact⟨fun vals v w1 w2 hr hx=>(by exact hr),fun vals kC v w1 hv hr=>(by dsimp only at hr⊢;rw[←hv 6 (by kernel_rfl)];exact hr)⟩
 ·refine⟨?_,?_,?_,?_,?_,?_,?x6,?_,?_,?_,?_,?_,?x12,?_,?_,?_,?_,?_,trivial⟩
  case x6 =>
   intro vals w1 hx hd;clear hd;simp only[Lf,au,Act.put,aX,aW];have hz:=Below.size hx.aG;go_wp2_with fail;refine (HUA.out _ _ _ _ (Ext.trans hB hx.aG) (aB RS hx.aG)).mono ?_;rintro e w2 ⟨v2,rfl,hown,hb2⟩;obtain⟨UA,uc,hv,hnil⟩:=I8 hown;subst hv;have hown:=own_base hown (show g5+1≤w1.heap.size by omega);have HOWN:=Lib.hid hown;have FQ:=Lib.hid hnil;clear hown hnil;go_wp2;exact⟨rfl,hb2,UA,uc,rfl,HOWN.out,FQ.out⟩
  case x12 =>
   intro vals w1 hx hd;have r6:(fun v w1=>∃UA uc,v=.slice UA US.length uc∧w1.ownsRow (g5+1) 66 10 (.slice UA US.length uc) US.length (US.flatMap aF)∧(UA=none→US.length=0∧uc=0)) (vals 6) w1:=hd 6 (by decide) rfl;dsimp only at r6;clear hd;simp only[Lf,au,Act.put,aX,aW];go_wp2_with fail;refine (HP2.out _).mono ?_;rintro e w2 ⟨rfl,rfl⟩;go_wp2;exact q_
  all_goals
   intro vals w1 hx hd;clear hd;simp only[Lf,au,Act.put,aX,aW];have k3:=ah hx k3;have k5:=ah hx k5;go_wp2;exact gW
 intro vals W3 hx hf;have e0_:vals 15=.slice SA sn sc:=hf 15 (by omega);have e1_:vals 16=.slice TA tn tc:=hf 16 (by omega);have e17_:vals 17=vals 6:=hf 17 (by omega);obtain⟨UA,uc2,e6_,OU,hnil⟩:∃UA uc,vals 6=.slice UA US.length uc∧W3.ownsRow (g5+1) 66 10 (.slice UA US.length uc) US.length (US.flatMap aF)∧(UA=none→US.length=0∧uc=0):=hf 6 (by omega);have e14_:vals 14=.agg #[.int .i64 f0,.int .i64 (f0+1+p2)]:=hf 14 (by omega);have hx:=hx.aG;have J5:=J5.ext hx;have hB:=Ext.trans hB hx;have OS:=bM OS hx;have OT:=bM OT hx;clear hf hx k3 k5 J1 RS;refine d_ 18 _ (by kernel_rfl) (by kernel_rfl) rfl ?_;simp only[Lf,au,Act.put,FR_];rw[e17_,e0_,e1_,e6_,e14_];clear e0_ e1_ e6_ e14_ e17_;have FQ:=Lib.hid hnil;have l5:=J5.lt;refine wpList_store_row rfl 32 _ _ rfl g5 #[.int .i64 f0,.int .i64 (f0+1+p2)] rfl rfl 32 _ J5 (by kernel_rfl) rfl (by simp[Value.oneCell']) ?_;have OS:=zA OS (Nat.lt_succ_self g5) #[.int .i64 f0,.int .i64 (f0+1+p2)];have OT:=zA OT (Nat.lt_succ_self g5) #[.int .i64 f0,.int .i64 (f0+1+p2)];have OU:=zA OU (Nat.lt_succ_self g5) #[.int .i64 f0,.int .i64 (f0+1+p2)];have J5:=J5.row #[.int .i64 f0,.int .i64 (f0+1+p2)];have hE:=below_setRow hB (g:=g5) hl5 #[.int .i64 f0,.int .i64 (f0+1+p2)];generalize W3.setRow g5 #[.int .i64 f0,.int .i64 (f0+1+p2)]=W4 at J5 hE OS OT OU⊢;have c0_:W4.cell? ⟨g5,0,none⟩=some (.int .i64 f0):=J5.cell 0;have c1_:W4.cell? ⟨g5,1,none⟩=some (.int .i64 (f0+1+p2)):=J5.cell 1;have Nj:=Lib.hid OS;have QM:=Lib.hid OT;have HOU:=Lib.hid OU;have HE:=Lib.hid hE;clear OS OT OU hE hB J5 hnil;go_wp2;exact bodyPost_ret (show (results _ _).run _ _=.ok (.tuple #[.slice SA sn sc,.slice TA tn tc,.slice UA US.length uc2,.agg #[.int .i64 f0,.int .i64 (f0+1+p2)]]) _ by simp[results,Tryz.results11,go_sem,c0_,c1_]) rfl (HMR.out _ _ ⟨SA,sn,sc,TA,tn,tc,UA,US.length,uc2,by rw[yg.out],RA.dD Nj.out yH.out.symm (by omega),RA.dD QM.out XO.out.symm (by omega),RA.dD HOU.out rfl (by omega),⟨FQ.out,UL hl5 Nj.out QM.out HOU.out⟩,HE.out⟩)
end Go.Proofs.YtjidhhfabfnhnaaGreat
namespace Go.Proofs.YtjidhhfabfnhnaaGreat
end Go.Proofs.YtjidhhfabfnhnaaGreat
namespace Go.Proofs.YtjidhhfabfnhnaaGreat
def UOK (ids:List Int):Int→List fE→Prop
 |_,[]=>True
 |p,u::r=>u.sat∈ids∧xU u=true∧p≤u.kn∧UOK ids u.kn r
def Chn (f:Int→iQ):Int→List Str→Int→Prop
 |a,[],b=>a=b
 |a,s::r,b=>s.sp.fr=a∧a<s.sp.tt∧s.sp.tt≤b∧(∀u,a≤u→u<s.sp.tt→f u=s.eU)∧(∀x,r.head?=some x→s.eU≠x.eU)∧Chn f s.sp.tt r b
end Go.Proofs.YtjidhhfabfnhnaaGreat
namespace Go.Proofs.YtjidhhfabfnhnaaGreat
open Go.RowKit
theorem Gf (sat kn t:Int):∀(l1 l2:List fE) (b:Option fE),fD sat kn t (l1++l2) b=fD sat kn t l2 (fD sat kn t l1 b)
 |[],_,_=>rfl
 |u::r,l2,b=>by
  show fD sat kn t (r++l2) (G9 sat kn t b u)=fD sat kn t l2 (fD sat kn t r (G9 sat kn t b u))
  exact Gf sat kn t r l2 _
def epE (R:Option (List bY)):Int:=match R with
 |none=>360
 |some _=>0
theorem K_ {R:Option (List bY)} {w:World} {e:Ending} {w':World} (h:ng R w e w') (hR:∀o,R=some o→o.length≤64) :
  ∃A n c,e=.returned (.tuple #[.slice A n c,.int .i64 (epE R)])∧RA ak 6 w' w'.heap.size A n c (R.getD [])∧n≤64∧Ext w w':=by
 cases R with
 |none=>exact⟨none,0,0,h.1,RA.dD (base:=0) (e:=0) (World.ownsRow_nil _ _ _ _) rfl (by omega),by omega,h.2⟩
 |some o =>
  obtain⟨⟨v,rfl,hown⟩,hx⟩:=h;obtain⟨A,c,rfl,_,_⟩:=aP hown;have:=hR o rfl;exact⟨A,_,c,rfl,RA.dD hown rfl (by omega),this,hx⟩
end Go.Proofs.YtjidhhfabfnhnaaGreat
namespace Go.Proofs.YtjidhhfabfnhnaaGreat
open Go.RowKit
attribute [local go_sem] Oper.semAt_some
theorem vK (n lo hi:Int) (w:World):Calls Tryz.prog 75 #[.int .i64 n,.int .i64 lo,.int .i64 hi] w fun e w'=>e=.returned (.bool (inB n lo hi))∧w=w':=by
 by_cases h1:n≥lo
 ·by_cases h2:n≤hi
  ·have hs:inB n lo hi=true:=by simp[inB];omega
   rw[hs];clear hs;go_enter Tryz.func75,Tryz.ntmps75;go_wp2;go_ret;exact⟨by simp[*],rfl⟩
  ·have hs:inB n lo hi=false:=by simp[inB];omega
   rw[hs];clear hs;go_enter Tryz.func75,Tryz.ntmps75;go_wp2;go_ret;exact⟨by simp[*],rfl⟩
 ·have hs:inB n lo hi=false:=by simp[inB];omega
  rw[hs];clear hs;go_enter Tryz.func75,Tryz.ntmps75;go_wp2;go_ret;exact⟨by simp[*],rfl⟩
def Nk (x:St):Option fE→iQ
 |none=>x.bH
 |some u=>u.eU
def frU:Option fE→Int
 |none=>-1
 |some u=>u.fr
theorem QN (x:St) (l:List fE) (kn t:Int):iK x l kn t=Nk x (fD x.id kn t l none):=by
 unfold iK Nk;cases fD x.id kn t l none<;>rfl
theorem Nl (sat kn t:Int) (l:List fE) (k:Nat) (h:k<l.length):fD sat kn t (l.take (k+1)) none=G9 sat kn t (fD sat kn t (l.take k) none) l[k]:=by
 rw[List.take_succ_eq_append_getElem h,Gf];rfl
theorem Yz (sat kn t:Int) (b:Option fE) (u:fE) (h:u.sat=sat→0≤u.fr):G9 sat kn t b u=if u.sat=sat∧u.kn≤kn∧u.fr≤t∧frU b≤u.fr then some u else b:=by
 unfold G9 Ot;by_cases h1:u.sat=sat
 ·have h0:=h h1;by_cases h2:u.kn≤kn
  ·by_cases h3:u.fr≤t
   ·cases b with
    |none =>
     have h4:frU none≤u.fr:=by show (-1:Int)≤u.fr;omega
     rw[if_pos (by simp[h1,h2,h3]),if_pos ⟨h1,h2,h3,h4⟩]
    |some v =>
     by_cases h4:v.fr≤u.fr
     ·rw[if_pos (by simp[h1,h2,h3,h4]),if_pos ⟨h1,h2,h3,h4⟩]
     ·rw[if_neg (by simp[h4]),if_neg (fun hh=>h4 hh.2.2.2)]
   ·rw[if_neg (by simp[h3]),if_neg (fun hh=>h3 hh.2.2.1)]
  ·rw[if_neg (by simp[h2]),if_neg (fun hh=>h2 hh.2.1)]
 ·rw[if_neg (by simp[h1]),if_neg (fun hh=>h1 hh.1)]
set_option maxRecDepth 100000 in
set_option maxHeartbeats 4000000 in
theorem uw (x:St) (l:List fE) (A:Option Addr) (n c:Nat) (t kn:Int) (w:World) (h:RA aF 10 w w.heap.size A n c l) (hfr:∀u∈l,u.sat=x.id→0≤u.fr) :
  Calls Tryz.prog 77 #[.agg (aC x).toArray,.slice A n c,.int .i64 t,.int .i64 kn] w fun e w'=>e=.returned (.agg (aQ (iK x l kn t)).toArray)∧Ext w w':=by
 have hn:n≤9223372036854775807:=h.le;have HL:Hid (l.length=n):=Lib.hid h.len;have H:=Lib.hid h;have WB:=Lib.hid hfr;have HOE:=Lib.hid (QN x l kn t);clear h hfr;obtain⟨SX,gY⟩:∃X,(aC x).toArray=X:=⟨_,rfl⟩;have kF:=Lib.hid gY;rw[gY];clear gY;go_enter Tryz.func77,Tryz.ntmps77;go_upto_region 1 with (fail);have J4:aI ((w.alloc (.cells SX 53)).alloc (.cells #[.int .i64 0,.int .i64 0,.int .i64 0,.int .i64 0,.int .i64 0,.int .i64 0,.int .i64 0] 51)) w.heap.size 53 SX:=(aI.new _ _ _).alloc _;have J8:aI ((w.alloc (.cells SX 53)).alloc (.cells #[.int .i64 0,.int .i64 0,.int .i64 0,.int .i64 0,.int .i64 0,.int .i64 0,.int .i64 0] 51)) (w.heap.size+1) 51 #[.int .i64 0,.int .i64 0,.int .i64 0,.int .i64 0,.int .i64 0,.int .i64 0,.int .i64 0]:=aI.aU _ _ _ (by simp);have hx0:Ext w ((w.alloc (.cells SX 53)).alloc (.cells #[.int .i64 0,.int .i64 0,.int .i64 0,.int .i64 0,.int .i64 0,.int .i64 0,.int .i64 0] 51)):=aj (aj (Below.refl _ _) _) _;obtain⟨g4,hg4⟩:∃g,g=w.heap.size:=⟨_,rfl⟩;obtain⟨g8,hg8⟩:∃g,g=w.heap.size+1:=⟨_,rfl⟩;have hl8:w.heap.size≤g8∧g4≠g8:=by omega
 rw[←hg8,←hg4];rw[←hg4]at J4;rw[←hg8]at J8;generalize (w.alloc (.cells SX 53)).alloc (.cells #[.int .i64 0,.int .i64 0,.int .i64 0,.int .i64 0,.int .i64 0,.int .i64 0,.int .i64 0] 51)=W0 at J4 J8 hx0⊢;clear hg4 hg8;obtain⟨hl8a,hl8b⟩:=hl8;have o0:W0.cell? ⟨g4,0,none⟩=some (.int .i64 x.id):=(J4.cell 0).trans (by rw[←kF.out];rfl);have o2:W0.cell? ⟨g4,2,none⟩=some (.int .i64 x.bH.period):=(J4.cell 2).trans (by rw[←kF.out];rfl);have o3:W0.cell? ⟨g4,3,none⟩=some (.int .i64 x.bH.phase):=(J4.cell 3).trans (by rw[←kF.out];rfl);have o4:W0.cell? ⟨g4,4,none⟩=some (.int .i64 x.bH.low):=(J4.cell 4).trans (by rw[←kF.out];rfl);have o5:W0.cell? ⟨g4,5,none⟩=some (.int .i64 x.bH.high):=(J4.cell 5).trans (by rw[←kF.out];rfl);have o6:W0.cell? ⟨g4,6,none⟩=some (.int .i64 x.bH.node):=(J4.cell 6).trans (by rw[←kF.out];rfl);have o7:W0.cell? ⟨g4,7,none⟩=some (.int .i64 x.bH.turn):=(J4.cell 7).trans (by rw[←kF.out];rfl);have o8:W0.cell? ⟨g4,8,none⟩=some (.int .i64 x.bH.eY):=(J4.cell 8).trans (by rw[←kF.out];rfl);go_upto_region 2 with (refine aZ rfl 51 _ _ rfl _ #[.int .i64 x.bH.period,.int .i64 x.bH.phase,.int .i64 x.bH.low,.int .i64 x.bH.high,.int .i64 x.bH.node,.int .i64 x.bH.turn,.int .i64 x.bH.eY] rfl rfl bF rfl (by simp[Value.oneCell']) ?_);have hy:Ext W0 (W0.alloc (.cells #[.int .i64 x.bH.period,.int .i64 x.bH.phase,.int .i64 x.bH.low,.int .i64 x.bH.high,.int .i64 x.bH.node,.int .i64 x.bH.turn,.int .i64 x.bH.eY] 51)):=aj (Below.refl _ _) _;have J9:aI (W0.alloc (.cells #[.int .i64 x.bH.period,.int .i64 x.bH.phase,.int .i64 x.bH.low,.int .i64 x.bH.high,.int .i64 x.bH.node,.int .i64 x.bH.turn,.int .i64 x.bH.eY] 51)) W0.heap.size 51 (aQ (Nk x none)).toArray:=aI.new _ _ _;obtain⟨g9,hg9⟩:∃g,g=W0.heap.size:=⟨_,rfl⟩;rw[←hg9]at J9⊢;have hl9:w.heap.size≤g9:=by rw[hg9];exact hx0.size
 have hl94:g4<g9∧g8<g9:=by rw[hg9];exact⟨J4.lt,J8.lt⟩
 obtain⟨hl94,hl98⟩:=hl94;have J4:=J4.ext hy;have J8:=J8.ext hy;have hx1:=Ext.trans hx0 hy;generalize W0.alloc (.cells #[.int .i64 x.bH.period,.int .i64 x.bH.phase,.int .i64 x.bH.low,.int .i64 x.bH.high,.int .i64 x.bH.node,.int .i64 x.bH.turn,.int .i64 x.bH.eY] 51)=W1 at J4 J8 J9 hx1⊢;clear hy hg9 hx0 o0 o2 o3 o4 o5 o6 o7 o8;have jU:=Lib.hid J4;have uT:=Lib.hid J8;have R_:=Lib.hid J9;have jB:=Lib.hid hx1;clear J4 J8 J9 hx1;have HB0:Hid (fD x.id kn t (l.take 0) none=none):=Lib.hid (by simp[fD]);go_wp2;go_loopw [10,11] (fun fr i wr=>∃(k:Nat) (b:Option fE),k≤n∧fr=.int .i64 (frU b)∧i=.int .i64 k∧Hid (fD x.id kn t (l.take k) none=b)∧Hid (aI wr g9 51 (aQ (Nk x b)).toArray)∧Hid (aI wr g8 51 #[.int .i64 0,.int .i64 0,.int .i64 0,.int .i64 0,.int .i64 0,.int .i64 0,.int .i64 0])∧Hid (aI wr g4 53 SX)∧Hid (Ext w wr)) (fun _ i _=>n-(intOf i).toNat)
 case atStart=>exact⟨0,none,Nat.zero_le _,rfl,rfl,HB0,R_,uT,jU,jB⟩
 case round =>
  clear HB0 R_ uT jU jB;obtain⟨k,b,hk,rfl,rfl,HBE,R_,uT,jU,HX⟩:=hrel;by_cases hkn:k<n
  ·have hkz:(k:Int)<(n:Int):=by omega
   obtain⟨bu,ou,hzu,WC,hbu,nY⟩:=H.out.at_ fJ hkn;subst WC;have hbt:=Nl x.id kn t l k hzu;rw[HBE.out,Yz x.id kn t b _ (WB.out _ (List.getElem_mem _))]at hbt;generalize l[k]=u at nY hbt;obtain⟨us,uf,uk,⟨pe,ph,lo,hi,no,tu,sl⟩⟩:=u;dsimp only at hbt;have NV:=Lib.hid hbt;have yw0:w.cell? ⟨bu,ou+k*10,none⟩=some (.int .i64 us):=nY 0 (by simp);have y0:=ah HX.out yw0;have yw1:w.cell? ⟨bu,ou+k*10+1,none⟩=some (.int .i64 uf):=nY 1 (by simp);have y1:=ah HX.out yw1;have yw2:w.cell? ⟨bu,ou+k*10+2,none⟩=some (.int .i64 uk):=nY 2 (by simp);have y2:=ah HX.out yw2;have yw3:w.cell? ⟨bu,ou+k*10+3,none⟩=some (.int .i64 pe):=nY 3 (by simp);have y3:=ah HX.out yw3;have yw4:w.cell? ⟨bu,ou+k*10+4,none⟩=some (.int .i64 ph):=nY 4 (by simp);have y4:=ah HX.out yw4;have yw5:w.cell? ⟨bu,ou+k*10+5,none⟩=some (.int .i64 lo):=nY 5 (by simp);have y5:=ah HX.out yw5;have yw6:w.cell? ⟨bu,ou+k*10+6,none⟩=some (.int .i64 hi):=nY 6 (by simp);have y6:=ah HX.out yw6;have yw7:w.cell? ⟨bu,ou+k*10+7,none⟩=some (.int .i64 no):=nY 7 (by simp);have y7:=ah HX.out yw7;have yw8:w.cell? ⟨bu,ou+k*10+8,none⟩=some (.int .i64 tu):=nY 8 (by simp);have y8:=ah HX.out yw8;have yw9:w.cell? ⟨bu,ou+k*10+9,none⟩=some (.int .i64 sl):=nY 9 (by simp);have y9:=ah HX.out yw9;have z0:wr.cell? ⟨g4,0,none⟩=some (.int .i64 x.id):=(jU.out.cell 0).trans (by rw[←kF.out];rfl);obtain⟨fb,hfb⟩:∃z,z=frU b:=⟨_,rfl⟩;rw[←hfb]at NV⊢;have HFB:=Lib.hid hfb;generalize x.id=jR at NV z0 HBE;clear nY hzu hbt hbu hfb;by_cases h1:us=jR
   ·by_cases h2:uk≤kn
    ·by_cases h3:uf≤t
     ·by_cases h4:fb≤uf
      ·have HB2:Hid (fD jR kn t (l.take (k+1)) none=some ⟨us,uf,uk,⟨pe,ph,lo,hi,no,tu,sl⟩⟩):=Lib.hid (by rw[NV.out,if_pos ⟨h1,h2,h3,h4⟩]);have q1:(us==jR)=true:=by simp[h1]
       clear h1 NV;go_wp2;go_quiet (fail)
       have RH:=fun a=>(below_drewN (Below.refl _ _) a:Ext wr (wr.drewN a));generalize hV:wr.drewN _=V;have Gg:Ext wr V:=by rw[←hV];exact RH _
       clear RH hV;have WE:=Lib.hid (Ext.trans HX.out Gg);have Vp:=Lib.hid (R_.out.ext Gg);have Qm:=Lib.hid (uT.out.ext Gg);have Ql:=Lib.hid (jU.out.ext Gg);have v3:=ah Gg y3;have v4:=ah Gg y4;have v5:=ah Gg y5;have v6:=ah Gg y6;have v7:=ah Gg y7;have v8:=ah Gg y8;have v9:=ah Gg y9;clear Gg y0 y1 y2 y3 y4 y5 y6 y7 y8 y9 z0;go_upto_region 8 with (refine wpList_store_row rfl 51 _ _ rfl g9 #[.int .i64 pe,.int .i64 ph,.int .i64 lo,.int .i64 hi,.int .i64 no,.int .i64 tu,.int .i64 sl] rfl rfl 51 _ Vp.out bF rfl (by simp[Value.oneCell']) ?_);have HE2:=Lib.hid (below_setRow WE.out hl9 #[.int .i64 pe,.int .i64 ph,.int .i64 lo,.int .i64 hi,.int .i64 no,.int .i64 tu,.int .i64 sl]);have HJ9b:Hid (aI (V.setRow g9 #[.int .i64 pe,.int .i64 ph,.int .i64 lo,.int .i64 hi,.int .i64 no,.int .i64 tu,.int .i64 sl]) g9 51 (aQ (Nk x (some ⟨us,uf,uk,⟨pe,ph,lo,hi,no,tu,sl⟩⟩))).toArray):=Lib.hid (Vp.out.row #[.int .i64 pe,.int .i64 ph,.int .i64 lo,.int .i64 hi,.int .i64 no,.int .i64 tu,.int .i64 sl]);have HJ8b:=Lib.hid (Qm.out.iL (k:=g9) (by omega) #[.int .i64 pe,.int .i64 ph,.int .i64 lo,.int .i64 hi,.int .i64 no,.int .i64 tu,.int .i64 sl]);have HJ4b:=Lib.hid (Ql.out.iL (k:=g9) (by omega) #[.int .i64 pe,.int .i64 ph,.int .i64 lo,.int .i64 hi,.int .i64 no,.int .i64 tu,.int .i64 sl]);generalize V.setRow g9 #[.int .i64 pe,.int .i64 ph,.int .i64 lo,.int .i64 hi,.int .i64 no,.int .i64 tu,.int .i64 sl]=V2 at HE2 HJ9b HJ8b HJ4b⊢;have y1:=ah HE2.out yw1;go_wp2;go_roundw
       case rel=>exact⟨k+1,some ⟨us,uf,uk,⟨pe,ph,lo,hi,no,tu,sl⟩⟩,by omega,rfl,by go_num,HB2,HJ9b,HJ8b,HJ4b,HE2⟩
       case measure=>simp[intOf];omega
      ·have HB2:Hid (fD jR kn t (l.take (k+1)) none=b):=Lib.hid (by rw[NV.out,if_neg (fun hh=>h4 hh.2.2.2)]);have q1:(us==jR)=true:=by simp[h1]
       have q4:uf<fb:=by omega
       clear h1 NV;go_wp2;go_quiet (fail)
       go_wp2;go_roundw
       case rel=>exact⟨k+1,b,by omega,by rw[HFB.out],by go_num,HB2,Lib.hid (R_.out.ext (below_drewN (Below.refl _ _) _)),Lib.hid (uT.out.ext (below_drewN (Below.refl _ _) _)),Lib.hid (jU.out.ext (below_drewN (Below.refl _ _) _)),Lib.hid (Ext.trans HX.out (below_drewN (Below.refl _ _) _))⟩
       case measure=>simp[intOf];omega
     ·have HB2:Hid (fD jR kn t (l.take (k+1)) none=b):=Lib.hid (by rw[NV.out,if_neg (fun hh=>h3 hh.2.2.1)]);have q1:(us==jR)=true:=by simp[h1]
      have q3:decide (uf≤t)=false:=decide_eq_false h3;clear h1 NV;go_wp2;go_quiet (fail)
      go_wp2;go_roundw
      case rel=>exact⟨k+1,b,by omega,by rw[HFB.out],by go_num,HB2,Lib.hid (R_.out.ext (below_drewN (Below.refl _ _) _)),Lib.hid (uT.out.ext (below_drewN (Below.refl _ _) _)),Lib.hid (jU.out.ext (below_drewN (Below.refl _ _) _)),Lib.hid (Ext.trans HX.out (below_drewN (Below.refl _ _) _))⟩
      case measure=>simp[intOf];omega
    ·have HB2:Hid (fD jR kn t (l.take (k+1)) none=b):=Lib.hid (by rw[NV.out,if_neg (fun hh=>h2 hh.2.1)]);have q1:(us==jR)=true:=by simp[h1]
     have q2:decide (uk≤kn)=false:=decide_eq_false h2;clear h1 NV;go_wp2;go_quiet (fail)
     go_wp2;go_roundw
     case rel=>exact⟨k+1,b,by omega,by rw[HFB.out],by go_num,HB2,Lib.hid (R_.out.ext (below_drewN (Below.refl _ _) _)),Lib.hid (uT.out.ext (below_drewN (Below.refl _ _) _)),Lib.hid (jU.out.ext (below_drewN (Below.refl _ _) _)),Lib.hid (Ext.trans HX.out (below_drewN (Below.refl _ _) _))⟩
     case measure=>simp[intOf];omega
   ·have HB2:Hid (fD jR kn t (l.take (k+1)) none=b):=Lib.hid (by rw[NV.out,if_neg (fun hh=>h1 hh.1)]);have q1:(us==jR)=false:=by simp[h1]
    clear h1 NV;go_wp2;go_quiet (fail)
    go_wp2;go_roundw
    case rel=>exact⟨k+1,b,by omega,by rw[HFB.out],by go_num,HB2,Lib.hid (R_.out.ext (below_drewN (Below.refl _ _) _)),Lib.hid (uT.out.ext (below_drewN (Below.refl _ _) _)),Lib.hid (jU.out.ext (below_drewN (Below.refl _ _) _)),Lib.hid (Ext.trans HX.out (below_drewN (Below.refl _ _) _))⟩
    case measure=>simp[intOf];omega
  ·have hkz:¬(k:Int)<(n:Int):=by omega
   have X9:Hid (fD x.id kn t l none=b):=Lib.hid (by have h:=HBE.out;rwa[List.take_of_length_le (by rw[HL.out];omega)]at h);clear HBE;obtain⟨OX,uH⟩:∃X,(aQ (Nk x b)).toArray=X:=⟨_,rfl⟩;have hJ9:=R_.out;rw[uH]at hJ9;have Nj:Hid (OX.size=7):=Lib.hid (by rw[←uH];rfl);have WA:Hid (OX.all (·.oneCell')=true):=Lib.hid (by rw[←uH];simp[aQ,Value.oneCell']);have He:=Lib.hid uH;have Vp:=Lib.hid hJ9;clear uH hJ9 R_;go_wp2_with (first | (refine ay rfl 51 _ rfl g9 0 rfl OX OX.toList (by simp) _ (aI.range Vp.out _ rfl) Tryz.underlying51 rfl (by rw[Array.length_toList,Nj.out];exact bF) ?_) | (refine wpList_store_row rfl 51 _ _ rfl g8 OX rfl rfl 51 _ uT.out (by rw[Nj.out];exact bF) (by rw[Nj.out];rfl) WA.out ?_));have K8:=uT.out.row OX;exact bodyPost_ret (fK Tryz.results77 _ _ g8 OX rfl K8 _ Tryz.underlying51 rfl (by rw[Nj.out];exact bF)) rfl ⟨by rw[HOE.out,X9.out,He.out],below_setRow HX.out hl8a OX⟩
end Go.Proofs.YtjidhhfabfnhnaaGreat
namespace Go.Proofs.YtjidhhfabfnhnaaGreat
open Go.RowKit
attribute [local go_sem] Oper.semAt_some
theorem QO (id:Int) (l:List fE) (k:Nat) (h:k<l.length):iZ id (l.take (k+1))=if l[k].sat=id then iZ id (l.take k)++[l[k]] else iZ id (l.take k):=by
 unfold iZ;rw[List.take_succ_eq_append_getElem h,List.filter_append];by_cases e:l[k].sat=id
 ·rw[if_pos e];simp[e]
 ·rw[if_neg e];simp[e]
set_option maxRecDepth 100000 in
set_option maxHeartbeats 4000000 in
theorem Gh (x:St) (l:List fE) (A:Option Addr) (n c:Nat) (w:World) (h:RA aF 10 w w.heap.size A n c l) (hn:n≤2000) :
  Calls Tryz.prog 76 #[.agg (aC x).toArray,.slice A n c] w (jc aF 10 66 (iZ x.id l) w):=by
 have HL:Hid (l.length=n):=Lib.hid h.len;have H:=Lib.hid h;clear h;obtain⟨SX,gY⟩:∃X,(aC x).toArray=X:=⟨_,rfl⟩;have kF:=Lib.hid gY;rw[gY];clear gY;go_enter Tryz.func76,Tryz.ntmps76;go_upto_region 1 with (fail);have J2:aI (w.alloc (.cells SX 53)) w.heap.size 53 SX:=aI.new _ _ _;have hx0:Ext w (w.alloc (.cells SX 53)):=aj (Below.refl _ _) _;generalize w.heap.size=g2 at J2⊢;generalize w.alloc (.cells SX 53)=W0 at J2 hx0⊢;have HJ2:=Lib.hid J2;have HX0:=Lib.hid hx0;clear J2 hx0;go_wp2;go_loopw [5,6] (fun v i wr=>∃k:Nat,k≤n∧i=.int .i64 k∧Hid (wr.ownsRow W0.heap.size 66 10 v (iZ x.id (l.take k)).length ((iZ x.id (l.take k)).flatMap aF))∧Hid (Ext W0 wr)) (fun _ i _=>n-(intOf i).toNat)
 case atStart=>exact⟨0,Nat.zero_le _,rfl,Lib.hid (World.ownsRow_nil _ _ _ _),Lib.hid (Below.refl _ _)⟩
 case round =>
  obtain⟨k,hk,rfl,HR,HX⟩:=hrel;by_cases hkn:k<n
  ·have hkz:(k:Int)<(n:Int):=by omega
   obtain⟨bu,ou,hzu,WC,hbu,nY⟩:=(H.out.below (Ext.trans HX0.out HX.out)).at_ fJ hkn;obtain⟨bu',ou',_,QS,_,hcr⟩:=RA.range fJ (H.out.below (Ext.trans HX0.out HX.out)) hkn;obtain⟨rfl,rfl⟩:bu'=bu∧ou'=ou:=by rw[WC]at QS;injection QS with QS;injection QS with h1 h2;exact⟨h1.symm,h2.symm⟩
   have HHR:=H;subst WC;clear QS;have hot:=QO x.id l k hzu;have hol:(iZ x.id (l.take k)).length≤2000:=by
    have h1:=List.length_filter_le (fun u:fE=>u.sat==x.id) (l.take k);have h2:=List.length_take_le k l;unfold iZ;omega
   generalize l[k]=u at nY hcr hot;have y0:wr.cell? ⟨bu',ou'+k*10,none⟩=some (.int .i64 u.sat):=nY 0 (by simp);have z0:wr.cell? ⟨g2,0,none⟩=some (.int .i64 x.id):=((HJ2.out.ext HX.out).cell 0).trans (by rw[←kF.out];rfl);obtain⟨U,hU⟩:∃X,(aF u).toArray=X:=⟨_,rfl⟩;generalize x.id=jR at hot hol z0 HR;generalize u.sat=us at hot y0;have HCR:=Lib.hid hcr;have HU:=Lib.hid hU;have HUZ:Hid (U.size=10):=Lib.hid (by rw[←hU];rfl);have QM:=Lib.hid hot;clear nY hcr hzu hot hU hbu;by_cases h1:us=jR
   ·have q1:(us==jR)=true:=by simp[h1]
    have Ai:Hid (iZ jR (l.take (k+1))=iZ jR (l.take k)++[u]):=Lib.hid (by rw[QM.out,if_pos h1]);clear h1 QM;go_wp2;go_quiet (fail)
    have RH:=fun a=>(below_drewN (Below.refl _ _) a:Ext wr (wr.drewN a));generalize hV:wr.drewN _=V;have Gg:Ext wr V:=by rw[←hV];exact RH _
    clear RH hV y0 z0;have hB:=Ext.trans HX.out Gg;have HCV:=Lib.hid (RA.bV HCR.out Gg);have HR2:=bM HR.out Gg;obtain⟨A5,c5,hv5,_,_⟩:=aP HR2;subst hv5;obtain⟨v5,w11,hrun,hown,hext⟩:=JI 30 (.slice A5 _ c5) (iZ jR (l.take k)) u U HU.out hB HR2 (by omega);have kH:=Lib.hid hrun;have HOWN:Hid (w11.ownsRow W0.heap.size 66 10 v5 (iZ jR (l.take (k+1))).length ((iZ jR (l.take (k+1))).flatMap aF)):=Lib.hid (by rw[Ai.out,List.length_append];exact hown);have HEX:=Lib.hid hext;clear hrun hown hext HR2 hB Gg;go_wp2_with (first | (refine ay rfl _ _ rfl bu' (ou'+k*10) rfl U (aF u) HU.out _ HCV.out Tryz.underlying66 rfl jC ?_) | (refine aV rfl _ _ _ rfl U rfl Tryz.underlying30 10 uP HUZ.out (by omega) (by omega) ?_) | (refine aO rfl _ _ _ rfl rfl rfl kH.out ?_));go_roundw
    case rel=>exact⟨k+1,by omega,by go_num,HOWN,HEX⟩
    case measure=>simp[intOf];omega
   ·have q1:(us==jR)=false:=by simp[h1]
    have Ai:Hid (iZ jR (l.take (k+1))=iZ jR (l.take k)):=Lib.hid (by rw[QM.out,if_neg h1]);clear h1 QM;go_wp2;go_quiet (fail)
    go_wp2;go_roundw
    case rel=>exact⟨k+1,by omega,by go_num,Lib.hid (by rw[Ai.out];exact bM HR.out (below_drewN (Below.refl _ _) _)),Lib.hid (Ext.trans HX.out (below_drewN (Below.refl _ _) _))⟩
    case measure=>simp[intOf];omega
  ·have hkz:¬(k:Int)<(n:Int):=by omega
   have X9:Hid (l.take k=l):=Lib.hid (List.take_of_length_le (by rw[HL.out];omega));go_wp2;go_ret;exact⟨_,rfl,by have h:=HR.out;rw[X9.out]at h;exact own_base h HX0.out.size,Ext.trans HX0.out HX.out⟩
end Go.Proofs.YtjidhhfabfnhnaaGreat
