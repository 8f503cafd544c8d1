/- The laws' example and pass (printed by eph_d1.py). -/
import Derived.Test.YtjidhhfabfnhnaaGreatT22
import Derived.Test.YtjidhhfabfnhnaaGreatT08
import Derived.Test.YtjidhhfabfnhnaaGreatT09
import Derived.Test.YtjidhhfabfnhnaaGreatT02
namespace Go.Proofs.YtjidhhfabfnhnaaGreat
open Go.RowKit Go.Shelf
attribute [local go_sem] Oper.semAt_some
def sN (sats:List St) (l:List fE) (old a b:List bP) (x y:Int) (o:wF):Bool:=match lU sats l o old a x with
 |none=>false
 |some s=>match lU sats l o old b y with
  |none=>true
  |some t=>!(decide (s.1=t.1)&&decide (s.2=t.2))
def jR (f:wF→Bool):Nat→List iY→List Int
 |_,[]=>[]
 |i,o::r=>if f o.o=true then (i:Int)::jR f (i+1) r else jR f (i+1) r
def C_ (sats:List St) (aK:List iD) (l:List fE) (opts:List iY) (passes:List bP) (sp:iO) (x y:Int):Option (List Int):=match bU sats aK l sp x,bU sats aK l sp y with
 |some a,some b=>if opts.length≤64∧opts.any (fun o=>nJ o.o.a o.o.b)=false∧iE passes=true then some (jR (sN sats l passes a b x y) 0 opts) else none
 |_,_=>none
def BD (r:Option (List Int)) (w:World) (e:Ending) (w':World):Prop:=match r with
 |none=>e=.returned (.tuple #[.slice none 0 0,.int .i64 360])∧Ext w w'
 |some l=>(∃v,e=.returned (.tuple #[v,.int .i64 0])∧w'.ownsRow w.heap.size 3 1 v l.length (l.flatMap bW))∧Ext w w'
theorem FX {W0 w:World} (ty:TypeId) (v:Value) (acc:List Int) (x:Int) (hx:Ext W0 w) (h:w.ownsRow W0.heap.size 3 1 v acc.length (acc.flatMap bW)) (hn:acc.length≤100000) :
  ∃v' w',(Builtin.append_ #[40,40] ty #[v,.slice (some ⟨w.heap.size,0,none⟩) 1 1]).run Tryz.prog (w.alloc (.cells #[.int .i64 x] 3))=.ok v' w'∧w'.ownsRow W0.heap.size 3 1 v' (acc++[x]).length ((acc++[x]).flatMap bW)∧Ext W0 w':=by
 obtain⟨i0,hi0,hz0,hz1,hz2⟩:=info_parts IB;have jx:=aG.new w 3 #[.int .i64 x];have hx5:Ext w (w.alloc (.cells #[.int .i64 x] 3)):=aj (Below.refl _ _) _;have hrow:=bT h hx5;have hx6:=Ext.trans hx hx5;have hBs:=Below.size hx6;obtain⟨v2,W7,hr,hrow2,hg2,-⟩:=run_append_own (P:=Tryz.prog) (w.alloc (.cells #[.int .i64 x] 3)) W0.heap.size 40 ty 3 i0 _ 1 8 Tryz.underlying40 hi0 hz0 hz1 hz2 rfl (by omega) _ _ _ hrow ⟨w.heap.size,0,none⟩ 1 1 [.int .i64 x] rfl (by intro i u hu;rw[Addr.add_lit,Nat.zero_add,jx.cell];simpa using hu) (by simp[Value.oneCell']) (by unfold maxLen;omega) (by omega) (by omega);exact⟨v2,W7,hr,by rw[List.length_append,List.flatMap_append];simpa [bW]using hrow2,hx6.grown hg2 hBs (fun q e=>(World.ownsRow.lt hrow q e).1)⟩
set_option maxRecDepth 100000 in
set_option maxHeartbeats 4000000 in
theorem wH (sats:List St) (aK:List iD) (l:List fE) (opts:List iY) (passes:List bP) (SA TA A QA PA:Option Addr) (sn sc tn tc un uc qn qc pn pc:Nat) (a b x y:Int) (w:World) (hS:RA aC 21 w w.heap.size SA sn sc sats) (hT:RA bJ 6 w w.heap.size TA tn tc aK) (hU:RA aI 10 w w.heap.size A un uc l)
  (hQ:RA dX 9 w w.heap.size QA qn qc opts) (hQs:∀o∈opts,RA dR 3 w w.heap.size o.la o.ln o.lc o.o.slots) (hP:RA ak 6 w w.heap.size PA pn pc passes) :
  Calls Tryz.prog 14 #[.slice SA sn sc,.slice TA tn tc,.slice A un uc,.slice QA qn qc,.slice PA pn pc,.agg #[.int .i64 a,.int .i64 b],.int .i64 x,.int .i64 y] w (BD (C_ sats aK l opts passes ⟨a,b⟩ x y) w):=by
 have Cj:=fun (W:World) (hx:Ext w W) (k:Int)=>lM sats aK l SA TA A sn sc tn tc un uc a b k W (aB hS hx) (aB hT hx) (aB hU hx);obtain⟨R,hR⟩:∃R,R=C_ sats aK l opts passes ⟨a,b⟩ x y:=⟨_,rfl⟩;rw[←hR];unfold C_ at hR;obtain⟨p,hp⟩:∃p,p=bU sats aK l ⟨a,b⟩ x:=⟨_,rfl⟩;obtain⟨q,hq⟩:∃q,q=bU sats aK l ⟨a,b⟩ y:=⟨_,rfl⟩;rw[←hp,←hq]at hR;have H1:Hid (∀W,Ext w W→Calls Tryz.prog 15 #[.slice SA sn sc,.slice TA tn tc,.slice A un uc,.agg #[.int .i64 a,.int .i64 b],.int .i64 x] W (pJ p W)):=Lib.hid (by rw[hp];exact fun W hx=>Cj W hx x);have H2:Hid (∀W,Ext w W→Calls Tryz.prog 15 #[.slice SA sn sc,.slice TA tn tc,.slice A un uc,.agg #[.int .i64 a,.int .i64 b],.int .i64 y] W (pJ q W)):=Lib.hid (by rw[hq];exact fun W hx=>Cj W hx y);have uQ:Hid (∀o,p=some o→o.length≤64):=Lib.hid (fun o h=>kV (hp.symm.trans h));have O4:Hid (∀o,q=some o→o.length≤64):=Lib.hid (fun o h=>kV (hq.symm.trans h));have HR:=Lib.hid hR;have J:=aG.new w 32 #[.int .i64 a,.int .i64 b];have hx0:Ext w (w.alloc (.cells #[.int .i64 a,.int .i64 b] 32)):=aj (Below.refl _ _) _;have HBAD:Hid (∀W,Ext w W→Calls Tryz.prog 44 #[.slice QA qn qc,.func (.func 43) #[] #[]] W fun e w'=>e=.returned (.bool (opts.any (fun o=>nJ o.o.a o.o.b)))∧Ext W w'):=Lib.hid (fun W hx=>C9 (fun o=>nJ o.o.a o.o.b) 43 #[] (enters_of Tryz.func43 (by kernel_rfl) rfl) opts QA qn qc W (aB hQ hx) (fun o W' _=>Xt o W'));have II:Hid (∀W,Ext w W→Calls Tryz.prog 23 #[.slice PA pn pc] W fun e w'=>e=.returned (.bool (iE passes))∧Ext W w'):=Lib.hid (fun W hx=>JV passes PA pn pc W (aB hP hx));have HS:=Lib.hid hS;have HU:=Lib.hid hU;have HQ:=Lib.hid hQ;have HQS:=Lib.hid hQs;have HP:=Lib.hid hP;have hqn:qn≤9223372036854775807:=hQ.le;have HQN:=Lib.hid hQ.len;clear Cj hS hT hU hp hq hR hQ hQs hP;go_enter Tryz.func14,Tryz.ntmps14;go_upto_region 1 with (fail);generalize w.alloc (.cells #[.int .i64 a,.int .i64 b] 32)=W0 at J hx0⊢;generalize w.heap.size=g at J⊢;have s0:W0.cell? ⟨g,0,none⟩=some (.int .i64 a):=J.cell 0;have s1:W0.cell? ⟨g,1,none⟩=some (.int .i64 b):=J.cell 1;go_wp2_with fail;refine (H1.out W0 hx0).mono ?_;clear s0 s1 H1;intro e W1 he;have hy:Ext W0 W1:=by cases p with
  |none=>exact he.2
  |some o=>exact he.2
 obtain⟨v1,e1,hv1,hf1⟩:∃v1 e1,e=.returned (.tuple #[v1,.int .i64 e1])∧((p=none∧v1=.slice none 0 0∧e1=360)∨∃o c B,p=some o∧v1=.slice B o.length c∧e1=0∧RA ak 6 W1 W1.heap.size B o.length c o):=by
  cases p with
  |none=>exact⟨_,_,he.1,.inl ⟨rfl,rfl,rfl⟩⟩
  |some o =>
   obtain⟨⟨v,h1,h2⟩,h3⟩:=he;obtain⟨B,c,rfl,_,_⟩:=aX h2;exact⟨_,_,h1,.inr ⟨o,c,B,rfl,rfl,rfl,RA.d_ h2 rfl (by have:=uQ.out o rfl;omega)⟩⟩
 subst hv1;have hx1:=Ext.trans hx0 hy;have J1:=J.ext hy;have s0:W1.cell? ⟨g,0,none⟩=some (.int .i64 a):=J1.cell 0;have s1:W1.cell? ⟨g,1,none⟩=some (.int .i64 b):=J1.cell 1;have YT:=Lib.hid hf1;clear he hy hx0 J J1 hf1;go_wp2_with fail;refine (H2.out W1 hx1).mono ?_;clear s0 s1 H2;intro e W2 he;have hy:Ext W1 W2:=by cases q with
  |none=>exact he.2
  |some o=>exact he.2
 obtain⟨v2,e2,hv2,hf2⟩:∃v2 e2,e=.returned (.tuple #[v2,.int .i64 e2])∧((q=none∧v2=.slice none 0 0∧e2=360)∨∃o c B,q=some o∧v2=.slice B o.length c∧e2=0∧RA ak 6 W2 W2.heap.size B o.length c o):=by
  cases q with
  |none=>exact⟨_,_,he.1,.inl ⟨rfl,rfl,rfl⟩⟩
  |some o =>
   obtain⟨⟨v,h1,h2⟩,h3⟩:=he;obtain⟨B,c,rfl,_,_⟩:=aX h2;exact⟨_,_,h1,.inr ⟨o,c,B,rfl,rfl,rfl,RA.d_ h2 rfl (by have:=O4.out o rfl;omega)⟩⟩
 subst hv2;have hx2:=Ext.trans hx1 hy;have EP:=Lib.hid hx2;have HY:=Lib.hid hy;have hf1:=YT.out;clear he hx1 hx2 YT hy;rcases hf1 with ⟨rfl,rfl,rfl⟩ | ⟨o1,c1,B1,rfl,rfl,rfl,hr1⟩
 ·have HR0:Hid (R=none):=Lib.hid (by rw[HR.out]);clear hf2 uQ O4 HR HBAD II;go_wp2;exact bodyPost_ret (show (results _ _).run _ _=.ok (.tuple #[.slice none 0 0,.int .i64 360]) _ by simp[results,Tryz.results14,go_sem]) rfl (by rw[HR0.out];exact⟨rfl,EP.out⟩)
 ·have HR1:=Lib.hid hr1;clear hr1;rcases hf2 with ⟨rfl,rfl,rfl⟩ | ⟨o2,c2,B2,rfl,rfl,rfl,hr2⟩
  ·have HR0:Hid (R=none):=Lib.hid (by rw[HR.out]);clear uQ O4 HR HBAD II;go_wp2;exact bodyPost_ret (show (results _ _).run _ _=.ok (.tuple #[.slice none 0 0,.int .i64 360]) _ by simp[results,Tryz.results14,go_sem]) rfl (by rw[HR0.out];exact⟨rfl,EP.out⟩)
  ·have HR2:=Lib.hid hr2;have hl1:=uQ.out o1 rfl;have hl2:=O4.out o2 rfl;have hqi:=HQN.out;clear hr2 uQ O4;by_cases h64:qn≤64
   ·have Tf:¬(64:Int)<(qn:Int):=by omega
    have Y7:Hid (R=if opts.length≤64∧opts.any (fun o=>nJ o.o.a o.o.b)=false∧iE passes=true then some (jR (sN sats l passes o1 o2 x y) 0 opts) else none):=Lib.hid (by rw[HR.out]);have HBX:Hid (opts.any (fun o=>nJ o.o.a o.o.b)=false→∀o∈opts,nJ o.o.a o.o.b=false):=Lib.hid (fun h o ho=>by
     have:=List.any_eq_false.1 h o ho;simpa using this)
    clear HR hqi;generalize opts.any (fun o=>nJ o.o.a o.o.b)=bd at HBAD Y7 HBX;generalize iE passes=pp at II Y7;go_wp2_with fail;refine (HBAD.out _ EP.out).mono ?_;rintro e W3 ⟨rfl,hy3⟩;have Nj:=Lib.hid (Ext.trans EP.out hy3);have HY3:=Lib.hid hy3;clear hy3;cases bd
    ·go_wp2_with fail;refine (II.out _ Nj.out).mono ?_;rintro e W4 ⟨rfl,hy4⟩;have RJ:=Lib.hid (Ext.trans Nj.out hy4);have HY4:=Lib.hid (Ext.trans HY3.out hy4);clear hy4;cases pp
     ·have HR0:Hid (R=none):=Lib.hid (by rw[Y7.out];simp);clear Y7 HBAD II;go_wp2;exact bodyPost_ret (show (results _ _).run _ _=.ok (.tuple #[.slice none 0 0,.int .i64 360]) _ by simp[results,Tryz.results14,go_sem]) rfl (by rw[HR0.out];exact⟨rfl,RJ.out⟩)
     ·have HR0:Hid (R=some (jR (sN sats l passes o1 o2 x y) 0 opts)):=Lib.hid (by rw[Y7.out];exact if_pos ⟨by rw[HQN.out];exact h64,by first | rfl | trivial,by first | rfl | trivial⟩);clear Y7 HBAD II;have hOK:∀o∈opts,0≤o.o.a∧o.o.a<o.o.b∧o.o.b≤1000000:=fun o ho=>by
       have h:nJ o.o.a o.o.b=false:=(by first | exact HBX.out rfl | exact HBX.out trivial:∀o∈opts,nJ o.o.a o.o.b=false) o ho;simp only[nJ,decide_eq_false_iff_not]at h;omega
      have Y8:=Lib.hid hOK;obtain⟨f,hf⟩:∃f,f=sN sats l passes o1 o2 x y:=⟨_,rfl⟩;have hr0:=HR0.out;rw[←hf]at hr0;have HF:=Lib.hid hf;have HRF:=Lib.hid hr0;have HM0:Hid (jR f 0 opts=[]++jR f 0 (opts.drop 0)):=Lib.hid (by simp);have HW0:Hid (W4.ownsRow W4.heap.size 3 1 (.slice none 0 0) ([]:List Int).length (([]:List Int).flatMap bW)):=Lib.hid (World.ownsRow_nil _ _ _ _);have HE0:Hid (Ext W4 W4):=Lib.hid (Below.refl _ _);clear HBX hOK HR0 hf hr0;go_wp2;go_loopw [16,69] (fun v i wr=>∃(k:Nat) (acc:List Int),k≤qn∧i=.int .i64 k∧Hid (jR f 0 opts=acc++jR f k (opts.drop k))∧Hid (acc.length≤k)∧Hid (wr.ownsRow W4.heap.size 3 1 v acc.length (acc.flatMap bW))∧Hid (Ext W4 wr)) (fun _ i _=>qn-(intOf i).toNat)
      case atStart=>exact⟨0,[],Nat.zero_le _,rfl,HM0,Lib.hid (Nat.le_refl _),HW0,HE0⟩
      case round =>
       clear HM0 HW0 HE0;obtain⟨k,acc,hk,rfl,HMV,Ar,HOW,HXR⟩:=hrel;by_cases hkq:k<qn
       ·have hkz:(k:Int)<(qn:Int):=by omega
        have hxw:=Ext.trans RJ.out HXR.out;obtain⟨bb,oo,hz,hA,hbl,hc⟩:=RA.range LM (HQ.out.below hxw) hkq;have hmem:opts[k]∈opts:=List.getElem_mem hz;have hst1:=HQS.out _ hmem;have hok:=Y8.out _ hmem;have hmv:=HMV.out;rw[List.drop_eq_getElem_cons hz,jR]at hmv;generalize opts[k]=o at hc hst1 hok hmv;clear hmem;obtain⟨X,hX⟩:∃X,(dX o).toArray=X:=⟨_,rfl⟩;have tH:X.size=9:=by rw[←hX];rfl
        have hX1:X.all (·.oneCell')=true:=by rw[←hX];exact TU o
        have iP:=Lib.hid hX;have qg:=Lib.hid tH;have kC:=Lib.hid hX1;have qN:=Lib.hid hc;have HOKO:=Lib.hid hok;have Dc:=Lib.hid hmv;subst hA;have K23:=aG.new wr 49 X;have hx23:Ext wr (wr.alloc (.cells X 49)):=aj (Below.refl _ _) _;have HSTD:Hid (∀(W:World) (old:List bP) (NA:Option Addr) (nn nc:Nat) (kn:Int),Ext w W→RA ak 6 W W.heap.size NA nn nc old→Calls Tryz.prog 45 #[.slice SA sn sc,.slice A un uc,.agg X,.slice PA pn pc,.slice NA nn nc,.int .i64 kn] W (FW (lU sats l o.o passes old kn) W)):=Lib.hid (fun W old NA nn nc kn hx hN=>by
         rw[←iP.out];exact Pg sats l o.o passes old kn SA A o.la PA NA sn sc un uc o.ln o.lc pn pc nn nc W (aB HS.out hx) (aB HU.out hx) (aB hst1 hx) (aB HP.out hx) hN HOKO.out.1 HOKO.out.2.1 HOKO.out.2.2)
        clear hc hok hmv hX tH hX1 hz;go_upto_region 9 with (first | (refine ay rfl _ _ rfl bb (oo+k*9) rfl X (dX o) iP.out _ qN.out Tryz.underlying49 rfl tV ?_) | (refine aS rfl 49 _ _ rfl _ X rfl rfl (by rw[qg.out];exact tV) (by rw[qg.out];rfl) kC.out ?_));dsimp only[Act.put];obtain⟨g23,hg23⟩:∃k,k=wr.heap.size:=⟨_,rfl⟩;rw[←hg23]at K23⊢;clear hg23;generalize wr.alloc (.cells X 49)=W5 at K23 hx23⊢;have HK23:=Lib.hid K23;have yZ:=Lib.hid (Ext.trans hxw hx23);have HX45:=Lib.hid (Ext.trans HXR.out hx23);have HWr5:=Lib.hid hx23;have Hu:=Lib.hid (HSTD.out W5 o1 B1 o1.length c1 x yZ.out (aB HR1.out (Ext.trans HY.out (Ext.trans HY4.out HX45.out))));clear K23 hx23 hxw;go_wp2_with (refine ay rfl _ _ rfl g23 0 rfl X (dX o) iP.out _ (aG.range HK23.out (dX o) (by rw[←iP.out])) Tryz.underlying49 rfl tV ?_);refine Hu.out.mono ?_;intro e W6 hsp;obtain⟨⟨A1,m1,d1,A2,m2,d2,q1,rfl,hq1⟩,hy6⟩:=IG hsp;obtain⟨W7,hW7⟩:∃W7,W6.alloc (.cells #[.slice A1 m1 d1,.slice A2 m2 d2] 60)=W7:=⟨_,rfl⟩;have K24:=aG.new W6 60 #[.slice A1 m1 d1,.slice A2 m2 d2];have hx7:Ext W6 (W6.alloc (.cells #[.slice A1 m1 d1,.slice A2 m2 d2] 60)):=aj (Below.refl _ _) _;rw[hW7]at K24 hx7;have Xu:=Lib.hid (Ext.trans yZ.out (Ext.trans hy6 hx7));have HX47:=Lib.hid (Ext.trans HX45.out (Ext.trans hy6 hx7));have HWr7:=Lib.hid (Ext.trans HWr5.out (Ext.trans hy6 hx7));have HK23b:=Lib.hid (HK23.out.ext (Ext.trans hy6 hx7));have FB:=Lib.hid hq1;have HE67:=Lib.hid hx7;have HK24:=Lib.hid K24;have o_:=Lib.hid (HSTD.out W7 o2 B2 o2.length c2 y Xu.out (aB HR2.out (Ext.trans HY4.out HX47.out)));clear hsp hq1 hy6 K24 hx7 Hu;go_wp2_with (refine ay rfl _ _ rfl g23 0 rfl X (dX o) iP.out _ (aG.range HK23b.out (dX o) (by rw[←iP.out])) Tryz.underlying49 rfl tV ?_);refine o_.out.mono ?_;intro e W8 hsp;obtain⟨⟨A3,m3,d3,A4,m4,d4,q2,rfl,hq2⟩,hy8⟩:=IG hsp;obtain⟨W9,hW9⟩:∃W9,W8.alloc (.cells #[.slice A3 m3 d3,.slice A4 m4 d4] 60)=W9:=⟨_,rfl⟩;have K26:=aG.new W8 60 #[.slice A3 m3 d3,.slice A4 m4 d4];have hx9:Ext W8 (W8.alloc (.cells #[.slice A3 m3 d3,.slice A4 m4 d4] 60)):=aj (Below.refl _ _) _;rw[hW9]at K26 hx9;have HX49:=Lib.hid (Ext.trans HX47.out (Ext.trans hy8 hx9));have TV:=Lib.hid (HK24.out.ext (Ext.trans hy8 hx9));have Xv:=Lib.hid (bT HOW.out (Ext.trans HWr7.out (Ext.trans hy8 hx9)));have HE79:=Lib.hid (Ext.trans hy8 hx9);have HE89:=Lib.hid hx9;have rE:=Lib.hid hq2;have HK26:=Lib.hid K26;clear hsp hq2 hy8 K26 hx9 o_ HSTD;cases q1
        ·have hq:=FB.out;have hfo:f o.o=false:=by
          rcases hq with ⟨_,h⟩ | ⟨h,_⟩
          ·rw[HF.out,sN];simp only[h]
          ·cases h
         have FY:Hid (jR f 0 opts=acc++jR f (k+1) (opts.drop (k+1))):=Lib.hid (by have h:=Dc.out;rw[if_neg (by rw[hfo];simp)]at h;exact h);have Bg:Hid (acc.length≤k+1):=Lib.hid (by have:=Ar.out;omega);clear hq hfo Dc;go_wp2;go_roundw
         case rel=>exact⟨k+1,acc,by omega,by go_num,FY,Bg,Xv,HX49⟩
         case measure=>simp[intOf];omega
        ·obtain⟨S1,C1,hr1,ra1,ra2⟩:∃S C,lU sats l o.o passes o1 x=some (S,C)∧RA bW 1 W6 W6.heap.size A1 m1 d1 S∧RA bW 1 W6 W6.heap.size A2 m2 d2 C:=by
          rcases FB.out with ⟨h,_⟩ | ⟨_,h⟩
          ·cases h
          ·exact h
         have HRA1:=Lib.hid ra1;have Df:=Lib.hid ra2;have HRR1:=Lib.hid hr1;have z0:W9.cell? ⟨W6.heap.size,0,none⟩=some (.slice A1 m1 d1):=TV.out.cell 0;have z1:W9.cell? ⟨W6.heap.size,1,none⟩=some (.slice A2 m2 d2):=TV.out.cell 1;have y0:W9.cell? ⟨W8.heap.size,0,none⟩=some (.slice A3 m3 d3):=HK26.out.cell 0;have y1:W9.cell? ⟨W8.heap.size,1,none⟩=some (.slice A4 m4 d4):=HK26.out.cell 1;clear ra1 ra2 hr1;cases q2
         ·have hq:=rE.out;have Vt:Hid (f o.o=true):=Lib.hid (by
           rcases hq with ⟨_,h⟩ | ⟨h,_⟩
           ·rw[HF.out,sN];simp only[HRR1.out,h]
           ·cases h)
          clear hq;obtain⟨A5,c5,hv5,_,_⟩:=aX Xv.out;subst hv5;obtain⟨v5,w5,hrun,hown,hext⟩:=FX 40 (.slice A5 acc.length c5) acc (k:Int) HX49.out Xv.out (by have:=Ar.out;omega);have jY:=Lib.hid hrun;have HOWN:=Lib.hid hown;have FY:Hid (jR f 0 opts=(acc++[(k:Int)])++jR f (k+1) (opts.drop (k+1))):=Lib.hid (by have h:=Dc.out;rw[if_pos Vt.out]at h;rw[h];simp);have Bg:Hid ((acc++[(k:Int)]).length≤k+1):=Lib.hid (by have:=Ar.out;simp;omega);have TW:=Lib.hid hext;clear hrun hown hext Dc Vt;go_upto_region 12 with (fail);go_wp2_with (refine aP rfl _ _ _ rfl rfl rfl jY.out ?_);clear jY;go_roundw
          case rel=>exact⟨k+1,acc++[(k:Int)],by omega,by go_num,FY,Bg,HOWN,TW⟩
          case measure=>simp[intOf];omega
         ·obtain⟨S2,C2,hr2,rb1,rb2⟩:∃S C,lU sats l o.o passes o2 y=some (S,C)∧RA bW 1 W8 W8.heap.size A3 m3 d3 S∧RA bW 1 W8 W8.heap.size A4 m4 d4 C:=by
           rcases rE.out with ⟨h,_⟩ | ⟨_,h⟩
           ·cases h
           ·exact h
          have HRB2:=Lib.hid rb2;have Sz:=Lib.hid (wE A1 A3 m1 m3 d1 d3 S1 S2 W9 (aB HRA1.out (Ext.trans HE67.out HE79.out)) (aB rb1 HE89.out));obtain⟨b1,hb1⟩:∃b,b=decide (S1=S2):=⟨_,rfl⟩;rw[←hb1]at Sz;have Y9:f o.o=!(b1&&decide (C1=C2)):=by rw[HF.out,sN,hb1];simp only[HRR1.out,hr2]
          have TY:=Lib.hid Y9;clear rb1 rb2 hr2 hb1 Y9;go_wp2_with fail;refine Sz.out.mono ?_;rintro e NY ⟨rfl,hy10⟩;have Y_:=Lib.hid (Ext.trans HX49.out hy10);have T_:=Lib.hid (bT Xv.out hy10);cases b1
          ·have Vt:Hid (f o.o=true):=Lib.hid (by rw[TY.out];rfl);clear hy10 Sz z0 z1 y0 y1;obtain⟨A5,c5,hv5,_,_⟩:=aX T_.out;subst hv5;obtain⟨v5,w5,hrun,hown,hext⟩:=FX 40 (.slice A5 acc.length c5) acc (k:Int) Y_.out T_.out (by have:=Ar.out;omega);have jY:=Lib.hid hrun;have HOWN:=Lib.hid hown;have FY:Hid (jR f 0 opts=(acc++[(k:Int)])++jR f (k+1) (opts.drop (k+1))):=Lib.hid (by have h:=Dc.out;rw[if_pos Vt.out]at h;rw[h];simp);have Bg:Hid ((acc++[(k:Int)]).length≤k+1):=Lib.hid (by have:=Ar.out;simp;omega);have TW:=Lib.hid hext;clear hrun hown hext Dc Vt;go_upto_region 12 with (fail);go_wp2_with (refine aP rfl _ _ _ rfl rfl rfl jY.out ?_);clear jY;go_roundw
           case rel=>exact⟨k+1,acc++[(k:Int)],by omega,by go_num,FY,Bg,HOWN,TW⟩
           case measure=>simp[intOf];omega
          ·have z1:NY.cell? ⟨W6.heap.size,1,none⟩=some (.slice A2 m2 d2):=(TV.out.ext hy10).cell 1;have y1:NY.cell? ⟨W8.heap.size,1,none⟩=some (.slice A4 m4 d4):=(HK26.out.ext hy10).cell 1;have Ai:=Lib.hid (wE A2 A4 m2 m4 d2 d4 C1 C2 NY (aB Df.out (Ext.trans HE67.out (Ext.trans HE79.out hy10))) (aB HRB2.out (Ext.trans HE89.out hy10)));generalize decide (C1=C2)=b2 at Ai TY;clear hy10 Sz;go_wp2_with fail;refine Ai.out.mono ?_;rintro e Xw ⟨rfl,hy11⟩;have Za:=Lib.hid (Ext.trans Y_.out hy11);have Ua:=Lib.hid (bT T_.out hy11);clear hy11 Ai z0 z1 y0 y1;cases b2
           ·have Vt:Hid (f o.o=true):=Lib.hid (by rw[TY.out];rfl);obtain⟨A5,c5,hv5,_,_⟩:=aX Ua.out;subst hv5;obtain⟨v5,w5,hrun,hown,hext⟩:=FX 40 (.slice A5 acc.length c5) acc (k:Int) Za.out Ua.out (by have:=Ar.out;omega);have jY:=Lib.hid hrun;have HOWN:=Lib.hid hown;have FY:Hid (jR f 0 opts=(acc++[(k:Int)])++jR f (k+1) (opts.drop (k+1))):=Lib.hid (by have h:=Dc.out;rw[if_pos Vt.out]at h;rw[h];simp);have Bg:Hid ((acc++[(k:Int)]).length≤k+1):=Lib.hid (by have:=Ar.out;simp;omega);have TW:=Lib.hid hext;clear hrun hown hext Dc Vt;go_upto_region 12 with (fail);go_wp2_with (refine aP rfl _ _ _ rfl rfl rfl jY.out ?_);clear jY;go_roundw
            case rel=>exact⟨k+1,acc++[(k:Int)],by omega,by go_num,FY,Bg,HOWN,TW⟩
            case measure=>simp[intOf];omega
           ·have FY:Hid (jR f 0 opts=acc++jR f (k+1) (opts.drop (k+1))):=Lib.hid (by have h:=Dc.out;rw[if_neg (by rw[TY.out];simp)]at h;exact h);have Bg:Hid (acc.length≤k+1):=Lib.hid (by have:=Ar.out;omega);clear Dc TY;go_wp2;go_roundw
            case rel=>exact⟨k+1,acc,by omega,by go_num,FY,Bg,Ua,Za⟩
            case measure=>simp[intOf];omega
       ·have hkz:¬(k:Int)<(qn:Int):=by omega
        have hmv:=HMV.out;rw[List.drop_of_length_le (by rw[HQN.out];omega),jR,List.append_nil]at hmv;obtain⟨A',c',hv,-,-⟩:=aX HOW.out;subst hv;have HMW:=Lib.hid hmv;clear hmv;go_wp2;exact bodyPost_ret (show (results _ _).run _ _=.ok (.tuple #[.slice A' acc.length c',.int .i64 0]) _ by simp[results,Tryz.results14,go_sem]) rfl (by
         rw[HRF.out,HMW.out];exact⟨⟨_,rfl,own_base HOW.out RJ.out.size⟩,Ext.trans RJ.out HXR.out⟩)
    ·have HR0:Hid (R=none):=Lib.hid (by rw[Y7.out];simp);clear Y7 HBAD II;go_wp2;exact bodyPost_ret (show (results _ _).run _ _=.ok (.tuple #[.slice none 0 0,.int .i64 360]) _ by simp[results,Tryz.results14,go_sem]) rfl (by rw[HR0.out];exact⟨rfl,Nj.out⟩)
   ·have Tf:(64:Int)<(qn:Int):=by omega
    have HR0:Hid (R=none):=Lib.hid (by rw[HR.out];exact if_neg (fun h=>h64 (by rw[←hqi];exact h.1)));clear HR HBAD II hqi;go_wp2;exact bodyPost_ret (show (results _ _).run _ _=.ok (.tuple #[.slice none 0 0,.int .i64 360]) _ by simp[results,Tryz.results14,go_sem]) rfl (by rw[HR0.out];exact⟨rfl,EP.out⟩)
end Go.Proofs.YtjidhhfabfnhnaaGreat
namespace Go.Proofs.YtjidhhfabfnhnaaGreat
open Go.RowKit
theorem NZ (a b:Str) (w:World):(binOp .neq 96 (.agg #[.int .i64 a.sp.fr,.int .i64 a.sp.tt,.int .i64 a.eY.period,.int .i64 a.eY.phase,.int .i64 a.eY.low,.int .i64 a.eY.high,.int .i64 a.eY.node,.int .i64 a.eY.turn,.int .i64 a.eY.dP]) (.agg #[.int .i64 b.sp.fr,.int .i64 b.sp.tt,.int .i64 b.eY.period,.int .i64 b.eY.phase,.int .i64 b.eY.low,.int .i64 b.eY.high,.int .i64 b.eY.node,.int .i64 b.eY.turn,.int .i64 b.eY.dP])).run Tryz.prog w=.ok (.bool (!decide (a=b))) w:=by
 have u3:=Tryz.underlying3;have hS:Tryz.prog.underlying 96=some (.struct (Tryz.prog.fieldsOf 96)):=by kernel_rfl
 have hp:Tryz.prog.stoodInHeld 96=false:=by kernel_rfl
 rw[run_neq_struct,show (10000:Nat)=9999+1 from rfl,run_equalIn_agg w 9999 96 _ _ hS hp];have e2:=zY;clear hS hp;simp only[Program.fieldsOf,Tryz.underlying96];go_simp
 obtain⟨⟨a1,a2⟩,a3⟩:=a;obtain⟨⟨b1,b2⟩,b3⟩:=b;have hob:(a3=b3)=(a3.period=b3.period∧a3.phase=b3.phase∧a3.low=b3.low∧a3.high=b3.high∧a3.node=b3.node∧a3.turn=b3.turn∧a3.dP=b3.dP):=by cases a3;cases b3;simp
 by_cases h0:a1=b1<;>by_cases h1:a2=b2<;>simp[h0,h1,hob];clear e2 u3 hob
 (repeat' split)<;>simp[*]
set_option maxHeartbeats 1000000 in
theorem IJ (A1 A2:Option Addr) (n1 n2 c1 c2:Nat) (xs ys:List Str) (w:World) (h1:RA strCells 9 w w.heap.size A1 n1 c1 xs) (h2:RA strCells 9 w w.heap.size A2 n2 c2 ys) :
  Calls Tryz.prog 29 #[.slice A1 n1 c1,.slice A2 n2 c2] w fun e w'=>e=.returned (.bool (decide (xs=ys)))∧Below w.heap.size w w':=by
 have hn1:n1≤9223372036854775807:=h1.le;have hn2:n2≤9223372036854775807:=h2.le;have L1:Hid (xs.length=n1):=Lib.hid h1.len;have L2:Hid (ys.length=n2):=Lib.hid h2.len;have H1:=Lib.hid h1;have H2:=Lib.hid h2;clear h1 h2;by_cases hne:n1=n2
 ·subst hne;have hd:((n1:Int) != (n1:Int))=false:=by simp
  go_enter Tryz.func29,Tryz.ntmps29;go_wp2;go_loopw [5] (fun i wr=>∃k:Nat,k≤n1∧i=.int .i64 k∧Hid (xs.take k=ys.take k)∧Below w.heap.size w wr) (fun i _=>n1-(intOf i).toNat)
  case atStart=>exact⟨0,Nat.zero_le _,rfl,rfl,Below.refl _ _⟩
  case round =>
   obtain⟨k,hk,rfl,H,hB⟩:=hrel;by_cases hlt:k<n1
   ·obtain⟨b,o,hz,hA,hb,hc⟩:=(H1.out.below hB).at_ jl hlt;obtain⟨b',o',hz',hA',hb',hc'⟩:=(H2.out.below hB).at_ jl hlt;subst hA hA';have hstep:=qo (k:=k) H.out hz hz';have hstop:=xA (k:=k) hz hz';generalize xs[k]=x at hc hstep hstop;generalize ys[k]=y at hc' hstep hstop;have c0:wr.cell? ⟨b,o+k*9,none⟩=some (.int .i64 x.sp.fr):=hc 0 (by simp);have c1:wr.cell? ⟨b,o+k*9+1,none⟩=some (.int .i64 x.sp.tt):=hc 1 (by simp);have c2:wr.cell? ⟨b,o+k*9+2,none⟩=some (.int .i64 x.eY.period):=hc 2 (by simp);have c3:wr.cell? ⟨b,o+k*9+3,none⟩=some (.int .i64 x.eY.phase):=hc 3 (by simp);have c4:wr.cell? ⟨b,o+k*9+4,none⟩=some (.int .i64 x.eY.low):=hc 4 (by simp);have c5:wr.cell? ⟨b,o+k*9+5,none⟩=some (.int .i64 x.eY.high):=hc 5 (by simp);have c6:wr.cell? ⟨b,o+k*9+6,none⟩=some (.int .i64 x.eY.node):=hc 6 (by simp);have c7:wr.cell? ⟨b,o+k*9+7,none⟩=some (.int .i64 x.eY.turn):=hc 7 (by simp);have c8:wr.cell? ⟨b,o+k*9+8,none⟩=some (.int .i64 x.eY.dP):=hc 8 (by simp);have d0:wr.cell? ⟨b',o'+k*9,none⟩=some (.int .i64 y.sp.fr):=hc' 0 (by simp);have d1:wr.cell? ⟨b',o'+k*9+1,none⟩=some (.int .i64 y.sp.tt):=hc' 1 (by simp);have d2:wr.cell? ⟨b',o'+k*9+2,none⟩=some (.int .i64 y.eY.period):=hc' 2 (by simp);have d3:wr.cell? ⟨b',o'+k*9+3,none⟩=some (.int .i64 y.eY.phase):=hc' 3 (by simp);have d4:wr.cell? ⟨b',o'+k*9+4,none⟩=some (.int .i64 y.eY.low):=hc' 4 (by simp);have d5:wr.cell? ⟨b',o'+k*9+5,none⟩=some (.int .i64 y.eY.high):=hc' 5 (by simp);have d6:wr.cell? ⟨b',o'+k*9+6,none⟩=some (.int .i64 y.eY.node):=hc' 6 (by simp);have d7:wr.cell? ⟨b',o'+k*9+7,none⟩=some (.int .i64 y.eY.turn):=hc' 7 (by simp);have d8:wr.cell? ⟨b',o'+k*9+8,none⟩=some (.int .i64 y.eY.dP):=hc' 8 (by simp);clear hc hc';by_cases hxy:x=y
    ·have HS:=Lib.hid (hstep hxy);clear hstep hstop;subst hxy;have he:(!decide (x=x))=false:=by simp
     have hnq:=NZ;go_wp2;go_quiet (fail)
     go_wp2;go_roundw
     case rel=>exact⟨k+1,by omega,by go_num,HS.out,(by repeat (first | exact Below.refl _ _ | assumption | refine Below.drew ?_ | refine below_drewN ?_ _ | refine aj ?_ _ | refine Below.setCell ?_ (by first | (simp;done) | omega | (simp;omega)) _ | refine aA ?_ (by assumption)))⟩
     case measure=>simp[intOf];omega
    ·have he:(!decide (x=y))=true:=by simp[hxy]
     have HX:=Lib.hid (hstop hxy);clear hxy hstep hstop;have hnq:=NZ;go_wp2;go_quiet (fail)
     go_wp2;go_ret;exact⟨by rw[decide_eq_false HX.out];rfl,(by repeat (first | exact Below.refl _ _ | assumption | refine Below.drew ?_ | refine below_drewN ?_ _ | refine aj ?_ _ | refine Below.setCell ?_ (by first | (simp;done) | omega | (simp;omega)) _ | refine aA ?_ (by assumption)))⟩
   ·go_wp2;go_ret;refine⟨?_,(by repeat (first | exact Below.refl _ _ | assumption | refine Below.drew ?_ | refine below_drewN ?_ _ | refine aj ?_ _ | refine Below.setCell ?_ (by first | (simp;done) | omega | (simp;omega)) _ | refine aA ?_ (by assumption)))⟩;have hxy:xs=ys:=by
     have:=H.out;rwa[List.take_of_length_le (by rw[L1.out];omega),List.take_of_length_le (by rw[L2.out];omega)]at this
    rw[decide_eq_true hxy];rfl
 ·have hd:((n1:Int) != (n2:Int))=true:=by simp;omega
  have hxy:¬xs=ys:=by
   rintro rfl;exact hne (L1.out.symm.trans L2.out)
  rw[decide_eq_false hxy];clear hxy;go_enter Tryz.func29,Tryz.ntmps29;go_wp2;go_ret;exact⟨rfl,Below.refl _ _⟩
set_option maxHeartbeats 1000000 in
theorem LQ (A1 A2:Option Addr) (n1 n2 c1 c2:Nat) (xs ys:List Int) (w:World) (h1:RA bW 1 w w.heap.size A1 n1 c1 xs) (h2:RA bW 1 w w.heap.size A2 n2 c2 ys) :
  Calls Tryz.prog 34 #[.slice A1 n1 c1,.slice A2 n2 c2] w fun e w'=>e=.returned (.bool (decide (xs=ys)))∧Below w.heap.size w w':=by
 have hn1:n1≤9223372036854775807:=h1.le;have hn2:n2≤9223372036854775807:=h2.le;have L1:Hid (xs.length=n1):=Lib.hid h1.len;have L2:Hid (ys.length=n2):=Lib.hid h2.len;have H1:=Lib.hid h1;have H2:=Lib.hid h2;clear h1 h2;by_cases hne:n1=n2
 ·subst hne;have hd:((n1:Int) != (n1:Int))=false:=by simp
  go_enter Tryz.func34,Tryz.ntmps34;go_wp2;go_loopw [5] (fun i wr=>∃k:Nat,k≤n1∧i=.int .i64 k∧Hid (xs.take k=ys.take k)∧Below w.heap.size w wr) (fun i _=>n1-(intOf i).toNat)
  case atStart=>exact⟨0,Nat.zero_le _,rfl,rfl,Below.refl _ _⟩
  case round =>
   obtain⟨k,hk,rfl,H,hB⟩:=hrel;by_cases hlt:k<n1
   ·obtain⟨b,o,hz,hA,hb,hc⟩:=(H1.out.below hB).at_ kW hlt;obtain⟨b',o',hz',hA',hb',hc'⟩:=(H2.out.below hB).at_ kW hlt;subst hA hA';have hstep:=qo (k:=k) H.out hz hz';have hstop:=xA (k:=k) hz hz';generalize xs[k]=x at hc hstep hstop;generalize ys[k]=y at hc' hstep hstop;have c0:wr.cell? ⟨b,o+k*1,none⟩=some (.int .i64 x):=hc 0 (by simp);rw[Nat.mul_one]at c0;have d0:wr.cell? ⟨b',o'+k*1,none⟩=some (.int .i64 y):=hc' 0 (by simp);rw[Nat.mul_one]at d0;clear hc hc';by_cases hxy:x=y
    ·have HS:=Lib.hid (hstep hxy);clear hstep hstop;subst hxy;have he:(x != x)=false:=by simp
     go_wp2;go_quiet (fail)
     go_wp2;go_roundw
     case rel=>exact⟨k+1,by omega,by go_num,HS.out,(by repeat (first | exact Below.refl _ _ | assumption | refine Below.drew ?_ | refine below_drewN ?_ _ | refine aj ?_ _ | refine Below.setCell ?_ (by first | (simp;done) | omega | (simp;omega)) _ | refine aA ?_ (by assumption)))⟩
     case measure=>simp[intOf];omega
    ·have he:(x != y)=true:=by simp[hxy]
     have HX:=Lib.hid (hstop hxy);clear hxy hstep hstop;go_wp2;go_quiet (fail)
     go_wp2;go_ret;exact⟨by rw[decide_eq_false HX.out];rfl,(by repeat (first | exact Below.refl _ _ | assumption | refine Below.drew ?_ | refine below_drewN ?_ _ | refine aj ?_ _ | refine Below.setCell ?_ (by first | (simp;done) | omega | (simp;omega)) _ | refine aA ?_ (by assumption)))⟩
   ·go_wp2;go_ret;refine⟨?_,(by repeat (first | exact Below.refl _ _ | assumption | refine Below.drew ?_ | refine below_drewN ?_ _ | refine aj ?_ _ | refine Below.setCell ?_ (by first | (simp;done) | omega | (simp;omega)) _ | refine aA ?_ (by assumption)))⟩;have hxy:xs=ys:=by
     have:=H.out;rwa[List.take_of_length_le (by rw[L1.out];omega),List.take_of_length_le (by rw[L2.out];omega)]at this
    rw[decide_eq_true hxy];rfl
 ·have hd:((n1:Int) != (n2:Int))=true:=by simp;omega
  have hxy:¬xs=ys:=by
   rintro rfl;exact hne (L1.out.symm.trans L2.out)
  rw[decide_eq_false hxy];clear hxy;go_enter Tryz.func34,Tryz.ntmps34;go_wp2;go_ret;exact⟨rfl,Below.refl _ _⟩
end Go.Proofs.YtjidhhfabfnhnaaGreat
namespace Go.Proofs.YtjidhhfabfnhnaaGreat
open Go.RowKit
def je:St:=⟨1,0,⟨96,0,4000,20000,0,0,0⟩,0,1,1,0,0,0,0,0,0,1,0,1⟩
def iT:fE:=⟨1,50,40,⟨96,20,4000,20000,0,0,0⟩⟩
def xSp:iO:=⟨0,96⟩
def iK (a b:Int):bP:=⟨1,2,⟨a,b⟩,⟨a,b⟩⟩
def BF:List bP:=[iK 24 27,iK 70 73]
def Ph:List bP:=[iK 24 27,iK 50 53]
def Pj (p a b:Int) (la:Option Addr):iY:=⟨⟨0,0,0,1,10,12,0,0,[⟨p,a,b⟩]⟩,la,1,1⟩
theorem ex_o1:oD je [iT] 49 40=some je.aY:=by kernel_rfl
theorem ex_o2:oD je [iT] 50 39=some je.aY:=by kernel_rfl
theorem ex_o3:oD je [iT] 50 40=some iT.eY:=by kernel_rfl
theorem ex_o4:oD je [iT] (-1) 40=none:=by kernel_rfl
def Pm:List Str:=[⟨⟨0,50⟩,je.aY⟩,⟨⟨50,96⟩,iT.eY⟩]
theorem ex_s:kL je [iT] xSp 40=some Pm:=by kernel_rfl
theorem ex_p1:bU [je] [lI] [iT] xSp 39=some BF:=by kernel_rfl
theorem ex_p2:bU [je] [lI] [iT] xSp 40=some Ph:=by kernel_rfl
theorem ex_c:sH [je] [lI] [iT] xSp 39 40=some ([iK 70 73],[iK 50 53]):=by kernel_rfl
theorem ex_v1:fV [je] [iT]=true:=by kernel_rfl
theorem ex_v2:fV [] [iT]=false:=by kernel_rfl
theorem ex_a (p q:Option Addr):C_ [je] [lI] [iT] [Pj 0 24 26 p,Pj 1 70 72 q] BF xSp 39 40=some [1]:=by kernel_rfl
end Go.Proofs.YtjidhhfabfnhnaaGreat
namespace Go.Proofs.YtjidhhfabfnhnaaGreat
open Go.RowKit
attribute [local go_sem] Oper.semAt_some
structure TS (L:List (Nat×TypeId×Array Value)) (X Y:World):Prop where
 os:Y.os=X.os
 tape:Y.tape=X.tape
 output:Y.output=X.output
 size:X.heap.size≤Y.heap.size
 block:∀k,k<X.heap.size→(∀p∈L,p.1≠k)→Y.heap[k]?=X.heap[k]?
 turn:∀p∈L,Y.heap[p.1]?=X.heap[p.1]?∨aG Y p.1 p.2.1 p.2.2
section
variable {L:List (Nat×TypeId×Array Value)} {X Y Z:World}
theorem ts_tr (L:List (Nat×TypeId×Array Value)):RB.Tr (TS L):=⟨fun _=>⟨rfl,rfl,rfl,Nat.le_refl _,fun _ _ _=>rfl,fun _ _=>.inl rfl⟩,fun h k=>⟨k.os.trans h.os,k.tape.trans h.tape,k.output.trans h.output,Nat.le_trans h.size k.size,fun i hi hn=>(k.block i (Nat.lt_of_lt_of_le hi h.size) hn).trans (h.block i hi hn),fun p hp=>by
 rcases k.turn p hp with e | e
 ·rcases h.turn p hp with e2 | e2
  ·exact .inl (e.trans e2)
  ·exact .inr (e.trans e2)
 ·exact .inr e⟩⟩
theorem TS.aH (h:TS L X.drew Y):TS L X Y:=⟨h.os,h.tape,h.output,h.size,h.block,h.turn⟩
theorem TS.ext (h:Ext X Y) (hL:∀p∈L,p.1<X.heap.size):TS L X Y:=⟨h.os,h.tape,h.output,h.size,fun k hk _=>h.block k hk,fun p hp=>.inl (h.block _ (hL p hp))⟩
theorem TS.keep (h:TS L X Y) {p:Nat×TypeId×Array Value} (hp:p∈L) (k:aG X p.1 p.2.1 p.2.2):aG Y p.1 p.2.1 p.2.2:=by
 rcases h.turn p hp with e | e
 ·exact e.trans k
 ·exact e
theorem TS.other (h:TS L X Y) {g:Nat} {t:TypeId} {cs:Array Value} (k:aG X g t cs) (hn:∀p∈L,p.1≠g):aG Y g t cs:=(h.block g k.lt hn).trans k
theorem TS.some_ (h:TS L X Y) {p:Nat×TypeId×Array Value} (hp:p∈L) {C:Array Value} (hC:C.size=p.2.2.size) (k:aG X p.1 p.2.1 C):∃cs,cs.size=p.2.2.size∧aG Y p.1 p.2.1 cs:=by
 rcases h.turn p hp with e | e
 ·exact⟨C,hC,e.trans k⟩
 ·exact⟨_,rfl,e⟩
theorem TS.row {p:Nat×TypeId×Array Value} {cs:Array Value} (k:aG X p.1 p.2.1 cs) (hd:∀q∈L,q=p∨q.1≠p.1) (hp:p∈L):TS L X (X.setRow p.1 p.2.2)∧aG (X.setRow p.1 p.2.2) p.1 p.2.1 p.2.2:=by
 have hB:=k.row p.2.2;refine⟨⟨rfl,rfl,rfl,by simp[World.setRow],fun i _ hn=>setRow_other X p.1 i p.2.2 (fun e=>hn p hp e.symm),fun q hq=>?_⟩,hB⟩;rcases hd q hq with rfl | h
 ·exact .inr hB
 ·exact .inl (setRow_other X p.1 q.1 p.2.2 h)
theorem TS.below {w:World} (h:TS L X Y) (hb:Ext w X) (hL:∀p∈L,w.heap.size≤p.1):Ext w Y :=
 ⟨h.os.trans hb.os,h.tape.trans hb.tape,h.output.trans hb.output,Nat.le_trans hb.size h.size,fun k hk=>(h.block k (Nat.lt_of_lt_of_le hk hb.size) (fun p hp e=>by have:=hL p hp;omega)).trans (hb.block k hk)⟩
end
theorem FZ {P:Program} {fn:Func} {p q r:Tmp} {t u v:TypeId} (h:fn.results=#[.cell p t,.cell q u,.cell r v]) (tmps:Array Value) (w:World) (g k m:Nat) (X Y Z:Array Value) (hp:tmps.getD p undef=.pointer (some ⟨g,0,none⟩)) (hq:tmps.getD q undef=.pointer (some ⟨k,0,none⟩)) (hr:tmps.getD r undef=.pointer (some ⟨m,0,none⟩)) (J:aG w g t X) (K:aG w k u Y) (M:aG w m v Z)
  (d e f:TypeDesc) (hu:P.underlying t=some d) (hd:d.isRow=true) (hi:(P.info? t).map (·.size)=some X.size) (hu2:P.underlying u=some e) (hd2:e.isRow=true) (hi2:(P.info? u).map (·.size)=some Y.size) (hu3:P.underlying v=some f) (hd3:f.isRow=true) (hi3:(P.info? v).map (·.size)=some Z.size) :
  (results fn tmps).run P w=.ok (.tuple #[.agg X,.agg Y,.agg Z]) w:=by
 have hl:=rM J d hu hd hi;have hl2:=rM K e hu2 hd2 hi2;have hl3:=rM M f hu3 hd3 hi3;have hp':tmps[p]?.getD undef=.pointer (some ⟨g,0,none⟩):=by simpa using hp
 have hq':tmps[q]?.getD undef=.pointer (some ⟨k,0,none⟩):=by simpa using hq
 have hr':tmps[r]?.getD undef=.pointer (some ⟨m,0,none⟩):=by simpa using hr
 simp only[results,h];simp[hp',hq',hr',asAddr,hl,hl2,hl3]
set_option maxHeartbeats 2000000 in
set_option maxRecDepth 100000 in
theorem LU (a b:Int) (w:World):Calls Tryz.prog 38 #[.int .i64 a,.int .i64 b] w fun e w'=>e=.returned (.agg (ak (iK a b)).toArray)∧Ext w w':=by
 obtain⟨X,hX⟩:∃X,X=(ak (iK a b)).toArray:=⟨_,rfl⟩;rw[←hX];have HX:=Lib.hid hX;clear hX;go_enter Tryz.func38,Tryz.ntmps38;go_wp2;refine bodyPost_ret (v:=.agg #[.int .i64 1,.int .i64 2,.int .i64 a,.int .i64 b,.int .i64 a,.int .i64 b]) (by simp[results,Tryz.results38,go_sem]) rfl ⟨by rw[HX.out];rfl,?_⟩;exact (by repeat (first | exact Below.refl _ _ | assumption | refine Below.drew ?_ | refine below_drewN ?_ _ | refine aj ?_ _ | refine Below.setCell ?_ (by first | (simp;done) | omega | (simp;omega)) _ | refine aA ?_ (by assumption)))
set_option maxHeartbeats 4000000 in
set_option maxRecDepth 100000 in
theorem Dh (w:World) :
  Calls Tryz.prog 37 #[] w fun e w'=>e=.returned (.tuple #[.agg (aC je).toArray,.agg (bJ lI).toArray,.agg (aI iT).toArray])∧Ext w w':=by
 obtain⟨SX,g_⟩:∃X,X=(aC je).toArray:=⟨_,rfl⟩;obtain⟨UX,CB⟩:∃X,X=(aI iT).toArray:=⟨_,rfl⟩;have CG:(bJ lI).toArray=#[.int .i64 2,.int .i64 0,.int .i64 12,.int .i64 0,.int .i64 1,.int .i64 0]:=rfl;have Dx:Hid (SX.all (·.oneCell')=true):=Lib.hid (by rw[g_];exact nU _);have HS2:Hid (SX.size=21):=Lib.hid (by rw[g_];rfl);have Zb:Hid (UX.all (·.oneCell')=true):=Lib.hid (by rw[CB];exact EN _);have N7:Hid (UX.size=10):=Lib.hid (by rw[CB];rfl);rw[←g_,←CB,CG];have kF:=Lib.hid g_;have Xx:=Lib.hid CB;clear g_ CB CG;go_enter Tryz.func37,Tryz.ntmps37;go_upto_region 1 with (fail);obtain⟨g0,hg0⟩:∃g,g=w.heap.size:=⟨_,rfl⟩;obtain⟨g1,hg1⟩:∃g,g=w.heap.size+1:=⟨_,rfl⟩;obtain⟨g2,hg2⟩:∃g,g=w.heap.size+1+1:=⟨_,rfl⟩;have J0:aG (((w.alloc (.cells #[.int .i64 0,.int .i64 0,.int .i64 0,.int .i64 0,.int .i64 0,.int .i64 0,.int .i64 0,.int .i64 0,.int .i64 0,.int .i64 0,.int .i64 0,.int .i64 0,.int .i64 0,.int .i64 0,.int .i64 0,.int .i64 0,.int .i64 0,.int .i64 0,.int .i64 0,.int .i64 0,.int .i64 0] 53)).alloc (.cells #[.int .i64 0,.int .i64 0,.int .i64 0,.int .i64 0,.int .i64 0,.int .i64 0] 71)).alloc (.cells #[.int .i64 0,.int .i64 0,.int .i64 0,.int .i64 0,.int .i64 0,.int .i64 0,.int .i64 0,.int .i64 0,.int .i64 0,.int .i64 0] 66)) g0 53 #[.int .i64 0,.int .i64 0,.int .i64 0,.int .i64 0,.int .i64 0,.int .i64 0,.int .i64 0,.int .i64 0,.int .i64 0,.int .i64 0,.int .i64 0,.int .i64 0,.int .i64 0,.int .i64 0,.int .i64 0,.int .i64 0,.int .i64 0,.int .i64 0,.int .i64 0,.int .i64 0,.int .i64 0]:=((aG.bC _ _ _ (by simp[hg0])).alloc _).alloc _;have J1:aG (((w.alloc (.cells #[.int .i64 0,.int .i64 0,.int .i64 0,.int .i64 0,.int .i64 0,.int .i64 0,.int .i64 0,.int .i64 0,.int .i64 0,.int .i64 0,.int .i64 0,.int .i64 0,.int .i64 0,.int .i64 0,.int .i64 0,.int .i64 0,.int .i64 0,.int .i64 0,.int .i64 0,.int .i64 0,.int .i64 0] 53)).alloc (.cells #[.int .i64 0,.int .i64 0,.int .i64 0,.int .i64 0,.int .i64 0,.int .i64 0] 71)).alloc (.cells #[.int .i64 0,.int .i64 0,.int .i64 0,.int .i64 0,.int .i64 0,.int .i64 0,.int .i64 0,.int .i64 0,.int .i64 0,.int .i64 0] 66)) g1 71 #[.int .i64 0,.int .i64 0,.int .i64 0,.int .i64 0,.int .i64 0,.int .i64 0]:=(aG.bC _ _ _ (by simp[hg1])).alloc _;have J2:aG (((w.alloc (.cells #[.int .i64 0,.int .i64 0,.int .i64 0,.int .i64 0,.int .i64 0,.int .i64 0,.int .i64 0,.int .i64 0,.int .i64 0,.int .i64 0,.int .i64 0,.int .i64 0,.int .i64 0,.int .i64 0,.int .i64 0,.int .i64 0,.int .i64 0,.int .i64 0,.int .i64 0,.int .i64 0,.int .i64 0] 53)).alloc (.cells #[.int .i64 0,.int .i64 0,.int .i64 0,.int .i64 0,.int .i64 0,.int .i64 0] 71)).alloc (.cells #[.int .i64 0,.int .i64 0,.int .i64 0,.int .i64 0,.int .i64 0,.int .i64 0,.int .i64 0,.int .i64 0,.int .i64 0,.int .i64 0] 66)) g2 66 #[.int .i64 0,.int .i64 0,.int .i64 0,.int .i64 0,.int .i64 0,.int .i64 0,.int .i64 0,.int .i64 0,.int .i64 0,.int .i64 0]:=aG.bC _ _ _ (by simp[hg2]);have hB:Ext w (((w.alloc (.cells #[.int .i64 0,.int .i64 0,.int .i64 0,.int .i64 0,.int .i64 0,.int .i64 0,.int .i64 0,.int .i64 0,.int .i64 0,.int .i64 0,.int .i64 0,.int .i64 0,.int .i64 0,.int .i64 0,.int .i64 0,.int .i64 0,.int .i64 0,.int .i64 0,.int .i64 0,.int .i64 0,.int .i64 0] 53)).alloc (.cells #[.int .i64 0,.int .i64 0,.int .i64 0,.int .i64 0,.int .i64 0,.int .i64 0] 71)).alloc (.cells #[.int .i64 0,.int .i64 0,.int .i64 0,.int .i64 0,.int .i64 0,.int .i64 0,.int .i64 0,.int .i64 0,.int .i64 0,.int .i64 0] 66)):=aj (aj (aj (Below.refl _ _) _) _) _;have hl:w.heap.size≤g0∧g0<g1∧g1<g2:=by omega
 rw[←hg2,←hg1,←hg0];generalize ((w.alloc (.cells #[.int .i64 0,.int .i64 0,.int .i64 0,.int .i64 0,.int .i64 0,.int .i64 0,.int .i64 0,.int .i64 0,.int .i64 0,.int .i64 0,.int .i64 0,.int .i64 0,.int .i64 0,.int .i64 0,.int .i64 0,.int .i64 0,.int .i64 0,.int .i64 0,.int .i64 0,.int .i64 0,.int .i64 0] 53)).alloc (.cells #[.int .i64 0,.int .i64 0,.int .i64 0,.int .i64 0,.int .i64 0,.int .i64 0] 71)).alloc (.cells #[.int .i64 0,.int .i64 0,.int .i64 0,.int .i64 0,.int .i64 0,.int .i64 0,.int .i64 0,.int .i64 0,.int .i64 0,.int .i64 0] 66)=W at J0 J1 J2 hB⊢;clear hg0 hg1 hg2;go_upto_region 2 with (refine aS rfl 53 _ _ rfl _ SX rfl (by rw[kF.out];rfl) (by rw[HS2.out];exact aQ) (by rw[HS2.out];rfl) Dx.out ?_);have J3:aG (W.alloc (.cells SX 53)) W.heap.size 53 SX:=aG.new _ _ _;have hx:Ext W (W.alloc (.cells SX 53)):=aj (Below.refl _ _) _;obtain⟨g3,hg3⟩:∃g,g=W.heap.size:=⟨_,rfl⟩;rw[←hg3]at J3⊢;generalize W.alloc (.cells SX 53)=W1 at J3 hx⊢;have l2:=J2.lt;have J0:=J0.ext hx;have J1:=J1.ext hx;have J2:=J2.ext hx;have hB:=aA hB hx;clear hx;have hl3:g2<g3:=by omega
 clear hg3 l2;have o2:W1.cell? ⟨g3,2,none⟩=some (.int .i64 96):=(J3.cell 2).trans (by rw[kF.out];rfl);have o3:W1.cell? ⟨g3,3,none⟩=some (.int .i64 0):=(J3.cell 3).trans (by rw[kF.out];rfl);have o4:W1.cell? ⟨g3,4,none⟩=some (.int .i64 4000):=(J3.cell 4).trans (by rw[kF.out];rfl);have o5:W1.cell? ⟨g3,5,none⟩=some (.int .i64 20000):=(J3.cell 5).trans (by rw[kF.out];rfl);have o6:W1.cell? ⟨g3,6,none⟩=some (.int .i64 0):=(J3.cell 6).trans (by rw[kF.out];rfl);have o7:W1.cell? ⟨g3,7,none⟩=some (.int .i64 0):=(J3.cell 7).trans (by rw[kF.out];rfl);have o8:W1.cell? ⟨g3,8,none⟩=some (.int .i64 0):=(J3.cell 8).trans (by rw[kF.out];rfl);go_upto_region 4 with (fail);obtain⟨UE,hUE⟩:∃X,(#[.int .i64 1,.int .i64 50,.int .i64 40,.int .i64 96,.int .i64 20,.int .i64 4000,.int .i64 20000,.int .i64 0,.int .i64 0,.int .i64 0]:Array Value)=X:=⟨_,rfl⟩;have J4:aG (W1.alloc (.cells #[.int .i64 1,.int .i64 50,.int .i64 40,.int .i64 96,.int .i64 20,.int .i64 4000,.int .i64 20000,.int .i64 0,.int .i64 0,.int .i64 0] 66)) W1.heap.size 66 #[.int .i64 1,.int .i64 50,.int .i64 40,.int .i64 96,.int .i64 20,.int .i64 4000,.int .i64 20000,.int .i64 0,.int .i64 0,.int .i64 0]:=aG.new _ _ _;have hUq:UX=#[.int .i64 1,.int .i64 50,.int .i64 40,.int .i64 96,.int .i64 20,.int .i64 4000,.int .i64 20000,.int .i64 0,.int .i64 0,.int .i64 0]:=by rw[Xx.out];rfl
 rw[←hUq]at J4⊢;have hx:Ext W1 (W1.alloc (.cells UX 66)):=aj (Below.refl _ _) _;obtain⟨g4,hg4⟩:∃g,g=W1.heap.size:=⟨_,rfl⟩;rw[←hg4]at J4⊢;generalize W1.alloc (.cells UX 66)=W2 at J4 hx⊢;have l2:=J3.lt;have J0:=J0.ext hx;have J1:=J1.ext hx;have J2:=J2.ext hx;have J3:=J3.ext hx;have hB:=aA hB hx;have hl4:g3<g4:=by omega
 clear hx hg4 l2 hUq hUE UE o2 o3 o4 o5 o6 o7 o8;obtain⟨L,hL⟩:∃L:List (Nat×TypeId×Array Value),L=[(g0,53,SX),(g1,71,#[.int .i64 2,.int .i64 0,.int .i64 12,.int .i64 0,.int .i64 1,.int .i64 0])]:=⟨_,rfl⟩;have hT:=ts_tr L;have hm0:(g0,53,SX)∈L:=by rw[hL];simp
 have hm1:((g1,71,#[.int .i64 2,.int .i64 0,.int .i64 12,.int .i64 0,.int .i64 1,.int .i64 0]):Nat×TypeId×Array Value)∈L:=by rw[hL];simp
 have hne:∀g,g≠g0→g≠g1→∀p∈L,p.1≠g:=by
  intro g h0 h1 p hp;rw[hL]at hp;rcases List.mem_cons.1 hp with rfl | hp
  ·exact fun e=>h0 e.symm
  ·obtain rfl:=List.mem_singleton.1 hp;exact fun e=>h1 e.symm
 have hd0:∀q∈L,q=(g0,53,SX)∨q.1≠g0:=by
  intro q hq;rw[hL]at hq;rcases List.mem_cons.1 hq with rfl | hq
  ·exact .inl rfl
  ·obtain rfl:=List.mem_singleton.1 hq;exact .inr (by show g1≠g0;omega)
 have hd1:∀q∈L,q=(g1,71,#[.int .i64 2,.int .i64 0,.int .i64 12,.int .i64 0,.int .i64 1,.int .i64 0])∨q.1≠g1:=by
  intro q hq;rw[hL]at hq;rcases List.mem_cons.1 hq with rfl | hq
  ·exact .inr (by show g0≠g1;omega)
  ·obtain rfl:=List.mem_singleton.1 hq;exact .inl rfl
 have hlw:∀p∈L,w.heap.size≤p.1:=by
  intro q hq;rw[hL]at hq;rcases List.mem_cons.1 hq with rfl | hq
  ·exact hl.1
  ·obtain rfl:=List.mem_singleton.1 hq
   show w.heap.size≤g1
   omega
 clear hL;have n3:g3≠g0∧g3≠g1∧g4≠g0∧g4≠g1∧g2≠g0∧g2≠g1:=by omega
 have Ot:=Lib.hid J0;have Yz:=Lib.hid J1;have Vu:=Lib.hid J3;have qY:=Lib.hid J4;clear J0 J1 J3 J4;refine RB.aF hT 6 [some (.agg SX),some (.agg #[.int .i64 0,.int .i64 12]),some (.agg #[.int .i64 2,.int .i64 0,.int .i64 12,.int .i64 0,.int .i64 1,.int .i64 0]),some (.agg UX),none,none] [(4,.w fun v w1=>aG w1 g0 53 SX),(5,.w fun v w1=>aG w1 g1 71 #[.int .i64 2,.int .i64 0,.int .i64 12,.int .i64 0,.int .i64 1,.int .i64 0])] ?_ ?_ ?_
 ·refine⟨?_,?_,trivial⟩
  ·intro v w1 w2 hr hx;exact hx.keep hm0 hr
  ·intro v w1 w2 hr hx;exact hx.keep hm1 hr
 ·refine⟨?x0,?_,?_,?x3,?x4,?x5,trivial⟩
  case x0 =>
   intro vals w1 hx hd;clear hd;simp only[Lf];refine ay rfl 53 _ rfl g3 0 rfl SX SX.toList (by simp) _ (aG.range (hx.aH.other Vu.out (hne _ n3.1 n3.2.1)) _ rfl) Tryz.underlying53 rfl (by rw[Array.length_toList,HS2.out];exact aQ) ?_;go_wp2;exact⟨rfl,hT.refl _,rfl⟩
  case x3 =>
   intro vals w1 hx hd;clear hd;simp only[Lf,au,Act.put,bH,bG];refine ay rfl 66 _ rfl g4 0 rfl UX UX.toList (by simp) _ (aG.range (hx.aH.other qY.out (hne _ n3.2.2.1 n3.2.2.2.1)) _ rfl) Tryz.underlying66 rfl (by rw[Array.length_toList,N7.out];exact kQ) ?_;go_wp2;exact⟨rfl,hT.refl _,rfl⟩
  case x4 =>
   intro vals w1 hx hd;clear hd;simp only[Lf,au,Act.put,bH,bG];obtain⟨cs,hcs,hbk⟩:=hx.aH.some_ hm0 (by rw[HS2.out];rfl) Ot.out;dsimp only at hcs hbk;refine wpList_store_row rfl 53 _ _ rfl g0 SX rfl rfl 53 _ hbk (by rw[HS2.out];exact aQ) hcs Dx.out ?_;have hrow:=TS.row (p:=(g0,53,SX)) hbk hd0 hm0;go_wp2;exact⟨rfl,hrow.1,hrow.2⟩
  case x5 =>
   intro vals w1 hx hd;have r4:(fun v w1=>aG w1 g0 53 SX) (vals 4) w1:=hd 4 (by decide) rfl;dsimp only at r4;clear hd;simp only[Lf,au,Act.put,bH,bG];obtain⟨cs,hcs,hbk⟩:=hx.aH.some_ hm1 (C:=#[.int .i64 0,.int .i64 0,.int .i64 0,.int .i64 0,.int .i64 0,.int .i64 0]) rfl Yz.out;dsimp only at hcs hbk;refine wpList_store_row rfl 71 _ _ rfl g1 #[.int .i64 2,.int .i64 0,.int .i64 12,.int .i64 0,.int .i64 1,.int .i64 0] rfl rfl 71 _ hbk mQ hcs (by simp[Value.oneCell']) ?_;have hrow:=TS.row (p:=(g1,71,#[.int .i64 2,.int .i64 0,.int .i64 12,.int .i64 0,.int .i64 1,.int .i64 0])) hbk hd1 hm1;go_wp2;exact⟨rfl,hrow.1,hrow.2⟩
  all_goals
   intro vals w1 hx hd;clear hd;simp only[Lf,au,Act.put,bH,bG];go_wp2;exact⟨rfl,hT.refl _,rfl⟩
 intro vals W6 hx6 hf;have e3:vals 3=.agg UX:=hf 3 (by omega);have k0:aG W6 g0 53 SX:=hf 4 (by omega);have k1:aG W6 g1 71 #[.int .i64 2,.int .i64 0,.int .i64 12,.int .i64 0,.int .i64 1,.int .i64 0]:=hf 5 (by omega);have hx6:=hx6.aH;have k2:=hx6.other J2 (hne _ n3.2.2.2.2.1 n3.2.2.2.2.2);have hB6:=hx6.below hB hlw;clear hf hx6 J2;refine eP 6 _ (by kernel_rfl) (by kernel_rfl) rfl ?_;simp only[Lf,au,Act.put,FR_];rw[e3];clear e3;refine wpList_store_row rfl 66 _ _ rfl g2 UX rfl rfl 66 _ k2 (by rw[N7.out];exact kQ) (by rw[N7.out];rfl) Zb.out ?_;have k0:=k0.jm (k:=g2) (by omega) UX;have k1:=k1.jm (k:=g2) (by omega) UX;have k2:=k2.row UX;have hB6:=below_setRow hB6 (g:=g2) (by omega) UX;go_wp2;exact bodyPost_ret (FZ Tryz.results37 _ _ g0 g1 g2 SX #[.int .i64 2,.int .i64 0,.int .i64 12,.int .i64 0,.int .i64 1,.int .i64 0] UX rfl rfl rfl k0 k1 k2 _ _ _ Tryz.underlying53 rfl (by rw[HS2.out];exact aQ) Tryz.underlying71 rfl mQ Tryz.underlying66 rfl (by rw[N7.out];exact kQ)) rfl ⟨rfl,hB6⟩
end Go.Proofs.YtjidhhfabfnhnaaGreat
