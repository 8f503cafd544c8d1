/- EphemerisMatchesReference: the walk (printed by eph_e6.py). -/
import Derived.Test.YtjidhhfabfnhnaaGreatN02
import Derived.Test.YtjidhhfabfnhnaaGreatN25
import Derived.Test.YtjidhhfabfnhnaaGreatN23
import Derived.Test.YtjidhhfabfnhnaaGreatN27
import Derived.Test.YtjidhhfabfnhnaaGreatN28
import Derived.Test.YtjidhhfabfnhnaaGreatN30
import Derived.Test.YtjidhhfabfnhnaaGreatN31
import Derived.Test.YtjidhhfabfnhnaaGreatN09
import Derived.Test.YtjidhhfabfnhnaaGreatN13
import Derived.BigQuiet
namespace Go.Proofs.YtjidhhfabfnhnaaGreat
open Go.RowKit
attribute [local go_sem] Oper.semAt_some
structure Lh (N:Nat) (t:TypeId) (Z V:Array Value) (X Y:World):Prop where
 low:Below N X Y
 zero:∀g,N≤g→aI X g t Z→aI Y g t Z∨aI Y g t V
 val:∀g,N≤g→aI X g t V→aI Y g t V
theorem Rw (N:Nat) (t:TypeId) (Z V:Array Value):RB.Tr (Lh N t Z V):=⟨fun _=>⟨Below.refl _ _,fun _ _ h=>.inl h,fun _ _ h=>h⟩,fun h k=>⟨Below.trans h.low k.low,fun g hg b=>by
 rcases h.zero g hg b with e | e
 ·exact k.zero g hg e
 ·exact .inr (k.val g hg e),fun g hg b=>k.val g hg (h.val g hg b)⟩⟩
theorem Lh.ext {N:Nat} {t:TypeId} {Z V:Array Value} {X Y:World} (h:Ext X Y) (hN:N≤X.heap.size):Lh N t Z V X Y:=⟨h.mono hN,fun _ _ b=>.inl (b.ext h),fun _ _ b=>b.ext h⟩
theorem Lh.aG {N:Nat} {t:TypeId} {Z V:Array Value} {X Y:World} (h:Lh N t Z V X.drew Y):Lh N t Z V X Y:=⟨⟨h.low.os,h.low.tape,h.low.output,h.low.size,h.low.block⟩,h.zero,h.val⟩
theorem Lh.row {N g:Nat} {t:TypeId} {Z V cs:Array Value} {X:World} (b:aI X g t cs) (hg:N≤g):Lh N t Z V X (X.setRow g V)∧aI (X.setRow g V) g t V:=by
 refine⟨⟨below_setRow (Below.refl _ _) hg V,fun i _ h=>?_,fun i _ h=>?_⟩,b.row V⟩
 ·by_cases e:i=g
  ·subst e;exact .inr (h.row V)
  ·exact .inl (h.iL e V)
 ·by_cases e:i=g
  ·subst e;exact h.row V
  ·exact h.iL e V
theorem NC (R:Option iQ):∃pe ph lo hi no tu sl er,Df R=.tuple #[.agg #[.int .i64 pe,.int .i64 ph,.int .i64 lo,.int .i64 hi,.int .i64 no,.int .i64 tu,.int .i64 sl],.int .i64 er]:=by
 cases R with
 |none=>exact⟨0,0,0,0,0,0,0,360,rfl⟩
 |some o=>exact⟨_,_,_,_,_,_,_,0,rfl⟩
def seE (R:Option (List Str)):Int:=match R with
 |none=>360
 |some _=>0
theorem Lj {R:Option (List Str)} {w:World} {e:Ending} {w':World} (h:qK R w e w') (hR:∀o,R=some o→o.length≤100000) :
  ∃A n c,e=.returned (.tuple #[.slice A n c,.int .i64 (seE R)])∧RA strCells 9 w' w'.heap.size A n c (R.getD [])∧Ext w w':=by
 cases R with
 |none=>exact⟨none,0,0,h.1,RA.dD (base:=0) (e:=0) (World.ownsRow_nil _ _ _ _) rfl (by omega),h.2⟩
 |some o =>
  obtain⟨⟨v,rfl,hown⟩,hx⟩:=h;obtain⟨A,c,rfl,_,_⟩:=aP hown;have:=hR o rfl;exact⟨A,_,c,rfl,RA.dD hown rfl (by omega),hx⟩
theorem DY {x:St} {l:List fE} {a b kn:Int} {o:List Str} (h:dY x l ⟨a,b⟩ kn=some o):o.length≤100000:=by
 unfold dY at h
 split at h
 ·rename_i hq
  rw[Bool.and_eq_true]at hq;have hs:0≤a∧a<b∧b≤1000000∧b-a≤1440:=by simpa [gX]using hq.1
  injection h with h;have h3:=rC (iK x l kn) (b-a).toNat a;have h4:o.length=(eF (iK x l kn) a (b-a).toNat).length:=by rw[←h];rfl
  omega
 ·cases h
def chE6 (R:Option (List bY×List bY)):Int:=match R with
 |none=>360
 |some _=>0
theorem Gu {R:Option (List bY×List bY)} {w:World} {e:Ending} {w':World} (h:zf R w e w') :
  ∃A n c B m d,e=.returned (.tuple #[.slice A n c,.slice B m d,.int .i64 (chE6 R)])∧RA ak 6 w' w'.heap.size A n c ((R.map (·.1)).getD [])∧RA ak 6 w' w'.heap.size B m d ((R.map (·.2)).getD [])∧Ext w w':=by
 cases R with
 |none=>exact⟨none,0,0,none,0,0,h.1,RA.dD (base:=0) (e:=0) (World.ownsRow_nil _ _ _ _) rfl (by omega),RA.dD (base:=0) (e:=0) (World.ownsRow_nil _ _ _ _) rfl (by omega),h.2⟩
 |some o =>
  obtain⟨⟨A,c,B,d,rfl,h1,h2⟩,hx⟩:=h;exact⟨A,_,c,B,_,d,rfl,h1,h2,hx⟩
theorem RA.far {α:Type} {cells:α→List Value} {s:Nat} {w:World} {n c:Nat} {A:Option Addr} {l:List α} (h:RA cells s w w.heap.size A n c l) {p:Addr} (hp:∀b o,A=some ⟨b,o,none⟩→b≠p.block) (u:Value):RA cells s (w.setCell p u) (w.setCell p u).heap.size A n c l:=by
 refine⟨⟨h.rd.1,fun h0=>?_⟩,h.len,h.cap,h.sJ,h.le⟩;obtain⟨b,o,hA,hb,hc⟩:=h.rd.2 h0;exact⟨b,o,hA,by simpa using hb,fun j v hv=>(World.cell?_of_block (Below.heap_setCell w p u b (hp b o hA))).trans (hc j v hv)⟩
set_option maxRecDepth 100000 in
set_option maxHeartbeats 40000000 in
theorem DZ (c:Gy) (odd:fE) (ys:St) (which tt s0 s1 first after:Int) (w:World) (hc:Nb w c) (bw:dF which) (bt:dF tt) (bf:dF first) (ba:dF after) :
  Calls Tryz.prog 5 #[QH c,.agg (aF odd).toArray,.agg (aC ys).toArray,.int .i64 which,.int .i64 tt,.agg #[.int .i64 s0,.int .i64 s1],.int .i64 first,.int .i64 after] w (Tru w):=by
 have HMD:Hid (∀W,Ext w W→Calls Tryz.prog 11 #[.agg #[.slice c.xa c.xn c.xc,.slice c.ya c.yn c.yc,.slice c.za c.zn c.zc,.slice c.ua c.un c.uc,.int .i64 c.fr,.int .i64 c.lo]] W (zB c W)):=Lib.hid (fun W hx=>I_ c W (hc.ext hx));have hfb:=QK c;have heb:=UJ c;obtain⟨S,hS⟩:∃S,S=uq c:=⟨_,rfl⟩;obtain⟨ST,hST⟩:∃S,S=QI c:=⟨_,rfl⟩;obtain⟨US,hUS⟩:∃S,S=KZ c:=⟨_,rfl⟩;obtain⟨fz,hf0⟩:∃S,S=RZ c:=⟨_,rfl⟩;obtain⟨ez,he0⟩:∃S,S=Nc c:=⟨_,rfl⟩;rw[←hf0]at hfb heb;rw[←he0]at heb;obtain⟨hfb1,hfb2⟩:=hfb;obtain⟨heb1,heb2⟩:=heb;have hmr:∀W e W',zB c W e W'→∃A1 n1 c1 A2 n2 c2 A3 n3 c3,e=.returned (.tuple #[.slice A1 n1 c1,.slice A2 n2 c2,.slice A3 n3 c3,.agg #[.int .i64 fz,.int .i64 ez]])∧RA aC 21 W' W'.heap.size A1 n1 c1 S∧RA bJ 6 W' W'.heap.size A2 n2 c2 ST∧RA aF 10 W' W'.heap.size A3 n3 c3 US∧((A3=none→n3=0∧c3=0)∧UK W A1 A2 A3)∧Ext W W':=by rw[hS,hST,hUS,hf0,he0];exact fun _ _ _ h=>h
 have HMR:=Lib.hid hmr;have HS:=Lib.hid hS;have HUS:=Lib.hid hUS;clear hmr hS hST hUS hf0 he0;obtain⟨OX,uH⟩:∃X,(aF odd).toArray=X:=⟨_,rfl⟩;obtain⟨YX,hYX⟩:∃X,(aC ys).toArray=X:=⟨_,rfl⟩;rw[uH,hYX];have Sj:Hid (OX.size=10):=Lib.hid (by rw[←uH];rfl);have HZY:Hid (YX.size=21):=Lib.hid (by rw[←hYX];rfl);have He:=Lib.hid uH;have HYX:=Lib.hid hYX;clear uH hYX;unfold QH;go_enter Tryz.func5,Tryz.ntmps5;go_wp2_with fail;have JC:aI ((((w.alloc (.cells #[.slice c.xa c.xn c.xc,.slice c.ya c.yn c.yc,.slice c.za c.zn c.zc,.slice c.ua c.un c.uc,.int .i64 c.fr,.int .i64 c.lo] 25)).alloc (.cells OX 66)).alloc (.cells YX 53)).alloc (.cells #[.int .i64 s0,.int .i64 s1] 32)) w.heap.size 25 #[.slice c.xa c.xn c.xc,.slice c.ya c.yn c.yc,.slice c.za c.zn c.zc,.slice c.ua c.un c.uc,.int .i64 c.fr,.int .i64 c.lo]:=(((aI.new _ _ _).alloc _).alloc _).alloc _;have JO:aI ((((w.alloc (.cells #[.slice c.xa c.xn c.xc,.slice c.ya c.yn c.yc,.slice c.za c.zn c.zc,.slice c.ua c.un c.uc,.int .i64 c.fr,.int .i64 c.lo] 25)).alloc (.cells OX 66)).alloc (.cells YX 53)).alloc (.cells #[.int .i64 s0,.int .i64 s1] 32)) (w.heap.size+1) 66 OX:=((aI.aU _ _ _ (by simp)).alloc _).alloc _;have JY:aI ((((w.alloc (.cells #[.slice c.xa c.xn c.xc,.slice c.ya c.yn c.yc,.slice c.za c.zn c.zc,.slice c.ua c.un c.uc,.int .i64 c.fr,.int .i64 c.lo] 25)).alloc (.cells OX 66)).alloc (.cells YX 53)).alloc (.cells #[.int .i64 s0,.int .i64 s1] 32)) (w.heap.size+1+1) 53 YX:=(aI.aU _ _ _ (by simp)).alloc _;have JP:aI ((((w.alloc (.cells #[.slice c.xa c.xn c.xc,.slice c.ya c.yn c.yc,.slice c.za c.zn c.zc,.slice c.ua c.un c.uc,.int .i64 c.fr,.int .i64 c.lo] 25)).alloc (.cells OX 66)).alloc (.cells YX 53)).alloc (.cells #[.int .i64 s0,.int .i64 s1] 32)) (w.heap.size+1+1+1) 32 #[.int .i64 s0,.int .i64 s1]:=aI.aU _ _ _ (by simp);have hB:Ext w ((((w.alloc (.cells #[.slice c.xa c.xn c.xc,.slice c.ya c.yn c.yc,.slice c.za c.zn c.zc,.slice c.ua c.un c.uc,.int .i64 c.fr,.int .i64 c.lo] 25)).alloc (.cells OX 66)).alloc (.cells YX 53)).alloc (.cells #[.int .i64 s0,.int .i64 s1] 32)):=aj (aj (aj (aj (Below.refl _ _) _) _) _) _;obtain⟨gp,TW⟩:∃g,g=w.heap.size+1+1+1:=⟨_,rfl⟩;obtain⟨gy,hgy⟩:∃g,g=w.heap.size+1+1:=⟨_,rfl⟩;obtain⟨go,hgo⟩:∃g,g=w.heap.size+1:=⟨_,rfl⟩;obtain⟨gc,hgc⟩:∃g,g=w.heap.size:=⟨_,rfl⟩;rw[←TW]at JP;rw[←hgy]at JY;rw[←hgo]at JO;rw[←hgc]at JC;rw[←TW,←hgy,←hgo,←hgc];generalize (((w.alloc (.cells #[.slice c.xa c.xn c.xc,.slice c.ya c.yn c.yc,.slice c.za c.zn c.zc,.slice c.ua c.un c.uc,.int .i64 c.fr,.int .i64 c.lo] 25)).alloc (.cells OX 66)).alloc (.cells YX 53)).alloc (.cells #[.int .i64 s0,.int .i64 s1] 32)=W0 at JC JO JY JP hB⊢;have hgw:w.heap.size≤gp:=by omega
 have ngy:gy≠gp:=by omega
 clear TW hgy hgo hgc;refine (I5 _).mono ?_;rintro e W1 ⟨rfl,hx⟩;have JC:=JC.ext hx;have JO:=JO.ext hx;have JY:=JY.ext hx;have JP:=JP.ext hx;have hB:=Ext.trans hB hx;clear hx;have k0:W1.cell? ⟨gc,0,none⟩=some (.slice c.xa c.xn c.xc):=JC.cell 0;have k1:W1.cell? ⟨gc,1,none⟩=some (.slice c.ya c.yn c.yc):=JC.cell 1;have k2:W1.cell? ⟨gc,2,none⟩=some (.slice c.za c.zn c.zc):=JC.cell 2;have k3:W1.cell? ⟨gc,3,none⟩=some (.slice c.ua c.un c.uc):=JC.cell 3;have k4:W1.cell? ⟨gc,4,none⟩=some (.int .i64 c.fr):=JC.cell 4;have k5:W1.cell? ⟨gc,5,none⟩=some (.int .i64 c.lo):=JC.cell 5;have lpw:gp<W1.heap.size:=JP.lt;go_wp2_with fail;refine (HMD.out _ hB).mono ?_;intro e W2 hm;obtain⟨A1,n1,c1,A2,n2,c2,A3,n3,c3,rfl,RS,RT,RU,hlow,hx⟩:=HMR.out _ _ _ hm;clear hm k0 k1 k2 k3 k4 k5;have HLOW:Hid (∀b o,(A1=some ⟨b,o,none⟩∨A2=some ⟨b,o,none⟩∨A3=some ⟨b,o,none⟩)→b≠gp):=Lib.hid (fun b o h=>by have:=hlow.2 b o h;omega);clear hlow lpw;have JC:=JC.ext hx;have JO:=JO.ext hx;have JY:=JY.ext hx;have JP:=JP.ext hx;have hB:=Ext.trans hB hx;clear hx;clear JC;go_upto_region 4 with (fail);have lp2:gp<W2.heap.size:=JP.lt;have hx:Ext W2 (W2.alloc (.cells #[.int .i64 fz,.int .i64 ez] 32)):=aj (Below.refl _ _) _;have JS:aI (W2.alloc (.cells #[.int .i64 fz,.int .i64 ez] 32)) W2.heap.size 32 #[.int .i64 fz,.int .i64 ez]:=aI.new _ _ _;obtain⟨gs,hg⟩:∃g,g=W2.heap.size:=⟨_,rfl⟩;rw[←hg]at JS⊢;have ngs:gs≠gp:=by omega
 clear hg;generalize W2.alloc (.cells #[.int .i64 fz,.int .i64 ez] 32)=W3 at JS hx⊢;have JO:=JO.ext hx;have JY:=JY.ext hx;have JP:=JP.ext hx;have hB:=Ext.trans hB hx;have RS:=aB RS hx;have RT:=aB RT hx;have RU:=aB RU hx;clear hx;clear lp2;have hn1:n1≤2:=by have h1:=RS.len;have h2:=BI c;rw[←HS.out]at h2;omega
 have hn3:n3≤6:=by have h1:=RU.len;have h2:=BJ (uq c) (RZ c) c.u;rw[HUS.out]at h1;unfold KZ at h1;omega
 have P1:=fun w=>jI first 300 w bf.1 bf.2 (by omega) (by omega)
 have q1:=aK first 300 (by omega)
 generalize aT first 300=p1 at P1 q1
 obtain⟨q1a,q1b⟩:=q1;have wL:=Lib.hid P1;clear P1;have P2:=fun w=>jI after 300 w ba.1 ba.2 (by omega) (by omega);have q2:=aK after 300 (by omega);generalize aT after 300=p2 at P2 q2;obtain⟨ZJ,ZK⟩:=q2;have HP2:=Lib.hid P2;clear P2;have P3:=fun w=>jI tt 400 w bt.1 bt.2 (by omega) (by omega);have q3:=aK tt 400 (by omega);generalize aT tt 400=p3 at P3 q3;obtain⟨q3a,q3b⟩:=q3;have S9:=Lib.hid P3;clear P3;have RS0:=RS;have RT0:=RT;have RU0:=RU;have lgo:=JO.lt;have lgy:=JY.lt;have lgp:=JP.lt;have lgs:=JS.lt;have hwv:=Below.size hB;obtain⟨i0,hi0,hz0,hz1,hz2⟩:=info_parts EL;have hxe:Ext W3 (W3.alloc (.cells #[] 66)):=aj (Below.refl _ _) _;obtain⟨gb,kb,Wn,hrun,hxf,hgb,_,hown⟩:=Gt (P:=Tryz.prog) (by decide) Tryz.underlying30 hi0 hz0 hz1 hz2 rfl (by decide) 30 US _ W3.heap.size n3 c3 A3 W3.heap.size (aI.new W3 66 #[]) (Nat.le_refl _) (by omega) (aB RU hxe);have kH:=Lib.hid hrun;have hx:=Ext.trans hxe hxf;have hzl:=Below.size hx;have ngb:gb≠gp:=by have:=JP.lt;omega
 have kK:Hid (aS aF 10 W3.heap.size 66 gb n3 kb Wn US):=Lib.hid ⟨RU.len,hown⟩;clear hrun hown hxe hxf hi0 hz0 hz1 hz2 i0;go_upto_region 5 with (refine aO rfl _ _ _ rfl rfl rfl kH.out ?_);obtain⟨WV,hWV⟩:∃W:World,W=W3:=⟨_,rfl⟩;have Y7:=hx;rw[←hWV]at Y7 hzl hgb kK RS0 RT0 RU0 lgo lgy lgp lgs hwv;clear kH hWV;have JO:=JO.ext hx;have JY:=JY.ext hx;have JP:=JP.ext hx;have hB:=Ext.trans hB hx;have RS:=aB RS hx;have RT:=aB RT hx;have RU:=aB RU hx;have JS:=JS.ext hx;clear hx;have hkb:kb≤9223372036854775807:=by have h:=kK.out.le.2;unfold maxLen at h;exact h
 have hkb1:=kK.out.le.1;skip;go_upto_if 66 with (fail);go_cut [] from 66 to 73 (fun wc=>∃BL,Hid (RA aF 10 wc wc.heap.size (some ⟨gb,0,none⟩) n3 kb BL)∧aI wc go 66 OX∧aI wc gy 53 YX∧aI wc gp 32 #[.int .i64 s0,.int .i64 s1]∧aI wc gs 32 #[.int .i64 fz,.int .i64 ez]∧Ext w wc∧RA aC 21 wc wc.heap.size A1 n1 c1 S∧RA bJ 6 wc wc.heap.size A2 n2 c2 ST∧RA aF 10 wc wc.heap.size A3 n3 c3 US)
 case first =>
  by_cases h3:¬0<n3
  ·have hz3:¬(0:Int)<(n3:Int):=by omega
   have Pg:=Lib.hid (RA.dD kK.out.2 kK.out.1 (by omega));go_wp2_with fail;go_meet
   case rel=>exact⟨US,Pg,JO,JY,JP,JS,hB,RS,RT,RU⟩
  ·have hz3:(0:Int)<(n3:Int):=by omega
   have P4:=fun w=>jI which (n3:Int) w bw.1 bw.2 (by omega) (by omega);have q4:=aK which (n3:Int) (by omega);generalize aT which (n3:Int)=p4 at P4 q4;obtain⟨Zf,ZL⟩:=q4;have S_:=Lib.hid P4;clear P4;obtain⟨j,rfl⟩:=Int.eq_ofNat_of_zero_le Zf;have hj:j<n3:=by omega
   clear Zf ZL;go_upto_region 6 with (fail);have NW:=Lib.hid JO;have hjl:j<US.length:=by rw[kK.out.1];exact hj
   have LW:=Lib.hid (kK.out.there fJ hjl);refine dL 7 (fun ix vals v w1=>match ix with | 0=>v=.slice (some ⟨gb,0,none⟩) n3 kb | 1=>v=.int .i64 which | 2=>v=.slice (some ⟨gb,0,none⟩) n3 kb | 3=>v=.int .i64 (n3:Int) | 4=>v=.int .i64 (j:Int) | 5=>v=.agg OX | _=>v=.pointer (some ⟨gb,j*10,none⟩)) (by kernel_rfl) (by kernel_rfl) ?_ ?_ ?_ ?_
   ·intro ix vals v w1 w2 hi hr hx;exact hr
   ·intro ix vals kC v w1 hi hv hr;exact hr
   ·refine lu [some 67,some 68,some 69,some 70,some 71,some 72,some 73,none] [(21,.slice (some ⟨gb,0,none⟩) n3 kb),(3,.int .i64 which),(9,.pointer (some ⟨go,0,none⟩))] 306 (by kernel_rfl) (by kernel_rfl) ⟨by kernel_rfl,by kernel_rfl,by kernel_rfl,trivial⟩ ?_;refine⟨?_,?_,?_,?_,?_,?_,?_,trivial⟩
    ·intro vals w1 hx hd;refine .r [(21,.slice (some ⟨gb,0,none⟩) n3 kb)] (Op.move (Operand.const (.slice (some ⟨gb,0,none⟩) n3 kb))) 30 67 ⟨.out (by kernel_rfl) (by kernel_rfl),trivial⟩ ?_;clear hd;go_wp2;exact q_
    ·intro vals w1 hx hd;refine .r [(3,.int .i64 which)] (Op.move (Operand.const (.int .i64 which))) 3 68 ⟨.out (by kernel_rfl) (by kernel_rfl),trivial⟩ ?_;clear hd;go_wp2;exact q_
    ·intro vals w1 hx hd;refine .r [(21,.slice (some ⟨gb,0,none⟩) n3 kb)] (Op.move (Operand.const (.slice (some ⟨gb,0,none⟩) n3 kb))) 30 69 ⟨.out (by kernel_rfl) (by kernel_rfl),trivial⟩ ?_;clear hd;go_wp2;exact q_
    ·intro vals w1 hx hd;refine .r [(69,.slice (some ⟨gb,0,none⟩) n3 kb)] (Op.call { callee:=Callee.builtin Builtin.len,args:=#[(Operand.const (.slice (some ⟨gb,0,none⟩) n3 kb))],argTypes:=#[30] }) 3 70 ⟨.inn 2 (by kernel_rfl) (hd 2 (by decide)),trivial⟩ ?_;clear hd;go_wp2;exact q_
    ·intro vals w1 hx hd;refine .r [(68,.int .i64 which),(70,.int .i64 (n3:Int))] (Op.call { callee:=Callee.value (Operand.func 13),args:=#[(Operand.const (.int .i64 which)),(Operand.const (.int .i64 (n3:Int)))],argTypes:=#[3,3] }) 3 71 ⟨.inn 1 (by kernel_rfl) (hd 1 (by decide)),.inn 3 (by kernel_rfl) (hd 3 (by decide)),trivial⟩ ?_;clear hd;go_wp2_with fail;refine (S_.out _).mono ?_;rintro e w2 ⟨rfl,rfl⟩;go_wp2;exact q_
    ·intro vals w1 hx hd;refine .r [(9,.pointer (some ⟨go,0,none⟩))] (Op.load 66 (Operand.const (.pointer (some ⟨go,0,none⟩)))) 66 72 ⟨.out (by kernel_rfl) (by kernel_rfl),trivial⟩ ?_;clear hd;refine ay rfl 66 _ rfl go 0 rfl OX OX.toList (by simp) _ (aI.range (NW.out.ext hx.aG) _ rfl) Tryz.underlying66 rfl (by rw[Array.length_toList,Sj.out];exact dw) ?_;go_wp2;exact q_
    ·intro vals w1 hx hd;refine .r [(67,.slice (some ⟨gb,0,none⟩) n3 kb),(71,.int .i64 (j:Int))] (Op.indexAddr 30 (Operand.const (.slice (some ⟨gb,0,none⟩) n3 kb)) (Operand.const (.int .i64 (j:Int)))) 0 73 ⟨.inn 0 (by kernel_rfl) (hd 0 (by decide)),.inn 4 (by kernel_rfl) (hd 4 (by decide)),trivial⟩ ?_;clear hd;go_wp2;exact q_
   intro vals Wo hx6 hf;have e5:vals 5=.agg OX:=hf 5 (by omega);have e6:vals 6=.pointer (some ⟨gb,j*10,none⟩):=hf 6 (by omega);have hx6:=hx6.aG;clear hf;refine d_ 7 _ (by kernel_rfl) (by kernel_rfl) rfl ?_;simp only[Lf,au,Act.put,FR_];rw[e5,e6];clear e5 e6;have hrow:=kK.out.ext hx6;have LW:=Lib.hid (hrow.there fJ hjl);have hst:=hrow.store fJ hjl odd;have hgw3:WV.heap.size≤gb:=hgb;have hext:∀ {A:World},Ext A Wo→A.heap.size≤gb→Ext A (Wo.setCells gb (j*10) (aF odd)):=fun h hn=>pF hn _ _ _ h;have HST:=Lib.hid hst;clear hst hrow;go_wp2_with (refine dA rfl 66 _ _ rfl gb (j*10) OX (aF odd) He.out rfl rfl LW.out dw (EM odd) ?_);go_meet
   case rel =>
    have hbl:∀ {g:Nat} {t:TypeId} {X:Array Value},aI Wn g t X→g<WV.heap.size→aI (Wo.setCells gb (j*10) (aF odd)) g t X:=fun b hg=>(b.ext hx6).grown HST.out.2 (by intro e;injection e with e;omega);have hra:∀ {α:Type} {cells:α→List Value} {s:Nat} {n c:Nat} {A:Option Addr} {l:List α},RA cells s WV WV.heap.size A n c l→RA cells s (Wo.setCells gb (j*10) (aF odd)) (Wo.setCells gb (j*10) (aF odd)).heap.size A n c l:=fun h=>aB h (hext (Ext.trans Y7 hx6) hgb);exact⟨US.set j odd,Lib.hid (RA.dD HST.out.1.2 HST.out.1.1 (by omega)),hbl JO lgo,hbl JY lgy,hbl JP lgp,hbl JS lgs,hext (Ext.trans hB hx6) (by omega),hra RS0,hra RT0,hra RU0⟩
 clear RS RT RU JO JY JP JS hB RS0 RT0 RU0 lgo lgy lgp lgs hwv Y7 hzl hgb kK He Sj;obtain⟨BL,Pg,JO,JY,JP,JS,hB,RS,RT,RU⟩:=hcut;clear JO;have ND:=Pg.out;clear Pg;obtain⟨V5,hV5⟩:∃W:World,W=wc:=⟨_,rfl⟩;rw[←hV5]at JY JP JS hB RS RT RU ND⊢;clear hV5;go_upto_region 7 with (fail);have t0:V5.cell? ⟨gp,0,none⟩=some (.int .i64 s0):=JP.cell 0;have t1:V5.cell? ⟨gp,1,none⟩=some (.int .i64 s1):=JP.cell 1;obtain⟨dd,hdd⟩:∃d,IntKind.i64.wrap (s1-s0)=d:=⟨_,rfl⟩;go_cut [97] from 74 to 97 (fun v wc=>∃q,v=.bool q∧wc=V5)
 case first =>
  by_cases a1:0≤s0
  ·skip;by_cases a2:s1≤1000000
   ·skip;by_cases a3:200<dd
    ·skip;go_wp2_with fail;go_meet
     case rel=>exact⟨_,rfl,rfl⟩
    ·skip;go_wp2_with fail;go_meet
     case rel=>exact⟨_,rfl,rfl⟩
   ·skip;go_wp2_with fail;go_meet
    case rel=>exact⟨_,rfl,rfl⟩
  ·skip;go_wp2_with fail;go_meet
   case rel=>exact⟨_,rfl,rfl⟩
 obtain⟨q,rfl,rfl⟩:=hcut;clear hdd dd;obtain⟨z8,hz8⟩:∃z,IntKind.i64.wrap (s0+200)=z:=⟨_,rfl⟩;go_upto_if 97 with (fail);go_cut [] from 97 to 101 (fun wc=>∃z,aI wc gp 32 #[.int .i64 s0,.int .i64 z]∧aI wc gy 53 YX∧aI wc gs 32 #[.int .i64 fz,.int .i64 ez]∧Ext w wc∧RA aC 21 wc wc.heap.size A1 n1 c1 S∧RA bJ 6 wc wc.heap.size A2 n2 c2 ST∧RA aF 10 wc wc.heap.size A3 n3 c3 US∧RA aF 10 wc wc.heap.size (some ⟨gb,0,none⟩) n3 kb BL)
 case first =>
  have hlo:=HLOW.out;cases q
  ·go_wp2_with fail;go_meet
   case rel=>exact⟨s1,JP,JY,JS,hB,RS,RT,RU,ND⟩
  ·have t2:=JP.frozen 1;go_wp2_with fail;go_meet
   case rel=>exact⟨z8,JP.cu 1 _,JY.far (p:=⟨gp,1,none⟩) ngy _,JS.far (p:=⟨gp,1,none⟩) ngs _,hB.setCell (p:=⟨gp,1,none⟩) hgw _,RS.far (p:=⟨gp,1,none⟩) (fun b o h=>hlo b o (.inl h)) _,RT.far (p:=⟨gp,1,none⟩) (fun b o h=>hlo b o (.inr (.inl h))) _,RU.far (p:=⟨gp,1,none⟩) (fun b o h=>hlo b o (.inr (.inr h))) _,ND.far (p:=⟨gp,1,none⟩) (fun b o h=>by injection h with h;injection h with h1;show b≠gp;omega) _⟩
 obtain⟨zz,JP,JY,JS,hB,RS,RT,RU,ND⟩:=hcut;skip;obtain⟨V6,hV6⟩:∃W:World,W=wc:=⟨_,rfl⟩;rw[←hV6]at JP JY JS hB RS RT RU ND⊢;clear hV6 hz8 HLOW;go_upto_region 9 with (fail);have Y8:V6.cell? ⟨gs,0,none⟩=some (.int .i64 fz):=JS.cell 0;have NP:IntKind.i64.wrap (fz+p1)=fz+p1:=IntWalk.i64_in _ (by omega);refine dL 5 (fun ix vals v w1=>match ix with | 0=>v=.pointer (some ⟨gs,0,none⟩) | 1=>v=.int .i64 fz | 2=>v=.int .i64 first | 3=>v=.int .i64 p1 | _=>v=.int .i64 (fz+p1)) (by kernel_rfl) (by kernel_rfl) ?_ ?_ ?_ ?_
 ·intro ix vals v w1 w2 hi hr hx;exact hr
 ·intro ix vals kC v w1 hi hv hr;exact hr
 ·refine lu [some 102,some 103,some 104,some 105,some 106,some 22] [(20,.pointer (some ⟨gs,0,none⟩)),(6,.int .i64 first)] 306 (by kernel_rfl) (by kernel_rfl) ⟨by kernel_rfl,by kernel_rfl,trivial⟩ ?_;refine⟨?_,?_,?_,?_,?_,trivial⟩
  ·intro vals w1 hx hd;refine .r [(20,.pointer (some ⟨gs,0,none⟩))] (Op.fieldAddr 32 (Operand.const (.pointer (some ⟨gs,0,none⟩))) 0) 0 102 ⟨.out (by kernel_rfl) (by kernel_rfl),trivial⟩ ?_;clear hd;go_wp2;exact q_
  ·intro vals w1 hx hd;refine .r [(102,.pointer (some ⟨gs,0,none⟩))] (Op.load 3 (Operand.const (.pointer (some ⟨gs,0,none⟩)))) 3 103 ⟨.inn 0 (by kernel_rfl) (hd 0 (by decide)),trivial⟩ ?_;clear hd;have Y8:=ah hx Y8;go_wp2;exact q_
  ·intro vals w1 hx hd;refine .r [(6,.int .i64 first)] (Op.move (Operand.const (.int .i64 first))) 3 104 ⟨.out (by kernel_rfl) (by kernel_rfl),trivial⟩ ?_;clear hd;go_wp2;exact q_
  ·intro vals w1 hx hd;refine .r [(104,.int .i64 first)] (Op.call { callee:=Callee.value (Operand.func 13),args:=#[(Operand.const (.int .i64 first)),Operand.const (Value.int IntKind.i64 300)],argTypes:=#[3,3] }) 3 105 ⟨.inn 2 (by kernel_rfl) (hd 2 (by decide)),trivial⟩ ?_;clear hd;go_wp2_with fail;refine (wL.out _).mono ?_;rintro e w2 ⟨rfl,rfl⟩;go_wp2;exact q_
  ·intro vals w1 hx hd;refine .r [(103,.int .i64 fz),(105,.int .i64 p1)] (Op.binOp BinOp.add 3 (Operand.const (.int .i64 fz)) (Operand.const (.int .i64 p1)) 3) 3 106 ⟨.inn 1 (by kernel_rfl) (hd 1 (by decide)),.inn 3 (by kernel_rfl) (hd 3 (by decide)),trivial⟩ ?_;clear hd;go_wp2;exact q_
 intro vals W4 hx hf;have e4:vals 4=.int .i64 (fz+p1):=hf 4 (by omega);have hx:=hx.aG;clear hf Y8 NP;have JY:=JY.ext hx;have JP:=JP.ext hx;have JS:=JS.ext hx;have hB:=Ext.trans hB hx;have RS:=aB RS hx;have RT:=aB RT hx;have RU:=aB RU hx;have ND:=aB ND hx;clear hx;refine d_ 5 _ (by kernel_rfl) (by kernel_rfl) rfl ?_;simp only[Lf,au,Act.put,FR_];rw[e4];clear e4;go_upto_region 10 with (fail);have Y8:W4.cell? ⟨gs,0,none⟩=some (.int .i64 fz):=JS.cell 0;have NP:IntKind.i64.wrap (fz+p2)=fz+p2:=IntWalk.i64_in _ (by omega);refine dL 5 (fun ix vals v w1=>match ix with | 0=>v=.pointer (some ⟨gs,0,none⟩) | 1=>v=.int .i64 fz | 2=>v=.int .i64 after | 3=>v=.int .i64 p2 | _=>v=.int .i64 (fz+p2)) (by kernel_rfl) (by kernel_rfl) ?_ ?_ ?_ ?_
 ·intro ix vals v w1 w2 hi hr hx;exact hr
 ·intro ix vals kC v w1 hi hv hr;exact hr
 ·refine lu [some 107,some 108,some 109,some 110,some 111,some 23] [(20,.pointer (some ⟨gs,0,none⟩)),(7,.int .i64 after)] 306 (by kernel_rfl) (by kernel_rfl) ⟨by kernel_rfl,by kernel_rfl,trivial⟩ ?_;refine⟨?_,?_,?_,?_,?_,trivial⟩
  ·intro vals w1 hx hd;refine .r [(20,.pointer (some ⟨gs,0,none⟩))] (Op.fieldAddr 32 (Operand.const (.pointer (some ⟨gs,0,none⟩))) 0) 0 107 ⟨.out (by kernel_rfl) (by kernel_rfl),trivial⟩ ?_;clear hd;go_wp2;exact q_
  ·intro vals w1 hx hd;refine .r [(107,.pointer (some ⟨gs,0,none⟩))] (Op.load 3 (Operand.const (.pointer (some ⟨gs,0,none⟩)))) 3 108 ⟨.inn 0 (by kernel_rfl) (hd 0 (by decide)),trivial⟩ ?_;clear hd;have Y8:=ah hx Y8;go_wp2;exact q_
  ·intro vals w1 hx hd;refine .r [(7,.int .i64 after)] (Op.move (Operand.const (.int .i64 after))) 3 109 ⟨.out (by kernel_rfl) (by kernel_rfl),trivial⟩ ?_;clear hd;go_wp2;exact q_
  ·intro vals w1 hx hd;refine .r [(109,.int .i64 after)] (Op.call { callee:=Callee.value (Operand.func 13),args:=#[(Operand.const (.int .i64 after)),Operand.const (Value.int IntKind.i64 300)],argTypes:=#[3,3] }) 3 110 ⟨.inn 2 (by kernel_rfl) (hd 2 (by decide)),trivial⟩ ?_;clear hd;go_wp2_with fail;refine (HP2.out _).mono ?_;rintro e w2 ⟨rfl,rfl⟩;go_wp2;exact q_
  ·intro vals w1 hx hd;refine .r [(108,.int .i64 fz),(110,.int .i64 p2)] (Op.binOp BinOp.add 3 (Operand.const (.int .i64 fz)) (Operand.const (.int .i64 p2)) 3) 3 111 ⟨.inn 1 (by kernel_rfl) (hd 1 (by decide)),.inn 3 (by kernel_rfl) (hd 3 (by decide)),trivial⟩ ?_;clear hd;go_wp2;exact q_
 intro vals W5 hx hf;have e4:vals 4=.int .i64 (fz+p2):=hf 4 (by omega);have hx:=hx.aG;clear hf Y8 NP;have JY:=JY.ext hx;have JP:=JP.ext hx;have JS:=JS.ext hx;have hB:=Ext.trans hB hx;have RS:=aB RS hx;have RT:=aB RT hx;have RU:=aB RU hx;have ND:=aB ND hx;clear hx;refine d_ 5 _ (by kernel_rfl) (by kernel_rfl) rfl ?_;simp only[Lf,au,Act.put,FR_];rw[e4];clear e4;obtain⟨xx,hxx⟩:∃k,k=fz+p1:=⟨_,rfl⟩;obtain⟨yy,hyy⟩:∃k,k=fz+p2:=⟨_,rfl⟩;rw[←hxx,←hyy];clear hxx hyy;have hx:Ext W5 (W5.alloc (.cells #[.slice A3 n3 c3,.slice (some ⟨gb,0,none⟩) n3 kb] 30)):=aj (Below.refl _ _) _;have JU:aI (W5.alloc (.cells #[.slice A3 n3 c3,.slice (some ⟨gb,0,none⟩) n3 kb] 30)) W5.heap.size 30 #[.slice A3 n3 c3,.slice (some ⟨gb,0,none⟩) n3 kb]:=aI.new _ _ _;go_wp2;generalize W5.heap.size=gu at JU⊢;generalize W5.alloc (.cells #[.slice A3 n3 c3,.slice (some ⟨gb,0,none⟩) n3 kb] 30)=V1 at JU hx⊢;have JY:=JY.ext hx;have JP:=JP.ext hx;have JS:=JS.ext hx;have hB:=Ext.trans hB hx;have RS:=aB RS hx;have RT:=aB RT hx;have RU:=aB RU hx;have ND:=aB ND hx;clear hx;have hn1c:=RS.cap;have hnl:=RS.len;have HJP:=Lib.hid JP;have HJY:=Lib.hid JY;have HJS:=Lib.hid JS;have HJU:=Lib.hid JU;have HB:=Lib.hid hB;have xg:=Lib.hid RS;have Bz:=Lib.hid RT;have NQ:=Lib.hid RU;have Pg:=Lib.hid ND;clear JP JY JS JU hB RS RT RU ND;go_loopw [116] (fun i wr=>∃j:Nat,j≤2∧i=.int .i64 j∧Ext V1 wr) (fun i _=>2-(intOf i).toNat)
 case atStart=>exact⟨0,by omega,rfl,Below.refl _ _⟩
 case round =>
  obtain⟨j,hj,rfl,hY⟩:=hrel;by_cases hj2:j<2
  ·have hjz:(j:Int)<2:=by omega
   obtain⟨XA,xn,xc,X,hcell,hra,hxn⟩:∃XA xn xc X,wr.cell? ⟨gu,j,none⟩=some (.slice XA xn xc)∧RA aF 10 wr wr.heap.size XA xn xc X∧xn≤6:=by
    have hd:j=0∨j=1:=by omega
    rcases hd with rfl | rfl
    ·exact⟨A3,n3,c3,US,(HJU.out.ext hY).cell 0,aB NQ.out hY,hn3⟩
    ·exact⟨_,n3,kb,BL,(HJU.out.ext hY).cell 1,aB Pg.out hY,hn3⟩
   have BH:=Lib.hid hra;have XC:=Ext.trans HB.out hY;have U5:=aB xg.out hY;have Zy:=aB Bz.out hY;have JYV:=HJY.out.ext hY;have JPV:=HJP.out.ext hY;have JSV:=HJS.out.ext hY;have CV:=Lib.hid hY;clear hra hY;obtain⟨V2,hV2⟩:∃V,V=wr:=⟨_,rfl⟩;rw[←hV2]at hcell BH XC U5 Zy JYV JPV JSV CV⊢;clear hV2;have YR:Hid (∀W,Ext V2 W→Calls Tryz.prog 24 #[.slice A1 n1 c1,.slice XA xn xc] W fun e w'=>e=.returned (.bool (dX S X))∧Ext W w'):=Lib.hid (fun W hx=>lX S X A1 XA n1 c1 xn xc W (aB U5 hx) (aB BH.out hx));have HVR:Hid (∀W,Ext V2 W→Calls Tryz.prog 25 #[.slice A1 n1 c1,.slice XA xn xc] W fun e w'=>e=.returned (.bool (dX S X))∧Ext W w'):=Lib.hid (fun W hx=>lM S X A1 XA n1 c1 xn xc W (aB U5 hx) (aB BH.out hx));generalize dX S X=q at YR HVR;have hqq:(q != q)=false:=by cases q<;>rfl
   have XQ:Hid (∀(y:St) (QX:Array Value) (k0 k1:Int) (W:World),Ext V2 W→(aC y).toArray=QX→(Calls Tryz.prog 17 #[.agg QX,.slice XA xn xc,.int .i64 k0,.int .i64 k1] W fun e w'=>e=.returned (Df (jO y X k0 k1))∧Ext W w')∧(Calls Tryz.prog 26 #[.agg QX,.slice XA xn xc,.int .i64 k0,.int .i64 k1] W fun e w'=>e=.returned (Df (jO y X k0 k1))∧Ext W w')):=Lib.hid (fun y QX k0 k1 W hx h=>by subst h;exact⟨A_ y X XA xn xc k0 k1 W (aB BH.out hx) (by omega),DX y X XA xn xc k0 k1 W (aB BH.out hx) (by omega)⟩);have HST:Hid (∀(y:St) (QX:Array Value) (k0 k1:Int) (W:World),Ext V2 W→(aC y).toArray=QX→(Calls Tryz.prog 27 #[.agg QX,.slice XA xn xc,.agg #[.int .i64 k0,.int .i64 k1],.int .i64 xx] W (qK (dY y X ⟨k0,k1⟩ xx) W))∧(Calls Tryz.prog 28 #[.agg QX,.slice XA xn xc,.agg #[.int .i64 k0,.int .i64 k1],.int .i64 xx] W (qK (dY y X ⟨k0,k1⟩ xx) W))):=Lib.hid (fun y QX k0 k1 W hx h=>by subst h;exact⟨rY y X XA xn xc k0 k1 xx W (aB BH.out hx) (by omega),vN y X XA xn xc k0 k1 xx W (aB BH.out hx) (by omega)⟩);have HPA:Hid (∀(k0 k1:Int) (W:World),Ext V2 W→(Calls Tryz.prog 15 #[.slice A1 n1 c1,.slice A2 n2 c2,.slice XA xn xc,.agg #[.int .i64 k0,.int .i64 k1],.int .i64 xx] W (ng (dK S ST X ⟨k0,k1⟩ xx) W))∧(Calls Tryz.prog 30 #[.slice A1 n1 c1,.slice A2 n2 c2,.slice XA xn xc,.agg #[.int .i64 k0,.int .i64 k1],.int .i64 xx] W (ng (dK S ST X ⟨k0,k1⟩ xx) W))):=Lib.hid (fun k0 k1 W hx=>⟨nC S ST X A1 A2 XA n1 c1 n2 c2 xn xc k0 k1 xx W (aB U5 hx) (aB Zy hx) (aB BH.out hx),sD S ST X A1 A2 XA n1 c1 n2 c2 xn xc k0 k1 xx W (aB U5 hx) (aB Zy hx) (aB BH.out hx)⟩);have ZN:Hid (∀(k0 k1:Int) (W:World),Ext V2 W→(Calls Tryz.prog 31 #[.slice A1 n1 c1,.slice A2 n2 c2,.slice XA xn xc,.agg #[.int .i64 k0,.int .i64 k1],.int .i64 xx,.int .i64 yy] W (zf (jo S ST X ⟨k0,k1⟩ xx yy) W))∧(Calls Tryz.prog 32 #[.slice A1 n1 c1,.slice A2 n2 c2,.slice XA xn xc,.agg #[.int .i64 k0,.int .i64 k1],.int .i64 xx,.int .i64 yy] W (zf (jo S ST X ⟨k0,k1⟩ xx yy) W))):=Lib.hid (fun k0 k1 W hx=>⟨wu S ST X A1 A2 XA n1 c1 n2 c2 xn xc k0 k1 xx yy W (aB U5 hx) (aB Zy hx) (aB BH.out hx),Ak S ST X A1 A2 XA n1 c1 n2 c2 xn xc k0 k1 xx yy W (fun k W2 hx2=>sD S ST X A1 A2 XA n1 c1 n2 c2 xn xc k0 k1 k W2 (aB U5 (Ext.trans hx hx2)) (aB Zy (Ext.trans hx hx2)) (aB BH.out (Ext.trans hx hx2)))⟩);have HRSV:=Lib.hid U5;have HJYV:=Lib.hid JYV;have HJPV:=Lib.hid JPV;have Y9:=Lib.hid JSV;have HBV:=Lib.hid XC;clear U5 Zy JYV JPV JSV XC BH;go_wp2_with fail;refine (YR.out _ (Below.refl _ _)).mono ?_;rintro e V3 ⟨rfl,h3⟩;clear hcell;go_wp2_with fail;refine (HVR.out _ h3).mono ?_;rintro e V4 ⟨rfl,h4⟩;have h4:=Ext.trans h3 h4;clear h3 YR HVR;go_upto_region 16 with (fail);clear hqq;obtain⟨i0,hi0,hz0,hz1,hz2⟩:=info_parts xZ;have HRS4:=Lib.hid (aB HRSV.out h4);have jU:=Lib.hid (HJYV.out.ext h4);obtain⟨N0,hN0⟩:∃n,n=V4.heap.size:=⟨_,rfl⟩;have HNW:Hid (∀(Z W:World),TP N0 (S.flatMap aC++aC ys) 21 V4 W→N0≤W.heap.size):=Lib.hid (fun _ W h=>by rw[hN0];exact h.size);have hT:=tp_tr N0 (S.flatMap aC++aC ys) 21;have hgyl:gy<N0:=by rw[hN0];exact jU.out.lt
   have MF:=Lib.hid hN0;clear hN0;refine RB.aH hT 6 [none,some (.slice A1 n1 c1),none,some (.agg YX),none,none] [(0,.w fun v w1=>∃gx,v=.slice (some ⟨gx,0,none⟩) 0 0∧N0≤gx∧aI w1 gx 53 #[]),(2,.w fun v w1=>∃g k,v=.slice (some ⟨g,0,none⟩) n1 k∧(n1=0→k=0)∧w1.ownsRow N0 53 21 (.slice (some ⟨g,0,none⟩) n1 k) n1 (S.flatMap aC)),(4,.w fun v w1=>∃gx,v=.slice (some ⟨gx,0,none⟩) 1 1∧N0≤gx∧aI w1 gx 53 YX),(5,.w fun v w1=>∃g k,v=.slice (some ⟨g,0,none⟩) (n1+1) k∧w1.ownsRow N0 53 21 (.slice (some ⟨g,0,none⟩) (n1+1) k) (n1+1) (S.flatMap aC++aC ys))] ?_ ?_ ?_
   ·refine⟨?_,?_,?_,?_,trivial⟩
    ·intro v w1 w2 hr hx;obtain⟨gx,h1,h2,h3⟩:=hr;exact⟨gx,h1,h2,hx.blk h3 (by simp)⟩
    ·intro v w1 w2 hr hx;obtain⟨g,k,h1,h2,h3⟩:=hr;exact⟨g,k,h1,h2,hx.own h3 (List.prefix_append _ _)⟩
    ·intro v w1 w2 hr hx;obtain⟨gx,h1,h2,h3⟩:=hr;exact⟨gx,h1,h2,hx.blk h3 (by rw[HZY.out];exact Nat.le_refl _)⟩
    ·intro v w1 w2 hr hx;obtain⟨g,k,h1,h3⟩:=hr;exact⟨g,k,h1,hx.own h3 (List.prefix_refl _)⟩
   ·refine⟨?x0,?_,?x2,?x3,?x4,?x5,trivial⟩
    case x0 =>
     as_aux_lemma =>
     intro vals w1 hx hd;clear hd;simp only[Lf];have hz:=HNW.out w1 _ hx.aG;go_wp2;exact⟨rfl,TP.ext (aj (Below.refl _ _) _) hz,_,rfl,hz,aI.new _ _ _⟩
    case x2 =>
     as_aux_lemma =>
     intro vals w1 hx hd;have r0:(fun v w1=>∃gx,v=.slice (some ⟨gx,0,none⟩) 0 0∧N0≤gx∧aI w1 gx 53 #[]) (vals 0) w1:=hd 0 (by decide) rfl;dsimp only at r0;clear hd;simp only[Lf,au,Act.put,aX,aW];obtain⟨gx,e_0,hgx,jx⟩:=r0;rw[e_0];have hz:=HNW.out w1 _ hx.aG;obtain⟨g,k,w9,hrun,hxe,_,hk0,hown⟩:=Gt (P:=Tryz.prog) (by decide) Tryz.underlying28 hi0 hz0 hz1 hz2 rfl (by decide) 28 S N0 gx n1 c1 A1 N0 jx hgx (by omega) (by have h:=HRS4.out;rw[←MF.out]at h;exact h.below hx.aG.low);have hown:=Lib.hid hown;clear jx;refine aO rfl _ _ _ rfl rfl rfl hrun ?_;clear hrun;go_wp2;exact⟨rfl,TP.ext hxe hz,g,k,rfl,hk0,hown.out⟩
    case x3 =>
     as_aux_lemma =>
     intro vals w1 hx hd;clear hd;simp only[Lf,au,Act.put,aX,aW];refine ay rfl 53 _ rfl gy 0 rfl YX YX.toList (by simp) _ (fun j v hv=>hx.aG.cell (aI.range jU.out _ rfl j v hv) hgyl) Tryz.underlying53 rfl (by rw[Array.length_toList,HZY.out];exact aN) ?_;go_wp2;exact⟨rfl,hT.refl _,rfl⟩
    case x4 =>
     as_aux_lemma =>
     intro vals w1 hx hd;clear hd;simp only[Lf,au,Act.put,aX,aW];have hz:=HNW.out w1 _ hx.aG;refine aV rfl _ _ _ rfl YX rfl Tryz.underlying28 21 fQ HZY.out (by omega) (by omega) ?_;go_wp2;exact⟨rfl,TP.ext (aj (Below.refl _ _) _) hz,_,rfl,hz,aI.new _ _ _⟩
    case x5 =>
     as_aux_lemma =>
     intro vals w1 hx hd;have r2:(fun v w1=>∃g k,v=.slice (some ⟨g,0,none⟩) n1 k∧(n1=0→k=0)∧w1.ownsRow N0 53 21 (.slice (some ⟨g,0,none⟩) n1 k) n1 (S.flatMap aC)) (vals 2) w1:=hd 2 (by decide) rfl;dsimp only at r2;have r4:(fun v w1=>∃gx,v=.slice (some ⟨gx,0,none⟩) 1 1∧N0≤gx∧aI w1 gx 53 YX) (vals 4) w1:=hd 4 (by decide) rfl;dsimp only at r4;clear hd;simp only[Lf,au,Act.put,aX,aW];obtain⟨g2,k2,e_2,hk2,ho2⟩:=r2;obtain⟨gx,e_4,hgx,jx⟩:=r4;rw[e_2,e_4];have hz:=HNW.out w1 _ hx.aG;obtain⟨g9,k9,w9,hrun,hown,htp⟩:=Ru (P:=Tryz.prog) (by decide) Tryz.underlying28 hi0 hz0 hz1 hz2 rfl (by decide) 28 (news:=aC ys) ho2 hk2 (by omega) hz (some ⟨gx,0,none⟩) 1 1 (by omega) rfl (fun _=>⟨⟨gx,0,none⟩,rfl,fun j u hu=>by rw[Addr.add_lit,Nat.zero_add,jx.cell];rw[←HYX.out];simpa using hu⟩) (by simp[aC,Value.oneCell']);have hown:=Lib.hid hown;have htp:=Lib.hid htp;clear jx ho2;refine aO rfl _ _ _ rfl rfl rfl hrun ?_;clear hrun;go_wp2;exact⟨rfl,htp.out,g9,k9,rfl,hown.out⟩
    all_goals as_aux_lemma =>
     intro vals w1 hx hd;clear hd;simp only[Lf,au,Act.put,aX,aW];go_wp2;exact⟨rfl,hT.refl _,rfl⟩
   intro vals V7 h7 hf;obtain⟨ga,ka,e5,hown⟩:∃g k,vals 5=.slice (some ⟨g,0,none⟩) (n1+1) k∧V7.ownsRow N0 53 21 (.slice (some ⟨g,0,none⟩) (n1+1) k) (n1+1) (S.flatMap aC++aC ys):=hf 5 (by omega);have h7:Ext V4 V7:=by have h:=h7.aG.low;rw[MF.out]at h;exact h
   have h7:=Ext.trans h4 h7;have hra:RA aC 21 V7 V7.heap.size (some ⟨ga,0,none⟩) (n1+1) ka (S++[ys]):=RA.dD (by rw[List.flatMap_append];simpa using hown) (by rw[List.length_append,hnl];rfl) (by omega);have hkac:=hra.cap;have CU:=Lib.hid hra;clear hf hown hra h4 hT hi0 hz0 hz1 hz2 i0 HNW hgyl MF jU HRS4;refine d_ 6 _ (by kernel_rfl) (by kernel_rfl) rfl ?_;simp only[Lf,au,Act.put,FR_];rw[e5];clear e5;go_wp2;go_loopw [27] (fun i wr=>∃m:Nat,m≤n1+1∧i=.int .i64 m∧Ext V7 wr) (fun i _=>n1+1-(intOf i).toNat)
   case atStart=>exact⟨0,Nat.zero_le _,rfl,Below.refl _ _⟩
   case round =>
    obtain⟨m,hm,rfl,hY⟩:=hrel;by_cases hmn:m<n1+1
    ·have hmz:(m:Int)<(n1:Int)+1:=by omega
     have hmz2:(m:Int)<((n1+1:Nat):Int):=by omega
     obtain⟨b1,o1,hzs,hAs,hbs,hcs⟩:=RA.range ig (CU.out.below hY) hmn;generalize (S++[ys])[m]=y at hcs;clear hzs;obtain⟨QX,hQX⟩:∃X,(aC y).toArray=X:=⟨_,rfl⟩;have HZQ:Hid (QX.size=21):=Lib.hid (by rw[←hQX];rfl);skip;injection hAs with hAs;injection hAs with hb1 ho1;subst hb1 ho1;have JM:Hid (wr.rangeAt ga (0+m*21) QX.toList):=Lib.hid (by rw[←hQX];exact hcs);rw[Nat.zero_add]at JM;have HQX:=Lib.hid hQX;have h8:=Ext.trans h7 hY;have H8:=Lib.hid h8;have U6:=Lib.hid hY;clear hQX hcs hbs hY;have js:=Y9.out.ext h8;obtain⟨V8,hV8⟩:∃V,V=wr:=⟨_,rfl⟩;rw[←hV8]at JM H8 U6 js⊢;clear hV8 h8;have t0:V8.cell? ⟨gs,0,none⟩=some (.int .i64 fz):=js.cell 0;have NP:IntKind.i64.wrap (fz+p3)=fz+p3:=IntWalk.i64_in _ (by omega);go_upto_region 20 with (fail);refine dL 13 (fun ix vals v w1=>match ix with | 0=>v=.int .i64 tt | 1=>v=.int .i64 first | 2=>v=.agg #[.int .i64 tt,.int .i64 first] | 3=>v=.pointer (some ⟨gs,0,none⟩) | 4=>v=.int .i64 fz | 5=>v=.int .i64 tt | 6=>v=.int .i64 p3 | 7=>v=.int .i64 (fz+p3) | 8=>v=.int .i64 xx | 9=>v=.agg #[.int .i64 (fz+p3),.int .i64 xx] | 10=>∃g,v=.slice (some ⟨g,0,none⟩) 2 2∧aI w1 g 80 #[.int .i64 tt,.int .i64 first,.int .i64 (fz+p3),.int .i64 xx] | 11=>v=.int .i64 2 | _=>v=.int .i64 0) (by kernel_rfl) (by kernel_rfl) ?_ ?_ ?_ ?_
     ·intro ix vals v w1 w2 hi hr hx
      match ix,hr with
      |0,hr=>exact hr
      |1,hr=>exact hr
      |2,hr=>exact hr
      |3,hr=>exact hr
      |4,hr=>exact hr
      |5,hr=>exact hr
      |6,hr=>exact hr
      |7,hr=>exact hr
      |8,hr=>exact hr
      |9,hr=>exact hr
      |10,hr=>obtain⟨g,h1,h2⟩:=hr;exact⟨g,h1,h2.ext hx⟩
      |11,hr=>exact hr
      |(kx+12),hr=>exact hr
     ·intro ix vals kC v w1 hi hv hr;exact hr
     ·refine lu [some 139,some 140,some 141,some 142,some 143,some 144,some 145,some 146,some 147,some 148,some 149,some 150,some 151] [(4,.int .i64 tt),(6,.int .i64 first),(20,.pointer (some ⟨gs,0,none⟩)),(22,.int .i64 xx)] 306 (by kernel_rfl) (by kernel_rfl) ⟨by kernel_rfl,by kernel_rfl,by kernel_rfl,by kernel_rfl,trivial⟩ ?_;refine⟨?_,?_,?_,?_,?_,?_,?_,?_,?_,?_,?_,?_,?_,trivial⟩
      ·intro vals w1 hx hd;refine .r [(4,.int .i64 tt)] (Op.move (Operand.const (.int .i64 tt))) 3 139 ⟨.out (by kernel_rfl) (by kernel_rfl),trivial⟩ ?_;clear hd;go_wp2;exact q_
      ·intro vals w1 hx hd;refine .r [(6,.int .i64 first)] (Op.move (Operand.const (.int .i64 first))) 3 140 ⟨.out (by kernel_rfl) (by kernel_rfl),trivial⟩ ?_;clear hd;go_wp2;exact q_
      ·intro vals w1 hx hd;refine .r [(139,.int .i64 tt),(140,.int .i64 first)] (Op.build 80 #[(0,(Operand.const (.int .i64 tt))),(1,(Operand.const (.int .i64 first)))]) 80 141 ⟨.inn 0 (by kernel_rfl) (hd 0 (by decide)),.inn 1 (by kernel_rfl) (hd 1 (by decide)),trivial⟩ ?_;clear hd;go_wp2;exact q_
      ·intro vals w1 hx hd;refine .r [(20,.pointer (some ⟨gs,0,none⟩))] (Op.fieldAddr 32 (Operand.const (.pointer (some ⟨gs,0,none⟩))) 0) 0 142 ⟨.out (by kernel_rfl) (by kernel_rfl),trivial⟩ ?_;clear hd;go_wp2;exact q_
      ·intro vals w1 hx hd;refine .r [(142,.pointer (some ⟨gs,0,none⟩))] (Op.load 3 (Operand.const (.pointer (some ⟨gs,0,none⟩)))) 3 143 ⟨.inn 3 (by kernel_rfl) (hd 3 (by decide)),trivial⟩ ?_;clear hd;have t0:=ah hx t0;go_wp2;exact q_
      ·intro vals w1 hx hd;refine .r [(4,.int .i64 tt)] (Op.move (Operand.const (.int .i64 tt))) 3 144 ⟨.out (by kernel_rfl) (by kernel_rfl),trivial⟩ ?_;clear hd;go_wp2;exact q_
      ·intro vals w1 hx hd;refine .r [(144,.int .i64 tt)] (Op.call { callee:=Callee.value (Operand.func 13),args:=#[(Operand.const (.int .i64 tt)),Operand.const (Value.int IntKind.i64 400)],argTypes:=#[3,3] }) 3 145 ⟨.inn 5 (by kernel_rfl) (hd 5 (by decide)),trivial⟩ ?_;clear hd;go_wp2_with fail;refine (S9.out _).mono ?_;rintro e w2 ⟨rfl,rfl⟩;go_wp2;exact q_
      ·intro vals w1 hx hd;refine .r [(143,.int .i64 fz),(145,.int .i64 p3)] (Op.binOp BinOp.add 3 (Operand.const (.int .i64 fz)) (Operand.const (.int .i64 p3)) 3) 3 146 ⟨.inn 4 (by kernel_rfl) (hd 4 (by decide)),.inn 6 (by kernel_rfl) (hd 6 (by decide)),trivial⟩ ?_;clear hd;go_wp2;exact q_
      ·intro vals w1 hx hd;refine .r [(22,.int .i64 xx)] (Op.move (Operand.const (.int .i64 xx))) 3 147 ⟨.out (by kernel_rfl) (by kernel_rfl),trivial⟩ ?_;clear hd;go_wp2;exact q_
      ·intro vals w1 hx hd;refine .r [(146,.int .i64 (fz+p3)),(147,.int .i64 xx)] (Op.build 80 #[(0,(Operand.const (.int .i64 (fz+p3)))),(1,(Operand.const (.int .i64 xx)))]) 80 148 ⟨.inn 7 (by kernel_rfl) (hd 7 (by decide)),.inn 8 (by kernel_rfl) (hd 8 (by decide)),trivial⟩ ?_;clear hd;go_wp2;exact q_
      ·intro vals w1 hx hd;refine .r [(141,.agg #[.int .i64 tt,.int .i64 first]),(148,.agg #[.int .i64 (fz+p3),.int .i64 xx])] (Op.buildSlice 81 2 #[(0,(Operand.const (.agg #[.int .i64 tt,.int .i64 first]))),(1,(Operand.const (.agg #[.int .i64 (fz+p3),.int .i64 xx])))]) 81 149 ⟨.inn 2 (by kernel_rfl) (hd 2 (by decide)),.inn 9 (by kernel_rfl) (hd 9 (by decide)),trivial⟩ ?_;clear hd;go_wp2;exact⟨rfl,aj (Below.refl _ _) _,_,rfl,aI.new _ _ _⟩
      ·intro vals w1 hx hd;have r10:(fun v w1=>∃g,v=.slice (some ⟨g,0,none⟩) 2 2∧aI w1 g 80 #[.int .i64 tt,.int .i64 first,.int .i64 (fz+p3),.int .i64 xx]) (vals 10) w1:=hd 10 (by decide);dsimp only at r10;obtain⟨g_,e_10,j_⟩:=r10;refine .r [(149,.slice (some ⟨g_,0,none⟩) 2 2)] (Op.call { callee:=Callee.builtin Builtin.len,args:=#[(Operand.const (.slice (some ⟨g_,0,none⟩) 2 2))],argTypes:=#[81] }) 3 150 ⟨.inn 10 (by kernel_rfl) e_10,trivial⟩ ?_;clear hd e_10;go_wp2;exact q_
      ·intro vals w1 hx hd;refine .r [] (Op.move (Operand.const (Value.int IntKind.i64 0))) 3 151 trivial ?_;clear hd;go_wp2;exact q_
     intro vals V9 h9 hf;obtain⟨gk,e10,JK⟩:∃g,vals 10=.slice (some ⟨g,0,none⟩) 2 2∧aI V9 g 80 #[.int .i64 tt,.int .i64 first,.int .i64 (fz+p3),.int .i64 xx]:=hf 10 (by omega);have e11:vals 11=.int .i64 2:=hf 11 (by omega);have e12:vals 12=.int .i64 0:=hf 12 (by omega);have h9:=h9.aG;clear hf t0 NP;refine dJ (by kernel_rfl) ?_;simp only[Lf,au,Act.put,FR_];rw[e10,e11,e12];clear e10 e11 e12;have HJK:=Lib.hid JK;have JM:=Lib.hid (RA.bV JM.out h9);have H9:=Lib.hid (Ext.trans H8.out h9);have U6:=Lib.hid (Ext.trans U6.out h9);clear JK js h9 H8;go_wp2;go_loopw [151] (fun i wr=>∃k:Nat,k≤2∧i=.int .i64 k∧Ext V9 wr) (fun i _=>2-(intOf i).toNat)
     case atStart=>exact⟨0,by omega,rfl,Below.refl _ _⟩
     case round =>
      obtain⟨k,hk,rfl,hY⟩:=hrel;by_cases hk2:k<2
      ·have hkz:(k:Int)<2:=by omega
       have HX:=Lib.hid (Ext.trans H9.out hY);have HY:=Lib.hid hY;obtain⟨k0,k1,d0,d1⟩:∃k0 k1,wr.cell? ⟨gk,k*2,none⟩=some (.int .i64 k0)∧wr.cell? ⟨gk,k*2+1,none⟩=some (.int .i64 k1):=by
        have hd:k=0∨k=1:=by omega
        have jk:=HJK.out.ext hY;rcases hd with rfl | rfl
        ·exact⟨_,_,jk.cell 0,jk.cell 1⟩
        ·exact⟨_,_,jk.cell 2,jk.cell 3⟩
       obtain⟨Va,WM⟩:∃V,V=wr:=⟨_,rfl⟩;rw[←WM]at HX HY d0 d1⊢;clear WM hY;go_upto_region 23 with (fail);have JQ:aI (Va.alloc (.cells #[.int .i64 k0,.int .i64 k1] 80)) Va.heap.size 80 #[.int .i64 k0,.int .i64 k1]:=aI.new _ _ _;have hx:Ext Va (Va.alloc (.cells #[.int .i64 k0,.int .i64 k1] 80)):=aj (Below.refl _ _) _;generalize Va.heap.size=gq at JQ⊢;generalize Va.alloc (.cells #[.int .i64 k0,.int .i64 k1] 80)=Vb at JQ hx⊢;have HX:=Lib.hid (Ext.trans HX.out hx);have HY:=Lib.hid (Ext.trans HY.out hx);have Rx:=Lib.hid (RA.bV JM.out HY.out);have Ju:=Lib.hid JQ;clear hx JQ d0 d1;have hor:=fun W hx=>XQ.out y QX k0 k1 W hx HQX.out;obtain⟨pe,ph,lo,hi,no,tu,sl,er,her⟩:=NC (jO y X k0 k1);rw[her]at hor;have WA:=Lib.hid (fun W hx=>(hor W hx).1);have Ai:=Lib.hid (fun W hx=>(hor W hx).2);clear hor her;have hT:=Rw Vb.heap.size 51 #[.int .i64 0,.int .i64 0,.int .i64 0,.int .i64 0,.int .i64 0,.int .i64 0,.int .i64 0] #[.int .i64 pe,.int .i64 ph,.int .i64 lo,.int .i64 hi,.int .i64 no,.int .i64 tu,.int .i64 sl];have d0:Vb.cell? ⟨gq,0,none⟩=some (.int .i64 k0):=Ju.out.cell 0;have d1:Vb.cell? ⟨gq,1,none⟩=some (.int .i64 k1):=Ju.out.cell 1;refine RB.aH hT 15 [some (.slice (some ⟨ga,0,none⟩) (n1+1) ka),some (.int .i64 (m:Int)),some (.pointer (some ⟨ga,m*21,none⟩)),some (.agg QX),some (.slice XA xn xc),some (.pointer (some ⟨gq,0,none⟩)),some (.int .i64 k0),some (.pointer (some ⟨gq,1,none⟩)),some (.int .i64 k1),some (.tuple #[.agg #[.int .i64 pe,.int .i64 ph,.int .i64 lo,.int .i64 hi,.int .i64 no,.int .i64 tu,.int .i64 sl],.int .i64 er]),some (.tuple #[.agg #[.int .i64 pe,.int .i64 ph,.int .i64 lo,.int .i64 hi,.int .i64 no,.int .i64 tu,.int .i64 sl],.int .i64 er]),some (.agg #[.int .i64 pe,.int .i64 ph,.int .i64 lo,.int .i64 hi,.int .i64 no,.int .i64 tu,.int .i64 sl]),some (.int .i64 er),none,none] [(13,.w fun v w1=>∃g,v=.pointer (some ⟨g,0,none⟩)∧Vb.heap.size≤g∧(aI w1 g 51 #[.int .i64 0,.int .i64 0,.int .i64 0,.int .i64 0,.int .i64 0,.int .i64 0,.int .i64 0]∨aI w1 g 51 #[.int .i64 pe,.int .i64 ph,.int .i64 lo,.int .i64 hi,.int .i64 no,.int .i64 tu,.int .i64 sl])),(14,.v fun vals v w1=>∃g,vals 13=.pointer (some ⟨g,0,none⟩)∧Vb.heap.size≤g∧aI w1 g 51 #[.int .i64 pe,.int .i64 ph,.int .i64 lo,.int .i64 hi,.int .i64 no,.int .i64 tu,.int .i64 sl])] ?_ ?_ ?_
       ·refine⟨?_,?_,trivial⟩
        ·intro v w1 w2 hr hx;obtain⟨g,h1,h2,h3⟩:=hr;exact⟨g,h1,h2,h3.elim (fun b=>hx.zero g h2 b) (fun b=>.inr (hx.val g h2 b))⟩
        ·exact⟨fun vals v w1 w2 hr hx=>(by obtain⟨g,h1,h2,h3⟩:=hr;exact⟨g,h1,h2,hx.val g h2 h3⟩),fun vals kC v w1 hv hr=>(by dsimp only at hr⊢;rw[←hv 13 (by kernel_rfl)];exact hr)⟩
       ·refine⟨?_,?_,?_,?x3,?_,?_,?_,?_,?_,?x9,?_,?_,?_,?x13,?x14,trivial⟩
        case x3 =>
         as_aux_lemma =>
         intro vals w1 hx hd;clear hd;simp only[Lf,au,Act.put,aX,aW];refine ay rfl 53 _ rfl ga (m*21) rfl QX QX.toList (by simp) _ (RA.bV Rx.out hx.aG.low) Tryz.underlying53 rfl (by rw[Array.length_toList,HZQ.out];exact aN) ?_;go_wp2;exact⟨rfl,hT.refl _,rfl⟩
        case x9 =>
         as_aux_lemma =>
         intro vals w1 hx hd;clear hd;simp only[Lf,au,Act.put,aX,aW];have hz9:=hx.aG.low.size;go_wp2_with fail;refine (WA.out _ (Ext.trans HX.out hx.aG.low)).mono ?_;rintro e w2 ⟨rfl,hb2⟩;have hb3:=Lib.hid (Lh.ext (t:=51) (Z:=#[.int .i64 0,.int .i64 0,.int .i64 0,.int .i64 0,.int .i64 0,.int .i64 0,.int .i64 0]) (V:=#[.int .i64 pe,.int .i64 ph,.int .i64 lo,.int .i64 hi,.int .i64 no,.int .i64 tu,.int .i64 sl]) hb2 hz9);clear hb2;go_wp2;exact⟨rfl,hb3.out,rfl⟩
        case x13 =>
         as_aux_lemma =>
         intro vals w1 hx hd;clear hd;simp only[Lf,au,Act.put,aX,aW];have hz9:=hx.aG.low.size;go_wp2;exact⟨rfl,Lh.ext (aj (Below.refl _ _) _) hz9,_,rfl,hz9,.inl (aI.new _ _ _)⟩
        case x14 =>
         as_aux_lemma =>
         intro vals w1 hx hd;have r13:(fun v w1=>∃g,v=.pointer (some ⟨g,0,none⟩)∧Vb.heap.size≤g∧(aI w1 g 51 #[.int .i64 0,.int .i64 0,.int .i64 0,.int .i64 0,.int .i64 0,.int .i64 0,.int .i64 0]∨aI w1 g 51 #[.int .i64 pe,.int .i64 ph,.int .i64 lo,.int .i64 hi,.int .i64 no,.int .i64 tu,.int .i64 sl])) (vals 13) w1:=hd 13 (by decide) rfl;dsimp only at r13;clear hd;simp only[Lf,au,Act.put,aX,aW];obtain⟨g,e_13,hg,hbk⟩:=r13;have E13:=Lib.hid e_13;have hbk2:∃cs,cs.size=7∧aI w1 g 51 cs:=hbk.elim (fun b=>⟨_,rfl,b⟩) (fun b=>⟨_,rfl,b⟩);obtain⟨cs,hcs,hb⟩:=hbk2;have hrow:=Lh.row (Z:=#[.int .i64 0,.int .i64 0,.int .i64 0,.int .i64 0,.int .i64 0,.int .i64 0,.int .i64 0]) (V:=#[.int .i64 pe,.int .i64 ph,.int .i64 lo,.int .i64 hi,.int .i64 no,.int .i64 tu,.int .i64 sl]) hb hg;simp only[e_13];refine wpList_store_row rfl 51 _ _ rfl g #[.int .i64 pe,.int .i64 ph,.int .i64 lo,.int .i64 hi,.int .i64 no,.int .i64 tu,.int .i64 sl] rfl rfl 51 _ hb bF hcs (by simp[Value.oneCell']) ?_;clear hbk hb hcs e_13;have hrow:=Lib.hid hrow;go_wp2;exact⟨rfl,hrow.out.1,g,E13.out,hg,hrow.out.2⟩
        all_goals as_aux_lemma =>
         intro vals w1 hx hd;clear hd;simp only[Lf,au,Act.put,aX,aW];have d0:=ah hx.aG.low d0;have d1:=ah hx.aG.low d1;go_wp2;exact⟨rfl,hT.refl _,rfl⟩
       intro vals Vc hx hf;have v12:vals 12=.int .i64 er:=hf 12 (by omega);obtain⟨ge,v13,hg17,Ry⟩:∃g,vals 13=.pointer (some ⟨g,0,none⟩)∧Vb.heap.size≤g∧aI Vc g 51 #[.int .i64 pe,.int .i64 ph,.int .i64 lo,.int .i64 hi,.int .i64 no,.int .i64 tu,.int .i64 sl]:=hf 14 (by omega);have hy:=hx.aG.low;clear hf hx hg17 hT d0 d1;refine d_ 15 _ (by kernel_rfl) (by kernel_rfl) rfl ?_;simp only[Lf,au,Act.put,FR_];rw[v12,v13];clear v12 v13;have HX:=Lib.hid (Ext.trans HX.out hy);have HY:=Lib.hid (Ext.trans HY.out hy);have Rx:=Lib.hid (RA.bV Rx.out hy);have Ju:=Lib.hid (Ju.out.ext hy);have Hge:=Lib.hid Ry;clear hy Ry WA;go_upto_region 24 with (fail);have hT:=Rw Vc.heap.size 51 #[.int .i64 0,.int .i64 0,.int .i64 0,.int .i64 0,.int .i64 0,.int .i64 0,.int .i64 0] #[.int .i64 pe,.int .i64 ph,.int .i64 lo,.int .i64 hi,.int .i64 no,.int .i64 tu,.int .i64 sl];have d0:Vc.cell? ⟨gq,0,none⟩=some (.int .i64 k0):=Ju.out.cell 0;have d1:Vc.cell? ⟨gq,1,none⟩=some (.int .i64 k1):=Ju.out.cell 1;refine RB.aH hT 15 [some (.slice (some ⟨ga,0,none⟩) (n1+1) ka),some (.int .i64 (m:Int)),some (.pointer (some ⟨ga,m*21,none⟩)),some (.agg QX),some (.slice XA xn xc),some (.pointer (some ⟨gq,0,none⟩)),some (.int .i64 k0),some (.pointer (some ⟨gq,1,none⟩)),some (.int .i64 k1),some (.tuple #[.agg #[.int .i64 pe,.int .i64 ph,.int .i64 lo,.int .i64 hi,.int .i64 no,.int .i64 tu,.int .i64 sl],.int .i64 er]),some (.tuple #[.agg #[.int .i64 pe,.int .i64 ph,.int .i64 lo,.int .i64 hi,.int .i64 no,.int .i64 tu,.int .i64 sl],.int .i64 er]),some (.agg #[.int .i64 pe,.int .i64 ph,.int .i64 lo,.int .i64 hi,.int .i64 no,.int .i64 tu,.int .i64 sl]),some (.int .i64 er),none,none] [(13,.w fun v w1=>∃g,v=.pointer (some ⟨g,0,none⟩)∧Vc.heap.size≤g∧(aI w1 g 51 #[.int .i64 0,.int .i64 0,.int .i64 0,.int .i64 0,.int .i64 0,.int .i64 0,.int .i64 0]∨aI w1 g 51 #[.int .i64 pe,.int .i64 ph,.int .i64 lo,.int .i64 hi,.int .i64 no,.int .i64 tu,.int .i64 sl])),(14,.v fun vals v w1=>∃g,vals 13=.pointer (some ⟨g,0,none⟩)∧Vc.heap.size≤g∧aI w1 g 51 #[.int .i64 pe,.int .i64 ph,.int .i64 lo,.int .i64 hi,.int .i64 no,.int .i64 tu,.int .i64 sl])] ?_ ?_ ?_
       ·refine⟨?_,?_,trivial⟩
        ·intro v w1 w2 hr hx;obtain⟨g,h1,h2,h3⟩:=hr;exact⟨g,h1,h2,h3.elim (fun b=>hx.zero g h2 b) (fun b=>.inr (hx.val g h2 b))⟩
        ·exact⟨fun vals v w1 w2 hr hx=>(by obtain⟨g,h1,h2,h3⟩:=hr;exact⟨g,h1,h2,hx.val g h2 h3⟩),fun vals kC v w1 hv hr=>(by dsimp only at hr⊢;rw[←hv 13 (by kernel_rfl)];exact hr)⟩
       ·refine⟨?_,?_,?_,?x3,?_,?_,?_,?_,?_,?x9,?_,?_,?_,?x13,?x14,trivial⟩
        case x3 =>
         as_aux_lemma =>
         intro vals w1 hx hd;clear hd;simp only[Lf,au,Act.put,aX,aW];refine ay rfl 53 _ rfl ga (m*21) rfl QX QX.toList (by simp) _ (RA.bV Rx.out hx.aG.low) Tryz.underlying53 rfl (by rw[Array.length_toList,HZQ.out];exact aN) ?_;go_wp2;exact⟨rfl,hT.refl _,rfl⟩
        case x9 =>
         as_aux_lemma =>
         intro vals w1 hx hd;clear hd;simp only[Lf,au,Act.put,aX,aW];have hz9:=hx.aG.low.size;go_wp2_with fail;refine (Ai.out _ (Ext.trans HX.out hx.aG.low)).mono ?_;rintro e w2 ⟨rfl,hb2⟩;have hb3:=Lib.hid (Lh.ext (t:=51) (Z:=#[.int .i64 0,.int .i64 0,.int .i64 0,.int .i64 0,.int .i64 0,.int .i64 0,.int .i64 0]) (V:=#[.int .i64 pe,.int .i64 ph,.int .i64 lo,.int .i64 hi,.int .i64 no,.int .i64 tu,.int .i64 sl]) hb2 hz9);clear hb2;go_wp2;exact⟨rfl,hb3.out,rfl⟩
        case x13 =>
         as_aux_lemma =>
         intro vals w1 hx hd;clear hd;simp only[Lf,au,Act.put,aX,aW];have hz9:=hx.aG.low.size;go_wp2;exact⟨rfl,Lh.ext (aj (Below.refl _ _) _) hz9,_,rfl,hz9,.inl (aI.new _ _ _)⟩
        case x14 =>
         as_aux_lemma =>
         intro vals w1 hx hd;have r13:(fun v w1=>∃g,v=.pointer (some ⟨g,0,none⟩)∧Vc.heap.size≤g∧(aI w1 g 51 #[.int .i64 0,.int .i64 0,.int .i64 0,.int .i64 0,.int .i64 0,.int .i64 0,.int .i64 0]∨aI w1 g 51 #[.int .i64 pe,.int .i64 ph,.int .i64 lo,.int .i64 hi,.int .i64 no,.int .i64 tu,.int .i64 sl])) (vals 13) w1:=hd 13 (by decide) rfl;dsimp only at r13;clear hd;simp only[Lf,au,Act.put,aX,aW];obtain⟨g,e_13,hg,hbk⟩:=r13;have E13:=Lib.hid e_13;have hbk2:∃cs,cs.size=7∧aI w1 g 51 cs:=hbk.elim (fun b=>⟨_,rfl,b⟩) (fun b=>⟨_,rfl,b⟩);obtain⟨cs,hcs,hb⟩:=hbk2;have hrow:=Lh.row (Z:=#[.int .i64 0,.int .i64 0,.int .i64 0,.int .i64 0,.int .i64 0,.int .i64 0,.int .i64 0]) (V:=#[.int .i64 pe,.int .i64 ph,.int .i64 lo,.int .i64 hi,.int .i64 no,.int .i64 tu,.int .i64 sl]) hb hg;simp only[e_13];refine wpList_store_row rfl 51 _ _ rfl g #[.int .i64 pe,.int .i64 ph,.int .i64 lo,.int .i64 hi,.int .i64 no,.int .i64 tu,.int .i64 sl] rfl rfl 51 _ hb bF hcs (by simp[Value.oneCell']) ?_;clear hbk hb hcs e_13;have hrow:=Lib.hid hrow;go_wp2;exact⟨rfl,hrow.out.1,g,E13.out,hg,hrow.out.2⟩
        all_goals as_aux_lemma =>
         intro vals w1 hx hd;clear hd;simp only[Lf,au,Act.put,aX,aW];have d0:=ah hx.aG.low d0;have d1:=ah hx.aG.low d1;go_wp2;exact⟨rfl,hT.refl _,rfl⟩
       intro vals Vd hx hf;have v12:vals 12=.int .i64 er:=hf 12 (by omega);obtain⟨gf,v13,hg17,WO⟩:∃g,vals 13=.pointer (some ⟨g,0,none⟩)∧Vc.heap.size≤g∧aI Vd g 51 #[.int .i64 pe,.int .i64 ph,.int .i64 lo,.int .i64 hi,.int .i64 no,.int .i64 tu,.int .i64 sl]:=hf 14 (by omega);have hy:=hx.aG.low;clear hf hx hg17 hT d0 d1;refine d_ 15 _ (by kernel_rfl) (by kernel_rfl) rfl ?_;simp only[Lf,au,Act.put,FR_];rw[v12,v13];clear v12 v13;have HX:=Lib.hid (Ext.trans HX.out hy);have HY:=Lib.hid (Ext.trans HY.out hy)
       as_aux_lemma =>
        have Ry:=Hge.out.ext hy;have y0:Vd.cell? ⟨ge,0,none⟩=some (.int .i64 pe):=Ry.cell 0;have z0:Vd.cell? ⟨gf,0,none⟩=some (.int .i64 pe):=WO.cell 0;have y1:Vd.cell? ⟨ge,1,none⟩=some (.int .i64 ph):=Ry.cell 1;have z1:Vd.cell? ⟨gf,1,none⟩=some (.int .i64 ph):=WO.cell 1;have y2:Vd.cell? ⟨ge,2,none⟩=some (.int .i64 lo):=Ry.cell 2;have z2:Vd.cell? ⟨gf,2,none⟩=some (.int .i64 lo):=WO.cell 2;have y3:Vd.cell? ⟨ge,3,none⟩=some (.int .i64 hi):=Ry.cell 3;have z3:Vd.cell? ⟨gf,3,none⟩=some (.int .i64 hi):=WO.cell 3;have y4:Vd.cell? ⟨ge,4,none⟩=some (.int .i64 no):=Ry.cell 4;have z4:Vd.cell? ⟨gf,4,none⟩=some (.int .i64 no):=WO.cell 4;have y5:Vd.cell? ⟨ge,5,none⟩=some (.int .i64 tu):=Ry.cell 5;have z5:Vd.cell? ⟨gf,5,none⟩=some (.int .i64 tu):=WO.cell 5;have y6:Vd.cell? ⟨ge,6,none⟩=some (.int .i64 sl):=Ry.cell 6;have z6:Vd.cell? ⟨gf,6,none⟩=some (.int .i64 sl):=WO.cell 6;have hnq:∀w:World,(binOp .neq 51 (.agg #[.int .i64 pe,.int .i64 ph,.int .i64 lo,.int .i64 hi,.int .i64 no,.int .i64 tu,.int .i64 sl]) (.agg #[.int .i64 pe,.int .i64 ph,.int .i64 lo,.int .i64 hi,.int .i64 no,.int .i64 tu,.int .i64 sl])).run Tryz.prog w=.ok (.bool false) w:=fun w=>by have h:=TD ⟨pe,ph,lo,hi,no,tu,sl⟩ ⟨pe,ph,lo,hi,no,tu,sl⟩ w;rw[decide_eq_true rfl]at h;exact h
        have hee:(er==er)=true:=by simp
        clear hy Ry WO Hge Ai Rx Ju;go_wp2;go_roundw
        case rel=>exact⟨k+1,by omega,by go_num,HY.out⟩
        case measure=>simp[intOf];omega
      ·have hkz:¬(k:Int)<2:=by omega
       have HY:=Lib.hid (Ext.trans H9.out hY);have U6:=Lib.hid (Ext.trans U6.out hY);have JM:=Lib.hid (RA.bV JM.out hY);clear hY HJK H9;obtain⟨Va,WM⟩:∃V,V=wr:=⟨_,rfl⟩;rw[←WM]at HY U6 JM⊢;clear WM;have jp:=HJPV.out.ext HY.out;have js:=Y9.out.ext HY.out;have c0_:Va.cell? ⟨gp,0,none⟩=some (.int .i64 s0):=jp.cell 0;have c1_:Va.cell? ⟨gp,1,none⟩=some (.int .i64 zz):=jp.cell 1;have c2_:Va.cell? ⟨gs,0,none⟩=some (.int .i64 fz):=js.cell 0;have c3_:Va.cell? ⟨gs,1,none⟩=some (.int .i64 ez):=js.cell 1;have JL:aI (Va.alloc (.cells #[.int .i64 s0,.int .i64 zz,.int .i64 fz,.int .i64 ez] 32)) Va.heap.size 32 #[.int .i64 s0,.int .i64 zz,.int .i64 fz,.int .i64 ez]:=aI.new _ _ _;have hx:Ext Va (Va.alloc (.cells #[.int .i64 s0,.int .i64 zz,.int .i64 fz,.int .i64 ez] 32)):=aj (Below.refl _ _) _;go_wp2;generalize Va.heap.size=gl at JL⊢;generalize Va.alloc (.cells #[.int .i64 s0,.int .i64 zz,.int .i64 fz,.int .i64 ez] 32)=Vb at JL hx⊢;have HJL:=Lib.hid JL;clear jp js c0_ c1_ c2_ c3_ JL;have HY:=Lib.hid (Ext.trans HY.out hx);have U6:=Lib.hid (Ext.trans U6.out hx);have JM:=Lib.hid (RA.bV JM.out hx);clear hx;go_loopw [194] (fun i wr=>∃k:Nat,k≤2∧i=.int .i64 k∧Ext Vb wr) (fun i _=>2-(intOf i).toNat)
       case atStart=>exact⟨0,by omega,rfl,Below.refl _ _⟩
       case round =>
        obtain⟨k,hk,rfl,hZ⟩:=hrel;by_cases hk2:k<2
        ·have hkz:(k:Int)<2:=by omega
         have HX:=Lib.hid (Ext.trans HY.out hZ);have HZ:=Lib.hid hZ;obtain⟨k0,k1,d0,d1⟩:∃k0 k1,wr.cell? ⟨gl,k*2,none⟩=some (.int .i64 k0)∧wr.cell? ⟨gl,k*2+1,none⟩=some (.int .i64 k1):=by
          have hd:k=0∨k=1:=by omega
          have jk:=HJL.out.ext hZ;rcases hd with rfl | rfl
          ·exact⟨_,_,jk.cell 0,jk.cell 1⟩
          ·exact⟨_,_,jk.cell 2,jk.cell 3⟩
         obtain⟨Vc,hVc⟩:∃V,V=wr:=⟨_,rfl⟩;rw[←hVc]at HX HZ d0 d1⊢;clear hVc hZ;go_upto_region 31 with (fail);have JQ:aI (Vc.alloc (.cells #[.int .i64 k0,.int .i64 k1] 32)) Vc.heap.size 32 #[.int .i64 k0,.int .i64 k1]:=aI.new _ _ _;have hx:Ext Vc (Vc.alloc (.cells #[.int .i64 k0,.int .i64 k1] 32)):=aj (Below.refl _ _) _;generalize Vc.heap.size=gq at JQ⊢;generalize Vc.alloc (.cells #[.int .i64 k0,.int .i64 k1] 32)=Vd at JQ hx⊢;have HX:=Lib.hid (Ext.trans HX.out hx);have HZ:=Lib.hid (Ext.trans HZ.out hx);clear hx d0 d1;have Rz:=Lib.hid (RA.bV JM.out HZ.out);have Ju:=Lib.hid JQ;clear JQ;have hst:=fun W hx=>HST.out y QX k0 k1 W hx HQX.out;have hle:∀o,dY y X ⟨k0,k1⟩ xx=some o→o.length≤100000:=fun o h=>DY h;generalize dY y X ⟨k0,k1⟩ xx=R at hst hle;have CS:=Lib.hid (fun W hx=>(hst W hx).1);have HS2:=Lib.hid (fun W hx=>(hst W hx).2);have Y_:=Lib.hid hle;clear hst hle;obtain⟨er,her⟩:∃x,x=seE R:=⟨_,rfl⟩;have Za:=Lib.hid her;clear her;have d0:Vd.cell? ⟨gq,0,none⟩=some (.int .i64 k0):=Ju.out.cell 0;have d1:Vd.cell? ⟨gq,1,none⟩=some (.int .i64 k1):=Ju.out.cell 1;refine dL 13 (fun ix vals v w1=>match ix with | 0=>v=.slice (some ⟨ga,0,none⟩) (n1+1) ka | 1=>v=.int .i64 (m:Int) | 2=>v=.pointer (some ⟨ga,m*21,none⟩) | 3=>v=.agg QX | 4=>v=.slice XA xn xc | 5=>v=.agg #[.int .i64 k0,.int .i64 k1] | 6=>v=.int .i64 xx | 7=>∃A m d,v=.tuple #[.slice A m d,.int .i64 er]∧RA strCells 9 w1 w1.heap.size A m d (R.getD []) | 8=>∃A m d,v=.tuple #[.slice A m d,.int .i64 er]∧RA strCells 9 w1 w1.heap.size A m d (R.getD []) | 9=>∃A m d,v=.slice A m d∧RA strCells 9 w1 w1.heap.size A m d (R.getD []) | 10=>v=.int .i64 er | 11=>∃A m d,v=.slice A m d∧RA strCells 9 w1 w1.heap.size A m d (R.getD []) | _=>v=.int .i64 er) (by kernel_rfl) (by kernel_rfl) ?_ ?_ ?_ ?_
         ·intro ix vals v w1 w2 hi hr hx
          match ix,hr with
          |0,hr=>exact hr
          |1,hr=>exact hr
          |2,hr=>exact hr
          |3,hr=>exact hr
          |4,hr=>exact hr
          |5,hr=>exact hr
          |6,hr=>exact hr
          |7,hr=>obtain⟨A,m,d,h1,h2⟩:=hr;exact⟨A,m,d,h1,aB h2 hx⟩
          |8,hr=>obtain⟨A,m,d,h1,h2⟩:=hr;exact⟨A,m,d,h1,aB h2 hx⟩
          |9,hr=>obtain⟨A,m,d,h1,h2⟩:=hr;exact⟨A,m,d,h1,aB h2 hx⟩
          |10,hr=>exact hr
          |11,hr=>obtain⟨A,m,d,h1,h2⟩:=hr;exact⟨A,m,d,h1,aB h2 hx⟩
          |(kx+12),hr=>exact hr
         ·intro ix vals kC v w1 hi hv hr;exact hr
         ·refine lu [some 199,some 200,some 201,some 202,some 203,some 204,some 205,some 206,some 198,some 207,some 208,some 36,some 37] [(26,.slice (some ⟨ga,0,none⟩) (n1+1) ka),(27,.int .i64 (m:Int)),(25,.slice XA xn xc),(35,.pointer (some ⟨gq,0,none⟩)),(22,.int .i64 xx)] 306 (by kernel_rfl) (by kernel_rfl) ⟨by kernel_rfl,by kernel_rfl,by kernel_rfl,by kernel_rfl,by kernel_rfl,trivial⟩ ?_;refine⟨?_,?_,?_,?_,?_,?_,?_,?_,?_,?_,?_,?_,?_,trivial⟩
          ·intro vals w1 hx hd;refine .r [(26,.slice (some ⟨ga,0,none⟩) (n1+1) ka)] (Op.move (Operand.const (.slice (some ⟨ga,0,none⟩) (n1+1) ka))) 28 199 ⟨.out (by kernel_rfl) (by kernel_rfl),trivial⟩ ?_;clear hd;go_wp2;exact q_
          ·intro vals w1 hx hd;refine .r [(27,.int .i64 (m:Int))] (Op.move (Operand.const (.int .i64 (m:Int)))) 3 200 ⟨.out (by kernel_rfl) (by kernel_rfl),trivial⟩ ?_;clear hd;go_wp2;exact q_
          ·intro vals w1 hx hd;refine .r [(199,.slice (some ⟨ga,0,none⟩) (n1+1) ka),(200,.int .i64 (m:Int))] (Op.indexAddr 28 (Operand.const (.slice (some ⟨ga,0,none⟩) (n1+1) ka)) (Operand.const (.int .i64 (m:Int)))) 0 201 ⟨.inn 0 (by kernel_rfl) (hd 0 (by decide)),.inn 1 (by kernel_rfl) (hd 1 (by decide)),trivial⟩ ?_;clear hd;go_wp2;exact q_
          ·intro vals w1 hx hd;refine .r [(201,.pointer (some ⟨ga,m*21,none⟩))] (Op.load 53 (Operand.const (.pointer (some ⟨ga,m*21,none⟩)))) 53 202 ⟨.inn 2 (by kernel_rfl) (hd 2 (by decide)),trivial⟩ ?_;clear hd;refine ay rfl 53 _ rfl ga (m*21) rfl QX QX.toList (by simp) _ (RA.bV Rz.out hx.aG) Tryz.underlying53 rfl (by rw[Array.length_toList,HZQ.out];exact aN) ?_;go_wp2;exact q_
          ·intro vals w1 hx hd;refine .r [(25,.slice XA xn xc)] (Op.move (Operand.const (.slice XA xn xc))) 30 203 ⟨.out (by kernel_rfl) (by kernel_rfl),trivial⟩ ?_;clear hd;go_wp2;exact q_
          ·intro vals w1 hx hd;refine .r [(35,.pointer (some ⟨gq,0,none⟩))] (Op.load 32 (Operand.const (.pointer (some ⟨gq,0,none⟩)))) 32 204 ⟨.out (by kernel_rfl) (by kernel_rfl),trivial⟩ ?_;clear hd;have d0:=ah hx d0;have d1:=ah hx d1;go_wp2;exact q_
          ·intro vals w1 hx hd;refine .r [(22,.int .i64 xx)] (Op.move (Operand.const (.int .i64 xx))) 3 205 ⟨.out (by kernel_rfl) (by kernel_rfl),trivial⟩ ?_;clear hd;go_wp2;exact q_
          ·intro vals w1 hx hd;refine .r [(202,.agg QX),(203,.slice XA xn xc),(204,.agg #[.int .i64 k0,.int .i64 k1]),(205,.int .i64 xx)] (Op.call { callee:=Callee.value (Operand.func 27),args:=#[(Operand.const (.agg QX)),(Operand.const (.slice XA xn xc)),(Operand.const (.agg #[.int .i64 k0,.int .i64 k1])),(Operand.const (.int .i64 xx))],argTypes:=#[53,30,32,3] }) 84 206 ⟨.inn 3 (by kernel_rfl) (hd 3 (by decide)),.inn 4 (by kernel_rfl) (hd 4 (by decide)),.inn 5 (by kernel_rfl) (hd 5 (by decide)),.inn 6 (by kernel_rfl) (hd 6 (by decide)),trivial⟩ ?_;clear hd;go_wp2_with fail;refine (CS.out _ (Ext.trans HX.out hx.aG)).mono ?_;intro e w2 hm;obtain⟨A,m9,d9,rfl,hra,hb2⟩:=Lj hm Y_.out;rw[←Za.out];have hra:=Lib.hid hra;clear hm;go_wp2;exact⟨rfl,hb2,A,m9,d9,rfl,hra.out⟩
          ·intro vals w1 hx hd;have r7:(fun v w1=>∃A m d,v=.tuple #[.slice A m d,.int .i64 er]∧RA strCells 9 w1 w1.heap.size A m d (R.getD [])) (vals 7) w1:=hd 7 (by decide);dsimp only at r7;obtain⟨A,m9,d9,e_7,ho⟩:=r7;refine .r [(206,.tuple #[.slice A m9 d9,.int .i64 er])] (Op.move (Operand.const (.tuple #[.slice A m9 d9,.int .i64 er]))) 84 198 ⟨.inn 7 (by kernel_rfl) e_7,trivial⟩ ?_;clear hd e_7;have ho:=Lib.hid ho;go_wp2;exact⟨rfl,Ext.refl _,A,m9,d9,rfl,ho.out⟩
          ·intro vals w1 hx hd;have r8:(fun v w1=>∃A m d,v=.tuple #[.slice A m d,.int .i64 er]∧RA strCells 9 w1 w1.heap.size A m d (R.getD [])) (vals 8) w1:=hd 8 (by decide);dsimp only at r8;obtain⟨A,m9,d9,e_8,ho⟩:=r8;refine .r [(198,.tuple #[.slice A m9 d9,.int .i64 er])] (Op.extract (Operand.const (.tuple #[.slice A m9 d9,.int .i64 er])) 0) 83 207 ⟨.inn 8 (by kernel_rfl) e_8,trivial⟩ ?_;clear hd e_8;have ho:=Lib.hid ho;go_wp2;exact⟨rfl,Ext.refl _,A,m9,d9,rfl,ho.out⟩
          ·intro vals w1 hx hd;have r8:(fun v w1=>∃A m d,v=.tuple #[.slice A m d,.int .i64 er]∧RA strCells 9 w1 w1.heap.size A m d (R.getD [])) (vals 8) w1:=hd 8 (by decide);dsimp only at r8;obtain⟨A,m9,d9,e_8,ho⟩:=r8;refine .r [(198,.tuple #[.slice A m9 d9,.int .i64 er])] (Op.extract (Operand.const (.tuple #[.slice A m9 d9,.int .i64 er])) 1) 41 208 ⟨.inn 8 (by kernel_rfl) e_8,trivial⟩ ?_;clear hd e_8;clear ho;go_wp2;exact q_
          ·intro vals w1 hx hd;have r9:(fun v w1=>∃A m d,v=.slice A m d∧RA strCells 9 w1 w1.heap.size A m d (R.getD [])) (vals 9) w1:=hd 9 (by decide);dsimp only at r9;obtain⟨A,m9,d9,e_9,ho⟩:=r9;refine .r [(207,.slice A m9 d9)] (Op.assign (Operand.const (.slice A m9 d9))) 83 36 ⟨.inn 9 (by kernel_rfl) e_9,trivial⟩ ?_;clear hd e_9;have ho:=Lib.hid ho;go_wp2;exact⟨rfl,Ext.refl _,A,m9,d9,rfl,ho.out⟩
          ·intro vals w1 hx hd;refine .r [(208,.int .i64 er)] (Op.assign (Operand.const (.int .i64 er))) 41 37 ⟨.inn 10 (by kernel_rfl) (hd 10 (by decide)),trivial⟩ ?_;clear hd;go_wp2;exact q_
         intro vals Ve hy hf;obtain⟨PA31,pm31,pd31,v11,hra⟩:∃A m d,vals 11=.slice A m d∧RA strCells 9 Ve Ve.heap.size A m d (R.getD []):=hf 11 (by omega);have v12:vals 12=.int .i64 er:=hf 12 (by omega);have hy:=hy.aG;clear hf d0 d1;refine dJ (by kernel_rfl) ?_;simp only[Lf,au,Act.put,FR_];rw[v11,v12];clear v11 v12;have HX:=Lib.hid (Ext.trans HX.out hy);have HZ:=Lib.hid (Ext.trans HZ.out hy);have HA1:=Lib.hid hra;have Rz:=Lib.hid (RA.bV Rz.out hy);have Ju:=Lib.hid (Ju.out.ext hy);clear hra hy CS;go_upto_region 32 with (fail);have d0:Ve.cell? ⟨gq,0,none⟩=some (.int .i64 k0):=Ju.out.cell 0;have d1:Ve.cell? ⟨gq,1,none⟩=some (.int .i64 k1):=Ju.out.cell 1;refine dL 13 (fun ix vals v w1=>match ix with | 0=>v=.slice (some ⟨ga,0,none⟩) (n1+1) ka | 1=>v=.int .i64 (m:Int) | 2=>v=.pointer (some ⟨ga,m*21,none⟩) | 3=>v=.agg QX | 4=>v=.slice XA xn xc | 5=>v=.agg #[.int .i64 k0,.int .i64 k1] | 6=>v=.int .i64 xx | 7=>∃A m d,v=.tuple #[.slice A m d,.int .i64 er]∧RA strCells 9 w1 w1.heap.size A m d (R.getD []) | 8=>∃A m d,v=.tuple #[.slice A m d,.int .i64 er]∧RA strCells 9 w1 w1.heap.size A m d (R.getD []) | 9=>∃A m d,v=.slice A m d∧RA strCells 9 w1 w1.heap.size A m d (R.getD []) | 10=>v=.int .i64 er | 11=>∃A m d,v=.slice A m d∧RA strCells 9 w1 w1.heap.size A m d (R.getD []) | _=>v=.int .i64 er) (by kernel_rfl) (by kernel_rfl) ?_ ?_ ?_ ?_
         ·intro ix vals v w1 w2 hi hr hx
          match ix,hr with
          |0,hr=>exact hr
          |1,hr=>exact hr
          |2,hr=>exact hr
          |3,hr=>exact hr
          |4,hr=>exact hr
          |5,hr=>exact hr
          |6,hr=>exact hr
          |7,hr=>obtain⟨A,m,d,h1,h2⟩:=hr;exact⟨A,m,d,h1,aB h2 hx⟩
          |8,hr=>obtain⟨A,m,d,h1,h2⟩:=hr;exact⟨A,m,d,h1,aB h2 hx⟩
          |9,hr=>obtain⟨A,m,d,h1,h2⟩:=hr;exact⟨A,m,d,h1,aB h2 hx⟩
          |10,hr=>exact hr
          |11,hr=>obtain⟨A,m,d,h1,h2⟩:=hr;exact⟨A,m,d,h1,aB h2 hx⟩
          |(kx+12),hr=>exact hr
         ·intro ix vals kC v w1 hi hv hr;exact hr
         ·refine lu [some 210,some 211,some 212,some 213,some 214,some 215,some 216,some 217,some 209,some 218,some 219,some 38,some 39] [(26,.slice (some ⟨ga,0,none⟩) (n1+1) ka),(27,.int .i64 (m:Int)),(25,.slice XA xn xc),(35,.pointer (some ⟨gq,0,none⟩)),(22,.int .i64 xx)] 306 (by kernel_rfl) (by kernel_rfl) ⟨by kernel_rfl,by kernel_rfl,by kernel_rfl,by kernel_rfl,by kernel_rfl,trivial⟩ ?_;refine⟨?_,?_,?_,?_,?_,?_,?_,?_,?_,?_,?_,?_,?_,trivial⟩
          ·intro vals w1 hx hd;refine .r [(26,.slice (some ⟨ga,0,none⟩) (n1+1) ka)] (Op.move (Operand.const (.slice (some ⟨ga,0,none⟩) (n1+1) ka))) 28 210 ⟨.out (by kernel_rfl) (by kernel_rfl),trivial⟩ ?_;clear hd;go_wp2;exact q_
          ·intro vals w1 hx hd;refine .r [(27,.int .i64 (m:Int))] (Op.move (Operand.const (.int .i64 (m:Int)))) 3 211 ⟨.out (by kernel_rfl) (by kernel_rfl),trivial⟩ ?_;clear hd;go_wp2;exact q_
          ·intro vals w1 hx hd;refine .r [(210,.slice (some ⟨ga,0,none⟩) (n1+1) ka),(211,.int .i64 (m:Int))] (Op.indexAddr 28 (Operand.const (.slice (some ⟨ga,0,none⟩) (n1+1) ka)) (Operand.const (.int .i64 (m:Int)))) 0 212 ⟨.inn 0 (by kernel_rfl) (hd 0 (by decide)),.inn 1 (by kernel_rfl) (hd 1 (by decide)),trivial⟩ ?_;clear hd;go_wp2;exact q_
          ·intro vals w1 hx hd;refine .r [(212,.pointer (some ⟨ga,m*21,none⟩))] (Op.load 53 (Operand.const (.pointer (some ⟨ga,m*21,none⟩)))) 53 213 ⟨.inn 2 (by kernel_rfl) (hd 2 (by decide)),trivial⟩ ?_;clear hd;refine ay rfl 53 _ rfl ga (m*21) rfl QX QX.toList (by simp) _ (RA.bV Rz.out hx.aG) Tryz.underlying53 rfl (by rw[Array.length_toList,HZQ.out];exact aN) ?_;go_wp2;exact q_
          ·intro vals w1 hx hd;refine .r [(25,.slice XA xn xc)] (Op.move (Operand.const (.slice XA xn xc))) 30 214 ⟨.out (by kernel_rfl) (by kernel_rfl),trivial⟩ ?_;clear hd;go_wp2;exact q_
          ·intro vals w1 hx hd;refine .r [(35,.pointer (some ⟨gq,0,none⟩))] (Op.load 32 (Operand.const (.pointer (some ⟨gq,0,none⟩)))) 32 215 ⟨.out (by kernel_rfl) (by kernel_rfl),trivial⟩ ?_;clear hd;have d0:=ah hx d0;have d1:=ah hx d1;go_wp2;exact q_
          ·intro vals w1 hx hd;refine .r [(22,.int .i64 xx)] (Op.move (Operand.const (.int .i64 xx))) 3 216 ⟨.out (by kernel_rfl) (by kernel_rfl),trivial⟩ ?_;clear hd;go_wp2;exact q_
          ·intro vals w1 hx hd;refine .r [(213,.agg QX),(214,.slice XA xn xc),(215,.agg #[.int .i64 k0,.int .i64 k1]),(216,.int .i64 xx)] (Op.call { callee:=Callee.value (Operand.func 28),args:=#[(Operand.const (.agg QX)),(Operand.const (.slice XA xn xc)),(Operand.const (.agg #[.int .i64 k0,.int .i64 k1])),(Operand.const (.int .i64 xx))],argTypes:=#[53,30,32,3] }) 84 217 ⟨.inn 3 (by kernel_rfl) (hd 3 (by decide)),.inn 4 (by kernel_rfl) (hd 4 (by decide)),.inn 5 (by kernel_rfl) (hd 5 (by decide)),.inn 6 (by kernel_rfl) (hd 6 (by decide)),trivial⟩ ?_;clear hd;go_wp2_with fail;refine (HS2.out _ (Ext.trans HX.out hx.aG)).mono ?_;intro e w2 hm;obtain⟨A,m9,d9,rfl,hra,hb2⟩:=Lj hm Y_.out;rw[←Za.out];have hra:=Lib.hid hra;clear hm;go_wp2;exact⟨rfl,hb2,A,m9,d9,rfl,hra.out⟩
          ·intro vals w1 hx hd;have r7:(fun v w1=>∃A m d,v=.tuple #[.slice A m d,.int .i64 er]∧RA strCells 9 w1 w1.heap.size A m d (R.getD [])) (vals 7) w1:=hd 7 (by decide);dsimp only at r7;obtain⟨A,m9,d9,e_7,ho⟩:=r7;refine .r [(217,.tuple #[.slice A m9 d9,.int .i64 er])] (Op.move (Operand.const (.tuple #[.slice A m9 d9,.int .i64 er]))) 84 209 ⟨.inn 7 (by kernel_rfl) e_7,trivial⟩ ?_;clear hd e_7;have ho:=Lib.hid ho;go_wp2;exact⟨rfl,Ext.refl _,A,m9,d9,rfl,ho.out⟩
          ·intro vals w1 hx hd;have r8:(fun v w1=>∃A m d,v=.tuple #[.slice A m d,.int .i64 er]∧RA strCells 9 w1 w1.heap.size A m d (R.getD [])) (vals 8) w1:=hd 8 (by decide);dsimp only at r8;obtain⟨A,m9,d9,e_8,ho⟩:=r8;refine .r [(209,.tuple #[.slice A m9 d9,.int .i64 er])] (Op.extract (Operand.const (.tuple #[.slice A m9 d9,.int .i64 er])) 0) 83 218 ⟨.inn 8 (by kernel_rfl) e_8,trivial⟩ ?_;clear hd e_8;have ho:=Lib.hid ho;go_wp2;exact⟨rfl,Ext.refl _,A,m9,d9,rfl,ho.out⟩
          ·intro vals w1 hx hd;have r8:(fun v w1=>∃A m d,v=.tuple #[.slice A m d,.int .i64 er]∧RA strCells 9 w1 w1.heap.size A m d (R.getD [])) (vals 8) w1:=hd 8 (by decide);dsimp only at r8;obtain⟨A,m9,d9,e_8,ho⟩:=r8;refine .r [(209,.tuple #[.slice A m9 d9,.int .i64 er])] (Op.extract (Operand.const (.tuple #[.slice A m9 d9,.int .i64 er])) 1) 41 219 ⟨.inn 8 (by kernel_rfl) e_8,trivial⟩ ?_;clear hd e_8;clear ho;go_wp2;exact q_
          ·intro vals w1 hx hd;have r9:(fun v w1=>∃A m d,v=.slice A m d∧RA strCells 9 w1 w1.heap.size A m d (R.getD [])) (vals 9) w1:=hd 9 (by decide);dsimp only at r9;obtain⟨A,m9,d9,e_9,ho⟩:=r9;refine .r [(218,.slice A m9 d9)] (Op.assign (Operand.const (.slice A m9 d9))) 83 38 ⟨.inn 9 (by kernel_rfl) e_9,trivial⟩ ?_;clear hd e_9;have ho:=Lib.hid ho;go_wp2;exact⟨rfl,Ext.refl _,A,m9,d9,rfl,ho.out⟩
          ·intro vals w1 hx hd;refine .r [(219,.int .i64 er)] (Op.assign (Operand.const (.int .i64 er))) 41 39 ⟨.inn 10 (by kernel_rfl) (hd 10 (by decide)),trivial⟩ ?_;clear hd;go_wp2;exact q_
         intro vals Vf hy hf;obtain⟨PA32,pm32,pd32,v11,hra⟩:∃A m d,vals 11=.slice A m d∧RA strCells 9 Vf Vf.heap.size A m d (R.getD []):=hf 11 (by omega);have v12:vals 12=.int .i64 er:=hf 12 (by omega);have hy:=hy.aG;clear hf d0 d1;refine dJ (by kernel_rfl) ?_;simp only[Lf,au,Act.put,FR_];rw[v11,v12];clear v11 v12;have HX:=Lib.hid (Ext.trans HX.out hy);have HZ:=Lib.hid (Ext.trans HZ.out hy)
         as_aux_lemma =>
          have hsm:=wE PA31 PA32 pm31 pm32 pd31 pd32 _ _ Vf (aB HA1.out hy) hra;rw[decide_eq_true rfl]at hsm;have D9:=Lib.hid hsm;have hee:(er==er)=true:=by simp
          clear hsm hra hy HA1 Rz Ju HS2 Za Y_;go_wp2_with fail;refine D9.out.mono ?_;rintro e Vg ⟨rfl,hy⟩;have HZ:=Lib.hid (Ext.trans HZ.out hy);clear hy D9;go_wp2;go_roundw
          case rel=>exact⟨k+1,by omega,by go_num,HZ.out⟩
          case measure=>simp[intOf];omega
        ·have hkz:¬(k:Int)<2:=by omega
         have HZ:=Lib.hid (Ext.trans U6.out hZ);clear hZ;go_wp2;go_roundw
         case rel=>exact⟨m+1,by omega,by go_num,HZ.out⟩
         case measure=>simp[intOf];omega
    ·have hmz:¬(m:Int)<(n1:Int)+1:=by omega
     have hmz2:¬(m:Int)<((n1+1:Nat):Int):=by omega
     have HY:=Lib.hid (Ext.trans h7 hY);clear hY h7 XQ HST CU;obtain⟨Va,WM⟩:∃V,V=wr:=⟨_,rfl⟩;rw[←WM]at HY⊢;clear WM;have jp:=HJPV.out.ext HY.out;have js:=Y9.out.ext HY.out;have c0_:Va.cell? ⟨gp,0,none⟩=some (.int .i64 s0):=jp.cell 0;have c1_:Va.cell? ⟨gp,1,none⟩=some (.int .i64 zz):=jp.cell 1;have c2_:Va.cell? ⟨gs,0,none⟩=some (.int .i64 fz):=js.cell 0;have c3_:Va.cell? ⟨gs,1,none⟩=some (.int .i64 ez):=js.cell 1;have JL:aI (Va.alloc (.cells #[.int .i64 s0,.int .i64 zz,.int .i64 fz,.int .i64 ez] 32)) Va.heap.size 32 #[.int .i64 s0,.int .i64 zz,.int .i64 fz,.int .i64 ez]:=aI.new _ _ _;have hx:Ext Va (Va.alloc (.cells #[.int .i64 s0,.int .i64 zz,.int .i64 fz,.int .i64 ez] 32)):=aj (Below.refl _ _) _;go_wp2;generalize Va.heap.size=gl at JL⊢;generalize Va.alloc (.cells #[.int .i64 s0,.int .i64 zz,.int .i64 fz,.int .i64 ez] 32)=Vb at JL hx⊢;have HJL:=Lib.hid JL;clear jp js c0_ c1_ c2_ c3_ JL;have HY:=Lib.hid (Ext.trans HY.out hx);clear hx;go_loopw [234] (fun i wr=>∃k:Nat,k≤2∧i=.int .i64 k∧Ext Vb wr) (fun i _=>2-(intOf i).toNat)
     case atStart=>exact⟨0,by omega,rfl,Below.refl _ _⟩
     case round=>as_aux_lemma =>
      obtain⟨k,hk,rfl,hZ⟩:=hrel;by_cases hk2:k<2
      ·have hkz:(k:Int)<2:=by omega
       have HX:=Lib.hid (Ext.trans HY.out hZ);have HZ:=Lib.hid hZ;obtain⟨k0,k1,d0,d1⟩:∃k0 k1,wr.cell? ⟨gl,k*2,none⟩=some (.int .i64 k0)∧wr.cell? ⟨gl,k*2+1,none⟩=some (.int .i64 k1):=by
        have hd:k=0∨k=1:=by omega
        have jk:=HJL.out.ext hZ;rcases hd with rfl | rfl
        ·exact⟨_,_,jk.cell 0,jk.cell 1⟩
        ·exact⟨_,_,jk.cell 2,jk.cell 3⟩
       obtain⟨Vc,hVc⟩:∃V,V=wr:=⟨_,rfl⟩;rw[←hVc]at HX HZ d0 d1⊢;clear hVc hZ;go_upto_region 39 with (fail);have JQ:aI (Vc.alloc (.cells #[.int .i64 k0,.int .i64 k1] 32)) Vc.heap.size 32 #[.int .i64 k0,.int .i64 k1]:=aI.new _ _ _;have hx:Ext Vc (Vc.alloc (.cells #[.int .i64 k0,.int .i64 k1] 32)):=aj (Below.refl _ _) _;generalize Vc.heap.size=gq at JQ⊢;generalize Vc.alloc (.cells #[.int .i64 k0,.int .i64 k1] 32)=Vd at JQ hx⊢;have HX:=Lib.hid (Ext.trans HX.out hx);have HZ:=Lib.hid (Ext.trans HZ.out hx);clear hx d0 d1;have hpa:=HPA.out k0 k1;have hch:=ZN.out k0 k1;have hle:∀o,dK S ST X ⟨k0,k1⟩ xx=some o→o.length≤64:=fun o h=>jy h;generalize dK S ST X ⟨k0,k1⟩ xx=R at hpa hle;generalize jo S ST X ⟨k0,k1⟩ xx yy=RC at hch;have HP_1:=Lib.hid (fun W hx=>(hpa W hx).1);have HP_2:=Lib.hid (fun W hx=>(hpa W hx).2);have HC_1:=Lib.hid (fun W hx=>(hch W hx).1);have HC_2:=Lib.hid (fun W hx=>(hch W hx).2);have Y_:=Lib.hid hle;clear hpa hch hle;obtain⟨er,her⟩:∃x,x=epE R:=⟨_,rfl⟩;have Za:=Lib.hid her;obtain⟨ec,hec⟩:∃x,x=chE6 RC:=⟨_,rfl⟩;have HEC:=Lib.hid hec;clear her hec;have d0:Vd.cell? ⟨gq,0,none⟩=some (.int .i64 k0):=JQ.cell 0;have d1:Vd.cell? ⟨gq,1,none⟩=some (.int .i64 k1):=JQ.cell 1;go_wp2_with fail;refine (HP_1.out _ HX.out).mono ?_;intro e Ve hm;obtain⟨PA1,pm1,pd1,rfl,Sm,-,hx⟩:=K_ hm Y_.out;rw[←Za.out];have HX:=Lib.hid (Ext.trans HX.out hx);have HZ:=Lib.hid (Ext.trans HZ.out hx);clear hm d0 d1 HP_1;have JQ:=JQ.ext hx;clear hx;have d0:Ve.cell? ⟨gq,0,none⟩=some (.int .i64 k0):=JQ.cell 0;have d1:Ve.cell? ⟨gq,1,none⟩=some (.int .i64 k1):=JQ.cell 1;go_wp2_with fail;refine (HP_2.out _ HX.out).mono ?_;intro e Vf hm;obtain⟨PA2,pm2,pd2,rfl,WQ,-,hx⟩:=K_ hm Y_.out;rw[←Za.out];have HX:=Lib.hid (Ext.trans HX.out hx);have HZ:=Lib.hid (Ext.trans HZ.out hx);clear hm d0 d1 HP_2;have JQ:=JQ.ext hx;have Sm:=aB Sm hx;clear hx;have d0:Vf.cell? ⟨gq,0,none⟩=some (.int .i64 k0):=JQ.cell 0;have d1:Vf.cell? ⟨gq,1,none⟩=some (.int .i64 k1):=JQ.cell 1;go_wp2_with fail;refine (HC_1.out _ HX.out).mono ?_;intro e Vg hm;obtain⟨PA3,pm3,pd3,QA3,qm3,qd3,rfl,WR,Sr,hx⟩:=Gu hm;rw[←HEC.out];have HX:=Lib.hid (Ext.trans HX.out hx);have HZ:=Lib.hid (Ext.trans HZ.out hx);clear hm d0 d1 HC_1;have JQ:=JQ.ext hx;have Sm:=aB Sm hx;have WQ:=aB WQ hx;clear hx;have d0:Vg.cell? ⟨gq,0,none⟩=some (.int .i64 k0):=JQ.cell 0;have d1:Vg.cell? ⟨gq,1,none⟩=some (.int .i64 k1):=JQ.cell 1;go_wp2_with fail;refine (HC_2.out _ HX.out).mono ?_;intro e Vh hm;obtain⟨PA4,pm4,pd4,QA4,qm4,qd4,rfl,Zz,WS,hx⟩:=Gu hm;rw[←HEC.out];have HX:=Lib.hid (Ext.trans HX.out hx);have HZ:=Lib.hid (Ext.trans HZ.out hx);clear hm d0 d1 HC_2;have JQ:=JQ.ext hx;have Sm:=aB Sm hx;have WQ:=aB WQ hx;have WR:=aB WR hx;have Sr:=aB Sr hx;clear hx;have hee:(er==er)=true:=by simp
       have hec:(ec==ec)=true:=by simp
       clear JQ;have hsm:=iV PA1 PA2 pm1 pm2 pd1 pd2 _ _ Vh Sm WQ;rw[decide_eq_true rfl]at hsm;have D9:=Lib.hid hsm;clear hsm;go_wp2_with fail;refine D9.out.mono ?_;rintro e Vi ⟨rfl,hx⟩;have HZ:=Lib.hid (Ext.trans HZ.out hx);clear D9;have Sm:=aB Sm hx;have WQ:=aB WQ hx;have WR:=aB WR hx;have Sr:=aB Sr hx;have Zz:=aB Zz hx;have WS:=aB WS hx;clear hx;clear Sm WQ;have hsm:=iV PA3 PA4 pm3 pm4 pd3 pd4 _ _ Vi WR Zz;rw[decide_eq_true rfl]at hsm;have D9:=Lib.hid hsm;clear hsm;go_wp2_with fail;refine D9.out.mono ?_;rintro e Vj ⟨rfl,hx⟩;have HZ:=Lib.hid (Ext.trans HZ.out hx);clear D9;have WR:=aB WR hx;have Sr:=aB Sr hx;have Zz:=aB Zz hx;have WS:=aB WS hx;clear hx;clear WR Zz;have hsm:=iV QA3 QA4 qm3 qm4 qd3 qd4 _ _ Vj Sr WS;rw[decide_eq_true rfl]at hsm;have D9:=Lib.hid hsm;clear hsm;go_wp2_with fail;refine D9.out.mono ?_;rintro e Vk ⟨rfl,hx⟩;have HZ:=Lib.hid (Ext.trans HZ.out hx);clear D9;have Sr:=aB Sr hx;have WS:=aB WS hx;clear hx;clear Sr WS;clear Za HEC Y_ HX;go_wp2;go_roundw
       case rel=>exact⟨k+1,by omega,by go_num,HZ.out⟩
       case measure=>simp[intOf];omega
      ·have hkz:¬(k:Int)<2:=by omega
       have HZ:=Lib.hid (Ext.trans CV.out (Ext.trans HY.out hZ));clear hZ;go_wp2;go_roundw
       case rel=>exact⟨j+1,by omega,by go_num,HZ.out⟩
       case measure=>simp[intOf];omega
  ·have hjz:¬(j:Int)<2:=by omega
   have HE:=Lib.hid (Ext.trans HB.out hY);clear hY;go_wp2;go_ret;exact⟨rfl,HE.out⟩
end Go.Proofs.YtjidhhfabfnhnaaGreat
