/- An option whose exposure is bad. -/
import Derived.Test.YtjidhhfabfnhnaaGreatT02
import Derived.Test.YtjidhhfabfnhnaaGreatT21
namespace Go.Proofs.YtjidhhfabfnhnaaGreat
open Go.RowKit Go.Shelf
attribute [local go_sem] Oper.semAt_some
structure wF where
 id:Int
 ord:Int
 zx:Int
 sat:Int
 a:Int
 b:Int
 look:Int
 size:Int
 slots:List xu
def xZ (o:wF) (LA:Option Addr) (ln lc:Nat):Array Value:=#[.int .i64 o.id,.int .i64 o.ord,.int .i64 o.zx,.int .i64 o.sat,.int .i64 o.a,.int .i64 o.b,.int .i64 o.look,.int .i64 o.size,.slice LA ln lc]
def lU (sats:List St) (l:List fE) (o:wF) (old now:List bP) (kn:Int):Option (List Int×List Int):=match sats.find? (fun x=>x.id==o.sat)with
 |none=>none
 |some x=>match eX (fK x l kn) o.a (o.b-o.a).toNat with
  |[]=>none
  |s::_=>if s.sp=⟨o.a,o.b⟩ then (match iC s.eY o.a o.b o.look with
   |none=>none
   |some r=>if o.slots.any (ni old now)=true then none else some r) else none
def FW (r:Option (List Int×List Int)) (w:World) (e:Ending) (w':World):Prop:=match r with
 |none=>(∃B1 m1 d1 B2 m2 d2,e=.returned (.tuple #[.agg #[.slice B1 m1 d1,.slice B2 m2 d2],.bool false]))∧Ext w w'
 |some (S,C)=>(∃v,e=.returned (.tuple #[v,.bool true])∧Bo w' w.heap.size v S C)∧Ext w w'
theorem TJ (p:St→Bool):∀(l:List St) (k:Int),0≤k→(l.find? p=none∧gK p l k = -1)∨∃(i:Nat) (h:i<l.length),l.find? p=some l[i]∧gK p l k=k+i:=by
 intro l
 induction l with
 |nil=>intro k _;exact .inl ⟨rfl,rfl⟩
 |cons x r ih =>
  intro k hk;rw[gK,List.find?_cons];by_cases hx:p x=true
  ·rw[if_pos hx,hx];exact .inr ⟨0,by simp,by simp,by omega⟩
  ·have hf:p x=false:=by simpa using hx
   rw[if_neg hx,hf];rcases ih (k+1) (by omega)with ⟨h1,h2⟩ | ⟨i,h,h1,h2⟩
   ·exact .inl ⟨by simpa using h1,h2⟩
   ·exact .inr ⟨i+1,by simpa using h,by simpa using h1,by rw[h2];omega⟩
structure SB (w:World) (g8 g9 g10 g12:Nat) (O X Y:Array Value) (W:World):Prop where
 k8:aG W g8 49 O
 k9:aG W g9 36 X
 k10:aG W g10 36 Y
 k12:aG W g12 60 #[.slice none 0 0,.slice none 0 0]
 below:Ext w W
theorem SB.ext {w W W':World} {g8 g9 g10 g12:Nat} {O X Y:Array Value} (h:SB w g8 g9 g10 g12 O X Y W) (hx:Ext W W'):SB w g8 g9 g10 g12 O X Y W' :=
 ⟨h.k8.ext hx,h.k9.ext hx,h.k10.ext hx,h.k12.ext hx,Ext.trans h.below hx⟩
theorem SB.kept {B:Nat} {w W W':World} {g8 g9 g10 g12:Nat} {O X Y:Array Value} {row:Option Nat} (h:SB w g8 g9 g10 g12 O X Y W) (hw:w.heap.size≤B) (hgr:W.grownBy W' row) (hr:∀r,row=some r→B≤r∧∃o:Obj,W.heap[r]?=some o∧o.isCells=false):SB w g8 g9 g10 g12 O X Y W' :=
 ⟨bF h.k8 hgr hr,bF h.k9 hgr hr,bF h.k10 hgr hr,bF h.k12 hgr hr,h.below.grown hgr h.below.size (fun k e=>Nat.le_trans hw (hr k e).1)⟩
def SBx (w:World) (g8 g9 g10 g12 g15 B0:Nat) (O X Y:Array Value) (c:Code) (pre:List nG) (W:World):Prop:=c=.exit 0∧SB w g8 g9 g10 g12 O X Y W∧B0≤W.heap.size∧∃x:nG,pre=[x]∧aG W g15 96 (strCells x.1).toArray
def SB0 (w:World) (g8 g9 g10 g12 g15 B0:Nat) (O X Y:Array Value) (pre:List nG) (W:World):Prop:=pre=[]∧SB w g8 g9 g10 g12 O X Y W∧B0≤W.heap.size∧aG W g15 96 #[.int .i64 0,.int .i64 0,.int .i64 0,.int .i64 0,.int .i64 0,.int .i64 0,.int .i64 0,.int .i64 0,.int .i64 0]
structure T12 (g:Nat) (V:Array Value) (X Y:World):Prop where
 gr:X.grownBy Y (some g)
 at_:Y.heap[g]?=X.heap[g]?∨aG Y g 60 V
theorem TK (g:Nat) (V:Array Value):RB.Tr (T12 g V):=⟨fun w=>⟨iQ w _,.inl rfl⟩,fun h k=>⟨bD h.gr k.gr,by
 rcases k.at_ with e | e
 ·rcases h.at_ with e2 | e2
  ·exact .inl (e.trans e2)
  ·exact .inr (e.trans e2)
 ·exact .inr e⟩⟩
theorem T12.aH {g:Nat} {V:Array Value} {X Y:World} (h:T12 g V X.drew Y):T12 g V X Y:=⟨⟨h.gr.os,h.gr.tape,h.gr.output,h.gr.size,h.gr.block⟩,h.at_⟩
theorem T12.ext {g:Nat} {V:Array Value} {X Y:World} (h:Ext X Y) (hg:g<X.heap.size):T12 g V X Y:=⟨dM h,.inl (h.block g hg)⟩
theorem T12.Y4 {g:Nat} {V:Array Value} {X Y:World} (h:T12 g V X Y) (k:aG X g 60 V):aG Y g 60 V:=by
 rcases h.at_ with e | e
 ·exact e.trans k
 ·exact e
theorem T12.two {g:Nat} {V:Array Value} {X Y:World} (h:T12 g V X Y) (hV:V.size=2) {C:Array Value} (hC:C.size=2) (k:aG X g 60 C):∃cs,cs.size=2∧aG Y g 60 cs:=by
 rcases h.at_ with e | e
 ·exact⟨C,hC,e.trans k⟩
 ·exact⟨V,hV,e⟩
theorem T12.row {g:Nat} {V cs:Array Value} {X:World} (k:aG X g 60 cs):T12 g V X (X.setRow g V)∧aG (X.setRow g V) g 60 V:=⟨⟨sK X g V,.inr (k.row V)⟩,k.row V⟩
theorem Xm {w:World} {g8 g9 g10 g12 g15 B0:Nat} {O X Y:Array Value} (h:w.heap.size≤B0):OwnFrom B0 (SB0 w g8 g9 g10 g12 g15 B0 O X Y):=by
 rintro pre A B row ⟨h1,h2,h3,h4⟩ hgr hr;exact⟨h1,h2.kept h hgr hr,Nat.le_trans h3 hgr.size,bF h4 hgr hr⟩
theorem Xn {w:World} {g8 g9 g10 g12 g15 B0:Nat} {O X Y:Array Value} (h:w.heap.size≤B0) (c:Code):OwnFrom B0 (SBx w g8 g9 g10 g12 g15 B0 O X Y c):=by
 rintro pre A B row ⟨h1,h2,h3,x,h4,h5⟩ hgr hr;exact⟨h1,h2.kept h hgr hr,Nat.le_trans h3 hgr.size,x,h4,bF h5 hgr hr⟩
theorem Xo {w:World} {g:Nat} (s:Str) (h:aG w g 96 #[.int .i64 0,.int .i64 0,.int .i64 0,.int .i64 0,.int .i64 0,.int .i64 0,.int .i64 0,.int .i64 0,.int .i64 0]):aG (w.setCells g 0 (strCells s)) g 96 (strCells s).toArray:=by
 obtain⟨⟨a,b⟩,⟨p,f,lo,hi,no,tu,sl⟩⟩:=s;have h2:=((((((((h.cZ 0 (.int .i64 a)).cZ 1 (.int .i64 b)).cZ 2 (.int .i64 p)).cZ 3 (.int .i64 f)).cZ 4 (.int .i64 lo)).cZ 5 (.int .i64 hi)).cZ 6 (.int .i64 no)).cZ 7 (.int .i64 tu)).cZ 8 (.int .i64 sl);simp only[List.setIfInBounds_toArray,List.set_cons_zero,List.set_cons_succ]at h2;exact h2
theorem Bz (w:World) (g:Nat):∀(cs:List Value) (o:Nat),w.grownBy (w.setCells g o cs) (some g):=by
 intro cs
 induction cs generalizing w with
 |nil=>intro o;exact iQ w (some g)
 |cons v r ih=>intro o;exact bD (eG w ⟨g,o,none⟩ v) (ih (w.setCell ⟨g,o,none⟩ v) (o+1))
theorem IE (w:World) (g:Nat):∀(cs:List Value) (o:Nat),KeepsOthers w (w.setCells g o cs):=by
 intro cs
 induction cs generalizing w with
 |nil=>intro o;exact KeepsOthers.refl w
 |cons v r ih=>intro o;exact (KeepsOthers.setCell w ⟨g,o,none⟩ v).trans (ih (w.setCell ⟨g,o,none⟩ v) (o+1))
theorem str_ne (f:Int→iM) (t:Int) (n:Nat) (h:0<n):eX f t n≠[]:=by
 obtain⟨m,rfl⟩:∃m,n=m+1:=⟨n-1,by omega⟩;rw[eX];cases eX f (t+1) m with
 |nil=>simp
 |cons s r =>
  dsimp only
  split<;>simp
theorem TL (s:Str):∀u∈strCells s,u.oneCell'=true:=by simp[strCells,Value.oneCell']
set_option maxRecDepth 100000 in
set_option maxHeartbeats 2000000 in
theorem TM (sats:List St) (l:List fE) (o:wF) (old now:List bP) (kn:Int) (SA A LA OA NA:Option Addr) (sn sc un uc ln lc on oc nn nc:Nat) (w:World) (hS:RA aC 21 w w.heap.size SA sn sc sats) (hU:RA aI 10 w w.heap.size A un uc l) (hL:RA dR 3 w w.heap.size LA ln lc o.slots) (hO:RA ak 6 w w.heap.size OA on oc old) (hN:RA ak 6 w w.heap.size NA nn nc now)
  (ha:0≤o.a) (hab:o.a<o.b) (hb:o.b≤1000000) :
  CallsIn Fence.wide 10 Tryz.prog 45 #[.slice SA sn sc,.slice A un uc,.agg (xZ o LA ln lc),.slice OA on oc,.slice NA nn nc,.int .i64 kn] w (FW (lU sats l o old now kn) w):=by
 obtain⟨id,ord,zx,sat,a,b,look,size,slots⟩:=o;dsimp only[xZ]at *;obtain⟨R,hR⟩:∃R,R=lU sats l ⟨id,ord,zx,sat,a,b,look,size,slots⟩ old now kn:=⟨_,rfl⟩;rw[←hR];have HR:=Lib.hid hR;have HS:=Lib.hid hS;have HU:=Lib.hid hU;have HL:=Lib.hid hL;have HO:=Lib.hid hO;have HN:=Lib.hid hN;have Ai:=Lib.hid hS.len;clear hR hS hU hL hO hN;refine callsIn_of_wp_marks Tryz.func45 rfl trivial ?_ rfl;simp only[Tryz.ntmps45,List.size_toArray,List.length_cons,List.length_nil,Nat.reduceAdd,Nat.reduceSub,Array.replicate_succ,Array.replicate_zero,List.push_toArray,List.append_toArray,List.nil_append,List.cons_append];refine wpIn_wide.2 ?_;go_upto_region 1 with (fail);obtain⟨O,hOa⟩:∃O,(#[.int .i64 id,.int .i64 ord,.int .i64 zx,.int .i64 sat,.int .i64 a,.int .i64 b,.int .i64 look,.int .i64 size,.slice LA ln lc]:Array Value)=O:=⟨_,rfl⟩;generalize hW0:((((w.alloc (.cells #[.int .i64 id,.int .i64 ord,.int .i64 zx,.int .i64 sat,.int .i64 a,.int .i64 b,.int .i64 look,.int .i64 size,.slice LA ln lc] 49)).alloc (.cells #[.slice OA on oc] 36)).alloc (.cells #[.slice NA nn nc] 36)).alloc (.cells #[.slice none 0 0,.slice none 0 0] 60))=W0;obtain⟨g8,hg8⟩:∃k,k=w.heap.size:=⟨_,rfl⟩;obtain⟨g9,hg9⟩:∃k,k=w.heap.size+1:=⟨_,rfl⟩;obtain⟨g10,hg10⟩:∃k,k=w.heap.size+1+1:=⟨_,rfl⟩;obtain⟨g12,hg12⟩:∃k,k=w.heap.size+1+1+1:=⟨_,rfl⟩;have K0:SB w g8 g9 g10 g12 O #[.slice OA on oc] #[.slice NA nn nc] W0:=by
  subst hW0 hOa;exact⟨(((aG.bC _ _ _ (by simp[hg8])).alloc _).alloc _).alloc _,((aG.bC _ _ _ (by simp[hg9])).alloc _).alloc _,(aG.bC _ _ _ (by simp[hg10])).alloc _,aG.bC _ _ _ (by simp[hg12]),aj (aj (aj (aj (Below.refl _ _) _) _) _) _⟩
 have O_:Hid (w.heap.size≤g12∧w.heap.size≤g8∧g8<g9∧g9<g10∧g10<g12):=Lib.hid (by omega);rw[←hg12,←hg10,←hg9,←hg8];clear hW0 hg8 hg9 hg10 hg12;have TN:=Lib.hid hOa;clear hOa;have hidx:=Hf (fun x=>x.id==sat) 99 #[.pointer (some ⟨g8,0,none⟩)] (enters_of Tryz.func99 (by kernel_rfl) rfl) sats SA sn sc W0 (aB HS.out K0.below) (fun x W hW=>O9 x g8 sat W O (K0.k8.ext hW) (by rw[←TN.out];rfl));have HIDX:=Lib.hid hidx;have Ns:=Lib.hid K0;clear hidx K0;go_wp2_with fail;refine HIDX.out.mono ?_;rintro e W1 ⟨rfl,hy⟩;have K1:=Ns.out.ext hy;clear hy Ns HIDX;rcases TJ (fun x=>x.id==sat) sats 0 (Int.le_refl _)with ⟨hf,hi⟩ | ⟨i,hi0,hf,hi⟩
 ·rw[hi];have HR0:Hid (R=none):=Lib.hid (by rw[HR.out,lU];simp only[hf]);have HK:=Lib.hid K1.k12;have Ci:=Lib.hid (K1.k12.row #[.slice none 0 0,.slice none 0 0]);have HB:=Lib.hid (below_setRow K1.below (g:=g12) O_.out.1 #[.slice none 0 0,.slice none 0 0]);clear hf hi K1 HR HS HU HL HO HN;go_wp2_with (refine wpList_store_row rfl 60 _ _ rfl g12 #[.slice none 0 0,.slice none 0 0] rfl rfl 60 _ HK.out dJ rfl (by simp[Value.oneCell']) ?_);exact⟨_,fU Tryz.results45 _ _ g12 _ (.bool false) rfl rfl Ci.out _ Tryz.underlying60 rfl dJ,by rw[HR0.out];exact⟨⟨_,_,_,_,_,_,rfl⟩,HB.out⟩⟩
 ·rw[hi,Int.zero_add];have hin:i<sn:=by rw[←Ai.out];exact hi0
  have hiz:¬(i:Int)<0:=by omega
  have hinz:(i:Int)<(sn:Int):=by omega
  obtain⟨bb,oo,hz,hA,hbl,hc⟩:=RA.range gJ (HS.out.below K1.below) hin;generalize hsi:sats[i]=s at hc hf;clear hsi;obtain⟨P,hP⟩:∃P,(aC s).toArray=P:=⟨_,rfl⟩;have hbu:=tJ s A un uc kn;obtain⟨Z,hZ⟩:∃Z,(dZ s A un uc kn).toArray=Z:=⟨_,rfl⟩;rw[hP,hZ]at hbu;have yR:Hid (R=match eX (fK s l kn) a (b-a).toNat with
   |[]=>none
   |s::_=>if s.sp=⟨a,b⟩ then (match iC s.eY a b look with
    |none=>none
    |some r=>if slots.any (ni old now)=true then none else some r) else none):=Lib.hid (by rw[HR.out,lU];simp only[hf])
  subst hA;have qN:=Lib.hid hc;have oH:=Lib.hid hP;have HZZ:=Lib.hid hZ;have Qr:=Lib.hid hbu;have HK1:=Lib.hid K1;have zq:=aG.new W1 96 #[.int .i64 0,.int .i64 0,.int .i64 0,.int .i64 0,.int .i64 0,.int .i64 0,.int .i64 0,.int .i64 0,.int .i64 0];have hx15:Ext W1 (W1.alloc (.cells #[.int .i64 0,.int .i64 0,.int .i64 0,.int .i64 0,.int .i64 0,.int .i64 0,.int .i64 0,.int .i64 0,.int .i64 0] 96)):=aj (Below.refl _ _) _;clear hc hP hZ hbu hi hf hz K1 HR;go_upto_region 5 with (fail);obtain⟨g15,hg15⟩:∃k,k=W1.heap.size:=⟨_,rfl⟩;rw[←hg15]at zq⊢;generalize W1.alloc (.cells #[.int .i64 0,.int .i64 0,.int .i64 0,.int .i64 0,.int .i64 0,.int .i64 0,.int .i64 0,.int .i64 0,.int .i64 0] 96)=W2 at zq hx15⊢;have K2:=HK1.out.ext hx15;have hg15w:w.heap.size≤g15:=by rw[hg15];exact HK1.out.below.size
  have qN:=Lib.hid (RA.dD qN.out hx15);have s0:W2.cell? ⟨g8,4,none⟩=some (.int .i64 a):=by rw[K2.k8.cell,←TN.out];rfl
  have s1:W2.cell? ⟨g8,5,none⟩=some (.int .i64 b):=by rw[K2.k8.cell,←TN.out];rfl
  have HK2:=Lib.hid K2;clear hx15 HK1 hg15 K2;refine aF 10 [some (.slice (some ⟨bb,oo,none⟩) sn sc),some (.int .i64 i),some (.pointer (some ⟨bb,oo+i*21,none⟩)),some (.agg P),some (.slice A un uc),some (.int .i64 kn),some (.agg Z),some (.pointer (some ⟨g8,4,none⟩)),some (.agg #[.int .i64 a,.int .i64 b]),none] [(9,.w fun v w1=>∃g,v=.func (.func 105) #[] #[.pointer (some ⟨g+1,0,none⟩),.pointer (some ⟨g,0,none⟩)]∧W2.heap.size≤g∧aG w1 g 117 Z∧aG w1 (g+1) 32 #[.int .i64 a,.int .i64 b])] ?_ ?_ ?_
  ·refine⟨?_,trivial⟩
   ·intro v w1 w2 hr hx;obtain⟨g,h1,h2,h3,h4⟩:=hr;exact⟨g,h1,h2,h3.ext hx,h4.ext hx⟩
  ·refine⟨?_,?_,?_,?x3,?_,?_,?x6,?_,?_,?x9,trivial⟩
   case x3 =>
    intro vals w1 hx hd;clear hd;simp only[Lf,au,Act.put,bH,bG];refine aT rfl _ _ rfl bb (oo+i*21) rfl P (aC s) oH.out _ (RA.dD qN.out hx.aH) Tryz.underlying53 rfl aQ ?_;go_wp2;exact q_
   case x6 =>
    intro vals w1 hx hd;clear hd;simp only[Lf,au,Act.put,bH,bG];refine lC rfl _ _ _ _ rfl Z rfl rfl rfl Qr.out ?_;go_wp2;exact q_
   case x9 =>
    intro vals w1 hx hd;clear hd;simp only[Lf,au,Act.put,bH,bG];have hz:=Below.size hx.aH;go_wp2_with fail;refine (Fe Z a b _).mono ?_;rintro e w2 ⟨rfl,hw2⟩;subst hw2;go_wp2;exact⟨rfl,(by repeat (first | exact Below.refl _ _ | assumption | refine Below.drew ?_ | refine below_drewN ?_ _ | refine aj ?_ _ | refine Below.setCell ?_ (by first | (simp;done) | omega | (simp;omega)) _ | refine aA ?_ (by assumption))),_,rfl,by omega,(aG.new _ _ _).alloc _,aG.bC _ _ _ (by simp)⟩
   all_goals
    intro vals w1 hx hd;clear hd;simp only[Lf,au,Act.put,bH,bG];have s0:=ah hx s0;have s1:=ah hx s1;go_wp2;exact iq
  intro vals W3 hx3 hf;obtain⟨gp,e9,hgp,kp,ks⟩:∃g,vals 9=.func (.func 105) #[] #[.pointer (some ⟨g+1,0,none⟩),.pointer (some ⟨g,0,none⟩)]∧W2.heap.size≤g∧aG W3 g 117 Z∧aG W3 (g+1) 32 #[.int .i64 a,.int .i64 b]:=hf 9 (by omega);clear hf s0 s1;have hx3:=hx3.aH;have K3:=HK2.out.ext hx3;have hg15l:=zq.lt;have zq:=zq.ext hx3;refine dO (by kernel_rfl) ?_;simp only[Lf,au,Act.put,FR_];rw[e9];clear e9;rw[←HZZ.out]at kp;have hws:=K3.below.size;have hub:=HU.out.below K3.below;have hs0:SB0 w g8 g9 g10 g12 g15 W3.heap.size O #[.slice OA on oc] #[.slice NA nn nc] [] W3:=⟨rfl,K3,Nat.le_refl _,zq⟩;have hne:g8≠g15∧g9≠g15∧g10≠g15∧g12≠g15:=⟨K3.k8.Cc zq (by decide),K3.k9.Cc zq (by decide),K3.k10.Cc zq (by decide),K3.k12.Cc zq (by decide)⟩;have NP:=Lib.hid hne;have HG15:=Lib.hid hg15w;clear K3 zq hx3 Qr hne;go_wp2_with fail;refine wpIn_wide.1 (qA (fun q=>q=g15) w.heap.size (gp+1) gp s l A un uc kn a b 10 (by omega) hws hub ks kp (by omega) (by omega) (by omega) (by omega) (by omega) rfl (SB0 w g8 g9 g10 g12 g15 W3.heap.size O #[.slice OA on oc] #[.slice NA nn nc]) (SBx w g8 g9 g10 g12 g15 W3.heap.size O #[.slice OA on oc] #[.slice NA nn nc]) (Xm hws) (Xn hws) (fun _ _ h=>h.2.2.1) hs0
   (fun t x Bx=>(t.setIfInBounds 36 (.agg (strCells x.1).toArray)).setIfInBounds 16 (.pointer (some ⟨Bx,0,none⟩))) ?hassign ?hbody ?hdone ?hstop)
  case hassign =>
   intro ly s W K hK;obtain⟨X,hX⟩:∃X,(strCells s.1).toArray=X:=⟨_,rfl⟩;obtain⟨tH,hX1⟩:=tK _ X hX;rw[hX]at hK⊢;have qg:=Lib.hid tH;have kC:=Lib.hid hX1;clear hX tH hX1;simp only[List.setIfInBounds_toArray,List.set_cons_zero,List.set_cons_succ]at hK ⊢
   gi_wp2_with (refine fP rfl 96 _ _ rfl _ X rfl rfl (by rw[qg.out];exact jW) (by rw[qg.out];rfl) kC.out ?_)
   exact hK
  case hbody =>
   intro ly pre x Bx W hI hBx KX hlen;obtain⟨rfl,hsb,hsz,k15⟩:=hI;obtain⟨X,hX⟩:∃X,(strCells x.1).toArray=X:=⟨_,rfl⟩;rw[hX]at KX⊢;simp only[List.setIfInBounds_toArray,List.set_cons_zero,List.set_cons_succ];have iP:=Lib.hid hX;have WM:=Lib.hid KX;have Vp:=Lib.hid (k15.Le 0 9 (by decide));have HK:Hid (KeepsOthers W (W.setCells g15 0 (strCells x.1))):=Lib.hid (IE W g15 _ 0);have hgr:=Bz W g15 (strCells x.1) 0;have hn:=NP.out;have HI:Hid (SBx w g8 g9 g10 g12 g15 W3.heap.size O #[.slice OA on oc] #[.slice NA nn nc] (.exit 0) [x] (W.setCells g15 0 (strCells x.1))):=Lib.hid ⟨rfl,⟨hsb.k8.grown hgr (fun e=>hn.1 (by injection e)),hsb.k9.grown hgr (fun e=>hn.2.1 (by injection e)),hsb.k10.grown hgr (fun e=>hn.2.2.1 (by injection e)),hsb.k12.grown hgr (fun e=>hn.2.2.2 (by injection e)),hsb.below.grown hgr hsb.below.size (fun q e=>by cases e;exact HG15.out)⟩,Nat.le_trans hsz HK.out.size,x,rfl,Xo x.1 k15⟩;clear hsb hsz k15 hgr hn hX KX hs0 ks kp hub hlen
   gi_wp2_with (first | (refine dU rfl _ _ rfl Bx 0 rfl X (strCells x.1) iP.out _ ?_ Tryz.underlying96 rfl jW ?_;exact aG.range WM.out (strCells x.1) (by rw[←iP.out])) | (refine oh rfl 96 _ _ rfl g15 0 X (strCells x.1) iP.out rfl rfl ?_ jW (TL _) ?_;exact Vp.out))
   exact⟨HK.out.from _,HI.out⟩
  case hdone =>
   intro D xs W hD hxs hI hK;obtain⟨rfl,-,-,-⟩:=hI;have h:=str_ne (fK s l kn) a (b-a).toNat (by omega);exact absurd hxs.symm h
  case hstop =>
   intro D c pre W hD hpre hX hK;obtain⟨rfl,hsb,hsz,x,rfl,k15⟩:=hX;obtain⟨⟨⟨x1,x2⟩,⟨p,f,lo,hi,no,tu,sl⟩⟩,hbd⟩:=x;obtain⟨rest,hrest⟩:=hpre;have Y5:R=if (⟨x1,x2⟩:iO)=⟨a,b⟩ then (match iC ⟨p,f,lo,hi,no,tu,sl⟩ a b look with
    |none=>none
    |some r=>if slots.any (ni old now)=true then none else some r) else none:=by
    rw[yR.out,←hrest];rfl
   have TP:=Lib.hid Y5;have FC:=Lib.hid hsb;have HKD:=Lib.hid hK;have Xp:Hid (w.heap.size≤D∧g12<D):=Lib.hid ⟨Nat.le_trans hws hD,Nat.lt_of_lt_of_le (by have:=hs0.2.1.k12.lt;exact this) hD⟩;have c0:W.cell? ⟨g15,0,none⟩=some (.int .i64 x1):=k15.cell 0;have c1:W.cell? ⟨g15,1,none⟩=some (.int .i64 x2):=k15.cell 1;have o4:W.cell? ⟨g8,4,none⟩=some (.int .i64 a):=by rw[hsb.k8.cell,←TN.out];rfl
   have o5:W.cell? ⟨g8,5,none⟩=some (.int .i64 b):=by rw[hsb.k8.cell,←TN.out];rfl
   have zq:=Lib.hid k15;clear Y5 hsb hK k15 hrest ks kp hub hs0 yR;refine wpIn_wide.2 ?_;by_cases he:(⟨x1,x2⟩:iO)=⟨a,b⟩
   ·injection he with e1 e2;subst e1 e2;have hnq:∀w,(binOp .neq 32 (.agg #[.int .i64 x1,.int .i64 x2]) (.agg #[.int .i64 x1,.int .i64 x2])).run Tryz.prog w=.ok (.bool false) w:=fun w=>by rw[Nz ⟨x1,x2⟩ ⟨x1,x2⟩ w,decide_eq_true rfl];rfl
    have Xq:Hid (R=match iC ⟨p,f,lo,hi,no,tu,sl⟩ x1 x2 look with
     |none=>none
     |some r=>if slots.any (ni old now)=true then none else some r):=Lib.hid (TP.out.trans (if_pos rfl))
    clear TP;have c2:W.cell? ⟨g15,2,none⟩=some (.int .i64 p):=zq.out.cell 2;have c3:W.cell? ⟨g15,3,none⟩=some (.int .i64 f):=zq.out.cell 3;have c4:W.cell? ⟨g15,4,none⟩=some (.int .i64 lo):=zq.out.cell 4;have c5:W.cell? ⟨g15,5,none⟩=some (.int .i64 hi):=zq.out.cell 5;have c6:W.cell? ⟨g15,6,none⟩=some (.int .i64 no):=zq.out.cell 6;have c7:W.cell? ⟨g15,7,none⟩=some (.int .i64 tu):=zq.out.cell 7;have c8:W.cell? ⟨g15,8,none⟩=some (.int .i64 sl):=zq.out.cell 8;have o6:W.cell? ⟨g8,6,none⟩=some (.int .i64 look):=by rw[FC.out.k8.cell,←TN.out];rfl
    have hst:=yK p f lo hi no tu sl x1 x2 look W;generalize iC ⟨p,f,lo,hi,no,tu,sl⟩ x1 x2 look=Q at hst Xq;have HST:=Lib.hid hst;clear hst;go_wp2_with fail;refine HST.out.mono ?_;intro e W4 hsp;cases Q with
    |none =>
     have HR0:Hid (R=none):=Lib.hid Xq.out;obtain⟨rfl,hy⟩:=hsp;have ZG:=Lib.hid hy;have hz:Ext W4 (W4.alloc (.cells #[.slice none 0 0,.slice none 0 0] 60)):=aj (Below.refl _ _) _;have NS:=aG.new W4 60 #[.slice none 0 0,.slice none 0 0];have wG:=Lib.hid (FC.out.ext (Ext.trans hy hz));have TQ:=((Ext.trans hy hz).block D (Array.getElem?_eq_some_iff.1 HKD.out).1).trans HKD.out;have LK:=Lib.hid TQ;clear c0 c1 c2 c3 c4 c5 c6 c7 c8 o4 o5 o6 hnq hy HST TQ Xq;go_upto_region 12 with (fail);have TR:Hid (g12<W4.heap.size):=Lib.hid (Nat.lt_of_lt_of_le FC.out.k12.lt ZG.out.size);generalize W4.heap.size=g17 at NS TR⊢;generalize W4.alloc (.cells #[.slice none 0 0,.slice none 0 0] 60)=W5 at NS hz wG LK⊢;have hT:=TK g12 #[.slice none 0 0,.slice none 0 0];have h12:=wG.out.k12;have hn17:g17≠g12:=by have h1:=h12.lt;have h2:=TR.out;omega
     have Xr:=h12.lt;clear hz;refine RB.aF hT 12 [some (.agg #[.slice none 0 0,.slice none 0 0]),some (.int .i64 80),some (.bool false),some (.bool false),some (undef),some (undef),some (undef),some (undef),some (undef),some (.bool false),none,some (.bool false)] [(10,.w fun v w1=>aG w1 g12 60 #[.slice none 0 0,.slice none 0 0])] ?_ ?_ ?_
     ·refine⟨?_,trivial⟩
      ·intro v w1 w2 hr hx;exact hx.Y4 hr
     ·refine⟨?x0,?_,?_,?_,?_,?_,?_,?_,?_,?_,?x10,?_,trivial⟩
      case x0 =>
       intro vals w1 hx hd;clear hd;simp only[Lf];have z0:=(NS.grown hx.aH.gr (fun e=>by injection e with e;exact hn17 e)).cell 0;have z1:=(NS.grown hx.aH.gr (fun e=>by injection e with e;exact hn17 e)).cell 1;go_wp2;exact⟨rfl,hT.refl _,rfl⟩
      case x10 =>
       intro vals w1 hx hd;clear hd;simp only[Lf,au,Act.put,bH,bG];obtain⟨cs,hcs,hbk⟩:=hx.aH.two rfl rfl h12;refine wpList_store_row rfl 60 _ _ rfl g12 #[.slice none 0 0,.slice none 0 0] rfl rfl 60 _ hbk dJ (by rw[hcs];rfl) (by simp[Value.oneCell']) ?_;go_wp2;exact⟨rfl,(T12.row hbk).1,(T12.row hbk).2⟩
      all_goals
       intro vals w1 hx hd;clear hd;simp only[Lf,au,Act.put,bH,bG];go_wp2;exact⟨rfl,hT.refl _,rfl⟩
     intro vals W6 hx6 hf;have e11:vals 11=.bool false:=hf 11 (by omega);have k10:aG W6 g12 60 #[.slice none 0 0,.slice none 0 0]:=hf 10 (by omega);clear hf;have hx6:=hx6.aH;have hDl:=(Array.getElem?_eq_some_iff.1 LK.out).1;have Y6:Hid (W6.heap[D]?=some (.deferred (some []))):=Lib.hid ((hx6.gr.block D hDl (fun e=>by injection e with e;have:=Xp.out;omega)).trans LK.out);have Ci:=Lib.hid k10;have HB:Hid (Ext w W6):=Lib.hid (wG.out.below.grown hx6.gr wG.out.below.size (fun q e=>by cases e;exact O_.out.1));clear hx6 k10 hT h12 hn17 Xr NS hDl;refine dO (by kernel_rfl) ?_;simp only[Lf,au,Act.put,FR_];rw[e11];clear e11;go_wp2;refine⟨by simp,.inl ⟨_,_,rfl,run_takeDeferred Y6.out,?_⟩⟩;have hgr:=grownBy_putObj' W6 D (.deferred none);have hrr:∀r,some D=some r→w.heap.size≤r∧∃o:Obj,W6.heap[r]?=some o∧o.isCells=false:=fun r e=>by cases e;exact⟨Xp.out.1,_,Y6.out,rfl⟩
     exact⟨_,fU Tryz.results45 _ _ g12 _ (.bool false) rfl rfl (bF Ci.out hgr hrr) _ Tryz.underlying60 rfl dJ,by rw[HR0.out];exact⟨⟨_,_,_,_,_,_,rfl⟩,HB.out.grown hgr HB.out.size (fun k e=>by cases e;exact Xp.out.1)⟩⟩
    |some SC =>
     obtain⟨S,C⟩:=SC;obtain⟨⟨v,rfl,hst⟩,hy⟩:=hsp;obtain⟨gs,gc,c,rfl,r1,r2,hne2⟩:=hst.it;have ZG:=Lib.hid hy;have HRZ:Hid (R=if slots.any (ni old now)=true then none else some (S,C)):=Lib.hid Xq.out;have hz:Ext W4 (W4.alloc (.cells #[.slice (some ⟨gs,0,none⟩) 24 24,.slice (some ⟨gc,0,none⟩) 24 c] 60)):=aj (Below.refl _ _) _;have NS:=aG.new W4 60 #[.slice (some ⟨gs,0,none⟩) 24 24,.slice (some ⟨gc,0,none⟩) 24 c];have wG:=Lib.hid (FC.out.ext (Ext.trans hy hz));have TQ:=((Ext.trans hy hz).block D (Array.getElem?_eq_some_iff.1 HKD.out).1).trans HKD.out;have LK:=Lib.hid TQ;have HR1:=Lib.hid (r1.ext hz);have HR2:=Lib.hid (r2.ext hz);have hCON:∀W',Ext w W'→aG W' g9 36 #[.slice OA on oc]→aG W' g10 36 #[.slice NA nn nc]→Calls Tryz.prog 102 #[.slice LA ln lc,.func (.func 100) #[] #[.pointer (some ⟨g9,0,none⟩),.pointer (some ⟨g10,0,none⟩)]] W' fun e w'=>e=.returned (.bool (slots.any (ni old now)))∧Ext W' w':=fun W' hx h9 h10 =>
      E8 (ni old now) 100 #[.pointer (some ⟨g9,0,none⟩),.pointer (some ⟨g10,0,none⟩)] (enters_of Tryz.func100 (by kernel_rfl) rfl) slots LA ln lc W' (aB HL.out hx) (fun s W'' hW=>TF s g9 g10 old now OA NA on nn oc nc W'' (h9.ext hW) (h10.ext hW) (aB HO.out (Ext.trans hx hW)) (aB HN.out (Ext.trans hx hW)))
     generalize slots.any (ni old now)=zz at hCON HRZ;have Xl:=Lib.hid hCON;have WU:Hid (W.heap.size≤gs∧W.heap.size≤gc):=Lib.hid ⟨(World.ownsRow.lt r1.2 gs rfl).1,(World.ownsRow.lt r2.2 gc rfl).1⟩;have HWS:Hid (w.heap.size≤W.heap.size∧g12<W.heap.size):=Lib.hid ⟨FC.out.below.size,FC.out.k12.lt⟩;clear c0 c1 c2 c3 c4 c5 c6 c7 c8 o4 o5 o6 hnq hy HST TQ Xq hCON r1 r2 hst;go_upto_region 12 with (fail);have TR:Hid (g12<W4.heap.size):=Lib.hid (Nat.lt_of_lt_of_le FC.out.k12.lt ZG.out.size);generalize W4.heap.size=g17 at NS TR⊢;generalize W4.alloc (.cells #[.slice (some ⟨gs,0,none⟩) 24 24,.slice (some ⟨gc,0,none⟩) 24 c] 60)=W5 at NS hz wG LK HR1 HR2⊢;have hT:=TK g12 #[.slice (some ⟨gs,0,none⟩) 24 24,.slice (some ⟨gc,0,none⟩) 24 c];have h12:=wG.out.k12;have hn17:g17≠g12:=by have h2:=TR.out;omega
     have Xr:=h12.lt;have hn8:g8≠g12∧g9≠g12∧g10≠g12:=by have:=O_.out;omega
     clear hz;refine RB.aF hT 12 [some (.agg #[.slice (some ⟨gs,0,none⟩) 24 24,.slice (some ⟨gc,0,none⟩) 24 c]),some (.int .i64 0),some (.bool true),some (.bool true),some (.pointer (some ⟨g8,8,none⟩)),some (.slice LA ln lc),some (.func (.func 100) #[] #[.pointer (some ⟨g9,0,none⟩),.pointer (some ⟨g10,0,none⟩)]),some (.bool zz),some (.bool (!zz)),some (.bool (!zz)),none,some (.bool (!zz))] [(10,.w fun v w1=>aG w1 g12 60 #[.slice (some ⟨gs,0,none⟩) 24 24,.slice (some ⟨gc,0,none⟩) 24 c])] ?_ ?_ ?_
     ·refine⟨?_,trivial⟩
      ·intro v w1 w2 hr hx;exact hx.Y4 hr
     ·refine⟨?x0,?_,?_,?_,?_,?x5,?_,?x7,?_,?_,?x10,?_,trivial⟩
      case x0 =>
       intro vals w1 hx hd;clear hd;simp only[Lf];have z0:=(NS.grown hx.aH.gr (fun e=>by injection e with e;exact hn17 e)).cell 0;have z1:=(NS.grown hx.aH.gr (fun e=>by injection e with e;exact hn17 e)).cell 1;go_wp2;exact⟨rfl,hT.refl _,rfl⟩
      case x5 =>
       intro vals w1 hx hd;clear hd;simp only[Lf,au,Act.put,bH,bG];have o8:w1.cell? ⟨g8,8,none⟩=some (.slice LA ln lc):=by rw[(wG.out.k8.grown hx.aH.gr (fun e=>by injection e with e;exact hn8.1 e)).cell,←TN.out];rfl
       go_wp2;exact⟨rfl,hT.refl _,rfl⟩
      case x7 =>
       intro vals w1 hx hd;clear hd;simp only[Lf,au,Act.put,bH,bG];have hg:=hx.aH.gr;go_wp2_with fail;refine (Xl.out _ (wG.out.below.grown hg wG.out.below.size (fun q e=>by cases e;exact O_.out.1)) (wG.out.k9.grown hg (fun e=>by injection e with e;exact hn8.2.1 e)) (wG.out.k10.grown hg (fun e=>by injection e with e;exact hn8.2.2 e))).mono ?_;rintro e w2 ⟨rfl,hb2⟩;go_wp2;exact⟨rfl,T12.ext hb2 (Nat.lt_of_lt_of_le Xr hg.size),rfl⟩
      case x10 =>
       intro vals w1 hx hd;clear hd;simp only[Lf,au,Act.put,bH,bG];obtain⟨cs,hcs,hbk⟩:=hx.aH.two rfl rfl h12;refine wpList_store_row rfl 60 _ _ rfl g12 #[.slice (some ⟨gs,0,none⟩) 24 24,.slice (some ⟨gc,0,none⟩) 24 c] rfl rfl 60 _ hbk dJ (by rw[hcs];rfl) (by simp[Value.oneCell']) ?_;go_wp2;exact⟨rfl,(T12.row hbk).1,(T12.row hbk).2⟩
      all_goals
       intro vals w1 hx hd;clear hd;simp only[Lf,au,Act.put,bH,bG];go_wp2;exact⟨rfl,hT.refl _,rfl⟩
     intro vals W6 hx6 hf;have e11:vals 11=.bool (!zz):=hf 11 (by omega);have k10:aG W6 g12 60 #[.slice (some ⟨gs,0,none⟩) 24 24,.slice (some ⟨gc,0,none⟩) 24 c]:=hf 10 (by omega);clear hf;have hx6:=hx6.aH;have hDl:=(Array.getElem?_eq_some_iff.1 LK.out).1;have Y6:Hid (W6.heap[D]?=some (.deferred (some []))):=Lib.hid ((hx6.gr.block D hDl (fun e=>by injection e with e;have:=Xp.out;omega)).trans LK.out);have Ci:=Lib.hid k10;have HB:Hid (Ext w W6):=Lib.hid (wG.out.below.grown hx6.gr wG.out.below.size (fun q e=>by cases e;exact O_.out.1));have hgg:=WU.out;have hww:=HWS.out;have HR3:=Lib.hid (gW HR1.out (hx6.gr.block gs HR1.out.lt (fun e=>by injection e with e;omega)));have HR4:=Lib.hid (gW HR2.out (hx6.gr.block gc HR2.out.lt (fun e=>by injection e with e;omega)));clear hx6 k10 hT h12 hn17 Xr NS hDl hn8;refine dO (by kernel_rfl) ?_;simp only[Lf,au,Act.put,FR_];rw[e11];clear e11;go_wp2;refine⟨by simp,.inl ⟨_,_,rfl,run_takeDeferred Y6.out,?_⟩⟩;have hgr:=grownBy_putObj' W6 D (.deferred none);have hrr:∀r,some D=some r→w.heap.size≤r∧∃o:Obj,W6.heap[r]?=some o∧o.isCells=false:=fun r e=>by cases e;exact⟨Xp.out.1,_,Y6.out,rfl⟩
     refine⟨_,fU Tryz.results45 _ _ g12 _ (.bool (!zz)) rfl rfl (bF Ci.out hgr hrr) _ Tryz.underlying60 rfl dJ,?_⟩;have hbe:=HB.out.grown hgr HB.out.size (fun k e=>by cases e;exact Xp.out.1);rw[HRZ.out];cases zz
     ·exact⟨⟨_,rfl,⟨gs,gc,c,rfl,⟨HR3.out.1,own_base (iH HR3.out.2 hgr hrr) hww.1⟩,⟨HR4.out.1,own_base (iH HR4.out.2 hgr hrr) hww.1⟩,hne2⟩⟩,hbe⟩
     ·exact⟨⟨_,_,_,_,_,_,rfl⟩,hbe⟩
   ·have HR0:Hid (R=none):=Lib.hid (TP.out.trans (if_neg he));have hnq:∀w,(binOp .neq 32 (.agg #[.int .i64 x1,.int .i64 x2]) (.agg #[.int .i64 a,.int .i64 b])).run Tryz.prog w=.ok (.bool true) w:=fun w=>by rw[Nz ⟨x1,x2⟩ ⟨a,b⟩ w,decide_eq_false he];rfl
    have HK12:=Lib.hid FC.out.k12;have Ci:=Lib.hid (FC.out.k12.row #[.slice none 0 0,.slice none 0 0]);have HB:=Lib.hid (below_setRow FC.out.below (g:=g12) O_.out.1 #[.slice none 0 0,.slice none 0 0]);have Y6:Hid ((W.setRow g12 #[.slice none 0 0,.slice none 0 0]).heap[D]?=some (.deferred (some []))):=Lib.hid ((setRow_other W g12 D _ (by have:=Xp.out;omega)).trans HKD.out);clear he TP;go_wp2_with (refine wpList_store_row rfl 60 _ _ rfl g12 #[.slice none 0 0,.slice none 0 0] rfl rfl 60 _ HK12.out dJ rfl (by simp[Value.oneCell']) ?_);refine⟨by simp,.inl ⟨_,_,rfl,run_takeDeferred Y6.out,?_⟩⟩;have hgr:=grownBy_putObj' (W.setRow g12 #[.slice none 0 0,.slice none 0 0]) D (.deferred none);have hrr:∀r,some D=some r→w.heap.size≤r∧∃o:Obj,(W.setRow g12 #[.slice none 0 0,.slice none 0 0]).heap[r]?=some o∧o.isCells=false:=fun r e=>by cases e;exact⟨Xp.out.1,_,Y6.out,rfl⟩
    exact⟨_,fU Tryz.results45 _ _ g12 _ (.bool false) rfl rfl (bF Ci.out hgr hrr) _ Tryz.underlying60 rfl dJ,by rw[HR0.out];exact⟨⟨_,_,_,_,_,_,rfl⟩,HB.out.grown hgr HB.out.size (fun k e=>by cases e;exact Xp.out.1)⟩⟩
theorem Pg (sats:List St) (l:List fE) (o:wF) (old now:List bP) (kn:Int) (SA A LA OA NA:Option Addr) (sn sc un uc ln lc on oc nn nc:Nat) (w:World) (hS:RA aC 21 w w.heap.size SA sn sc sats) (hU:RA aI 10 w w.heap.size A un uc l) (hL:RA dR 3 w w.heap.size LA ln lc o.slots) (hO:RA ak 6 w w.heap.size OA on oc old) (hN:RA ak 6 w w.heap.size NA nn nc now)
  (ha:0≤o.a) (hab:o.a<o.b) (hb:o.b≤1000000) :
  Calls Tryz.prog 45 #[.slice SA sn sc,.slice A un uc,.agg (xZ o LA ln lc),.slice OA on oc,.slice NA nn nc,.int .i64 kn] w (FW (lU sats l o old now kn) w) :=
 callsIn_wide.1 (TM sats l o old now kn SA A LA OA NA sn sc un uc ln lc on oc nn nc w hS hU hL hO hN ha hab hb)
end Go.Proofs.YtjidhhfabfnhnaaGreat
namespace Go.Proofs.YtjidhhfabfnhnaaGreat
open Go.RowKit
structure iY where
 o:wF
 la:Option Addr
 ln:Nat
 lc:Nat
def dX (x:iY):List Value:=(xZ x.o x.la x.ln x.lc).toList
theorem LM (x:iY):(dX x).length=9:=rfl
theorem tV:(Tryz.prog.info? 49).map (·.size)=some 9:=by kernel_rfl
theorem TU (x:iY):(dX x).toArray.all (·.oneCell')=true:=by simp[dX,xZ,Value.oneCell']
theorem LP (p:iY→Bool) (K:Nat) (caps:Array Value) (eg:∀args w,(callFunc K args).run Tryz.prog w=.ok (.enter K args) w) (l:List iY) (A:Option Addr) (n c:Nat) (w:World) (h:RA dX 9 w w.heap.size A n c l)
  (hp:∀(x:iY) (W:World),Ext w W→Calls Tryz.prog K (#[.agg (dX x).toArray]++caps) W fun e w'=>e=.returned (.bool (p x))∧Ext W w') :
  Calls Tryz.prog 97 #[.slice A n c,.func (.func K) #[] caps] w fun e w'=>e=.returned (.int .i64 (gK p l 0))∧Ext w w':=by
 have HR:=Lib.hid h;have hle:=h.le;have HL:=Lib.hid h.len;have HP:=Lib.hid hp;clear h hp;go_enter Tryz.func97,Tryz.ntmps97;go_wp2;go_loopw [8] (fun i wr=>∃k:Nat,k≤n∧i=.int .i64 k∧Hid (gK p l 0=gK p (l.drop k) k)∧Ext w wr) (fun i _=>n-(intOf i).toNat)
 case atStart=>exact⟨0,Nat.zero_le _,rfl,rfl,Below.refl _ _⟩
 case round =>
  obtain⟨k,hk,rfl,H,hB⟩:=hrel;by_cases hlt:k<n
  ·obtain⟨b,o,hz,hA,hbl,hc⟩:=RA.range LM (HR.out.below hB) hlt;have hst:=l7 p l k hz;rw[←H.out]at hst;generalize l[k]=x at hst hc;have hv:=HP.out x wr hB;obtain⟨X,hX⟩:∃X,(dX x).toArray=X:=⟨_,rfl⟩;rw[hX]at hv;generalize p x=q at hst hv;have HX:=Lib.hid hX;have HV:=Lib.hid hv;have HS:=Lib.hid hst;have qN:=Lib.hid hc;clear hX hv hst hc;subst hA;go_wp2_with (refine ay rfl _ _ rfl b (o+k*9) rfl X (dX x) HX.out _ qN.out Tryz.underlying49 rfl tV ?_);refine HV.out.mono ?_;rintro e w2 ⟨rfl,hb2⟩;have hB2:Ext w w2:=Ext.trans hB hb2;cases q
   ·go_wp2;go_roundw
    case rel=>exact⟨k+1,by omega,by go_num,HS.out.trans (by simp),hB2⟩
    case measure=>simp[intOf];omega
   ·go_wp2;go_ret;exact⟨by rw[HS.out];simp,hB2⟩
  ·go_wp2;go_ret;exact⟨by rw[H.out,List.drop_of_length_le (by rw[HL.out];omega)];rfl,hB⟩
theorem C9 (p:iY→Bool) (K:Nat) (caps:Array Value) (eg:∀args w,(callFunc K args).run Tryz.prog w=.ok (.enter K args) w) (l:List iY) (A:Option Addr) (n c:Nat) (w:World) (h:RA dX 9 w w.heap.size A n c l)
  (hp:∀(x:iY) (W:World),Ext w W→Calls Tryz.prog K (#[.agg (dX x).toArray]++caps) W fun e w'=>e=.returned (.bool (p x))∧Ext W w') :
  Calls Tryz.prog 44 #[.slice A n c,.func (.func K) #[] caps] w fun e w'=>e=.returned (.bool (l.any p))∧Ext w w':=by
 have hf:=LP p K caps eg l A n c w h hp;have hbb:l.any p=decide (0≤gK p l 0):=by
  rw[Bool.eq_iff_iff,decide_eq_true_iff,oV _ _ 0 (by omega)]
 rw[hbb];generalize gK p l 0=r at hf;have HF:=Lib.hid hf;clear hf hbb h hp;go_enter Tryz.func44,Tryz.ntmps44;go_wp2_with (go_at_call 97;refine HF.out.mono ?_;rintro e w' ⟨rfl,hb'⟩);go_ret;exact⟨rfl,(by repeat (first | exact Below.refl _ _ | assumption | refine Below.drew ?_ | refine below_drewN ?_ _ | refine aj ?_ _ | refine Below.setCell ?_ (by first | (simp;done) | omega | (simp;omega)) _ | refine aA ?_ (by assumption)))⟩
end Go.Proofs.YtjidhhfabfnhnaaGreat
namespace Go.Proofs.YtjidhhfabfnhnaaGreat
open Go.RowKit Go.Shelf
attribute [local go_sem] Oper.semAt_some
def nJ (a b:Int):Bool:=decide (a<0∨b≤a∨1000000<b∨60<b-a)
set_option maxHeartbeats 1000000 in
theorem Xt (x:iY) (w:World) :
  Calls Tryz.prog 43 #[.agg (dX x).toArray] w fun e w'=>e=.returned (.bool (nJ x.o.a x.o.b))∧Ext w w':=by
 obtain⟨⟨id,ord,zx,sat,a,b,look,size,slots⟩,LA,ln,lc⟩:=x
 show Calls Tryz.prog 43 #[.agg #[.int .i64 id,.int .i64 ord,.int .i64 zx,.int .i64 sat,.int .i64 a,.int .i64 b,.int .i64 look,.int .i64 size,.slice LA ln lc]] w fun e w'=>e=.returned (.bool (nJ a b))∧Ext w w'
 by_cases h1:a<0
 ·have hs:nJ a b=true:=by simp[nJ,h1]
  rw[hs];clear hs;go_enter Tryz.func43,Tryz.ntmps43;go_wp2;go_ret;exact⟨by simp[*],(by repeat (first | exact Below.refl _ _ | assumption | refine Below.drew ?_ | refine below_drewN ?_ _ | refine aj ?_ _ | refine Below.setCell ?_ (by first | (simp;done) | omega | (simp;omega)) _ | refine aA ?_ (by assumption)))⟩
 ·by_cases h2:b≤a
  ·have hs:nJ a b=true:=by simp[nJ,h2]
   rw[hs];clear hs;go_enter Tryz.func43,Tryz.ntmps43;go_wp2;go_ret;exact⟨by simp[*],(by repeat (first | exact Below.refl _ _ | assumption | refine Below.drew ?_ | refine below_drewN ?_ _ | refine aj ?_ _ | refine Below.setCell ?_ (by first | (simp;done) | omega | (simp;omega)) _ | refine aA ?_ (by assumption)))⟩
  ·by_cases h3:1000000<b
   ·have hs:nJ a b=true:=by simp[nJ,h3]
    rw[hs];clear hs;go_enter Tryz.func43,Tryz.ntmps43;go_wp2;go_ret;exact⟨by simp[*],(by repeat (first | exact Below.refl _ _ | assumption | refine Below.drew ?_ | refine below_drewN ?_ _ | refine aj ?_ _ | refine Below.setCell ?_ (by first | (simp;done) | omega | (simp;omega)) _ | refine aA ?_ (by assumption)))⟩
   ·have hs:nJ a b=decide (60<b-a):=by simp[nJ,h1,h2,h3]
    rw[hs];clear hs;go_enter Tryz.func43,Tryz.ntmps43;go_wp2;go_ret;exact⟨by simp[*],(by repeat (first | exact Below.refl _ _ | assumption | refine Below.drew ?_ | refine below_drewN ?_ _ | refine aj ?_ _ | refine Below.setCell ?_ (by first | (simp;done) | omega | (simp;omega)) _ | refine aA ?_ (by assumption)))⟩
theorem IG {r:Option (List Int×List Int)} {w w':World} {e:Ending} (h:FW r w e w'):(∃A1 m1 d1 A2 m2 d2 q,e=.returned (.tuple #[.agg #[.slice A1 m1 d1,.slice A2 m2 d2],.bool q]) ∧
  ((q=false∧r=none)∨(q=true∧∃S C,r=some (S,C)∧RA bW 1 w' w'.heap.size A1 m1 d1 S∧RA bW 1 w' w'.heap.size A2 m2 d2 C)))∧Ext w w':=by
 cases r with
 |none =>
  obtain⟨⟨B1,m1,d1,B2,m2,d2,he⟩,hx⟩:=h;exact⟨⟨B1,m1,d1,B2,m2,d2,false,he,.inl ⟨rfl,rfl⟩⟩,hx⟩
 |some SC =>
  obtain⟨S,C⟩:=SC;obtain⟨⟨v,he,hst⟩,hx⟩:=h;obtain⟨gs,gc,c,rfl,r1,r2,_⟩:=hst.it;exact⟨⟨_,_,_,_,_,_,true,he,.inr ⟨rfl,S,C,rfl,zu r1 (by omega),zu r2 (by omega)⟩⟩,hx⟩
end Go.Proofs.YtjidhhfabfnhnaaGreat
