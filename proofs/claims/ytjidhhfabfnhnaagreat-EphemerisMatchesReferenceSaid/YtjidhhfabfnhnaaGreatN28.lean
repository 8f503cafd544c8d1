/- The reference: Passes (printed by contact_q2.py). -/
import Derived.Test.YtjidhhfabfnhnaaGreatN27
import Derived.Test.YtjidhhfabfnhnaaGreatN01
import Derived.Test.YtjidhhfabfnhnaaGreatN19
import Derived.Test.YtjidhhfabfnhnaaGreatN17
import Derived.Test.YtjidhhfabfnhnaaGreatN24
import Derived.Test.YtjidhhfabfnhnaaGreatN16
import Derived.Test.YtjidhhfabfnhnaaGreatN09
import Derived.Test.YtjidhhfabfnhnaaGreatN13
import Derived.ArgAppend
import Derived.Deep.CutRange
namespace Go.Proofs.YtjidhhfabfnhnaaGreat
open Go.RowKit
attribute [local go_sem] Oper.semAt_some
set_option maxHeartbeats 2000000 in
theorem wG (a b:Int) (w:World) :
  Calls Tryz.prog 78 #[.agg #[.int .i64 a,.int .i64 b]] w fun e w'=>e=.returned (.bool (gX ⟨a,b⟩))∧Ext w w':=by
 by_cases h:0≤a∧a<b∧b≤1000000
 ·obtain⟨h1,h2,h3⟩:=h;have hs:gX ⟨a,b⟩=decide (b-a≤1440):=by simp[gX,h1,h2,h3]
  rw[hs];clear hs;go_enter Tryz.func78,Tryz.ntmps78;go_wp2;go_ret;exact⟨by simp[*],(by repeat (first | exact Below.refl _ _ | assumption | refine Below.drew ?_ | refine below_drewN ?_ _ | refine aj ?_ _ | refine Below.setCell ?_ (by first | (simp;done) | omega | (simp;omega)) _ | refine aA ?_ (by assumption)))⟩
 ·have hs:gX ⟨a,b⟩=false:=by
   simp only[gX,decide_eq_false_iff_not];omega
  rw[hs];clear hs;by_cases h1:0≤a
  ·by_cases h2:a<b
   ·have h3:¬b≤1000000:=by omega
    clear h;go_enter Tryz.func78,Tryz.ntmps78;go_wp2;go_ret;exact⟨by simp[*],(by repeat (first | exact Below.refl _ _ | assumption | refine Below.drew ?_ | refine below_drewN ?_ _ | refine aj ?_ _ | refine Below.setCell ?_ (by first | (simp;done) | omega | (simp;omega)) _ | refine aA ?_ (by assumption)))⟩
   ·clear h;go_enter Tryz.func78,Tryz.ntmps78;go_wp2;go_ret;exact⟨by simp[*],(by repeat (first | exact Below.refl _ _ | assumption | refine Below.drew ?_ | refine below_drewN ?_ _ | refine aj ?_ _ | refine Below.setCell ?_ (by first | (simp;done) | omega | (simp;omega)) _ | refine aA ?_ (by assumption)))⟩
  ·clear h;go_enter Tryz.func78,Tryz.ntmps78;go_wp2;go_ret;exact⟨by simp[*],(by repeat (first | exact Below.refl _ _ | assumption | refine Below.drew ?_ | refine below_drewN ?_ _ | refine aj ?_ _ | refine Below.setCell ?_ (by first | (simp;done) | omega | (simp;omega)) _ | refine aA ?_ (by assumption)))⟩
set_option maxHeartbeats 2000000 in
theorem Aj (nS nT aa ab ac ad nU nV ba bb bc bd:Int) (w:World) :
  Calls Tryz.prog 82 #[.agg #[.int .i64 nS,.int .i64 nT,.int .i64 aa,.int .i64 ab,.int .i64 ac,.int .i64 ad],.agg #[.int .i64 nU,.int .i64 nV,.int .i64 ba,.int .i64 bb,.int .i64 bc,.int .i64 bd]] w fun e w'=>e=.returned (.bool (ltOf aY ⟨nS,nT,⟨aa,ab⟩,⟨ac,ad⟩⟩ ⟨nU,nV,⟨ba,bb⟩,⟨bc,bd⟩⟩))∧Below w.heap.size w w':=by
 have hl:=QZ ⟨nS,nT,⟨aa,ab⟩,⟨ac,ad⟩⟩ ⟨nU,nV,⟨ba,bb⟩,⟨bc,bd⟩⟩;dsimp only at hl;generalize ltOf aY ⟨nS,nT,⟨aa,ab⟩,⟨ac,ad⟩⟩ ⟨nU,nV,⟨ba,bb⟩,⟨bc,bd⟩⟩=r at hl⊢;have hr:∀z:Int,∀u:Int,(z<u↔r=true)→Ending.returned (.bool (decide (z<u)))=.returned (.bool r):=fun z u h=>by
  have:decide (z<u)=r:=by rw[Bool.eq_iff_iff,decide_eq_true_iff];exact h
  rw[this]
 have HR:=Lib.hid hr;have HL:=Lib.hid hl;clear hr hl;by_cases h1:ac=bc
 ·subst h1;by_cases h2:nS=nU
  ·subst h2;by_cases h3:nT=nV
   ·subst h3;by_cases h4:aa=ba
    ·subst h4;go_enter Tryz.func82,Tryz.ntmps82;go_wp2;go_ret;exact⟨HR.out _ _ (by rw[HL.out];first | omega | (simp only[true_and];omega)),(by repeat (first | exact Below.refl _ _ | assumption | refine Below.drew ?_ | refine below_drewN ?_ _ | refine aj ?_ _ | refine Below.setCell ?_ (by first | (simp;done) | omega | (simp;omega)) _ | refine aA ?_ (by assumption)))⟩
    ·have n4:(aa != ba)=true:=by simpa using h4
     go_enter Tryz.func82,Tryz.ntmps82;go_wp2;go_ret;exact⟨HR.out _ _ (by rw[HL.out];first | omega | (simp only[true_and];omega)),(by repeat (first | exact Below.refl _ _ | assumption | refine Below.drew ?_ | refine below_drewN ?_ _ | refine aj ?_ _ | refine Below.setCell ?_ (by first | (simp;done) | omega | (simp;omega)) _ | refine aA ?_ (by assumption)))⟩
   ·have n3:(nT != nV)=true:=by simpa using h3
    go_enter Tryz.func82,Tryz.ntmps82;go_wp2;go_ret;exact⟨HR.out _ _ (by rw[HL.out];first | omega | (simp only[true_and];omega)),(by repeat (first | exact Below.refl _ _ | assumption | refine Below.drew ?_ | refine below_drewN ?_ _ | refine aj ?_ _ | refine Below.setCell ?_ (by first | (simp;done) | omega | (simp;omega)) _ | refine aA ?_ (by assumption)))⟩
  ·have n2:(nS != nU)=true:=by simpa using h2
   go_enter Tryz.func82,Tryz.ntmps82;go_wp2;go_ret;exact⟨HR.out _ _ (by rw[HL.out];first | omega | (simp only[true_and];omega)),(by repeat (first | exact Below.refl _ _ | assumption | refine Below.drew ?_ | refine below_drewN ?_ _ | refine aj ?_ _ | refine Below.setCell ?_ (by first | (simp;done) | omega | (simp;omega)) _ | refine aA ?_ (by assumption)))⟩
 ·have n1:(ac != bc)=true:=by simpa using h1
  go_enter Tryz.func82,Tryz.ntmps82;go_wp2;go_ret;exact⟨HR.out _ _ (by rw[HL.out];first | omega | (simp only[true_and];omega)),(by repeat (first | exact Below.refl _ _ | assumption | refine Below.drew ?_ | refine below_drewN ?_ _ | refine aj ?_ _ | refine Below.setCell ?_ (by first | (simp;done) | omega | (simp;omega)) _ | refine aA ?_ (by assumption)))⟩
end Go.Proofs.YtjidhhfabfnhnaaGreat
namespace Go.Proofs.YtjidhhfabfnhnaaGreat
open Go.RowKit
attribute [local go_sem] Oper.semAt_some
set_option maxRecDepth 100000 in
set_option maxHeartbeats 4000000 in
theorem vN (x:St) (l:List fE) (A:Option Addr) (n c:Nat) (a b kn:Int) (w:World) (h:RA aF 10 w w.heap.size A n c l) (hn:n≤2000) :
  Calls Tryz.prog 28 #[.agg (aC x).toArray,.slice A n c,.agg #[.int .i64 a,.int .i64 b],.int .i64 kn] w (qK (dY x l ⟨a,b⟩ kn) w):=by
 have LK:=h.len;have hoe:dY x l ⟨a,b⟩ kn=if (gX ⟨a,b⟩&&lG x l)=true then some (eF (iK x l kn) a (b-a).toNat) else none:=rfl
 obtain⟨R,hR⟩:∃R,R=dY x l ⟨a,b⟩ kn:=⟨_,rfl⟩;rw[←hR];rw[←hR]at hoe;have how:=La x.id l;obtain⟨L,hL⟩:∃L,L=iZ x.id l:=⟨_,rfl⟩;rw[←hL]at how;have hvs:lG x l=dX [x] L:=by rw[hL];rfl
 obtain⟨q,hq⟩:∃q,q=dX [x] L:=⟨_,rfl⟩;have hsp:gX ⟨a,b⟩=true→0≤a∧a<b∧b≤1000000∧b-a≤1440:=fun h=>by simpa [gX]using h
 obtain⟨qi,hqi⟩:∃q,q=gX ⟨a,b⟩:=⟨_,rfl⟩;have hfr:q=true→∀u∈l,u.sat=x.id→0≤u.fr:=fun hq1=>BM (by rw[hvs,←hq];exact hq1);rw[hvs,←hq,←hqi]at hoe;rw[←hqi]at hsp;have O7:Hid (∀w,Calls Tryz.prog 78 #[.agg #[.int .i64 a,.int .i64 b]] w fun e w'=>e=.returned (.bool qi)∧Ext w w'):=Lib.hid (by rw[hqi];exact wG a b);obtain⟨SX,gY⟩:∃X,(aC x).toArray=X:=⟨_,rfl⟩;have HOW:Hid (∀W,Ext w W→Calls Tryz.prog 76 #[.agg SX,.slice A n c] W (jc aF 10 66 L W)):=Lib.hid (fun W hx=>by rw[←gY,hL];exact Gh x l A n c W (aB h hx) hn);have QV:Hid (∀W (g:Nat) B m d,aI W g 53 SX→RA aF 10 W W.heap.size B m d L→Calls Tryz.prog 25 #[.slice (some ⟨g,0,none⟩) 1 1,.slice B m d] W fun e w'=>e=.returned (.bool q)∧Ext W w'):=Lib.hid (fun W g B m d hb hr=>by rw[hq];rw[←gY]at hb;exact lM [x] L _ B 1 1 m d W (RA.one rfl hb) hr);obtain⟨LS,hLS⟩:∃X,eF (iK x l kn) a (b-a).toNat=X:=⟨_,rfl⟩;have WG:Hid (q=true→qi=true→∀W,Ext w W→Calls Tryz.prog 79 #[.agg SX,.slice A n c,.agg #[.int .i64 a,.int .i64 b],.int .i64 kn] W (jc strCells 9 96 LS W)):=Lib.hid (fun hq1 hq2 W hx=>by rw[←gY,←hLS];obtain⟨h1,h2,h3,_⟩:=hsp hq2;exact qW x l A n c a b kn W (aB h hx) (hfr hq1) h1 (by omega) h3);have HS2:Hid (SX.size=21):=Lib.hid (by rw[←gY];rfl);have YF:Hid ((qi&&q)=true→R=some LS):=Lib.hid (fun hh=>by rw[hoe,if_pos hh,hLS]);have Fq:Hid ((qi&&q)=false→R=none):=Lib.hid (fun hh=>by rw[hoe,if_neg (by rw[hh];simp)]);have hlL:L.length≤2000:=by omega
 rw[gY];clear hR hoe hvs hL hq hqi gY h how LK hfr hsp hLS;go_enter Tryz.func28,Tryz.ntmps28;go_upto_region 1 with (fail);have J4:aI ((w.alloc (.cells SX 53)).alloc (.cells #[.int .i64 a,.int .i64 b] 32)) w.heap.size 53 SX:=(aI.new _ _ _).alloc _;have J6:aI ((w.alloc (.cells SX 53)).alloc (.cells #[.int .i64 a,.int .i64 b] 32)) (w.heap.size+1) 32 #[.int .i64 a,.int .i64 b]:=aI.aU _ _ _ (by simp);have hx0:Ext w ((w.alloc (.cells SX 53)).alloc (.cells #[.int .i64 a,.int .i64 b] 32)):=aj (aj (Below.refl _ _) _) _;obtain⟨g4,hg4⟩:∃g,g=w.heap.size:=⟨_,rfl⟩;obtain⟨g6,hg6⟩:∃g,g=w.heap.size+1:=⟨_,rfl⟩;rw[←hg6,←hg4];rw[←hg4]at J4;rw[←hg6]at J6;generalize (w.alloc (.cells SX 53)).alloc (.cells #[.int .i64 a,.int .i64 b] 32)=W0 at J4 J6 hx0⊢;clear hg4 hg6;have s0:W0.cell? ⟨g6,0,none⟩=some (.int .i64 a):=J6.cell 0;have s1:W0.cell? ⟨g6,1,none⟩=some (.int .i64 b):=J6.cell 1;have jU:=Lib.hid J4;have HX0:=Lib.hid hx0;clear J4 J6 hx0;cases q with
 |false =>
  refine aH 12 [some (.agg SX),none,some (.agg SX),some (.slice A n c),none,some (.bool false),some (.bool true),some (.bool true),some (undef),some (undef),some (undef),some (.bool true)] [(1,.w fun v w1=>∃g,v=.slice (some ⟨g,0,none⟩) 1 1∧aI w1 g 53 SX),(4,.w fun v w1=>∃B m d,v=.slice B m d∧RA aF 10 w1 w1.heap.size B m d L)] ?_ ?_ ?_
  ·refine⟨?_,?_,trivial⟩
   ·intro v w1 w2 hr hx;obtain⟨g,h1,h2⟩:=hr;exact⟨g,h1,h2.ext hx⟩
   ·intro v w1 w2 hr hx;obtain⟨B,m,d,h1,h2⟩:=hr;exact⟨B,m,d,h1,aB h2 hx⟩
  ·refine⟨?x0,?x1,?x2,?_,?x4,?x5,?_,?_,?_,?_,?_,?_,trivial⟩
   case x0 =>
    intro vals w1 hx hd;clear hd;simp only[Lf];refine ay rfl 53 _ rfl g4 0 rfl SX SX.toList (by simp) _ (aI.range (jU.out.ext hx.aG) _ rfl) Tryz.underlying53 rfl (by rw[Array.length_toList,HS2.out];exact aN) ?_;go_wp2;exact q_
   case x1 =>
    intro vals w1 hx hd;clear hd;simp only[Lf,au,Act.put,aX,aW];refine aV rfl _ _ _ rfl SX rfl Tryz.underlying28 21 fQ HS2.out (by omega) (by omega) ?_;go_wp2;exact⟨rfl,(by repeat (first | exact Below.refl _ _ | assumption | refine Below.drew ?_ | refine below_drewN ?_ _ | refine aj ?_ _ | refine Below.setCell ?_ (by first | (simp;done) | omega | (simp;omega)) _ | refine aA ?_ (by assumption))),_,rfl,aI.new _ _ _⟩
   case x2 =>
    intro vals w1 hx hd;clear hd;simp only[Lf,au,Act.put,aX,aW];refine ay rfl 53 _ rfl g4 0 rfl SX SX.toList (by simp) _ (aI.range (jU.out.ext hx.aG) _ rfl) Tryz.underlying53 rfl (by rw[Array.length_toList,HS2.out];exact aN) ?_;go_wp2;exact q_
   case x4 =>
    intro vals w1 hx hd;clear hd;simp only[Lf,au,Act.put,aX,aW];go_wp2_with fail;refine (HOW.out _ (Ext.trans HX0.out hx.aG)).mono ?_;rintro e w2 ⟨v2,rfl,hown,hb2⟩;obtain⟨B,d,hv,_,_⟩:=aP hown;subst hv;have hra:=Lib.hid (RA.dD hown rfl (by omega));clear hown;go_wp2;exact⟨rfl,hb2,B,_,d,rfl,hra.out⟩
   case x5 =>
    intro vals w1 hx hd;have r1:(fun v w1=>∃g,v=.slice (some ⟨g,0,none⟩) 1 1∧aI w1 g 53 SX) (vals 1) w1:=hd 1 (by decide) rfl;dsimp only at r1;have r4:(fun v w1=>∃B m d,v=.slice B m d∧RA aF 10 w1 w1.heap.size B m d L) (vals 4) w1:=hd 4 (by decide) rfl;dsimp only at r4;clear hd;simp only[Lf,au,Act.put,aX,aW];obtain⟨g,e_1,jb⟩:=r1;obtain⟨B,m,d,e_4,hra⟩:=r4;rw[e_1,e_4];have HC:=Lib.hid (QV.out _ _ _ _ _ jb hra);clear jb hra;go_wp2_with fail;refine HC.out.mono ?_;rintro e w2 ⟨rfl,hb2⟩;go_wp2;exact⟨rfl,hb2,rfl⟩
   all_goals
    intro vals w1 hx hd;clear hd;simp only[Lf,au,Act.put,aX,aW];go_wp2;exact gW
  intro vals W1 hx hf;have e11:vals 11=.bool true:=hf 11 (by omega);have hx1:=hx.aG;have jB:=Lib.hid (Ext.trans HX0.out hx1);have Ql:=Lib.hid (jU.out.ext hx1);clear hf hx;refine dJ (by kernel_rfl) ?_;simp only[Lf,au,Act.put,FR_];rw[e11];clear e11;obtain rfl:R=none:=Fq.out (by cases qi<;>rfl);clear s0 s1;go_wp2;exact bodyPost_ret (v:=.tuple #[.slice none 0 0,.int .i64 360]) (by simp[results,Tryz.results28,go_sem]) rfl ⟨rfl,jB.out⟩
 |true =>
  cases qi with
  |false =>
   refine aH 12 [some (.agg SX),none,some (.agg SX),some (.slice A n c),none,some (.bool true),some (.bool false),some (.bool false),some (.agg #[.int .i64 a,.int .i64 b]),some (.bool false),some (.bool true),some (.bool true)] [(1,.w fun v w1=>∃g,v=.slice (some ⟨g,0,none⟩) 1 1∧aI w1 g 53 SX),(4,.w fun v w1=>∃B m d,v=.slice B m d∧RA aF 10 w1 w1.heap.size B m d L)] ?_ ?_ ?_
   ·refine⟨?_,?_,trivial⟩
    ·intro v w1 w2 hr hx;obtain⟨g,h1,h2⟩:=hr;exact⟨g,h1,h2.ext hx⟩
    ·intro v w1 w2 hr hx;obtain⟨B,m,d,h1,h2⟩:=hr;exact⟨B,m,d,h1,aB h2 hx⟩
   ·refine⟨?x0,?x1,?x2,?_,?x4,?x5,?_,?_,?_,?x9,?_,?_,trivial⟩
    case x0 =>
     intro vals w1 hx hd;clear hd;simp only[Lf];refine ay rfl 53 _ rfl g4 0 rfl SX SX.toList (by simp) _ (aI.range (jU.out.ext hx.aG) _ rfl) Tryz.underlying53 rfl (by rw[Array.length_toList,HS2.out];exact aN) ?_;go_wp2;exact q_
    case x1 =>
     intro vals w1 hx hd;clear hd;simp only[Lf,au,Act.put,aX,aW];refine aV rfl _ _ _ rfl SX rfl Tryz.underlying28 21 fQ HS2.out (by omega) (by omega) ?_;go_wp2;exact⟨rfl,(by repeat (first | exact Below.refl _ _ | assumption | refine Below.drew ?_ | refine below_drewN ?_ _ | refine aj ?_ _ | refine Below.setCell ?_ (by first | (simp;done) | omega | (simp;omega)) _ | refine aA ?_ (by assumption))),_,rfl,aI.new _ _ _⟩
    case x2 =>
     intro vals w1 hx hd;clear hd;simp only[Lf,au,Act.put,aX,aW];refine ay rfl 53 _ rfl g4 0 rfl SX SX.toList (by simp) _ (aI.range (jU.out.ext hx.aG) _ rfl) Tryz.underlying53 rfl (by rw[Array.length_toList,HS2.out];exact aN) ?_;go_wp2;exact q_
    case x4 =>
     intro vals w1 hx hd;clear hd;simp only[Lf,au,Act.put,aX,aW];go_wp2_with fail;refine (HOW.out _ (Ext.trans HX0.out hx.aG)).mono ?_;rintro e w2 ⟨v2,rfl,hown,hb2⟩;obtain⟨B,d,hv,_,_⟩:=aP hown;subst hv;have hra:=Lib.hid (RA.dD hown rfl (by omega));clear hown;go_wp2;exact⟨rfl,hb2,B,_,d,rfl,hra.out⟩
    case x5 =>
     intro vals w1 hx hd;have r1:(fun v w1=>∃g,v=.slice (some ⟨g,0,none⟩) 1 1∧aI w1 g 53 SX) (vals 1) w1:=hd 1 (by decide) rfl;dsimp only at r1;have r4:(fun v w1=>∃B m d,v=.slice B m d∧RA aF 10 w1 w1.heap.size B m d L) (vals 4) w1:=hd 4 (by decide) rfl;dsimp only at r4;clear hd;simp only[Lf,au,Act.put,aX,aW];obtain⟨g,e_1,jb⟩:=r1;obtain⟨B,m,d,e_4,hra⟩:=r4;rw[e_1,e_4];have HC:=Lib.hid (QV.out _ _ _ _ _ jb hra);clear jb hra;go_wp2_with fail;refine HC.out.mono ?_;rintro e w2 ⟨rfl,hb2⟩;go_wp2;exact⟨rfl,hb2,rfl⟩
    case x9 =>
     intro vals w1 hx hd;clear hd;simp only[Lf,au,Act.put,aX,aW];go_wp2_with fail;refine (O7.out _).mono ?_;rintro e w2 ⟨rfl,hb2⟩;go_wp2;exact⟨rfl,hb2,rfl⟩
    all_goals
     intro vals w1 hx hd;clear hd;simp only[Lf,au,Act.put,aX,aW];have s0:=ah hx s0;have s1:=ah hx s1;go_wp2;exact gW
   intro vals W1 hx hf;have e11:vals 11=.bool true:=hf 11 (by omega);have hx1:=hx.aG;have jB:=Lib.hid (Ext.trans HX0.out hx1);have Ql:=Lib.hid (jU.out.ext hx1);clear hf hx;refine dJ (by kernel_rfl) ?_;simp only[Lf,au,Act.put,FR_];rw[e11];clear e11;obtain rfl:R=none:=Fq.out rfl;clear s0 s1;go_wp2;exact bodyPost_ret (v:=.tuple #[.slice none 0 0,.int .i64 360]) (by simp[results,Tryz.results28,go_sem]) rfl ⟨rfl,jB.out⟩
  |true =>
   refine aH 12 [some (.agg SX),none,some (.agg SX),some (.slice A n c),none,some (.bool true),some (.bool false),some (.bool false),some (.agg #[.int .i64 a,.int .i64 b]),some (.bool true),some (.bool false),some (.bool false)] [(1,.w fun v w1=>∃g,v=.slice (some ⟨g,0,none⟩) 1 1∧aI w1 g 53 SX),(4,.w fun v w1=>∃B m d,v=.slice B m d∧RA aF 10 w1 w1.heap.size B m d L)] ?_ ?_ ?_
   ·refine⟨?_,?_,trivial⟩
    ·intro v w1 w2 hr hx;obtain⟨g,h1,h2⟩:=hr;exact⟨g,h1,h2.ext hx⟩
    ·intro v w1 w2 hr hx;obtain⟨B,m,d,h1,h2⟩:=hr;exact⟨B,m,d,h1,aB h2 hx⟩
   ·refine⟨?x0,?x1,?x2,?_,?x4,?x5,?_,?_,?_,?x9,?_,?_,trivial⟩
    case x0 =>
     intro vals w1 hx hd;clear hd;simp only[Lf];refine ay rfl 53 _ rfl g4 0 rfl SX SX.toList (by simp) _ (aI.range (jU.out.ext hx.aG) _ rfl) Tryz.underlying53 rfl (by rw[Array.length_toList,HS2.out];exact aN) ?_;go_wp2;exact q_
    case x1 =>
     intro vals w1 hx hd;clear hd;simp only[Lf,au,Act.put,aX,aW];refine aV rfl _ _ _ rfl SX rfl Tryz.underlying28 21 fQ HS2.out (by omega) (by omega) ?_;go_wp2;exact⟨rfl,(by repeat (first | exact Below.refl _ _ | assumption | refine Below.drew ?_ | refine below_drewN ?_ _ | refine aj ?_ _ | refine Below.setCell ?_ (by first | (simp;done) | omega | (simp;omega)) _ | refine aA ?_ (by assumption))),_,rfl,aI.new _ _ _⟩
    case x2 =>
     intro vals w1 hx hd;clear hd;simp only[Lf,au,Act.put,aX,aW];refine ay rfl 53 _ rfl g4 0 rfl SX SX.toList (by simp) _ (aI.range (jU.out.ext hx.aG) _ rfl) Tryz.underlying53 rfl (by rw[Array.length_toList,HS2.out];exact aN) ?_;go_wp2;exact q_
    case x4 =>
     intro vals w1 hx hd;clear hd;simp only[Lf,au,Act.put,aX,aW];go_wp2_with fail;refine (HOW.out _ (Ext.trans HX0.out hx.aG)).mono ?_;rintro e w2 ⟨v2,rfl,hown,hb2⟩;obtain⟨B,d,hv,_,_⟩:=aP hown;subst hv;have hra:=Lib.hid (RA.dD hown rfl (by omega));clear hown;go_wp2;exact⟨rfl,hb2,B,_,d,rfl,hra.out⟩
    case x5 =>
     intro vals w1 hx hd;have r1:(fun v w1=>∃g,v=.slice (some ⟨g,0,none⟩) 1 1∧aI w1 g 53 SX) (vals 1) w1:=hd 1 (by decide) rfl;dsimp only at r1;have r4:(fun v w1=>∃B m d,v=.slice B m d∧RA aF 10 w1 w1.heap.size B m d L) (vals 4) w1:=hd 4 (by decide) rfl;dsimp only at r4;clear hd;simp only[Lf,au,Act.put,aX,aW];obtain⟨g,e_1,jb⟩:=r1;obtain⟨B,m,d,e_4,hra⟩:=r4;rw[e_1,e_4];have HC:=Lib.hid (QV.out _ _ _ _ _ jb hra);clear jb hra;go_wp2_with fail;refine HC.out.mono ?_;rintro e w2 ⟨rfl,hb2⟩;go_wp2;exact⟨rfl,hb2,rfl⟩
    case x9 =>
     intro vals w1 hx hd;clear hd;simp only[Lf,au,Act.put,aX,aW];go_wp2_with fail;refine (O7.out _).mono ?_;rintro e w2 ⟨rfl,hb2⟩;go_wp2;exact⟨rfl,hb2,rfl⟩
    all_goals
     intro vals w1 hx hd;clear hd;simp only[Lf,au,Act.put,aX,aW];have s0:=ah hx s0;have s1:=ah hx s1;go_wp2;exact gW
   intro vals W1 hx hf;have e11:vals 11=.bool false:=hf 11 (by omega);have hx1:=hx.aG;have jB:=Lib.hid (Ext.trans HX0.out hx1);have Ql:=Lib.hid (jU.out.ext hx1);clear hf hx;refine dJ (by kernel_rfl) ?_;simp only[Lf,au,Act.put,FR_];rw[e11];clear e11;obtain rfl:R=some LS:=YF.out rfl;have s0:=ah hx1 s0;have s1:=ah hx1 s1;clear hx1;have HO:=Lib.hid (WG.out rfl rfl _ jB.out);go_wp2_with (refine ay rfl 53 _ rfl g4 0 rfl SX SX.toList (by simp) _ (aI.range Ql.out _ rfl) Tryz.underlying53 rfl (by rw[Array.length_toList,HS2.out];exact aN) ?_);refine HO.out.mono ?_;rintro e W2 ⟨v2,rfl,hown,hx2⟩;have sK:=Lib.hid (Ext.trans jB.out hx2);have HOWN:=Lib.hid (own_base hown jB.out.size);clear hx2 hown s0 s1 HO;go_wp2;exact bodyPost_ret (v:=.tuple #[v2,.int .i64 0]) (by simp[results,Tryz.results28,go_sem]) rfl ⟨⟨v2,rfl,HOWN.out⟩,sK.out⟩
end Go.Proofs.YtjidhhfabfnhnaaGreat
namespace Go.Proofs.YtjidhhfabfnhnaaGreat
open Go.RowKit
theorem UR (a b:bY) (w:World):(binOp .eql 75 (.agg #[.int .i64 a.sat,.int .i64 a.cZ,.int .i64 a.sure.fr,.int .i64 a.sure.tt,.int .i64 a.can.fr,.int .i64 a.can.tt]) (.agg #[.int .i64 b.sat,.int .i64 b.cZ,.int .i64 b.sure.fr,.int .i64 b.sure.tt,.int .i64 b.can.fr,.int .i64 b.can.tt])).run Tryz.prog w=.ok (.bool (decide (a=b))) w:=by
 have h:=Qb a b w;rw[run_eql_struct];exact (congrArg (fun r=>Result.andThen r fun b w'=>.ok (Value.bool b) w') h)
end Go.Proofs.YtjidhhfabfnhnaaGreat
namespace Go.Proofs.YtjidhhfabfnhnaaGreat
open Go.RowKit
attribute [local go_sem] Oper.semAt_some
theorem without_take (l m:List bY) (k:Nat) (h:k<l.length):bQ (l.take (k+1)) m=if l[k]∈m then bQ (l.take k) m else bQ (l.take k) m++[l[k]]:=by
 unfold bQ;rw[List.take_succ_eq_append_getElem h,List.filter_append];by_cases e:l[k]∈m
 ·rw[if_pos e];simp[e]
 ·rw[if_neg e];simp[e]
theorem Nv (m:List bY) (x:bY) (j:Nat) (h:j<m.length):decide (x∈m.take (j+1))=(decide (x∈m.take j)||decide (x=m[j])):=by
 rw[List.take_succ_eq_append_getElem h,Bool.eq_iff_iff];simp only[decide_eq_true_eq,Bool.or_eq_true,List.mem_append,List.mem_singleton]
theorem Jh (s:bY):∀u∈ak s,u.oneCell'=true:=by simp[ak,Value.oneCell']
theorem Q5 {W0 w:World} (ty:TypeId) (v:Value) (acc:List bY) (x:bY) (hx:Ext W0 w) (h:w.ownsRow W0.heap.size 75 6 v acc.length (acc.flatMap ak)) (hn:acc.length≤100000) :
  ∃v' w',(Builtin.append_ #[36,36] ty #[v,.slice (some ⟨w.heap.size,0,none⟩) 1 1]).run Tryz.prog (w.alloc (.cells (ak x).toArray 75))=.ok v' w'∧w'.ownsRow W0.heap.size 75 6 v' (acc++[x]).length ((acc++[x]).flatMap ak)∧Ext W0 w':=by
 obtain⟨i0,hi0,hz0,hz1,hz2⟩:=info_parts tX;have jx:=aI.new w 75 (ak x).toArray;have hx5:Ext w (w.alloc (.cells (ak x).toArray 75)):=aj (Below.refl _ _) _;have hrow:=bM h hx5;have hx6:=Ext.trans hx hx5;have hBs:=Below.size hx6;obtain⟨v2,W7,hr,hrow2,hg2,-⟩:=run_append_own (P:=Tryz.prog) (w.alloc (.cells (ak x).toArray 75)) W0.heap.size 36 ty 75 i0 _ 6 48 Tryz.underlying36 hi0 hz0 hz1 hz2 rfl (by omega) _ _ _ hrow ⟨w.heap.size,0,none⟩ 1 1 (ak x) rfl (by intro i u hu;rw[Addr.add_lit,Nat.zero_add,jx.cell];simpa using hu) (Jh x) (by unfold maxLen;omega) (by omega) (by omega);exact⟨v2,W7,hr,by rw[List.length_append,List.flatMap_append];simpa using hrow2,hx6.grown hg2 hBs (fun q e=>(World.ownsRow.lt hrow q e).1)⟩
set_option maxRecDepth 100000 in
set_option maxHeartbeats 4000000 in
theorem wH (l m:List bY) (A B:Option Addr) (n c nb cb:Nat) (w:World) (h:RA ak 6 w w.heap.size A n c l) (h2:RA ak 6 w w.heap.size B nb cb m) (hn:n≤2000) :
  Calls Tryz.prog 84 #[.slice A n c,.slice B nb cb] w (jc ak 6 75 (bQ l m) w):=by
 have hnb:nb≤9223372036854775807:=h2.le;have HL:Hid (l.length=n):=Lib.hid h.len;have HM:Hid (m.length=nb):=Lib.hid h2.len;have H:=Lib.hid h;have H2:=Lib.hid h2;clear h h2;go_enter Tryz.func84,Tryz.ntmps84;go_wp2;go_loopw [5,6] (fun v i wr=>∃k:Nat,k≤n∧i=.int .i64 k∧Hid (wr.ownsRow w.heap.size 75 6 v (bQ (l.take k) m).length ((bQ (l.take k) m).flatMap ak))∧Hid (Ext w wr)) (fun _ i _=>n-(intOf i).toNat)
 case atStart=>exact⟨0,Nat.zero_le _,rfl,Lib.hid (World.ownsRow_nil _ _ _ _),Lib.hid (Below.refl _ _)⟩
 case round =>
  obtain⟨k,hk,rfl,HR,HX⟩:=hrel;by_cases hkn:k<n
  ·have hkz:(k:Int)<(n:Int):=by omega
   obtain⟨bu,ou,hzu,WC,hbu,nY⟩:=(H.out.below HX.out).at_ bg hkn;subst WC;have hot:=without_take l m k hzu;have hol:(bQ (l.take k) m).length≤2000:=by
    have h1:(bQ (l.take k) m).length≤(l.take k).length:=List.length_filter_le _ _;have h2:=List.length_take_le k l;omega
   generalize l[k]=x at nY hot;have d0:wr.cell? ⟨bu,ou+k*6,none⟩=some (.int .i64 x.sat):=nY 0 (by simp);have d1:wr.cell? ⟨bu,ou+k*6+1,none⟩=some (.int .i64 x.cZ):=nY 1 (by simp);have d2:wr.cell? ⟨bu,ou+k*6+2,none⟩=some (.int .i64 x.sure.fr):=nY 2 (by simp);have d3:wr.cell? ⟨bu,ou+k*6+3,none⟩=some (.int .i64 x.sure.tt):=nY 3 (by simp);have d4:wr.cell? ⟨bu,ou+k*6+4,none⟩=some (.int .i64 x.can.fr):=nY 4 (by simp);have d5:wr.cell? ⟨bu,ou+k*6+5,none⟩=some (.int .i64 x.can.tt):=nY 5 (by simp);have QM:=Lib.hid hot;obtain⟨L,hL⟩:∃L,L=bQ (l.take k) m:=⟨_,rfl⟩;rw[←hL]at HR QM hol;clear nY hot hbu hL hzu;go_upto_region 7 with (fail);go_loopw [7,8] (fun v i w2=>∃j:Nat,j≤nb∧v=.bool (decide (x∈m.take j))∧i=.int .i64 j∧Hid (Ext wr w2)) (fun _ i _=>nb-(intOf i).toNat)
   case atStart=>exact⟨0,Nat.zero_le _,by simp,rfl,Lib.hid (Below.refl _ _)⟩
   case round =>
    obtain⟨j,hj,rfl,rfl,HY⟩:=hrel;by_cases hjn:j<nb
    ·have hjz:(j:Int)<(nb:Int):=by omega
     obtain⟨bm,om,hzm,hAm,hbm,hcm⟩:=(H2.out.below (Ext.trans HX.out HY.out)).at_ bg hjn;subst hAm;have hmt:=Nv m x j hzm;generalize m[j]=y at hcm hmt;have d0:=ah HY.out d0;have e0:wr.cell? ⟨bm,om+j*6,none⟩=some (.int .i64 y.sat):=hcm 0 (by simp);have d1:=ah HY.out d1;have e1:wr.cell? ⟨bm,om+j*6+1,none⟩=some (.int .i64 y.cZ):=hcm 1 (by simp);have d2:=ah HY.out d2;have e2:wr.cell? ⟨bm,om+j*6+2,none⟩=some (.int .i64 y.sure.fr):=hcm 2 (by simp);have d3:=ah HY.out d3;have e3:wr.cell? ⟨bm,om+j*6+3,none⟩=some (.int .i64 y.sure.tt):=hcm 3 (by simp);have d4:=ah HY.out d4;have e4:wr.cell? ⟨bm,om+j*6+4,none⟩=some (.int .i64 y.can.fr):=hcm 4 (by simp);have d5:=ah HY.out d5;have e5:wr.cell? ⟨bm,om+j*6+5,none⟩=some (.int .i64 y.can.tt):=hcm 5 (by simp);have heq:=UR x y;obtain⟨q,hq⟩:∃q,q=decide (x∈m.take j):=⟨_,rfl⟩;rw[←hq]at hmt⊢;clear hq hcm hbm hzm;cases q with
     |true =>
      have HN:Hid (decide (x∈m.take (j+1))=true):=Lib.hid hmt;clear hmt heq;go_wp2;go_quiet (fail)
      go_wp2;go_roundw
      case rel=>exact⟨j+1,by omega,by rw[HN.out],by go_num,Lib.hid (Ext.trans HY.out (below_drewN (Below.refl _ _) _))⟩
      case measure=>simp[intOf];omega
     |false =>
      have HN:Hid (decide (x∈m.take (j+1))=decide (x=y)):=Lib.hid hmt;clear hmt;by_cases hxy:x=y
      ·rw[decide_eq_true hxy]at heq HN;clear hxy;go_wp2;go_quiet (fail)
       go_wp2;go_roundw
       case rel=>exact⟨j+1,by omega,by rw[HN.out],by go_num,Lib.hid (Ext.trans HY.out (below_drewN (Below.refl _ _) _))⟩
       case measure=>simp[intOf];omega
      ·rw[decide_eq_false hxy]at heq HN;clear hxy;go_wp2;go_quiet (fail)
       go_wp2;go_roundw
       case rel=>exact⟨j+1,by omega,by rw[HN.out],by go_num,Lib.hid (Ext.trans HY.out (below_drewN (Below.refl _ _) _))⟩
       case measure=>simp[intOf];omega
    ·have HTJ:Hid (m.take j=m):=Lib.hid (List.take_of_length_le (by rw[HM.out];omega));rw[HTJ.out];have hR:=bM HR.out HY.out;have HXY:=Lib.hid (Ext.trans HX.out HY.out);by_cases hxm:x∈m
     ·rw[decide_eq_true hxm];have Ai:=Lib.hid (QM.out.trans (if_pos hxm));have Gz:=Lib.hid hR;clear hxm hR;go_wp2;go_roundw
      case rel=>exact⟨k+1,by omega,by go_num,Lib.hid (by rw[Ai.out];exact Gz.out),HXY⟩
      case measure=>simp[intOf];omega
     ·rw[decide_eq_false hxm];have Ai:=Lib.hid (QM.out.trans (if_neg hxm));obtain⟨A5,c5,hv5,_,_⟩:=aP hR;subst hv5;obtain⟨v5,w11,hrun,hown,hext⟩:=Q5 36 (.slice A5 _ c5) L x HXY.out hR (by omega);have kH:=Lib.hid hrun;have HOWN:Hid (w11.ownsRow w.heap.size 75 6 v5 (bQ (l.take (k+1)) m).length ((bQ (l.take (k+1)) m).flatMap ak)):=Lib.hid (by rw[Ai.out];exact hown);have HEX:=Lib.hid hext;have d0:=ah HY.out d0;have d1:=ah HY.out d1;have d2:=ah HY.out d2;have d3:=ah HY.out d3;have d4:=ah HY.out d4;have d5:=ah HY.out d5;clear hrun hown hext hR hxm;go_wp2_with (refine aO rfl _ _ _ rfl rfl rfl kH.out ?_);go_roundw
      case rel=>exact⟨k+1,by omega,by go_num,HOWN,HEX⟩
      case measure=>simp[intOf];omega
  ·have hkz:¬(k:Int)<(n:Int):=by omega
   have X9:Hid (l.take k=l):=Lib.hid (List.take_of_length_le (by rw[HL.out];omega));go_wp2;go_ret;exact⟨_,rfl,by have h:=HR.out;rw[X9.out]at h;exact h,HX.out⟩
end Go.Proofs.YtjidhhfabfnhnaaGreat
namespace Go.Proofs.YtjidhhfabfnhnaaGreat
open Go.RowKit
attribute [local go_sem] Oper.semAt_some
theorem zI (a b:List bY):(bQ a b).length≤a.length:=List.length_filter_le _ _
set_option maxRecDepth 100000 in
set_option maxHeartbeats 4000000 in
theorem Ak (sats:List St) (aJ:List jd) (l:List fE) (SA TA A:Option Addr) (sn sc tn tc un uc:Nat) (a b x y:Int) (w:World)
  (hP:∀(k:Int) (W:World),Ext w W→Calls Tryz.prog 30 #[.slice SA sn sc,.slice TA tn tc,.slice A un uc,.agg #[.int .i64 a,.int .i64 b],.int .i64 k] W (ng (dK sats aJ l ⟨a,b⟩ k) W)) :
  Calls Tryz.prog 32 #[.slice SA sn sc,.slice TA tn tc,.slice A un uc,.agg #[.int .i64 a,.int .i64 b],.int .i64 x,.int .i64 y] w (zf (jo sats aJ l ⟨a,b⟩ x y) w):=by
 have h1:=hP x;have h2:=hP y;have hl1:∀o,dK sats aJ l ⟨a,b⟩ x=some o→o.length≤64:=fun o h=>jy h;have hl2:∀o,dK sats aJ l ⟨a,b⟩ y=some o→o.length≤64:=fun o h=>jy h;unfold jo;generalize dK sats aJ l ⟨a,b⟩ x=p at h1 hl1⊢;generalize dK sats aJ l ⟨a,b⟩ y=q at h2 hl2⊢;have wL:=Lib.hid h1;have HP2:=Lib.hid h2;clear hP h1 h2;go_enter Tryz.func32,Tryz.ntmps32;go_upto_region 1 with (fail);have J9:aI (w.alloc (.cells #[.int .i64 a,.int .i64 b] 32)) w.heap.size 32 #[.int .i64 a,.int .i64 b]:=aI.new _ _ _;have hx0:Ext w (w.alloc (.cells #[.int .i64 a,.int .i64 b] 32)):=aj (Below.refl _ _) _;obtain⟨g9,hg9⟩:∃g,g=w.heap.size:=⟨_,rfl⟩;rw[←hg9]at J9⊢;generalize w.alloc (.cells #[.int .i64 a,.int .i64 b] 32)=W0 at J9 hx0⊢;clear hg9;have s0:W0.cell? ⟨g9,0,none⟩=some (.int .i64 a):=J9.cell 0;have s1:W0.cell? ⟨g9,1,none⟩=some (.int .i64 b):=J9.cell 1;have HX0:=Lib.hid hx0;have HO:=Lib.hid (wL.out W0 hx0);clear J9 hx0 wL;cases p with
 |none =>
  go_wp2_with (fail);refine HO.out.mono ?_;rintro e W1 ⟨rfl,hx1⟩;have s0:=ah hx1 s0;have s1:=ah hx1 s1;have jB:=Lib.hid (Ext.trans HX0.out hx1);have Ai:=Lib.hid (HP2.out W1 jB.out);clear hx1 HP2 HO;cases q with
  |none =>
   go_wp2_with (fail);refine Ai.out.mono ?_;rintro e W2 ⟨rfl,hx2⟩;have sK:=Lib.hid (Ext.trans jB.out hx2);clear hx2 Ai s0 s1;go_wp2;exact bodyPost_ret (v:=.tuple #[.slice none 0 0,.slice none 0 0,.int .i64 360]) (by simp[results,Tryz.results32,go_sem]) rfl ⟨rfl,sK.out⟩
  |some o2 =>
   go_wp2_with (fail);refine Ai.out.mono ?_;rintro e W2 ⟨⟨v2,rfl,hown2⟩,hx2⟩;clear hown2;have sK:=Lib.hid (Ext.trans jB.out hx2);clear hx2 Ai s0 s1;go_wp2;exact bodyPost_ret (v:=.tuple #[.slice none 0 0,.slice none 0 0,.int .i64 360]) (by simp[results,Tryz.results32,go_sem]) rfl ⟨rfl,sK.out⟩
 |some o1 =>
  go_wp2_with (fail);refine HO.out.mono ?_;rintro e W1 ⟨⟨v1,rfl,hown1⟩,hx1⟩;have s0:=ah hx1 s0;have s1:=ah hx1 s1;have jB:=Lib.hid (Ext.trans HX0.out hx1);have Ai:=Lib.hid (HP2.out W1 jB.out);clear hx1 HP2 HO;cases q with
  |none =>
   go_wp2_with (fail);refine Ai.out.mono ?_;rintro e W2 ⟨rfl,hx2⟩;clear hown1;have sK:=Lib.hid (Ext.trans jB.out hx2);clear hx2 Ai s0 s1;go_wp2;exact bodyPost_ret (v:=.tuple #[.slice none 0 0,.slice none 0 0,.int .i64 360]) (by simp[results,Tryz.results32,go_sem]) rfl ⟨rfl,sK.out⟩
  |some o2 =>
   have hz1:=hl1 o1 rfl;have hz2:=hl2 o2 rfl;have YN:=Lib.hid hown1;clear hown1 hl1 hl2;go_wp2_with (fail);refine Ai.out.mono ?_;rintro e W2 ⟨⟨v2,rfl,hown2⟩,hx2⟩;have sK:=Lib.hid (Ext.trans jB.out hx2);have YN:=Lib.hid (bM YN.out hx2);have HOW2:=Lib.hid hown2;clear hown2 hx2;have k1:=YN.out;have k2:=HOW2.out;obtain⟨A1,c1,hv1,_,_⟩:=aP k1;obtain⟨A2,c2,hv2,_,_⟩:=aP k2;subst hv1 hv2;have HA1:=Lib.hid (RA.dD k1 rfl (by omega));have HA2:=Lib.hid (RA.dD k2 rfl (by omega));clear k1 k2;have HL1:=Lib.hid (wH o1 o2 A1 A2 _ c1 _ c2 W2 HA1.out HA2.out (by omega));go_wp2_with (fail);refine HL1.out.mono ?_;rintro e V1 ⟨u1,rfl,hu1,hy1⟩;have HU1:=Lib.hid hu1;have HXV1:=Lib.hid (Ext.trans sK.out hy1);have HL2:=Lib.hid (wH o2 o1 A2 A1 _ c2 _ c1 V1 (aB HA2.out hy1) (aB HA1.out hy1) (by omega));clear hu1 hy1;go_wp2_with (fail);refine HL2.out.mono ?_;rintro e V2 ⟨u2,rfl,hu2,hy2⟩;have hw1:=zI o1 o2;have hw2:=zI o2 o1;have m1:=bM HU1.out hy2;obtain⟨B1,d1,hb1,_,_⟩:=aP m1;obtain⟨B2,d2,hb2,_,_⟩:=aP hu2;subst hb1 hb2;have HB1:=Lib.hid (RA.dD m1 rfl (by omega));have HB2:=Lib.hid (RA.dD hu2 rfl (by omega));have KF:=Lib.hid (Ext.trans HXV1.out hy2);clear m1 hu2 hy2;go_wp2;exact bodyPost_ret (v:=.tuple #[.slice B1 (bQ o1 o2).length d1,.slice B2 (bQ o2 o1).length d2,.int .i64 0]) (by simp[results,Tryz.results32,go_sem]) rfl ⟨⟨B1,d1,B2,d2,rfl,HB1.out,HB2.out⟩,KF.out⟩
end Go.Proofs.YtjidhhfabfnhnaaGreat
namespace Go.Proofs.YtjidhhfabfnhnaaGreat
theorem Ji {o:iQ} {y:jd} (ho:dO o=true) (hy:fM y=true) {t la:Int} (h1:0≤t∧t≤1000000) (h2 : -10≤la∧la≤10):xJ o y t la=some (l9 o y (t-la)):=by
 have h3:(inB t 0 1000000&&inB la (-10) 10&&dO o)=true:=by
  rw[ho,Bool.and_true,Bool.and_eq_true,jL,jL];omega
 rw[xJ,Jz,if_pos h3];dsimp only;rw[if_pos hy];rfl
end Go.Proofs.YtjidhhfabfnhnaaGreat
namespace Go.Proofs.YtjidhhfabfnhnaaGreat
open Go.RowKit
set_option maxHeartbeats 2000000 in
theorem Ld (a b p q:Int) (w:World) :
  Calls Tryz.prog 134 #[.agg #[.int .i64 a,.int .i64 b],.agg #[.int .i64 p,.int .i64 q]] w
   fun e w'=>e=.returned (.agg #[.int .i64 (iJ ⟨a,b⟩ 0 ⟨p,q⟩).fr,.int .i64 (iJ ⟨a,b⟩ 0 ⟨p,q⟩).tt])∧Below w.heap.size w w':=by
 obtain⟨m,hm⟩:∃m,m=max a p:=⟨_,rfl⟩;obtain⟨n,hn⟩:∃n,n=min b q:=⟨_,rfl⟩;have hw:iJ ⟨a,b⟩ 0 ⟨p,q⟩=if n≤m then ⟨0,0⟩ else ⟨m,n⟩:=by rw[hm,hn];unfold iJ;dsimp only;rw[Int.sub_zero,Int.add_zero]
 rw[hw];clear hw;have hm2:(p≤a∧m=a)∨(a<p∧m=p):=by omega
 have hn2:(b≤q∧n=b)∨(q<b∧n=q):=by omega
 clear hm hn;rcases hm2 with ⟨k1,rfl⟩ | ⟨k1,rfl⟩<;>rcases hn2 with ⟨k2,rfl⟩ | ⟨k2,rfl⟩
 ·by_cases h:n≤m
  ·rw[if_pos h];go_enter Tryz.func134,Tryz.ntmps134;go_wp2;exact bodyPost_ret (v:=.agg #[.int .i64 0,.int .i64 0]) (by simp[results,Tryz.results134,go_sem]) rfl ⟨rfl,(by repeat (first | exact Below.refl _ _ | assumption | refine Below.drew ?_ | refine below_drewN ?_ _ | refine aj ?_ _ | refine Below.setCell ?_ (by first | (simp;done) | omega | (simp;omega)) _ | refine aA ?_ (by assumption)))⟩
  ·rw[if_neg h];go_enter Tryz.func134,Tryz.ntmps134;go_wp2;exact bodyPost_ret (v:=.agg #[.int .i64 m,.int .i64 n]) (by simp[results,Tryz.results134,go_sem]) rfl ⟨rfl,(by repeat (first | exact Below.refl _ _ | assumption | refine Below.drew ?_ | refine below_drewN ?_ _ | refine aj ?_ _ | refine Below.setCell ?_ (by first | (simp;done) | omega | (simp;omega)) _ | refine aA ?_ (by assumption)))⟩
 ·by_cases h:n≤m
  ·rw[if_pos h];go_enter Tryz.func134,Tryz.ntmps134;go_wp2;exact bodyPost_ret (v:=.agg #[.int .i64 0,.int .i64 0]) (by simp[results,Tryz.results134,go_sem]) rfl ⟨rfl,(by repeat (first | exact Below.refl _ _ | assumption | refine Below.drew ?_ | refine below_drewN ?_ _ | refine aj ?_ _ | refine Below.setCell ?_ (by first | (simp;done) | omega | (simp;omega)) _ | refine aA ?_ (by assumption)))⟩
  ·rw[if_neg h];go_enter Tryz.func134,Tryz.ntmps134;go_wp2;exact bodyPost_ret (v:=.agg #[.int .i64 m,.int .i64 n]) (by simp[results,Tryz.results134,go_sem]) rfl ⟨rfl,(by repeat (first | exact Below.refl _ _ | assumption | refine Below.drew ?_ | refine below_drewN ?_ _ | refine aj ?_ _ | refine Below.setCell ?_ (by first | (simp;done) | omega | (simp;omega)) _ | refine aA ?_ (by assumption)))⟩
 ·by_cases h:n≤m
  ·rw[if_pos h];go_enter Tryz.func134,Tryz.ntmps134;go_wp2;exact bodyPost_ret (v:=.agg #[.int .i64 0,.int .i64 0]) (by simp[results,Tryz.results134,go_sem]) rfl ⟨rfl,(by repeat (first | exact Below.refl _ _ | assumption | refine Below.drew ?_ | refine below_drewN ?_ _ | refine aj ?_ _ | refine Below.setCell ?_ (by first | (simp;done) | omega | (simp;omega)) _ | refine aA ?_ (by assumption)))⟩
  ·rw[if_neg h];go_enter Tryz.func134,Tryz.ntmps134;go_wp2;exact bodyPost_ret (v:=.agg #[.int .i64 m,.int .i64 n]) (by simp[results,Tryz.results134,go_sem]) rfl ⟨rfl,(by repeat (first | exact Below.refl _ _ | assumption | refine Below.drew ?_ | refine below_drewN ?_ _ | refine aj ?_ _ | refine Below.setCell ?_ (by first | (simp;done) | omega | (simp;omega)) _ | refine aA ?_ (by assumption)))⟩
 ·by_cases h:n≤m
  ·rw[if_pos h];go_enter Tryz.func134,Tryz.ntmps134;go_wp2;exact bodyPost_ret (v:=.agg #[.int .i64 0,.int .i64 0]) (by simp[results,Tryz.results134,go_sem]) rfl ⟨rfl,(by repeat (first | exact Below.refl _ _ | assumption | refine Below.drew ?_ | refine below_drewN ?_ _ | refine aj ?_ _ | refine Below.setCell ?_ (by first | (simp;done) | omega | (simp;omega)) _ | refine aA ?_ (by assumption)))⟩
  ·rw[if_neg h];go_enter Tryz.func134,Tryz.ntmps134;go_wp2;exact bodyPost_ret (v:=.agg #[.int .i64 m,.int .i64 n]) (by simp[results,Tryz.results134,go_sem]) rfl ⟨rfl,(by repeat (first | exact Below.refl _ _ | assumption | refine Below.drew ?_ | refine below_drewN ?_ _ | refine aj ?_ _ | refine Below.setCell ?_ (by first | (simp;done) | omega | (simp;omega)) _ | refine aA ?_ (by assumption)))⟩
set_option maxRecDepth 100000 in
set_option maxHeartbeats 2000000 in
theorem Gi (p f lo hi no tu sl id x y re an sk m:Int) (w:World) (ho:dO ⟨p,f,lo,hi,no,tu,sl⟩=true) (hs:fM ⟨id,⟨x,y⟩,re,an,sk⟩=true) (h1 : -10≤m) (h2:m≤1000010) :
  Calls Tryz.prog 133 #[.agg #[.int .i64 p,.int .i64 f,.int .i64 lo,.int .i64 hi,.int .i64 no,.int .i64 tu,.int .i64 sl],.agg #[.int .i64 id,.int .i64 x,.int .i64 y,.int .i64 re,.int .i64 an,.int .i64 sk],.int .i64 m] w fun e w'=>e=.returned (.bool (l9 ⟨p,f,lo,hi,no,tu,sl⟩ ⟨id,⟨x,y⟩,re,an,sk⟩ m))∧Below w.heap.size w w':=by
 have hv:=fun (t u:Int) (ht:0≤t∧t≤1000000) (hl : -10≤u∧u≤10) (he:t-u=m) (w:World)=>by
  have h:=Nr p f lo hi no tu sl id x y re an sk t u w;rw[Ji ho hs ht hl,he,show Vo (some (l9 ⟨p,f,lo,hi,no,tu,sl⟩ ⟨id,⟨x,y⟩,re,an,sk⟩ m))=.tuple #[.bool (l9 ⟨p,f,lo,hi,no,tu,sl⟩ ⟨id,⟨x,y⟩,re,an,sk⟩ m),.int .i64 0] from rfl]at h;exact h
 generalize l9 ⟨p,f,lo,hi,no,tu,sl⟩ ⟨id,⟨x,y⟩,re,an,sk⟩ m=r at hv⊢;have HV:=Lib.hid hv;clear hv ho hs;rcases show m≤0∨(0<m∧m<1000000)∨1000000≤m by omega with c | c | c
 ·have c1:¬(0:Int)<m:=by omega
  have hw:IntKind.i64.wrap (-m) = -m:=IntWalk.i64_in _ (by omega);have hw2:IntKind.i64.wrap (0-m) = -m:=by rw[show (0:Int)-m = -m by omega];exact IntWalk.i64_in _ (by omega)
  go_enter Tryz.func133,Tryz.ntmps133;go_wp2_with (go_at_call 160;refine (HV.out (0) (-m) (by omega) (by omega) (by omega) _).mono ?_;rintro e w' ⟨rfl,hb⟩)
  all_goals
   go_ret;exact⟨by simp_all,(by repeat (first | exact Below.refl _ _ | assumption | refine Below.drew ?_ | refine below_drewN ?_ _ | refine aj ?_ _ | refine Below.setCell ?_ (by first | (simp;done) | omega | (simp;omega)) _ | refine aA ?_ (by assumption)))⟩
 ·obtain⟨c1,c2⟩:=c;have hw:IntKind.i64.wrap (0)=0:=IntWalk.i64_in _ (by omega);have hw2:IntKind.i64.wrap (m-m)=0:=by rw[show m-m=0 by omega];exact IntWalk.i64_in _ (by omega)
  go_enter Tryz.func133,Tryz.ntmps133;go_wp2_with (go_at_call 160;refine (HV.out (m) (0) (by omega) (by omega) (by omega) _).mono ?_;rintro e w' ⟨rfl,hb⟩)
  all_goals
   go_ret;exact⟨by simp_all,(by repeat (first | exact Below.refl _ _ | assumption | refine Below.drew ?_ | refine below_drewN ?_ _ | refine aj ?_ _ | refine Below.setCell ?_ (by first | (simp;done) | omega | (simp;omega)) _ | refine aA ?_ (by assumption)))⟩
 ·have c1:(0:Int)<m:=by omega
  have c2:¬m<1000000:=by omega
  have hw:IntKind.i64.wrap (1000000-m)=1000000-m:=IntWalk.i64_in _ (by omega);have hw2:IntKind.i64.wrap (1000000-m)=1000000-m:=by rw[show (1000000:Int)-m=1000000-m by omega];exact IntWalk.i64_in _ (by omega)
  go_enter Tryz.func133,Tryz.ntmps133;go_wp2_with (go_at_call 160;refine (HV.out (1000000) (1000000-m) (by omega) (by omega) (by omega) _).mono ?_;rintro e w' ⟨rfl,hb⟩)
  all_goals
   go_ret;exact⟨by simp_all,(by repeat (first | exact Below.refl _ _ | assumption | refine Below.drew ?_ | refine below_drewN ?_ _ | refine aj ?_ _ | refine Below.setCell ?_ (by first | (simp;done) | omega | (simp;omega)) _ | refine aA ?_ (by assumption)))⟩
section
variable {is:Int→Bool} {a e:Int}
def qg (is:Int→Bool) (e m:Int):List jA:=bU is m (e-m).toNat
theorem rest_end {m:Int} (h:e≤m):qg is e m=[]:=by
 rw[qg,show (e-m).toNat=0 by omega];rfl
theorem BN {m:Int} (hm:m<e) (h:is m=false):qg is e m=qg is e (m+1):=by
 rw[qg,show (e-m).toNat=(e-(m+1)).toNat+1 by omega,kX _ h];rfl
theorem Jj {fr m:Int} (h1:fr<m) (h2:m≤e) (hi:∀t,fr≤t→t<m→is t=true) (hs:m=e∨is m=false):qg is e fr=⟨fr,m⟩::qg is e m:=by
 have h:=sG is (m-fr).toNat (e-fr).toNat fr (by omega) (by omega) (fun i hi2=>hi _ (by omega) (by omega)) (by
  rcases hs with hs | hs
  ·exact .inl (by omega)
  ·exact .inr (by rw[show fr+((m-fr).toNat:Int)=m by omega];exact hs))
 rw[show fr+((m-fr).toNat:Int)=m by omega,show (e-fr).toNat-(m-fr).toNat=(e-m).toNat by omega]at h;exact h
end
theorem BO {a b k:Int} {span:jA} : iJ ⟨a-k,b+k⟩ 0 span=iJ ⟨a,b⟩ k span:=by
 unfold iJ;dsimp only;rw[Int.sub_zero,Int.add_zero]
end Go.Proofs.YtjidhhfabfnhnaaGreat
namespace Go.Proofs.YtjidhhfabfnhnaaGreat
open Go.RowKit
theorem rH:(Tryz.prog.info? 75).map (·.size)=some 6:=by kernel_rfl
theorem pK:(Tryz.prog.info? 75).map (fun i=>(i.zero.map (fun z=>z.cells.size),i.size))=some (some 6,6):=by kernel_rfl
theorem Q7 (x:bY):∀u∈ak x,u.oneCell'=true:=by simp[ak,Value.oneCell']
theorem Q8 (l:List bY):∀u∈l.flatMap ak,u.oneCell'=true:=by
 intro u hu;obtain⟨x,_,hx⟩:=List.mem_flatMap.1 hu;exact Q7 x u hx
def Jk (o:iQ):List Value:=[.int .i64 o.period,.int .i64 o.phase,.int .i64 o.low,.int .i64 o.high,.int .i64 o.node,.int .i64 o.turn,.int .i64 o.eY]
theorem Q9 (x:iQ):(Jk x).toArray.all (·.oneCell')=true:=by simp[Jk,Value.oneCell']
theorem RA.Jk {w:World} {B n c:Nat} {A:Option Addr} {l:List St} (h:RA aC 21 w B A n c l) {k:Nat} (hk:k<n):∃(b o:Nat) (hz:k<l.length),A=some ⟨b,o,none⟩∧b<B∧w.rangeAt b (o+k*21) (aC l[k])∧w.rangeAt b (o+k*21+2) (Go.Proofs.YtjidhhfabfnhnaaGreat.Jk l[k].bH):=by
 obtain⟨b,o,hz,hA,hb,hr⟩:=h.range ig hk;refine⟨b,o,hz,hA,hb,hr,fun j v hv=>?_⟩;rw[Nat.add_assoc];refine hr (2+j) v ?_;rw[←hv]
 match j,hv with
 |0,_=>rfl
 |1,_=>rfl
 |2,_=>rfl
 |3,_=>rfl
 |4,_=>rfl
 |5,_=>rfl
 |6,_=>rfl
 |j+7,hv=>simp[Go.Proofs.YtjidhhfabfnhnaaGreat.Jk]at hv
theorem aI.set6 {w:World} {g:Nat} {t:TypeId} {a0 a1 a2 a3 a4 a5:Value} (h:aI w g t #[a0,a1,a2,a3,a4,a5]) (b0 b1 b2 b3 b4 b5:Value) :
  aI ((((((w.setCell ⟨g,0,none⟩ b0).setCell ⟨g,1,none⟩ b1).setCell ⟨g,2,none⟩ b2).setCell ⟨g,3,none⟩ b3).setCell ⟨g,4,none⟩ b4).setCell ⟨g,5,none⟩ b5) g t #[b0,b1,b2,b3,b4,b5]:=by
 have k:=(((((h.cu 0 b0).cu 1 b1).cu 2 b2).cu 3 b3).cu 4 b4).cu 5 b5;simp only[List.setIfInBounds_toArray,List.set_cons_zero,List.set_cons_succ]at k;exact k
theorem wS {P:Program} (w:World) (t ty e:TypeId) (i:TypeInfo) (ht:P.underlying t=some (.slice e)) (hi:P.info? e=some i) (b:Addr) (n c:Nat) (hn:n≤c) (A:Option Addr) (c':Nat) :
  (Builtin.append_ #[t,t] ty #[.slice (some b) n c,.slice A 0 c']).run P w=.ok (.slice (some b) n c) w:=by
 cases A<;>simp[Builtin.append_,run_underlying ht,sizeOf,typeInfo,hi,Builtin.lenOf,Builtin.firstCells,hn,storeCells,loadCells,loadCellsFrom]
def qh (W:World) (v:Value) (l:List bY):Prop:=∃A c,v=.slice (some A) l.length c∧∀q u,(l.flatMap ak)[q]?=some u→W.cell? (A.add q)=some u
theorem qh.ext {W W':World} {v:Value} {l:List bY} (h:qh W v l) (hx:Ext W W'):qh W' v l:=by
 obtain⟨A,c,h1,h2⟩:=h;exact⟨A,c,h1,fun q u hu=>ah hx (h2 q u hu)⟩
def oK (W:World) (b:Nat) (v:Value) (l:List bY):Prop:=W.ownsRow b 75 6 v l.length (l.flatMap ak)
theorem oK.ext {W W':World} {b:Nat} {v:Value} {l:List bY} (h:oK W b v l) (hx:Ext W W'):oK W' b v l:=bM h hx
theorem oK.base {W:World} {b b':Nat} {v:Value} {l:List bY} (h:oK W b v l) (hb:b'≤b):oK W b' v l:=own_base h hb
theorem uy {w:World} (ty:TypeId) (g:Nat) (z:bY) (l:List bY) (A:Option Addr) (m c B:Nat) (hg:aI w g 75 (ak z).toArray) (hr:Reads w B 6 A m (l.flatMap ak)) (hm:m≤3000000) :
  ∃v' w',(Builtin.append_ #[36,36] ty #[.slice (some ⟨g,0,none⟩) 1 1,.slice A m c]).run Tryz.prog w=.ok v' w'∧Ext w w'∧qh w' v' (z::l):=by
 obtain⟨i0,hi0,hz0,hz1,hz2⟩:=info_parts tX;have hlm:l.length=m:=by have h1:=hr.1;rw[qC bg]at h1;omega
 rcases Nat.eq_zero_or_pos m with h0 | h0
 ·subst h0;obtain rfl:l=[]:=List.eq_nil_of_length_eq_zero hlm;refine⟨_,_,wS w _ _ _ i0 Tryz.underlying36 hi0 ⟨g,0,none⟩ 1 1 (Nat.le_refl _) A c,Ext.refl _,⟨g,0,none⟩,1,rfl,fun j u hu=>?_⟩;rw[Addr.add_lit,Nat.zero_add,hg.cell];simpa using hu
 ·obtain⟨b,o,rfl,hb,hc⟩:=hr.2 h0;obtain⟨v',w',h1,h2,h3⟩:=run_append_arg_grows (P:=Tryz.prog) (w:=w) 36 ty 75 i0 _ 6 48 Tryz.underlying36 hi0 hz0 hz1 hz2 rfl (by omega) ⟨g,0,none⟩ 1 1 (ak z) rfl (fun j u hu=>by rw[Addr.add_lit,Nat.zero_add,hg.cell];simpa using hu) ⟨b,o,none⟩ m c _ hr.1 (fun j u hu=>by rw[Addr.add_lit];exact hc j u hu) (by omega) (by unfold maxLen;omega) (by omega);rcases h2.2 with ⟨rfl,hn⟩ | ⟨g',cap,cur,rfl,_,_,_,_,_⟩
  ·omega
  ·have hrd:=Reads.dD h2;obtain⟨b',o',hA,_,hc'⟩:=hrd.2 (by omega);injection hA with hA;refine⟨_,_,h1,⟨h3.os,h3.tape,h3.output,h3.size,fun k hk=>h3.block k hk (by simp)⟩,⟨g',0,none⟩,cap,by rw[List.length_cons,hlm,Nat.add_comm],fun j u hu=>?_⟩;rw[hA,Addr.add_lit];exact hc' j u (by rw[←List.flatMap_cons];exact hu)
theorem uz {w:World} (ty:TypeId) (xs ys:List bY) (v:Value) (n c':Nat) (A':Addr) (hv:(v=.slice none 0 0∧n=0)∨∃g,v=.slice (some ⟨g,0,none⟩) n n∧∀j u,(xs.flatMap ak)[j]?=some u→w.cell? ⟨g,j,none⟩=some u) (hx:xs.length=n) (hm:0<ys.length) (hn:n+ys.length≤3000000)
  (hr:∀j u,(ys.flatMap ak)[j]?=some u→w.cell? (A'.add j)=some u) :
  ∃v' w',(Builtin.append_ #[36,36] ty #[v,.slice (some A') ys.length c']).run Tryz.prog w=.ok v' w'∧Ext w w'∧oK w' w.heap.size v' (xs++ys):=by
 obtain⟨i0,hi0,hz0,hz1,hz2⟩:=info_parts tX;have hly:(ys.flatMap ak).length=ys.length*6:=by rw[qC bg]
 have hlx:(xs.flatMap ak).length=n*6:=by rw[qC bg,hx]
 unfold oK;rw[List.flatMap_append,List.length_append,hx];rcases hv with ⟨rfl,rfl⟩ | ⟨g,rfl,hc⟩
 ·obtain rfl:xs=[]:=List.eq_nil_of_length_eq_zero hx;obtain⟨v',w',h1,h2,h3,-⟩:=run_append_own (P:=Tryz.prog) w w.heap.size 36 ty 75 i0 _ 6 48 Tryz.underlying36 hi0 hz0 hz1 hz2 rfl (by omega) _ 0 [] (World.ownsRow_nil _ _ _ _) A' ys.length c' _ hly hr (Q8 ys) (by unfold maxLen;omega) (by omega) (Nat.le_refl _);exact⟨v',w',h1,⟨h3.os,h3.tape,h3.output,h3.size,fun k hk=>h3.block k hk (by simp[Value.ownBlock])⟩,h2⟩
 ·obtain⟨v',w',h1,h2,h3⟩:=run_append_arg_grows (P:=Tryz.prog) (w:=w) 36 ty 75 i0 _ 6 48 Tryz.underlying36 hi0 hz0 hz1 hz2 rfl (by omega) ⟨g,0,none⟩ n n _ hlx (fun j u hu=>by rw[Addr.add_lit,Nat.zero_add];exact hc j u hu) A' ys.length c' _ hly hr (by omega) (by unfold maxLen;omega) (by omega);exact⟨v',w',h1,⟨h3.os,h3.tape,h3.output,h3.size,fun k hk=>h3.block k hk (by simp)⟩,h2⟩
def Gj (is:Int→Bool) (a0 e0:Int) (m fr:Int) (D:List jA):Prop :=
 (fr=a0-1∧bU is a0 (e0-a0).toNat=D++qg is e0 m)∨(a0≤fr∧fr<m∧m≤e0∧(∀t,fr≤t→t<m→is t=true)∧bU is a0 (e0-a0).toNat=D++qg is e0 fr)
end Go.Proofs.YtjidhhfabfnhnaaGreat
