/- The reference: the order of passes (printed by contact_c4.py). -/
import Derived.Test.YtjidhhfabfnhnaaGreatT01
import Derived.Test.YtjidhhfabfnhnaaGreatT25
import Derived.Test.YtjidhhfabfnhnaaGreatT09
import Derived.Test.YtjidhhfabfnhnaaGreatT11
namespace Go.Proofs.YtjidhhfabfnhnaaGreat
open Go.RowKit
theorem PD (a b:Int) (w:World) :
  Calls Tryz.prog 132 #[.agg #[.int .i64 a,.int .i64 b]] w fun e w'=>e=.returned (.bool (gV ⟨a,b⟩))∧Below w.heap.size w w':=by
 by_cases h:0≤a∧a<b∧b≤1000001
 ·obtain⟨h1,h2,h3⟩:=h;have hs:gV ⟨a,b⟩=decide (b-a≤4320):=by simp[gV,h1,h2,h3]
  rw[hs];clear hs;go_enter Tryz.func132,Tryz.ntmps132;go_wp2;go_ret;exact⟨by simp[*],(by repeat (first | exact Below.refl _ _ | assumption | refine Below.drew ?_ | refine below_drewN ?_ _ | refine aj ?_ _ | refine Below.setCell ?_ (by first | (simp;done) | omega | (simp;omega)) _ | refine aA ?_ (by assumption)))⟩
 ·have hs:gV ⟨a,b⟩=false:=by
   simp only[gV,decide_eq_false_iff_not];omega
  rw[hs];clear hs;by_cases h1:0≤a
  ·by_cases h2:a<b
   ·have h3:¬b≤1000001:=by omega
    clear h;go_enter Tryz.func132,Tryz.ntmps132;go_wp2;go_ret;exact⟨by simp[*],(by repeat (first | exact Below.refl _ _ | assumption | refine Below.drew ?_ | refine below_drewN ?_ _ | refine aj ?_ _ | refine Below.setCell ?_ (by first | (simp;done) | omega | (simp;omega)) _ | refine aA ?_ (by assumption)))⟩
   ·clear h;go_enter Tryz.func132,Tryz.ntmps132;go_wp2;go_ret;exact⟨by simp[*],(by repeat (first | exact Below.refl _ _ | assumption | refine Below.drew ?_ | refine below_drewN ?_ _ | refine aj ?_ _ | refine Below.setCell ?_ (by first | (simp;done) | omega | (simp;omega)) _ | refine aA ?_ (by assumption)))⟩
  ·clear h;go_enter Tryz.func132,Tryz.ntmps132;go_wp2;go_ret;exact⟨by simp[*],(by repeat (first | exact Below.refl _ _ | assumption | refine Below.drew ?_ | refine below_drewN ?_ _ | refine aj ?_ _ | refine Below.setCell ?_ (by first | (simp;done) | omega | (simp;omega)) _ | refine aA ?_ (by assumption)))⟩
set_option maxHeartbeats 4000000 in
set_option maxRecDepth 100000 in
theorem BK (id x y re an sk:Int) (w:World) :
  Calls Tryz.prog 131 #[.agg #[.int .i64 id,.int .i64 x,.int .i64 y,.int .i64 re,.int .i64 an,.int .i64 sk]] w fun e w'=>e=.returned (.bool (fZ ⟨id,⟨x,y⟩,re,an,sk⟩))∧Below w.heap.size w w':=by
 have hs:fZ ⟨id,⟨x,y⟩,re,an,sk⟩=(jk ⟨x,y⟩&&inB id 0 11&&inB re 0 6&&inB an 1 8&&inB sk 0 30):=by
  rfl
 rw[hs];clear hs;generalize hq:jk ⟨x,y⟩=q;have HQ:=Lib.hid hq;clear hq;go_enter Tryz.func131,Tryz.ntmps131;go_wp2_with fail;refine (mF x y _).mono ?_;rintro e W0 ⟨rfl,hb0⟩;rw[HQ.out];have K:=(aG.new w 71 #[.int .i64 id,.int .i64 x,.int .i64 y,.int .i64 re,.int .i64 an,.int .i64 sk]).below hb0 (by simp);have hb:Below w.heap.size w W0:=(by repeat (first | exact Below.refl _ _ | assumption | refine Below.drew ?_ | refine below_drewN ?_ _ | refine aj ?_ _ | refine Below.setCell ?_ (by first | (simp;done) | omega | (simp;omega)) _ | refine aA ?_ (by assumption)));clear hb0;have g0:W0.cell? ⟨w.heap.size,0,none⟩=some (.int .i64 id):=K.cell 0;have g1:W0.cell? ⟨w.heap.size,1,none⟩=some (.int .i64 x):=K.cell 1;have g2:W0.cell? ⟨w.heap.size,2,none⟩=some (.int .i64 y):=K.cell 2;have g3:W0.cell? ⟨w.heap.size,3,none⟩=some (.int .i64 re):=K.cell 3;have g4:W0.cell? ⟨w.heap.size,4,none⟩=some (.int .i64 an):=K.cell 4;have g5:W0.cell? ⟨w.heap.size,5,none⟩=some (.int .i64 sk):=K.cell 5;clear K;cases q
 ·go_wp2_with (go_at_call 139;refine (jg _ _ _ _).mono ?_;rintro e w' ⟨rfl,rfl⟩)
  all_goals
   go_ret;exact⟨by first | (simp[*];done) | simp_all,hb⟩
 ·go_wp2_with (go_at_call 139;refine (jg _ _ _ _).mono ?_;rintro e w' ⟨rfl,rfl⟩)
  all_goals
   go_ret;exact⟨by first | (simp[*];done) | simp_all,hb⟩
theorem PE (p f lo hi no tu sl id x y re an sk t la:Int) (w:World) :
  Calls Tryz.prog 160 #[.agg #[.int .i64 p,.int .i64 f,.int .i64 lo,.int .i64 hi,.int .i64 no,.int .i64 tu,.int .i64 sl],.agg #[.int .i64 id,.int .i64 x,.int .i64 y,.int .i64 re,.int .i64 an,.int .i64 sk],.int .i64 t,.int .i64 la] w fun e w'=>e=.returned (Yt (zJ ⟨p,f,lo,hi,no,tu,sl⟩ ⟨id,⟨x,y⟩,re,an,sk⟩ t la))∧Below w.heap.size w w':=by
 have A1:=XL p f lo hi no tu sl t la;have HA:=Lib.hid A1;clear A1;go_enter Tryz.func160,Tryz.ntmps160;go_wp2_with fail;have K2:aG ((w.alloc (.cells #[.int .i64 p,.int .i64 f,.int .i64 lo,.int .i64 hi,.int .i64 no,.int .i64 tu,.int .i64 sl] 51)).alloc (.cells #[.int .i64 id,.int .i64 x,.int .i64 y,.int .i64 re,.int .i64 an,.int .i64 sk] 71)) (w.heap.size+1) 71 #[.int .i64 id,.int .i64 x,.int .i64 y,.int .i64 re,.int .i64 an,.int .i64 sk]:=by
  have k:=aG.new (w.alloc (.cells #[.int .i64 p,.int .i64 f,.int .i64 lo,.int .i64 hi,.int .i64 no,.int .i64 tu,.int .i64 sl] 51)) 71 #[.int .i64 id,.int .i64 x,.int .i64 y,.int .i64 re,.int .i64 an,.int .i64 sk];rw[World.size_alloc]at k;exact k
 have hb:Below w.heap.size w ((w.alloc (.cells #[.int .i64 p,.int .i64 f,.int .i64 lo,.int .i64 hi,.int .i64 no,.int .i64 tu,.int .i64 sl] 51)).alloc (.cells #[.int .i64 id,.int .i64 x,.int .i64 y,.int .i64 re,.int .i64 an,.int .i64 sk] 71)):=(by repeat (first | exact Below.refl _ _ | assumption | refine Below.drew ?_ | refine below_drewN ?_ _ | refine aj ?_ _ | refine Below.setCell ?_ (by first | (simp;done) | omega | (simp;omega)) _ | refine aA ?_ (by assumption)));generalize (w.alloc (.cells #[.int .i64 p,.int .i64 f,.int .i64 lo,.int .i64 hi,.int .i64 no,.int .i64 tu,.int .i64 sl] 51)).alloc (.cells #[.int .i64 id,.int .i64 x,.int .i64 y,.int .i64 re,.int .i64 an,.int .i64 sk] 71)=W at K2 hb⊢;refine (HA.out _).mono ?_;rintro e W2 ⟨rfl,hb2⟩;have K2:=K2.below hb2 (by have:=K2.lt;omega);have hB2:Below w.heap.size w W2:=hb.trans (Below.mono hb2 hb.size);clear hb hb2;generalize hat:Nb ⟨p,f,lo,hi,no,tu,sl⟩ t la=c;have HP:=Lib.hid hat;clear hat;have hlt:=K2.lt;cases c with
 |none =>
  simp only[Yr];go_wp2;go_ret2
  exact⟨by rw[zJ,HP.out];rfl,aj hB2 _⟩
 |some c =>
  obtain⟨cx,cy⟩:=c;simp only[Yr];generalize hst:fZ ⟨id,⟨x,y⟩,re,an,sk⟩=ok;have HS:=Lib.hid hst;clear hst;have s0:W2.cell? ⟨w.heap.size+1,0,none⟩=some (.int .i64 id):=K2.cell 0;have s1:W2.cell? ⟨w.heap.size+1,1,none⟩=some (.int .i64 x):=K2.cell 1;have s2:W2.cell? ⟨w.heap.size+1,2,none⟩=some (.int .i64 y):=K2.cell 2;have s3:W2.cell? ⟨w.heap.size+1,3,none⟩=some (.int .i64 re):=K2.cell 3;have s4:W2.cell? ⟨w.heap.size+1,4,none⟩=some (.int .i64 an):=K2.cell 4;have s5:W2.cell? ⟨w.heap.size+1,5,none⟩=some (.int .i64 sk):=K2.cell 5;go_wp2_with fail;refine (BK id x y re an sk _).mono ?_;rintro e W3 ⟨rfl,hb3⟩;have K3:=(K2.alloc (.cells #[.int .i64 cx,.int .i64 cy] 69)).below hb3 (by rw[World.size_alloc];omega);have K4:=(aG.new W2 69 #[.int .i64 cx,.int .i64 cy]).below hb3 (by rw[World.size_alloc];omega);have hB3:Below w.heap.size w W3:=aA (aj hB2 _) hb3;clear s0 s1 s2 s3 s4 s5 hb3;rw[HS.out];cases ok
  ·go_wp2;go_ret2
   exact⟨by rw[zJ,HP.out];simp only[HS.out];rfl,hB3⟩
  ·skip;have s0:W3.cell? ⟨w.heap.size+1,0,none⟩=some (.int .i64 id):=K3.cell 0;have s1:W3.cell? ⟨w.heap.size+1,1,none⟩=some (.int .i64 x):=K3.cell 1;have s2:W3.cell? ⟨w.heap.size+1,2,none⟩=some (.int .i64 y):=K3.cell 2;have s3:W3.cell? ⟨w.heap.size+1,3,none⟩=some (.int .i64 re):=K3.cell 3;have s4:W3.cell? ⟨w.heap.size+1,4,none⟩=some (.int .i64 an):=K3.cell 4;have s5:W3.cell? ⟨w.heap.size+1,5,none⟩=some (.int .i64 sk):=K3.cell 5;have k0:W3.cell? ⟨W2.heap.size,0,none⟩=some (.int .i64 cx):=K4.cell 0;have k1:W3.cell? ⟨W2.heap.size,1,none⟩=some (.int .i64 cy):=K4.cell 1;clear K2 K3 K4 hB2;generalize hne:jB ⟨cx,cy⟩ ⟨x,y⟩=N;have HN:=Lib.hid hne;clear hne;go_wp2_with fail;refine aF 7 [some (.agg #[.int .i64 cx,.int .i64 cy]),some (.pointer (some ⟨w.heap.size+1,1,none⟩)),some (.agg #[.int .i64 x,.int .i64 y]),some (.int .i64 N),some (.pointer (some ⟨w.heap.size+1,3,none⟩)),some (.int .i64 re),some (.bool (decide (N≤re)))] [] ?_ ?_ ?_
   ·trivial
   ·refine⟨?_,?_,?_,?x3,?_,?_,?_,trivial⟩
    case x3 =>
     intro vals w1 hx hd;clear hd;simp only[Lf,au,Act.put,bH,bG];have s0:=ah hx s0;have s1:=ah hx s1;have s2:=ah hx s2;have s3:=ah hx s3;have s4:=ah hx s4;have s5:=ah hx s5;have k0:=ah hx k0;have k1:=ah hx k1;go_wp2_with fail;refine (Py cx cy x y _).mono ?_;rintro e w2 ⟨rfl,hb2⟩;rw[HN.out];go_wp2;exact⟨rfl,hb2,rfl⟩
    all_goals
     intro vals w1 hx hd;clear hd;simp only[Lf,au,Act.put,bH,bG];have s0:=ah hx s0;have s1:=ah hx s1;have s2:=ah hx s2;have s3:=ah hx s3;have s4:=ah hx s4;have s5:=ah hx s5;have k0:=ah hx k0;have k1:=ah hx k1;go_wp2;exact iq
   intro vals w5 hx hf;have e6:vals 6=.bool (decide (N≤re)):=hf 6 (by omega);clear hf;have iJ:Below w.heap.size w w5:=aA hB3 hx.aH;refine oK 7 _ _ 1 (by kernel_rfl) rfl ?_ (fun a w q=>eP 8 _ (by kernel_rfl) (by kernel_rfl) rfl q);simp only[Lf,au,Act.put,FR_];rw[e6];go_wp2;go_ret2
   exact⟨by rw[zJ,HP.out];simp only[HS.out,HN.out];rfl,iJ⟩
set_option maxHeartbeats 4000000 in
set_option maxRecDepth 100000 in
theorem Mc (id ow p f lo hi no tu sl wi st ch su rH sh se wa co ho sw ra:Int) (w:World) :
  Calls Tryz.prog 129 #[.agg #[.int .i64 id,.int .i64 ow,.int .i64 p,.int .i64 f,.int .i64 lo,.int .i64 hi,.int .i64 no,.int .i64 tu,.int .i64 sl,.int .i64 wi,.int .i64 st,.int .i64 ch,.int .i64 su,.int .i64 rH,.int .i64 sh,.int .i64 se,.int .i64 wa,.int .i64 co,.int .i64 ho,.int .i64 sw,.int .i64 ra]] w fun e w'=>e=.returned (.bool (dQ ⟨id,ow,⟨p,f,lo,hi,no,tu,sl⟩,wi,st,ch,su,rH,sh,se,wa,co,ho,sw,ra⟩))∧Below w.heap.size w w':=by
 have hs:dQ ⟨id,ow,⟨p,f,lo,hi,no,tu,sl⟩,wi,st,ch,su,rH,sh,se,wa,co,ho,sw,ra⟩=((dw ⟨p,f,lo,hi,no,tu,sl⟩&&inB id 0 23&&inB ow 0 15&&inB wi 0 4)&&((((((inB ch 1 1000000&&inB su 0 10000&&inB rH 0 10000&&inB sh 0 10000&&inB se 0 10000)&&(inB wa 0 10000&&inB co 0 10000&&inB ho 1 1000000))&&inB st 1 1000000)&&inB sw 0 60)&&inB ra 1 1000))):=by
  simp only[dQ];ac_rfl
 rw[hs];clear hs;generalize hq:dw ⟨p,f,lo,hi,no,tu,sl⟩=q;have HQ:=Lib.hid hq;clear hq;go_enter Tryz.func129,Tryz.ntmps129;go_wp2_with fail;refine (lZ p f lo hi no tu sl _).mono ?_;rintro e W0 ⟨rfl,hb0⟩;rw[HQ.out];have K:=(aG.new w 53 #[.int .i64 id,.int .i64 ow,.int .i64 p,.int .i64 f,.int .i64 lo,.int .i64 hi,.int .i64 no,.int .i64 tu,.int .i64 sl,.int .i64 wi,.int .i64 st,.int .i64 ch,.int .i64 su,.int .i64 rH,.int .i64 sh,.int .i64 se,.int .i64 wa,.int .i64 co,.int .i64 ho,.int .i64 sw,.int .i64 ra]).below hb0 (by simp);have hb:Below w.heap.size w W0:=(by repeat (first | exact Below.refl _ _ | assumption | refine Below.drew ?_ | refine below_drewN ?_ _ | refine aj ?_ _ | refine Below.setCell ?_ (by first | (simp;done) | omega | (simp;omega)) _ | refine aA ?_ (by assumption)));clear hb0;have g0:W0.cell? ⟨w.heap.size,0,none⟩=some (.int .i64 id):=K.cell 0;have g1:W0.cell? ⟨w.heap.size,1,none⟩=some (.int .i64 ow):=K.cell 1;have g2:W0.cell? ⟨w.heap.size,2,none⟩=some (.int .i64 p):=K.cell 2;have g3:W0.cell? ⟨w.heap.size,3,none⟩=some (.int .i64 f):=K.cell 3;have g4:W0.cell? ⟨w.heap.size,4,none⟩=some (.int .i64 lo):=K.cell 4;have g5:W0.cell? ⟨w.heap.size,5,none⟩=some (.int .i64 hi):=K.cell 5;have g6:W0.cell? ⟨w.heap.size,6,none⟩=some (.int .i64 no):=K.cell 6;have g7:W0.cell? ⟨w.heap.size,7,none⟩=some (.int .i64 tu):=K.cell 7;have g8:W0.cell? ⟨w.heap.size,8,none⟩=some (.int .i64 sl):=K.cell 8;have g9:W0.cell? ⟨w.heap.size,9,none⟩=some (.int .i64 wi):=K.cell 9;have g10:W0.cell? ⟨w.heap.size,10,none⟩=some (.int .i64 st):=K.cell 10;have g11:W0.cell? ⟨w.heap.size,11,none⟩=some (.int .i64 ch):=K.cell 11;have g12:W0.cell? ⟨w.heap.size,12,none⟩=some (.int .i64 su):=K.cell 12;have g13:W0.cell? ⟨w.heap.size,13,none⟩=some (.int .i64 rH):=K.cell 13;have g14:W0.cell? ⟨w.heap.size,14,none⟩=some (.int .i64 sh):=K.cell 14;have g15:W0.cell? ⟨w.heap.size,15,none⟩=some (.int .i64 se):=K.cell 15;have g16:W0.cell? ⟨w.heap.size,16,none⟩=some (.int .i64 wa):=K.cell 16;have g17:W0.cell? ⟨w.heap.size,17,none⟩=some (.int .i64 co):=K.cell 17;have g18:W0.cell? ⟨w.heap.size,18,none⟩=some (.int .i64 ho):=K.cell 18;have g19:W0.cell? ⟨w.heap.size,19,none⟩=some (.int .i64 sw):=K.cell 19;have g20:W0.cell? ⟨w.heap.size,20,none⟩=some (.int .i64 ra):=K.cell 20;clear K;cases q
 ·go_wp2_with (go_at_call 139;refine (jg _ _ _ _).mono ?_;rintro e w' ⟨rfl,rfl⟩)
  all_goals
   go_ret;exact⟨by first | (simp[*];done) | simp_all,hb⟩
 ·go_wp2_with (go_at_call 139;refine (jg _ _ _ _).mono ?_;rintro e w' ⟨rfl,rfl⟩)
  all_goals
   go_ret;exact⟨by first | (simp[*];done) | simp_all,hb⟩
end Go.Proofs.YtjidhhfabfnhnaaGreat
namespace Go.Proofs.YtjidhhfabfnhnaaGreat
open Go.RowKit
theorem F6 (x:iD) (w:World):Calls Tryz.prog 131 #[.agg (bJ x).toArray] w fun e w'=>e=.returned (.bool (fZ x))∧Below w.heap.size w w':=by
 obtain⟨id,⟨x,y⟩,re,an,sk⟩:=x;exact BK id x y re an sk w
set_option maxRecDepth 100000 in
set_option maxHeartbeats 2000000 in
theorem sQ (l:List iD) (A:Option Addr) (n c:Nat) (w:World) (h:RA bJ 6 w w.heap.size A n c l) :
  Calls Tryz.prog 80 #[.slice A n c] w fun e w'=>e=.returned (.bool (gU l))∧Below w.heap.size w w':=by
 have HR:=Lib.hid h;have hle:=h.le;have hlen:=h.len;have HL:=Lib.hid hlen;have hs:gU l=(decide (n≤12)&&dH fZ (·.id) none l):=by rw[gU,hlen]
 rw[hs];clear h hs hlen;by_cases hm:n≤12
 ·have hd:decide (n≤12)=true:=by simpa using hm
  rw[hd,Bool.true_and];clear hd;have hrl:dH fZ (·.id) none l=dH fZ (·.id) (aV l 0) (l.drop 0):=by simp[aV]
  have HQ:=Lib.hid hrl;clear hrl;go_enter Tryz.func80,Tryz.ntmps80;go_wp2;go_loopw [3] (fun i wr=>∃k:Nat,k≤n∧i=.int .i64 k∧Hid (dH fZ (·.id) none l=dH fZ (·.id) (aV l k) (l.drop k))∧Below w.heap.size w wr) (fun i _=>n-(intOf i).toNat)
  case atStart=>exact⟨0,Nat.zero_le _,rfl,HQ,Below.refl _ _⟩
  case round =>
   clear HQ;obtain⟨k,hk,rfl,HK,hB⟩:=hrel;by_cases hlt:k<n
   ·obtain⟨b,o,hz,hA,hbl,hc⟩:=RA.range tq (HR.out.below hB) hlt;have hst:=nT fZ (fun x=>x.id) l k hz;rw[←HK.out]at hst;generalize l[k]=x at hst hc;have hv:=F6 x;have HC:=Lib.hid hc;have g0:wr.cell? ⟨b,o+k*6,none⟩=some (.int .i64 x.id):=hc 0 _ rfl;obtain⟨X,hX⟩:∃X,(bJ x).toArray=X:=⟨_,rfl⟩;rw[hX]at hv;have HV:=Lib.hid hv;have iP:=Lib.hid hX;generalize fZ x=q at hst HV;have HS:=Lib.hid hst;clear hst hc HK hX hv;subst hA;have hblt:b<w.heap.size:=hbl;go_wp2;cases q
    ·skip;refine aF 24 [some (.slice (some ⟨b,o,none⟩) n c),some (.int .i64 (k:Int)),some (.pointer (some ⟨b,o+k*6,none⟩)),some (.agg X),some (.bool false),some (.bool true),some (.bool true),some (undef),some (undef),some (undef),some (undef),some (undef),some (undef),some (undef),some (undef),some (undef),some (undef),some (undef),some (undef),some (undef),some (undef),some (undef),some (undef),some (.bool true)] [] ?_ ?_ ?_
     ·trivial
     ·refine⟨?_,?_,?_,?x3,?x4,?_,?_,?_,?_,?_,?_,?_,?_,?_,?_,?_,?_,?_,?_,?_,?_,?_,?_,?_,trivial⟩
      case x3 =>
       intro vals w1 hx hd;clear hd;simp only[Lf,au,Act.put,bH,bG];refine ay rfl _ _ rfl b (o+k*6) rfl X (bJ x) iP.out _ (RA.dD HC.out hx.aH) Tryz.underlying71 rfl mQ ?_;go_wp2;exact q_
      case x4 =>
       intro vals w1 hx hd;clear hd;simp only[Lf,au,Act.put,bH,bG];go_wp2_with fail;refine (HV.out _).mono ?_;rintro e w2 ⟨rfl,hb2⟩;go_wp2;exact⟨rfl,hb2,rfl⟩
      all_goals
       intro vals w1 hx hd;clear hd;simp only[Lf,au,Act.put,bH,bG];go_wp2;exact iq
     intro vals w5 hx hf;have e23:vals 23=.bool true:=hf 23 (by omega);clear hf;have hx:=hx.aH;have iJ:=aA hB hx;refine dO (by kernel_rfl) ?_;simp only[Lf,au,Act.put,FR_];rw[e23];clear e23;go_wp2;go_ret;exact⟨by rw[HS.out];rfl,iJ⟩
    ·by_cases hk0:k=0
     ·have hk0':(k:Int)≤0:=by omega
      have hpv:aV l k=none:=by simp[aV,hk0]
      have HP:=Lib.hid hpv;have zN:=Lib.hid hk0;have hkd:decide (0<k)=false:=by simp;omega
      clear hpv hk0;refine aF 24 [some (.slice (some ⟨b,o,none⟩) n c),some (.int .i64 (k:Int)),some (.pointer (some ⟨b,o+k*6,none⟩)),some (.agg X),some (.bool true),some (.bool false),some (.bool false),some (.int .i64 (k:Int)),some (.bool false),some (.bool false),some (undef),some (undef),some (undef),some (undef),some (undef),some (undef),some (undef),some (undef),some (undef),some (undef),some (undef),some (undef),some (.bool false),some (.bool false)] [] ?_ ?_ ?_
      ·trivial
      ·refine⟨?_,?_,?_,?x3,?x4,?_,?_,?_,?_,?_,?_,?_,?_,?_,?_,?_,?_,?_,?_,?_,?_,?_,?_,?_,trivial⟩
       case x3 =>
        intro vals w1 hx hd;clear hd;simp only[Lf,au,Act.put,bH,bG];refine ay rfl _ _ rfl b (o+k*6) rfl X (bJ x) iP.out _ (RA.dD HC.out hx.aH) Tryz.underlying71 rfl mQ ?_;go_wp2;exact q_
       case x4 =>
        intro vals w1 hx hd;clear hd;simp only[Lf,au,Act.put,bH,bG];go_wp2_with fail;refine (HV.out _).mono ?_;rintro e w2 ⟨rfl,hb2⟩;go_wp2;exact⟨rfl,hb2,rfl⟩
       all_goals
        intro vals w1 hx hd;clear hd;simp only[Lf,au,Act.put,bH,bG];have g0:=ah hx g0;go_wp2;exact iq
      intro vals w5 hx hf;have e23:vals 23=.bool false:=hf 23 (by omega);clear hf;have hx:=hx.aH;have iJ:=aA hB hx;refine dO (by kernel_rfl) ?_;simp only[Lf,au,Act.put,FR_];rw[e23];clear e23;go_wp2;go_roundw
      case rel=>exact⟨k+1,by omega,by go_num,Lib.hid (by rw[HS.out,HP.out];rfl),iJ⟩
      case measure=>simp[intOf];omega
     ·have hk1:(0:Int)<(k:Int):=by omega
      obtain⟨b',o',hz',hA',uO,hc'⟩:=RA.at_ tq (HR.out.below hB) (k:=k-1) (by omega);obtain⟨rfl,rfl⟩:b'=b∧o'=o:=by injection hA' with hA';injection hA' with h1 h2;exact⟨h1.symm,h2.symm⟩
      have hpv:aV l k=some l[k-1]:=by unfold aV;rw[if_neg hk0,List.getElem?_eq_getElem hz']
      generalize l[k-1]=y at hpv hc';have d0:wr.cell? ⟨b',o'+(k-1)*6,none⟩=some (.int .i64 y.id):=hc' 0 (by omega);have HP:=Lib.hid hpv;have zN:=Lib.hid hk0;clear hpv hc' hA' uO hk0;have hki:IntKind.i64.wrap ((k:Int)-1)=(k:Int)-1:=IntWalk.i64_in _ (by omega);have hkn:((k:Int)-1).toNat=k-1:=by omega
      have hkd:decide (0<k)=true:=by simp;omega
      refine aF 24 [some (.slice (some ⟨b',o',none⟩) n c),some (.int .i64 (k:Int)),some (.pointer (some ⟨b',o'+k*6,none⟩)),some (.agg X),some (.bool true),some (.bool false),some (.bool false),some (.int .i64 (k:Int)),some (.bool true),some (.bool true),some (.slice (some ⟨b',o',none⟩) n c),some (.int .i64 (k:Int)),some (.pointer (some ⟨b',o'+k*6,none⟩)),some (.pointer (some ⟨b',o'+k*6,none⟩)),some (.int .i64 x.id),some (.slice (some ⟨b',o',none⟩) n c),some (.int .i64 (k:Int)),some (.int .i64 ((k:Int)-1)),some (.pointer (some ⟨b',o'+(k-1)*6,none⟩)),some (.pointer (some ⟨b',o'+(k-1)*6,none⟩)),some (.int .i64 y.id),some (.bool (decide (x.id≤y.id))),some (.bool (decide (x.id≤y.id))),some (.bool (decide (x.id≤y.id)))] [] ?_ ?_ ?_
      ·trivial
      ·refine⟨?_,?_,?_,?x3,?x4,?_,?_,?_,?_,?_,?_,?_,?_,?_,?_,?_,?_,?_,?_,?_,?_,?_,?_,?_,trivial⟩
       case x3 =>
        intro vals w1 hx hd;clear hd;simp only[Lf,au,Act.put,bH,bG];refine ay rfl _ _ rfl b' (o'+k*6) rfl X (bJ x) iP.out _ (RA.dD HC.out hx.aH) Tryz.underlying71 rfl mQ ?_;go_wp2;exact q_
       case x4 =>
        intro vals w1 hx hd;clear hd;simp only[Lf,au,Act.put,bH,bG];go_wp2_with fail;refine (HV.out _).mono ?_;rintro e w2 ⟨rfl,hb2⟩;go_wp2;exact⟨rfl,hb2,rfl⟩
       all_goals
        intro vals w1 hx hd;clear hd;simp only[Lf,au,Act.put,bH,bG];have g0:=ah hx g0;have d0:=ah hx d0;go_wp2;exact iq
      intro vals w5 hx hf;have e23:vals 23=.bool (decide (x.id≤y.id)):=hf 23 (by omega);clear hf;have hx:=hx.aH;have iJ:=aA hB hx;refine dO (by kernel_rfl) ?_;simp only[Lf,au,Act.put,FR_];rw[e23];clear e23;by_cases hid:x.id≤y.id
      ·have mO:decide (y.id<x.id)=false:=by simp;omega
       have HI:=Lib.hid mO;clear mO;go_wp2;go_ret;exact⟨by rw[HS.out,HP.out];simp[HI.out],iJ⟩
      ·have mO:decide (y.id<x.id)=true:=by simp;omega
       have HI:=Lib.hid mO;clear mO;go_wp2;go_roundw
       case rel=>exact⟨k+1,by omega,by go_num,Lib.hid (by rw[HS.out,HP.out];simp[HI.out]),iJ⟩
       case measure=>simp[intOf];omega
   ·go_wp2;go_ret;exact⟨by rw[HK.out,List.drop_of_length_le (by rw[HL.out];omega)];rfl,hB⟩
 ·have hd:decide (n≤12)=false:=by simpa using hm
  rw[hd,Bool.false_and];clear hd;go_enter Tryz.func80,Tryz.ntmps80;go_wp2;go_ret;exact⟨rfl,(by repeat (first | exact Below.refl _ _ | assumption | refine Below.drew ?_ | refine below_drewN ?_ _ | refine aj ?_ _ | refine Below.setCell ?_ (by first | (simp;done) | omega | (simp;omega)) _ | refine aA ?_ (by assumption)))⟩
theorem wL (x:St) (w:World):Calls Tryz.prog 129 #[.agg (aC x).toArray] w fun e w'=>e=.returned (.bool (dQ x))∧Below w.heap.size w w':=by
 obtain⟨id,ow,⟨p,f,lo,hi,no,tu,sl⟩,wi,st,ch,su,rH,sh,se,wa,co,ho,sw,ra⟩:=x;exact Mc id ow p f lo hi no tu sl wi st ch su rH sh se wa co ho sw ra w
set_option maxRecDepth 100000 in
set_option maxHeartbeats 2000000 in
theorem sS (l:List St) (A:Option Addr) (n c:Nat) (w:World) (h:RA aC 21 w w.heap.size A n c l) :
  Calls Tryz.prog 73 #[.slice A n c] w fun e w'=>e=.returned (.bool (eH l))∧Below w.heap.size w w':=by
 have HR:=Lib.hid h;have hle:=h.le;have hlen:=h.len;have HL:=Lib.hid hlen;have hs:eH l=(decide (n≤24)&&dH dQ (·.id) none l):=by rw[eH,hlen]
 rw[hs];clear h hs hlen;by_cases hm:n≤24
 ·have hd:decide (n≤24)=true:=by simpa using hm
  rw[hd,Bool.true_and];clear hd;have hrl:dH dQ (·.id) none l=dH dQ (·.id) (aV l 0) (l.drop 0):=by simp[aV]
  have HQ:=Lib.hid hrl;clear hrl;go_enter Tryz.func73,Tryz.ntmps73;go_wp2;go_loopw [3] (fun i wr=>∃k:Nat,k≤n∧i=.int .i64 k∧Hid (dH dQ (·.id) none l=dH dQ (·.id) (aV l k) (l.drop k))∧Below w.heap.size w wr) (fun i _=>n-(intOf i).toNat)
  case atStart=>exact⟨0,Nat.zero_le _,rfl,HQ,Below.refl _ _⟩
  case round =>
   clear HQ;obtain⟨k,hk,rfl,HK,hB⟩:=hrel;by_cases hlt:k<n
   ·obtain⟨b,o,hz,hA,hbl,hc⟩:=RA.range gJ (HR.out.below hB) hlt;have hst:=nT dQ (fun x=>x.id) l k hz;rw[←HK.out]at hst;generalize l[k]=x at hst hc;have hv:=wL x;have HC:=Lib.hid hc;have g0:wr.cell? ⟨b,o+k*21,none⟩=some (.int .i64 x.id):=hc 0 _ rfl;obtain⟨X,hX⟩:∃X,(aC x).toArray=X:=⟨_,rfl⟩;rw[hX]at hv;have HV:=Lib.hid hv;have iP:=Lib.hid hX;generalize dQ x=q at hst HV;have HS:=Lib.hid hst;clear hst hc HK hX hv;subst hA;have hblt:b<w.heap.size:=hbl;go_wp2;cases q
    ·skip;refine aF 24 [some (.slice (some ⟨b,o,none⟩) n c),some (.int .i64 (k:Int)),some (.pointer (some ⟨b,o+k*21,none⟩)),some (.agg X),some (.bool false),some (.bool true),some (.bool true),some (undef),some (undef),some (undef),some (undef),some (undef),some (undef),some (undef),some (undef),some (undef),some (undef),some (undef),some (undef),some (undef),some (undef),some (undef),some (undef),some (.bool true)] [] ?_ ?_ ?_
     ·trivial
     ·refine⟨?_,?_,?_,?x3,?x4,?_,?_,?_,?_,?_,?_,?_,?_,?_,?_,?_,?_,?_,?_,?_,?_,?_,?_,?_,trivial⟩
      case x3 =>
       intro vals w1 hx hd;clear hd;simp only[Lf,au,Act.put,bH,bG];refine ay rfl _ _ rfl b (o+k*21) rfl X (aC x) iP.out _ (RA.dD HC.out hx.aH) Tryz.underlying53 rfl aQ ?_;go_wp2;exact q_
      case x4 =>
       intro vals w1 hx hd;clear hd;simp only[Lf,au,Act.put,bH,bG];go_wp2_with fail;refine (HV.out _).mono ?_;rintro e w2 ⟨rfl,hb2⟩;go_wp2;exact⟨rfl,hb2,rfl⟩
      all_goals
       intro vals w1 hx hd;clear hd;simp only[Lf,au,Act.put,bH,bG];go_wp2;exact iq
     intro vals w5 hx hf;have e23:vals 23=.bool true:=hf 23 (by omega);clear hf;have hx:=hx.aH;have iJ:=aA hB hx;refine dO (by kernel_rfl) ?_;simp only[Lf,au,Act.put,FR_];rw[e23];clear e23;go_wp2;go_ret;exact⟨by rw[HS.out];rfl,iJ⟩
    ·by_cases hk0:k=0
     ·have hk0':(k:Int)≤0:=by omega
      have hpv:aV l k=none:=by simp[aV,hk0]
      have HP:=Lib.hid hpv;have zN:=Lib.hid hk0;have hkd:decide (0<k)=false:=by simp;omega
      clear hpv hk0;refine aF 24 [some (.slice (some ⟨b,o,none⟩) n c),some (.int .i64 (k:Int)),some (.pointer (some ⟨b,o+k*21,none⟩)),some (.agg X),some (.bool true),some (.bool false),some (.bool false),some (.int .i64 (k:Int)),some (.bool false),some (.bool false),some (undef),some (undef),some (undef),some (undef),some (undef),some (undef),some (undef),some (undef),some (undef),some (undef),some (undef),some (undef),some (.bool false),some (.bool false)] [] ?_ ?_ ?_
      ·trivial
      ·refine⟨?_,?_,?_,?x3,?x4,?_,?_,?_,?_,?_,?_,?_,?_,?_,?_,?_,?_,?_,?_,?_,?_,?_,?_,?_,trivial⟩
       case x3 =>
        intro vals w1 hx hd;clear hd;simp only[Lf,au,Act.put,bH,bG];refine ay rfl _ _ rfl b (o+k*21) rfl X (aC x) iP.out _ (RA.dD HC.out hx.aH) Tryz.underlying53 rfl aQ ?_;go_wp2;exact q_
       case x4 =>
        intro vals w1 hx hd;clear hd;simp only[Lf,au,Act.put,bH,bG];go_wp2_with fail;refine (HV.out _).mono ?_;rintro e w2 ⟨rfl,hb2⟩;go_wp2;exact⟨rfl,hb2,rfl⟩
       all_goals
        intro vals w1 hx hd;clear hd;simp only[Lf,au,Act.put,bH,bG];have g0:=ah hx g0;go_wp2;exact iq
      intro vals w5 hx hf;have e23:vals 23=.bool false:=hf 23 (by omega);clear hf;have hx:=hx.aH;have iJ:=aA hB hx;refine dO (by kernel_rfl) ?_;simp only[Lf,au,Act.put,FR_];rw[e23];clear e23;go_wp2;go_roundw
      case rel=>exact⟨k+1,by omega,by go_num,Lib.hid (by rw[HS.out,HP.out];rfl),iJ⟩
      case measure=>simp[intOf];omega
     ·have hk1:(0:Int)<(k:Int):=by omega
      obtain⟨b',o',hz',hA',uO,hc'⟩:=RA.at_ gJ (HR.out.below hB) (k:=k-1) (by omega);obtain⟨rfl,rfl⟩:b'=b∧o'=o:=by injection hA' with hA';injection hA' with h1 h2;exact⟨h1.symm,h2.symm⟩
      have hpv:aV l k=some l[k-1]:=by unfold aV;rw[if_neg hk0,List.getElem?_eq_getElem hz']
      generalize l[k-1]=y at hpv hc';have d0:wr.cell? ⟨b',o'+(k-1)*21,none⟩=some (.int .i64 y.id):=hc' 0 (by omega);have HP:=Lib.hid hpv;have zN:=Lib.hid hk0;clear hpv hc' hA' uO hk0;have hki:IntKind.i64.wrap ((k:Int)-1)=(k:Int)-1:=IntWalk.i64_in _ (by omega);have hkn:((k:Int)-1).toNat=k-1:=by omega
      have hkd:decide (0<k)=true:=by simp;omega
      refine aF 24 [some (.slice (some ⟨b',o',none⟩) n c),some (.int .i64 (k:Int)),some (.pointer (some ⟨b',o'+k*21,none⟩)),some (.agg X),some (.bool true),some (.bool false),some (.bool false),some (.int .i64 (k:Int)),some (.bool true),some (.bool true),some (.slice (some ⟨b',o',none⟩) n c),some (.int .i64 (k:Int)),some (.pointer (some ⟨b',o'+k*21,none⟩)),some (.pointer (some ⟨b',o'+k*21,none⟩)),some (.int .i64 x.id),some (.slice (some ⟨b',o',none⟩) n c),some (.int .i64 (k:Int)),some (.int .i64 ((k:Int)-1)),some (.pointer (some ⟨b',o'+(k-1)*21,none⟩)),some (.pointer (some ⟨b',o'+(k-1)*21,none⟩)),some (.int .i64 y.id),some (.bool (decide (x.id≤y.id))),some (.bool (decide (x.id≤y.id))),some (.bool (decide (x.id≤y.id)))] [] ?_ ?_ ?_
      ·trivial
      ·refine⟨?_,?_,?_,?x3,?x4,?_,?_,?_,?_,?_,?_,?_,?_,?_,?_,?_,?_,?_,?_,?_,?_,?_,?_,?_,trivial⟩
       case x3 =>
        intro vals w1 hx hd;clear hd;simp only[Lf,au,Act.put,bH,bG];refine ay rfl _ _ rfl b' (o'+k*21) rfl X (aC x) iP.out _ (RA.dD HC.out hx.aH) Tryz.underlying53 rfl aQ ?_;go_wp2;exact q_
       case x4 =>
        intro vals w1 hx hd;clear hd;simp only[Lf,au,Act.put,bH,bG];go_wp2_with fail;refine (HV.out _).mono ?_;rintro e w2 ⟨rfl,hb2⟩;go_wp2;exact⟨rfl,hb2,rfl⟩
       all_goals
        intro vals w1 hx hd;clear hd;simp only[Lf,au,Act.put,bH,bG];have g0:=ah hx g0;have d0:=ah hx d0;go_wp2;exact iq
      intro vals w5 hx hf;have e23:vals 23=.bool (decide (x.id≤y.id)):=hf 23 (by omega);clear hf;have hx:=hx.aH;have iJ:=aA hB hx;refine dO (by kernel_rfl) ?_;simp only[Lf,au,Act.put,FR_];rw[e23];clear e23;by_cases hid:x.id≤y.id
      ·have mO:decide (y.id<x.id)=false:=by simp;omega
       have HI:=Lib.hid mO;clear mO;go_wp2;go_ret;exact⟨by rw[HS.out,HP.out];simp[HI.out],iJ⟩
      ·have mO:decide (y.id<x.id)=true:=by simp;omega
       have HI:=Lib.hid mO;clear mO;go_wp2;go_roundw
       case rel=>exact⟨k+1,by omega,by go_num,Lib.hid (by rw[HS.out,HP.out];simp[HI.out]),iJ⟩
       case measure=>simp[intOf];omega
   ·go_wp2;go_ret;exact⟨by rw[HK.out,List.drop_of_length_le (by rw[HL.out];omega)];rfl,hB⟩
 ·have hd:decide (n≤24)=false:=by simpa using hm
  rw[hd,Bool.false_and];clear hd;go_enter Tryz.func73,Tryz.ntmps73;go_wp2;go_ret;exact⟨rfl,(by repeat (first | exact Below.refl _ _ | assumption | refine Below.drew ?_ | refine below_drewN ?_ _ | refine aj ?_ _ | refine Below.setCell ?_ (by first | (simp;done) | omega | (simp;omega)) _ | refine aA ?_ (by assumption)))⟩
end Go.Proofs.YtjidhhfabfnhnaaGreat
namespace Go.Proofs.YtjidhhfabfnhnaaGreat
open Go.RowKit
theorem Um (x y:bP):ltOf aU x y=true↔x.can.fr<y.can.fr∨(x.can.fr=y.can.fr∧(x.sat<y.sat∨(x.sat=y.sat∧(x.dh<y.dh∨(x.dh=y.dh∧(x.sure.fr<y.sure.fr∨(x.sure.fr=y.sure.fr∧x.can.tt<y.can.tt))))))):=by
 have hor:∀a b:Int,Nh a b<0↔(a<0∨(a=0∧b<0)):=fun a b=>by unfold Nh;split<;>omega
 have hc:∀a b:Int,iL a b<0↔a<b:=fun a b=>by unfold iL;split<;>(try split)<;>omega
 have hz:∀a b:Int,iL a b=0↔a=b:=fun a b=>by unfold iL;split<;>(try split)<;>omega
 simp only[ltOf,aU,decide_eq_true_eq,hor,hc,hz]
set_option maxHeartbeats 2000000 in
theorem qI (oO oP aa ab ac ad oQ oU ba bb bc bd:Int) (w:World) :
  Calls Tryz.prog 135 #[.agg #[.int .i64 oO,.int .i64 oP,.int .i64 aa,.int .i64 ab,.int .i64 ac,.int .i64 ad],.agg #[.int .i64 oQ,.int .i64 oU,.int .i64 ba,.int .i64 bb,.int .i64 bc,.int .i64 bd]] w fun e w'=>e=.returned (.bool (ltOf aU ⟨oO,oP,⟨aa,ab⟩,⟨ac,ad⟩⟩ ⟨oQ,oU,⟨ba,bb⟩,⟨bc,bd⟩⟩))∧Below w.heap.size w w':=by
 have hl:=Um ⟨oO,oP,⟨aa,ab⟩,⟨ac,ad⟩⟩ ⟨oQ,oU,⟨ba,bb⟩,⟨bc,bd⟩⟩;dsimp only at hl;generalize ltOf aU ⟨oO,oP,⟨aa,ab⟩,⟨ac,ad⟩⟩ ⟨oQ,oU,⟨ba,bb⟩,⟨bc,bd⟩⟩=r at hl⊢;have hr:∀z:Int,∀u:Int,(z<u↔r=true)→Ending.returned (.bool (decide (z<u)))=.returned (.bool r):=fun z u h=>by
  have:decide (z<u)=r:=by rw[Bool.eq_iff_iff,decide_eq_true_iff];exact h
  rw[this]
 have HR:=Lib.hid hr;have HL:=Lib.hid hl;clear hr hl;by_cases h1:ac=bc
 ·subst h1;by_cases h2:oO=oQ
  ·subst h2;by_cases h3:oP=oU
   ·subst h3;by_cases h4:aa=ba
    ·subst h4;go_enter Tryz.func135,Tryz.ntmps135;go_wp2;go_ret;exact⟨HR.out _ _ (by rw[HL.out];first | omega | (simp only[true_and];omega)),(by repeat (first | exact Below.refl _ _ | assumption | refine Below.drew ?_ | refine below_drewN ?_ _ | refine aj ?_ _ | refine Below.setCell ?_ (by first | (simp;done) | omega | (simp;omega)) _ | refine aA ?_ (by assumption)))⟩
    ·have n4:(aa != ba)=true:=by simpa using h4
     go_enter Tryz.func135,Tryz.ntmps135;go_wp2;go_ret;exact⟨HR.out _ _ (by rw[HL.out];first | omega | (simp only[true_and];omega)),(by repeat (first | exact Below.refl _ _ | assumption | refine Below.drew ?_ | refine below_drewN ?_ _ | refine aj ?_ _ | refine Below.setCell ?_ (by first | (simp;done) | omega | (simp;omega)) _ | refine aA ?_ (by assumption)))⟩
   ·have n3:(oP != oU)=true:=by simpa using h3
    go_enter Tryz.func135,Tryz.ntmps135;go_wp2;go_ret;exact⟨HR.out _ _ (by rw[HL.out];first | omega | (simp only[true_and];omega)),(by repeat (first | exact Below.refl _ _ | assumption | refine Below.drew ?_ | refine below_drewN ?_ _ | refine aj ?_ _ | refine Below.setCell ?_ (by first | (simp;done) | omega | (simp;omega)) _ | refine aA ?_ (by assumption)))⟩
  ·have n2:(oO != oQ)=true:=by simpa using h2
   go_enter Tryz.func135,Tryz.ntmps135;go_wp2;go_ret;exact⟨HR.out _ _ (by rw[HL.out];first | omega | (simp only[true_and];omega)),(by repeat (first | exact Below.refl _ _ | assumption | refine Below.drew ?_ | refine below_drewN ?_ _ | refine aj ?_ _ | refine Below.setCell ?_ (by first | (simp;done) | omega | (simp;omega)) _ | refine aA ?_ (by assumption)))⟩
 ·have n1:(ac != bc)=true:=by simpa using h1
  go_enter Tryz.func135,Tryz.ntmps135;go_wp2;go_ret;exact⟨HR.out _ _ (by rw[HL.out];first | omega | (simp only[true_and];omega)),(by repeat (first | exact Below.refl _ _ | assumption | refine Below.drew ?_ | refine below_drewN ?_ _ | refine aj ?_ _ | refine Below.setCell ?_ (by first | (simp;done) | omega | (simp;omega)) _ | refine aA ?_ (by assumption)))⟩
end Go.Proofs.YtjidhhfabfnhnaaGreat
