/- The reference: lists of satellites, of stations; equal lists (printed by contact_c3.py). -/
import Derived.Test.YtjidhhfabfnhnaaGreatN05
import Derived.Test.YtjidhhfabfnhnaaGreatN01
import Derived.Test.YtjidhhfabfnhnaaGreatN09
namespace Go.Proofs.YtjidhhfabfnhnaaGreat
open Go.RowKit
set_option maxHeartbeats 1000000 in
theorem lT (x y:Int) (w:World) :
  Calls Tryz.prog 159 #[.agg #[.int .i64 x,.int .i64 y]] w fun e w'=>e=.returned (.bool (iR ⟨x,y⟩))∧Below w.heap.size w w':=by
 have hb:iR ⟨x,y⟩=((decide (0≤x)&&decide (x≤47))&&decide (0≤y)&&decide (y≤23)):=by
  simp[iR,inB,Bool.and_assoc]
 rw[hb];clear hb;go_enter Tryz.func159,Tryz.ntmps159;go_wp2
 all_goals
  go_ret;exact⟨by simp[*]<;>(intros;omega),(by repeat (first | exact Below.refl _ _ | assumption | refine Below.drew ?_ | refine below_drewN ?_ _ | refine aj ?_ _ | refine Below.setCell ?_ (by first | (simp;done) | omega | (simp;omega)) _ | refine aA ?_ (by assumption)))⟩
theorem UM {a b c d:Int} (_k1:0≤a∧a≤47) (_k2:0≤c∧c≤47) (e1:iR ⟨a,b⟩=true) (e2:iR ⟨c,d⟩=true) :
  (24<sW (a-c)→ji ⟨a,b⟩ ⟨c,d⟩=max (48-sW (a-c)) (sW (b-d)))∧(sW (a-c)≤24→ji ⟨a,b⟩ ⟨c,d⟩=max (sW (a-c)) (sW (b-d))):=by
 unfold ji;rw[e1,e2];simp only[Bool.and_self,if_true,sW];constructor<;>intro h<;>omega
set_option maxHeartbeats 1000000 in
theorem Np (a b c d:Int) (w:World) :
  Calls Tryz.prog 168 #[.agg #[.int .i64 a,.int .i64 b],.agg #[.int .i64 c,.int .i64 d]] w fun e w'=>e=.returned (.int .i64 (ji ⟨a,b⟩ ⟨c,d⟩))∧Below w.heap.size w w':=by
 generalize e1:iR ⟨a,b⟩=q;generalize e2:iR ⟨c,d⟩=r;have E1:=Lib.hid e1;have E2:=Lib.hid e2;cases q
 ·have hn:ji ⟨a,b⟩ ⟨c,d⟩ = -1:=by simp[ji,e1]
  rw[hn];clear hn e1 e2;go_enter Tryz.func168,Tryz.ntmps168;go_wp2_with fail;refine (lT a b _).mono ?_;rintro e w1 ⟨rfl,hb1⟩;rw[E1.out];go_wp2;go_ret;exact⟨rfl,(by repeat (first | exact Below.refl _ _ | assumption | refine Below.drew ?_ | refine below_drewN ?_ _ | refine aj ?_ _ | refine Below.setCell ?_ (by first | (simp;done) | omega | (simp;omega)) _ | refine aA ?_ (by assumption)))⟩
 ·cases r
  ·have hn:ji ⟨a,b⟩ ⟨c,d⟩ = -1:=by simp[ji,e2]
   rw[hn];clear hn e1 e2;go_enter Tryz.func168,Tryz.ntmps168;go_wp2_with fail;refine (lT a b _).mono ?_;rintro e w1 ⟨rfl,hb1⟩;rw[E1.out];obtain⟨hc1,hf1⟩:=vS hb1;go_wp2_with fail;refine (lT c d _).mono ?_;rintro e w2 ⟨rfl,hb2⟩;rw[E2.out];go_wp2;go_ret;exact⟨rfl,(by repeat (first | exact Below.refl _ _ | assumption | refine Below.drew ?_ | refine below_drewN ?_ _ | refine aj ?_ _ | refine Below.setCell ?_ (by first | (simp;done) | omega | (simp;omega)) _ | refine aA ?_ (by assumption)))⟩
  ·have k1:0≤a∧a≤47∧0≤b∧b≤23:=by simp[iR,inB]at e1;omega
   have k2:0≤c∧c≤47∧0≤d∧d≤23:=by simp[iR,inB]at e2;omega
   have hn:=UM ⟨k1.1,k1.2.1⟩ ⟨k2.1,k2.2.1⟩ e1 e2;have HN:=Lib.hid hn;clear hn e1 e2;obtain⟨a1,a2,b1,b2⟩:=k1;obtain⟨c1,c2,d1,d2⟩:=k2;generalize ji ⟨a,b⟩ ⟨c,d⟩=res at HN⊢;have hr1:∀n,res=n→Ending.returned (.int .i64 n)=.returned (.int .i64 res):=fun n h=>by rw[h]
   have HR1:=Lib.hid hr1;clear hr1;go_enter Tryz.func168,Tryz.ntmps168;go_wp2_with fail;refine (lT a b _).mono ?_;rintro e w1 ⟨rfl,hb1⟩;rw[E1.out];obtain⟨hc1,hf1⟩:=vS hb1;go_wp2_with fail;refine (lT c d _).mono ?_;rintro e w2 ⟨rfl,hb2⟩;rw[E2.out];obtain⟨hc2,hf2⟩:=vS hb2;have hz:=hb1.size;simp at hz;have k0:aI w2 w.heap.size 69 #[.int .i64 a,.int .i64 b]:=(((aI.new w _ _).alloc _).below hb1 (by simp<;>omega)).below hb2 (by omega);have k1:aI w2 (w.heap.size+1) 69 #[.int .i64 c,.int .i64 d]:=by
    have k:=(aI.new (w.alloc (.cells #[.int .i64 a,.int .i64 b] 69)) 69 #[.int .i64 c,.int .i64 d]).below hb1 (by simp);rw[World.size_alloc]at k;exact k.below hb2 (by omega)
   have f0:w2.cell? ⟨w.heap.size,0,none⟩=some (.int .i64 a):=k0.cell 0;have f1:w2.cell? ⟨w.heap.size,1,none⟩=some (.int .i64 b):=k0.cell 1;have f2:w2.cell? ⟨w.heap.size+1,0,none⟩=some (.int .i64 c):=k1.cell 0;have f3:w2.cell? ⟨w.heap.size+1,1,none⟩=some (.int .i64 d):=k1.cell 1;have hB:Below w.heap.size w w2:=(by repeat (first | exact Below.refl _ _ | assumption | refine Below.drew ?_ | refine below_drewN ?_ _ | refine aj ?_ _ | refine Below.setCell ?_ (by first | (simp;done) | omega | (simp;omega)) _ | refine aA ?_ (by assumption)));clear hc1 hc2 hf1 hf2 k0 k1 hb1 hb2 hz;rcases (show a<c∨c≤a by omega)with h1 | h1<;>rcases (show b<d∨d≤b by omega)with h2 | h2
   all_goals
    go_wp2
   all_goals
    go_ret;exact⟨HR1.out _ (by
     obtain⟨n1,n2⟩:=HN.out;by_cases hh:24<sW (a-c)
     ·rw[n1 hh];simp only[sW]at hh⊢;omega
     ·rw[n2 (by omega)];simp only[sW]at hh⊢;omega),hB⟩
set_option maxHeartbeats 2000000 in
theorem pJ (p f lo hi no tu sl:Int) (w:World) :
  Calls Tryz.prog 74 #[.agg #[.int .i64 p,.int .i64 f,.int .i64 lo,.int .i64 hi,.int .i64 no,.int .i64 tu,.int .i64 sl]] w fun e w'=>e=.returned (.bool (dO ⟨p,f,lo,hi,no,tu,sl⟩))∧Below w.heap.size w w':=by
 have hb:dO ⟨p,f,lo,hi,no,tu,sl⟩=(inB p 20 2000&&(p % 2==0)&&inB f 0 (p-1)&&inB lo 0 23999&&inB hi 0 23999&&decide (lo<hi)&&inB no 0 47999&&inB tu (-2000) 2000&&inB sl 0 10):=rfl;rw[hb];clear hb;generalize e0:inB p 20 2000=b0;generalize e1:inB f 0 (p-1)=b1;generalize e2:inB lo 0 23999=b2;generalize e3:inB hi 0 23999=b3;generalize e4:inB no 0 47999=b4;generalize e5:inB tu (-2000) 2000=b5;generalize e6:inB sl 0 10=b6;have E0:=Lib.hid e0;have E1:=Lib.hid e1;have E2:=Lib.hid e2;have E3:=Lib.hid e3;have E4:=Lib.hid e4;have E5:=Lib.hid e5;have E6:=Lib.hid e6;clear e0 e1 e2 e3 e4 e5 e6;generalize hlt:decide (lo<hi)=lt;cases b0
 ·go_enter Tryz.func74,Tryz.ntmps74;go_wp2_with (go_at_call 130;refine (Ci _ _ _ _).mono ?_;rintro e w' ⟨rfl,rfl⟩;first | rw[E0.out] | rw[E1.out] | rw[E2.out] | rw[E3.out] | rw[E4.out] | rw[E5.out] | rw[E6.out])
  all_goals
   go_ret;exact⟨by cases b1<;>simp_all,(by repeat (first | exact Below.refl _ _ | assumption | refine Below.drew ?_ | refine below_drewN ?_ _ | refine aj ?_ _ | refine Below.setCell ?_ (by first | (simp;done) | omega | (simp;omega)) _ | refine aA ?_ (by assumption)))⟩
 ·obtain⟨p1,p2⟩:=jL.1 E0.out;have hm:p.tmod 2=p % 2:=Int.tmod_eq_emod_of_nonneg (by omega);generalize hq:p % 2=q at hm⊢;go_enter Tryz.func74,Tryz.ntmps74;go_wp2_with (go_at_call 130;refine (Ci _ _ _ _).mono ?_;rintro e w' ⟨rfl,rfl⟩;first | rw[E0.out] | rw[E1.out] | rw[E2.out] | rw[E3.out] | rw[E4.out] | rw[E5.out] | rw[E6.out])
  all_goals
   go_ret;exact⟨by cases b1<;>simp_all,(by repeat (first | exact Below.refl _ _ | assumption | refine Below.drew ?_ | refine below_drewN ?_ _ | refine aj ?_ _ | refine Below.setCell ?_ (by first | (simp;done) | omega | (simp;omega)) _ | refine aA ?_ (by assumption)))⟩
theorem BK (p f lo hi no tu sl t la:Int) (w:World) :
  Calls Tryz.prog 173 #[.agg #[.int .i64 p,.int .i64 f,.int .i64 lo,.int .i64 hi,.int .i64 no,.int .i64 tu,.int .i64 sl],.int .i64 t,.int .i64 la] w fun e w'=>e=.returned (.bool (inB t 0 1000000&&inB la (-10) 10&&dO ⟨p,f,lo,hi,no,tu,sl⟩))∧Below w.heap.size w w':=by
 have V:=pJ p f lo hi no tu sl;generalize dO ⟨p,f,lo,hi,no,tu,sl⟩=q at V⊢;generalize e0:inB t 0 1000000=b0;generalize e1:inB la (-10) 10=b1;have HV:=Lib.hid V;have E0:=Lib.hid e0;have E1:=Lib.hid e1;clear V e0 e1;go_enter Tryz.func173,Tryz.ntmps173;go_wp2_with fail;refine (HV.out _).mono ?_;rintro e w1 ⟨rfl,hb1⟩;cases q
 ·go_wp2;go_ret;exact⟨by simp,(by repeat (first | exact Below.refl _ _ | assumption | refine Below.drew ?_ | refine below_drewN ?_ _ | refine aj ?_ _ | refine Below.setCell ?_ (by first | (simp;done) | omega | (simp;omega)) _ | refine aA ?_ (by assumption)))⟩
 ·go_wp2_with (go_at_call 130;refine (Ci _ _ _ _).mono ?_;rintro e w' ⟨rfl,rfl⟩;first | rw[E0.out] | rw[E1.out])
  all_goals
   go_ret;exact⟨by simp[*],(by repeat (first | exact Below.refl _ _ | assumption | refine Below.drew ?_ | refine below_drewN ?_ _ | refine aj ?_ _ | refine Below.setCell ?_ (by first | (simp;done) | omega | (simp;omega)) _ | refine aA ?_ (by assumption)))⟩
theorem wF (n c:Int) (h1:0<c) (h2:c≤1000000) (w:World) :
  Calls Tryz.prog 174 #[.int .i64 n,.int .i64 c] w fun e w'=>e=.returned (.int .i64 (n % c))∧w=w':=by
 have b1:=Int.lt_tmod_of_pos n h1;have b2:=Int.tmod_lt_of_pos n h1;have e1:=vT n c;have hr:n.tmod c<0→n % c=n.tmod c+c:=fun h=>by rw[←e1];exact Int.emod_eq_of_lt (by omega) (by omega)
 have hr2:¬n.tmod c<0→n % c=n.tmod c:=fun h=>by rw[←e1,Int.add_emod_right];exact Int.emod_eq_of_lt (by omega) (by omega)
 have hk:∀z,n % c=z→Ending.returned (.int .i64 z)=.returned (.int .i64 (n % c)):=fun z h=>by rw[h]
 generalize n % c=m at hr hr2 hk⊢;generalize hT:n.tmod c=T at *;have HR:=Lib.hid hr;have HR2:=Lib.hid hr2;have HK:=Lib.hid hk;have cz:c≠0:=by omega
 clear e1 hr hr2 hk;by_cases h0:T<0
 ·go_enter Tryz.func174,Tryz.ntmps174;go_wp2;go_ret;exact⟨HK.out _ (HR.out h0),rfl⟩
 ·go_enter Tryz.func174,Tryz.ntmps174;go_wp2;go_ret;exact⟨HK.out _ (HR2.out h0),rfl⟩
def YC (o:iQ) (t la:Int):Option Int:=if (inB t 0 1000000&&inB la (-10) 10&&dO o)=true then some (rowP o (t-la)) else none
def YD (o:iQ) (t la:Int):Option Int:=if (inB t 0 1000000&&inB la (-10) 10&&dO o)=true then some (ql o (t-la)) else none
def Jd:Option Int→Value
 |none=>.tuple #[.int .i64 0,.int .i64 70]
 |some n=>.tuple #[.int .i64 n,.int .i64 0]
theorem zC {p f lo hi no tu sl t la:Int} (hok:(inB t 0 1000000&&inB la (-10) 10&&dO ⟨p,f,lo,hi,no,tu,sl⟩)=true) :
  (0≤t∧t≤1000000)∧(-10≤la∧la≤10)∧(20≤p∧p≤2000)∧(0≤f∧f≤1999)∧(0≤lo∧lo<hi∧hi≤23999)∧(0≤no∧no≤47999)∧(-2000≤tu∧tu≤2000):=by
 simp only[dO,inB,Bool.and_eq_true,decide_eq_true_eq]at hok;obtain⟨⟨⟨i1,i2⟩,i3,i4⟩,⟨⟨⟨⟨⟨⟨⟨⟨o1,o2⟩,o3⟩,o4,o5⟩,o6,o7⟩,o8,o9⟩,o10⟩,o11,o12⟩,o13,o14⟩,o15,o16⟩:=hok;exact⟨⟨i1,i2⟩,⟨i3,i4⟩,⟨o1,o2⟩,⟨o4,by omega⟩,⟨o6,o10,o9⟩,⟨o11,o12⟩,⟨o13,o14⟩⟩
theorem UN {tu t:Int} (h1 : -2000≤tu∧tu≤2000) (h2 : -10≤t∧t≤1000010) : -4000000000≤tu*t∧tu*t≤4000000000:=by
 obtain⟨h12,h13⟩:=h1;obtain⟨h8,h9⟩:=h2;have a1:tu*t≤2000*1000010:=by
  by_cases ht:0≤t
  ·exact Int.mul_le_mul h13 h9 ht (by omega)
  ·have:=Int.mul_le_mul_of_nonpos_right h12 (show t≤0 by omega);omega
 have a2 : -(2000*1000010)≤tu*t:=by
  by_cases ht:0≤t
  ·have:=Int.mul_le_mul_of_nonneg_right h12 ht;omega
  ·have:=Int.mul_le_mul_of_nonpos_right h13 (show t≤0 by omega);omega
 omega
set_option maxHeartbeats 2000000 in
theorem QT (p f lo hi no tu sl t la:Int) (w:World) :
  Calls Tryz.prog 171 #[.agg #[.int .i64 p,.int .i64 f,.int .i64 lo,.int .i64 hi,.int .i64 no,.int .i64 tu,.int .i64 sl],.int .i64 t,.int .i64 la] w fun e w'=>e=.returned (Jd (YC ⟨p,f,lo,hi,no,tu,sl⟩ t la))∧Below w.heap.size w w':=by
 have A1:=BK p f lo hi no tu sl t la;have hbd:=@zC p f lo hi no tu sl t la;unfold YC;generalize (inB t 0 1000000&&inB la (-10) 10&&dO ⟨p,f,lo,hi,no,tu,sl⟩)=ok at A1 hbd⊢;have HA:=Lib.hid A1;clear A1;cases ok
 ·clear hbd;go_enter Tryz.func171,Tryz.ntmps171;go_wp2_with fail;refine (HA.out _).mono ?_;rintro e w1 ⟨rfl,hb1⟩;go_wp2;go_ret2
  exact⟨rfl,(by repeat (first | exact Below.refl _ _ | assumption | refine Below.drew ?_ | refine below_drewN ?_ _ | refine aj ?_ _ | refine Below.setCell ?_ (by first | (simp;done) | omega | (simp;omega)) _ | refine aA ?_ (by assumption)))⟩
 ·obtain⟨⟨t1,t2⟩,⟨l1,l2⟩,⟨p1,p2⟩,⟨f1,f2⟩,⟨lo1,lo2,hi1⟩,⟨no1,no2⟩,⟨tu1,tu2⟩⟩:=hbd rfl;have hm:rowP ⟨p,f,lo,hi,no,tu,sl⟩ (t-la)=lo+(hi-lo)*2*(if p-(t-la+f) % p<(t-la+f) % p then p-(t-la+f) % p else (t-la+f) % p) / p:=by
   simp only[rowP];congr 3
   split<;>omega
  have hret:∀z,rowP ⟨p,f,lo,hi,no,tu,sl⟩ (t-la)=z→Ending.returned (.tuple #[.int .i64 z,.int .i64 0])=.returned (Jd (some (rowP ⟨p,f,lo,hi,no,tu,sl⟩ (t-la)))):=fun z h=>by rw[h];rfl
  simp only[if_true];generalize rowP ⟨p,f,lo,hi,no,tu,sl⟩ (t-la)=R at hm hret⊢;have u1:=Int.emod_nonneg (t-la+f) (b:=p) (by omega);have u2:=Int.emod_lt_of_pos (t-la+f) (b:=p) (by omega);have A1:=fun w=>wF (t-la+f) p (by omega) (by omega) w;have xs1:IntKind.i64.wrap (t-la)=t-la:=IntWalk.i64_in _ (by omega);have xs2:IntKind.i64.wrap (t-la+f)=t-la+f:=IntWalk.i64_in _ (by omega);generalize (t-la+f) % p=u at u1 u2 A1 hm;have AA:=Lib.hid A1;have HRET:=Lib.hid hret;have pz:p≠0:=by omega
  have hv:∃v,v=(if p-u<u then p-u else u)∧0≤v∧v≤2000:=⟨_,rfl,by split<;>omega,by split<;>omega⟩;obtain⟨v,hv,v1,v2⟩:=hv;rw[←hv]at hm;have HV:=Lib.hid hv;have m1:0≤(hi-lo)*2*v:=Int.mul_nonneg (by omega) v1;have m2:(hi-lo)*2*v≤96000000:=by
   have:=Int.mul_le_mul (a:=(hi-lo)*2) (b:=v) (c:=48000) (d:=2000) (by omega) v2 v1 (by omega);omega
  have d0:((hi-lo)*2*v).tdiv p=(hi-lo)*2*v / p:=Int.tdiv_eq_ediv_of_nonneg m1;have x1:IntKind.i64.wrap (hi-lo)=hi-lo:=IntWalk.i64_in _ (by omega);have x2:IntKind.i64.wrap ((hi-lo)*2)=(hi-lo)*2:=IntWalk.i64_in _ (by omega);have x3:IntKind.i64.wrap (p-u)=p-u:=IntWalk.i64_in _ (by omega);have x4:IntKind.i64.wrap ((hi-lo)*2*v)=(hi-lo)*2*v:=IntWalk.i64_in _ (by omega);have d1:0≤(hi-lo)*2*v / p:=Int.ediv_nonneg m1 (by omega);have d2:(hi-lo)*2*v / p≤96000000:=Int.le_trans (Int.ediv_le_self _ m1) m2;have x5:IntKind.i64.wrap ((hi-lo)*2*v / p)=(hi-lo)*2*v / p:=IntWalk.i64_in _ (by omega);have x6:IntKind.i64.wrap (lo+(hi-lo)*2*v / p)=lo+(hi-lo)*2*v / p:=IntWalk.i64_in _ (by omega);have HM:=Lib.hid hm;clear A1 hm hret hv hbd;by_cases hc:p-u<u
  all_goals
   go_enter Tryz.func171,Tryz.ntmps171;go_wp2_with fail;refine (HA.out _).mono ?_;rintro e w1 ⟨rfl,hb1⟩;have K:aI w1 w.heap.size 51 #[.int .i64 p,.int .i64 f,.int .i64 lo,.int .i64 hi,.int .i64 no,.int .i64 tu,.int .i64 sl]:=(aI.new w _ _).below hb1 (by simp);have g0:w1.cell? ⟨w.heap.size,0,none⟩=some (.int .i64 p):=K.cell 0;have g1:w1.cell? ⟨w.heap.size,1,none⟩=some (.int .i64 f):=K.cell 1;have g2:w1.cell? ⟨w.heap.size,2,none⟩=some (.int .i64 lo):=K.cell 2;have g3:w1.cell? ⟨w.heap.size,3,none⟩=some (.int .i64 hi):=K.cell 3;have hB:Below w.heap.size w w1:=(by repeat (first | exact Below.refl _ _ | assumption | refine Below.drew ?_ | refine below_drewN ?_ _ | refine aj ?_ _ | refine Below.setCell ?_ (by first | (simp;done) | omega | (simp;omega)) _ | refine aA ?_ (by assumption)));clear K hb1;go_upto_region 5 with (go_at_call 174;refine (AA.out _).mono ?_;rintro e w' ⟨rfl,rfl⟩)
  ·obtain rfl:v=p-u:=by rw[HV.out,if_pos hc]
   go_region_held3 (fun w'=>w'.cell? ⟨w.heap.size,0,none⟩=some (.int .i64 p)∧w'.cell? ⟨w.heap.size,2,none⟩=some (.int .i64 lo)∧w'.cell? ⟨w.heap.size,3,none⟩=some (.int .i64 hi))
    (first | go_keep)
    (fail)
   go_wp2;go_ret2
   exact⟨HRET.out _ HM.out,(by repeat (first | exact Below.refl _ _ | assumption | refine Below.drew ?_ | refine below_drewN ?_ _ | refine aj ?_ _ | refine Below.setCell ?_ (by first | (simp;done) | omega | (simp;omega)) _ | refine aA ?_ (by assumption)))⟩
  ·obtain rfl:v=u:=by rw[HV.out,if_neg (by omega)]
   go_region_held3 (fun w'=>w'.cell? ⟨w.heap.size,0,none⟩=some (.int .i64 p)∧w'.cell? ⟨w.heap.size,2,none⟩=some (.int .i64 lo)∧w'.cell? ⟨w.heap.size,3,none⟩=some (.int .i64 hi))
    (first | go_keep)
    (fail)
   go_wp2;go_ret2
   exact⟨HRET.out _ HM.out,(by repeat (first | exact Below.refl _ _ | assumption | refine Below.drew ?_ | refine below_drewN ?_ _ | refine aj ?_ _ | refine Below.setCell ?_ (by first | (simp;done) | omega | (simp;omega)) _ | refine aA ?_ (by assumption)))⟩
set_option maxHeartbeats 2000000 in
theorem QU (p f lo hi no tu sl t la:Int) (w:World) :
  Calls Tryz.prog 172 #[.agg #[.int .i64 p,.int .i64 f,.int .i64 lo,.int .i64 hi,.int .i64 no,.int .i64 tu,.int .i64 sl],.int .i64 t,.int .i64 la] w fun e w'=>e=.returned (Jd (YD ⟨p,f,lo,hi,no,tu,sl⟩ t la))∧Below w.heap.size w w':=by
 have A1:=BK p f lo hi no tu sl t la;have hbd:=@zC p f lo hi no tu sl t la;unfold YD;generalize (inB t 0 1000000&&inB la (-10) 10&&dO ⟨p,f,lo,hi,no,tu,sl⟩)=ok at A1 hbd⊢;have HA:=Lib.hid A1;clear A1;cases ok
 ·clear hbd;go_enter Tryz.func172,Tryz.ntmps172;go_wp2_with fail;refine (HA.out _).mono ?_;rintro e w1 ⟨rfl,hb1⟩;go_wp2;go_ret2
  exact⟨rfl,(by repeat (first | exact Below.refl _ _ | assumption | refine Below.drew ?_ | refine below_drewN ?_ _ | refine aj ?_ _ | refine Below.setCell ?_ (by first | (simp;done) | omega | (simp;omega)) _ | refine aA ?_ (by assumption)))⟩
 ·obtain⟨⟨t1,t2⟩,⟨l1,l2⟩,⟨p1,p2⟩,⟨f1,f2⟩,⟨lo1,lo2,hi1⟩,⟨no1,no2⟩,⟨tu1,tu2⟩⟩:=hbd rfl;obtain⟨q1,q2⟩:=UN (t:=t-la) ⟨tu1,tu2⟩ (by omega);have A1:=fun w=>wF (no+tu*(t-la)) 48000 (by omega) (by omega) w;have hc:ql ⟨p,f,lo,hi,no,tu,sl⟩ (t-la)=(no+tu*(t-la)) % 48000:=rfl;simp only[if_true];rw[hc];have xs1:IntKind.i64.wrap (t-la)=t-la:=IntWalk.i64_in _ (by omega);have xs2:IntKind.i64.wrap (tu*(t-la))=tu*(t-la):=IntWalk.i64_in _ (by omega);have xs3:IntKind.i64.wrap (no+tu*(t-la))=no+tu*(t-la):=IntWalk.i64_in _ (by omega);have AA:=Lib.hid A1;clear A1 hc hbd;go_enter Tryz.func172,Tryz.ntmps172;go_wp2_with fail;refine (HA.out _).mono ?_;rintro e w1 ⟨rfl,hb1⟩;have K:aI w1 w.heap.size 51 #[.int .i64 p,.int .i64 f,.int .i64 lo,.int .i64 hi,.int .i64 no,.int .i64 tu,.int .i64 sl]:=(aI.new w _ _).below hb1 (by simp);have g4:w1.cell? ⟨w.heap.size,4,none⟩=some (.int .i64 no):=K.cell 4;have g5:w1.cell? ⟨w.heap.size,5,none⟩=some (.int .i64 tu):=K.cell 5;have hB:Below w.heap.size w w1:=(by repeat (first | exact Below.refl _ _ | assumption | refine Below.drew ?_ | refine below_drewN ?_ _ | refine aj ?_ _ | refine Below.setCell ?_ (by first | (simp;done) | omega | (simp;omega)) _ | refine aA ?_ (by assumption)));clear K hb1;go_wp2_with (go_at_call 174;refine (AA.out _).mono ?_;rintro e w' ⟨rfl,rfl⟩);go_ret2
  exact⟨rfl,(by repeat (first | exact Below.refl _ _ | assumption | refine Below.drew ?_ | refine below_drewN ?_ _ | refine aj ?_ _ | refine Below.setCell ?_ (by first | (simp;done) | omega | (simp;omega)) _ | refine aA ?_ (by assumption)))⟩
set_option maxHeartbeats 2000000 in
theorem UO (p f lo hi no tu sl t la:Int) (w:World) :
  Calls Tryz.prog 167 #[.agg #[.int .i64 p,.int .i64 f,.int .i64 lo,.int .i64 hi,.int .i64 no,.int .i64 tu,.int .i64 sl],.int .i64 t,.int .i64 la] w fun e w'=>e=.returned (Vm (Jz ⟨p,f,lo,hi,no,tu,sl⟩ t la))∧Below w.heap.size w w':=by
 have A1:=QT p f lo hi no tu sl t la;have A2:=QU p f lo hi no tu sl t la;have hbd:=@zC p f lo hi no tu sl t la;have hp:0<p→0≤lo→lo<hi→0≤rowP ⟨p,f,lo,hi,no,tu,sl⟩ (t-la)∧rowP ⟨p,f,lo,hi,no,tu,sl⟩ (t-la)≤lo+(hi-lo):=fun h1 h2 h3=>Cj ⟨p,f,lo,hi,no,tu,sl⟩ (t-la) h1 h2 h3;have hq1:=Int.emod_nonneg (no+tu*(t-la)) (b:=48000) (by omega);have hq2:=Int.emod_lt_of_pos (no+tu*(t-la)) (b:=48000) (by omega);have hc:ql ⟨p,f,lo,hi,no,tu,sl⟩ (t-la)=(no+tu*(t-la)) % 48000:=rfl;rw[←hc]at hq1 hq2;unfold Jz;unfold YC at A1;unfold YD at A2;clear hc;generalize rowP ⟨p,f,lo,hi,no,tu,sl⟩ (t-la)=Y at A1 hp⊢;generalize ql ⟨p,f,lo,hi,no,tu,sl⟩ (t-la)=X at A2 hq1 hq2⊢;generalize (inB t 0 1000000&&inB la (-10) 10&&dO ⟨p,f,lo,hi,no,tu,sl⟩)=ok at A1 A2 hbd⊢;cases ok
 ·simp only[Bool.false_eq_true,if_false]at A1 A2⊢;have HA:=Lib.hid A1;have HB:=Lib.hid A2;clear A1 A2 hbd hp hq1 hq2;go_enter Tryz.func167,Tryz.ntmps167;go_wp2_with fail;refine (HA.out _).mono ?_;rintro e w1 ⟨rfl,hb1⟩;obtain⟨hc1,hf1⟩:=vS hb1;have hz:=hb1.size;simp at hz;simp only[Jd];go_wp2_with fail;refine (HB.out _).mono ?_;rintro e w2 ⟨rfl,hb2⟩;simp only[Jd];have K2:aI w2 (w.heap.size+1) 69 #[.int .i64 0,.int .i64 0]:=((aI.aU _ _ _ (by simp)).below hb1 (by simp)).below hb2 (by omega);have hB:Below w.heap.size w w2:=(by repeat (first | exact Below.refl _ _ | assumption | refine Below.drew ?_ | refine below_drewN ?_ _ | refine aj ?_ _ | refine Below.setCell ?_ (by first | (simp;done) | omega | (simp;omega)) _ | refine aA ?_ (by assumption)));have z0:w2.cell? ⟨w.heap.size+1,0,none⟩=some (.int .i64 0):=K2.cell 0;have z1:w2.cell? ⟨w.heap.size+1,1,none⟩=some (.int .i64 0):=K2.cell 1;have y0:=K2.frozen 0;have y1:=K2.frozen 1;clear hc1 hf1 hb1 hb2 hz;go_wp2;have K4:=(K2.cu 0 (.int .i64 0)).cu 1 (.int .i64 0);have hB4:Below w.heap.size w ((w2.setCell ⟨w.heap.size+1,0,none⟩ (.int .i64 0)).setCell ⟨w.heap.size+1,1,none⟩ (.int .i64 0)):=(hB.setCell (p:=⟨w.heap.size+1,0,none⟩) (Nat.le_succ _) _).setCell (p:=⟨w.heap.size+1,1,none⟩) (Nat.le_succ _) _;generalize (w2.setCell ⟨w.heap.size+1,0,none⟩ (.int .i64 0)).setCell ⟨w.heap.size+1,1,none⟩ (.int .i64 0)=w4 at K4 hB4⊢;have c0:w4.cell? ⟨w.heap.size+1,0,none⟩=some (.int .i64 0):=K4.cell 0;have c1:w4.cell? ⟨w.heap.size+1,1,none⟩=some (.int .i64 0):=K4.cell 1;exact bodyPost_ret (v:=.tuple #[.agg #[.int .i64 0,.int .i64 0],.int .i64 70]) (by simp[results,Tryz.results167,go_sem,c0,c1]) rfl ⟨rfl,hB4⟩
 ·simp only[if_true]at A1 A2⊢;obtain⟨⟨t1,t2⟩,⟨l1,l2⟩,⟨p1,p2⟩,⟨f1,f2⟩,⟨lo1,lo2,hi1⟩,⟨no1,no2⟩,⟨tu1,tu2⟩⟩:=hbd rfl;obtain⟨y1,y2⟩:=hp (by omega) lo1 lo2;have HA:=Lib.hid A1;have HB:=Lib.hid A2;clear A1 A2 hbd hp;go_enter Tryz.func167,Tryz.ntmps167;go_wp2_with fail;refine (HA.out _).mono ?_;rintro e w1 ⟨rfl,hb1⟩;obtain⟨hc1,hf1⟩:=vS hb1;have hz:=hb1.size;simp at hz;simp only[Jd];go_wp2_with fail;refine (HB.out _).mono ?_;rintro e w2 ⟨rfl,hb2⟩;simp only[Jd];have K2:aI w2 (w.heap.size+1) 69 #[.int .i64 0,.int .i64 0]:=((aI.aU _ _ _ (by simp)).below hb1 (by simp)).below hb2 (by omega);have hB:Below w.heap.size w w2:=(by repeat (first | exact Below.refl _ _ | assumption | refine Below.drew ?_ | refine below_drewN ?_ _ | refine aj ?_ _ | refine Below.setCell ?_ (by first | (simp;done) | omega | (simp;omega)) _ | refine aA ?_ (by assumption)));have z0:w2.cell? ⟨w.heap.size+1,0,none⟩=some (.int .i64 0):=K2.cell 0;have z1:w2.cell? ⟨w.heap.size+1,1,none⟩=some (.int .i64 0):=K2.cell 1;have y0_:=K2.frozen 0;have y1_:=K2.frozen 1;clear hc1 hf1 hb1 hb2 hz;go_wp2;have K4:=(K2.cu 0 (.int .i64 (X / 1000))).cu 1 (.int .i64 (Y / 1000));have hB4:Below w.heap.size w ((w2.setCell ⟨w.heap.size+1,0,none⟩ (.int .i64 (X / 1000))).setCell ⟨w.heap.size+1,1,none⟩ (.int .i64 (Y / 1000))):=(hB.setCell (p:=⟨w.heap.size+1,0,none⟩) (Nat.le_succ _) _).setCell (p:=⟨w.heap.size+1,1,none⟩) (Nat.le_succ _) _;generalize (w2.setCell ⟨w.heap.size+1,0,none⟩ (.int .i64 (X / 1000))).setCell ⟨w.heap.size+1,1,none⟩ (.int .i64 (Y / 1000))=w4 at K4 hB4⊢;have c0:w4.cell? ⟨w.heap.size+1,0,none⟩=some (.int .i64 (X / 1000)):=K4.cell 0;have c1:w4.cell? ⟨w.heap.size+1,1,none⟩=some (.int .i64 (Y / 1000)):=K4.cell 1;exact bodyPost_ret (v:=.tuple #[.agg #[.int .i64 (X / 1000),.int .i64 (Y / 1000)],.int .i64 0]) (by simp[results,Tryz.results167,go_sem,c0,c1]) rfl ⟨rfl,hB4⟩
end Go.Proofs.YtjidhhfabfnhnaaGreat
namespace Go.Proofs.YtjidhhfabfnhnaaGreat
open Go.RowKit
theorem Nq (a b:Int) (w:World) :
  Calls Tryz.prog 132 #[.agg #[.int .i64 a,.int .i64 b]] w fun e w'=>e=.returned (.bool (gQ ⟨a,b⟩))∧Below w.heap.size w w':=by
 by_cases h:0≤a∧a<b∧b≤1000001
 ·obtain⟨h1,h2,h3⟩:=h;have hs:gQ ⟨a,b⟩=decide (b-a≤4320):=by simp[gQ,h1,h2,h3]
  rw[hs];clear hs;go_enter Tryz.func132,Tryz.ntmps132;go_wp2;go_ret;exact⟨by simp[*],(by repeat (first | exact Below.refl _ _ | assumption | refine Below.drew ?_ | refine below_drewN ?_ _ | refine aj ?_ _ | refine Below.setCell ?_ (by first | (simp;done) | omega | (simp;omega)) _ | refine aA ?_ (by assumption)))⟩
 ·have hs:gQ ⟨a,b⟩=false:=by
   simp only[gQ,decide_eq_false_iff_not];omega
  rw[hs];clear hs;by_cases h1:0≤a
  ·by_cases h2:a<b
   ·have h3:¬b≤1000001:=by omega
    clear h;go_enter Tryz.func132,Tryz.ntmps132;go_wp2;go_ret;exact⟨by simp[*],(by repeat (first | exact Below.refl _ _ | assumption | refine Below.drew ?_ | refine below_drewN ?_ _ | refine aj ?_ _ | refine Below.setCell ?_ (by first | (simp;done) | omega | (simp;omega)) _ | refine aA ?_ (by assumption)))⟩
   ·clear h;go_enter Tryz.func132,Tryz.ntmps132;go_wp2;go_ret;exact⟨by simp[*],(by repeat (first | exact Below.refl _ _ | assumption | refine Below.drew ?_ | refine below_drewN ?_ _ | refine aj ?_ _ | refine Below.setCell ?_ (by first | (simp;done) | omega | (simp;omega)) _ | refine aA ?_ (by assumption)))⟩
  ·clear h;go_enter Tryz.func132,Tryz.ntmps132;go_wp2;go_ret;exact⟨by simp[*],(by repeat (first | exact Below.refl _ _ | assumption | refine Below.drew ?_ | refine below_drewN ?_ _ | refine aj ?_ _ | refine Below.setCell ?_ (by first | (simp;done) | omega | (simp;omega)) _ | refine aA ?_ (by assumption)))⟩
set_option maxHeartbeats 4000000 in
set_option maxRecDepth 100000 in
theorem zD (id x y re an sk:Int) (w:World) :
  Calls Tryz.prog 131 #[.agg #[.int .i64 id,.int .i64 x,.int .i64 y,.int .i64 re,.int .i64 an,.int .i64 sk]] w fun e w'=>e=.returned (.bool (fM ⟨id,⟨x,y⟩,re,an,sk⟩))∧Below w.heap.size w w':=by
 have hs:fM ⟨id,⟨x,y⟩,re,an,sk⟩=(iR ⟨x,y⟩&&inB id 0 11&&inB re 0 6&&inB an 1 8&&inB sk 0 30):=by
  rfl
 rw[hs];clear hs;generalize hq:iR ⟨x,y⟩=q;have HQ:=Lib.hid hq;clear hq;go_enter Tryz.func131,Tryz.ntmps131;go_wp2_with fail;refine (lT x y _).mono ?_;rintro e W0 ⟨rfl,hb0⟩;rw[HQ.out];have K:=(aI.new w 71 #[.int .i64 id,.int .i64 x,.int .i64 y,.int .i64 re,.int .i64 an,.int .i64 sk]).below hb0 (by simp);have hb:Below w.heap.size w W0:=(by repeat (first | exact Below.refl _ _ | assumption | refine Below.drew ?_ | refine below_drewN ?_ _ | refine aj ?_ _ | refine Below.setCell ?_ (by first | (simp;done) | omega | (simp;omega)) _ | refine aA ?_ (by assumption)));clear hb0;have g0:W0.cell? ⟨w.heap.size,0,none⟩=some (.int .i64 id):=K.cell 0;have g1:W0.cell? ⟨w.heap.size,1,none⟩=some (.int .i64 x):=K.cell 1;have g2:W0.cell? ⟨w.heap.size,2,none⟩=some (.int .i64 y):=K.cell 2;have g3:W0.cell? ⟨w.heap.size,3,none⟩=some (.int .i64 re):=K.cell 3;have g4:W0.cell? ⟨w.heap.size,4,none⟩=some (.int .i64 an):=K.cell 4;have g5:W0.cell? ⟨w.heap.size,5,none⟩=some (.int .i64 sk):=K.cell 5;clear K;cases q
 ·go_wp2_with (go_at_call 139;refine (wW _ _ _ _).mono ?_;rintro e w' ⟨rfl,rfl⟩)
  all_goals
   go_ret;exact⟨by first | (simp[*];done) | simp_all,hb⟩
 ·go_wp2_with (go_at_call 139;refine (wW _ _ _ _).mono ?_;rintro e w' ⟨rfl,rfl⟩)
  all_goals
   go_ret;exact⟨by first | (simp[*];done) | simp_all,hb⟩
theorem Nr (p f lo hi no tu sl id x y re an sk t la:Int) (w:World) :
  Calls Tryz.prog 160 #[.agg #[.int .i64 p,.int .i64 f,.int .i64 lo,.int .i64 hi,.int .i64 no,.int .i64 tu,.int .i64 sl],.agg #[.int .i64 id,.int .i64 x,.int .i64 y,.int .i64 re,.int .i64 an,.int .i64 sk],.int .i64 t,.int .i64 la] w fun e w'=>e=.returned (Vo (xJ ⟨p,f,lo,hi,no,tu,sl⟩ ⟨id,⟨x,y⟩,re,an,sk⟩ t la))∧Below w.heap.size w w':=by
 have A1:=UO p f lo hi no tu sl t la;have HA:=Lib.hid A1;clear A1;go_enter Tryz.func160,Tryz.ntmps160;go_wp2_with fail;have K2:aI ((w.alloc (.cells #[.int .i64 p,.int .i64 f,.int .i64 lo,.int .i64 hi,.int .i64 no,.int .i64 tu,.int .i64 sl] 51)).alloc (.cells #[.int .i64 id,.int .i64 x,.int .i64 y,.int .i64 re,.int .i64 an,.int .i64 sk] 71)) (w.heap.size+1) 71 #[.int .i64 id,.int .i64 x,.int .i64 y,.int .i64 re,.int .i64 an,.int .i64 sk]:=by
  have k:=aI.new (w.alloc (.cells #[.int .i64 p,.int .i64 f,.int .i64 lo,.int .i64 hi,.int .i64 no,.int .i64 tu,.int .i64 sl] 51)) 71 #[.int .i64 id,.int .i64 x,.int .i64 y,.int .i64 re,.int .i64 an,.int .i64 sk];rw[World.size_alloc]at k;exact k
 have hb:Below w.heap.size w ((w.alloc (.cells #[.int .i64 p,.int .i64 f,.int .i64 lo,.int .i64 hi,.int .i64 no,.int .i64 tu,.int .i64 sl] 51)).alloc (.cells #[.int .i64 id,.int .i64 x,.int .i64 y,.int .i64 re,.int .i64 an,.int .i64 sk] 71)):=(by repeat (first | exact Below.refl _ _ | assumption | refine Below.drew ?_ | refine below_drewN ?_ _ | refine aj ?_ _ | refine Below.setCell ?_ (by first | (simp;done) | omega | (simp;omega)) _ | refine aA ?_ (by assumption)));generalize (w.alloc (.cells #[.int .i64 p,.int .i64 f,.int .i64 lo,.int .i64 hi,.int .i64 no,.int .i64 tu,.int .i64 sl] 51)).alloc (.cells #[.int .i64 id,.int .i64 x,.int .i64 y,.int .i64 re,.int .i64 an,.int .i64 sk] 71)=W at K2 hb⊢;refine (HA.out _).mono ?_;rintro e W2 ⟨rfl,hb2⟩;have K2:=K2.below hb2 (by have:=K2.lt;omega);have hB2:Below w.heap.size w W2:=hb.trans (Below.mono hb2 hb.size);clear hb hb2;generalize hat:Jz ⟨p,f,lo,hi,no,tu,sl⟩ t la=c;have HP:=Lib.hid hat;clear hat;have hlt:=K2.lt;cases c with
 |none =>
  simp only[Vm];go_wp2;go_ret2
  exact⟨by rw[xJ,HP.out];rfl,aj hB2 _⟩
 |some c =>
  obtain⟨cx,cy⟩:=c;simp only[Vm];generalize hst:fM ⟨id,⟨x,y⟩,re,an,sk⟩=ok;have HS:=Lib.hid hst;clear hst;have s0:W2.cell? ⟨w.heap.size+1,0,none⟩=some (.int .i64 id):=K2.cell 0;have s1:W2.cell? ⟨w.heap.size+1,1,none⟩=some (.int .i64 x):=K2.cell 1;have s2:W2.cell? ⟨w.heap.size+1,2,none⟩=some (.int .i64 y):=K2.cell 2;have s3:W2.cell? ⟨w.heap.size+1,3,none⟩=some (.int .i64 re):=K2.cell 3;have s4:W2.cell? ⟨w.heap.size+1,4,none⟩=some (.int .i64 an):=K2.cell 4;have s5:W2.cell? ⟨w.heap.size+1,5,none⟩=some (.int .i64 sk):=K2.cell 5;go_wp2_with fail;refine (zD id x y re an sk _).mono ?_;rintro e W3 ⟨rfl,hb3⟩;have K3:=(K2.alloc (.cells #[.int .i64 cx,.int .i64 cy] 69)).below hb3 (by rw[World.size_alloc];omega);have K4:=(aI.new W2 69 #[.int .i64 cx,.int .i64 cy]).below hb3 (by rw[World.size_alloc];omega);have hB3:Below w.heap.size w W3:=aA (aj hB2 _) hb3;clear s0 s1 s2 s3 s4 s5 hb3;rw[HS.out];cases ok
  ·go_wp2;go_ret2
   exact⟨by rw[xJ,HP.out];simp only[HS.out];rfl,hB3⟩
  ·skip;have s0:W3.cell? ⟨w.heap.size+1,0,none⟩=some (.int .i64 id):=K3.cell 0;have s1:W3.cell? ⟨w.heap.size+1,1,none⟩=some (.int .i64 x):=K3.cell 1;have s2:W3.cell? ⟨w.heap.size+1,2,none⟩=some (.int .i64 y):=K3.cell 2;have s3:W3.cell? ⟨w.heap.size+1,3,none⟩=some (.int .i64 re):=K3.cell 3;have s4:W3.cell? ⟨w.heap.size+1,4,none⟩=some (.int .i64 an):=K3.cell 4;have s5:W3.cell? ⟨w.heap.size+1,5,none⟩=some (.int .i64 sk):=K3.cell 5;have k0:W3.cell? ⟨W2.heap.size,0,none⟩=some (.int .i64 cx):=K4.cell 0;have k1:W3.cell? ⟨W2.heap.size,1,none⟩=some (.int .i64 cy):=K4.cell 1;clear K2 K3 K4 hB2;generalize hne:ji ⟨cx,cy⟩ ⟨x,y⟩=N;have HN:=Lib.hid hne;clear hne;go_wp2_with fail;refine aH 7 [some (.agg #[.int .i64 cx,.int .i64 cy]),some (.pointer (some ⟨w.heap.size+1,1,none⟩)),some (.agg #[.int .i64 x,.int .i64 y]),some (.int .i64 N),some (.pointer (some ⟨w.heap.size+1,3,none⟩)),some (.int .i64 re),some (.bool (decide (N≤re)))] [] ?_ ?_ ?_
   ·trivial
   ·refine⟨?_,?_,?_,?x3,?_,?_,?_,trivial⟩
    case x3 =>
     intro vals w1 hx hd;clear hd;simp only[Lf,au,Act.put,aX,aW];have s0:=ah hx s0;have s1:=ah hx s1;have s2:=ah hx s2;have s3:=ah hx s3;have s4:=ah hx s4;have s5:=ah hx s5;have k0:=ah hx k0;have k1:=ah hx k1;go_wp2_with fail;refine (Np cx cy x y _).mono ?_;rintro e w2 ⟨rfl,hb2⟩;rw[HN.out];go_wp2;exact⟨rfl,hb2,rfl⟩
    all_goals
     intro vals w1 hx hd;clear hd;simp only[Lf,au,Act.put,aX,aW];have s0:=ah hx s0;have s1:=ah hx s1;have s2:=ah hx s2;have s3:=ah hx s3;have s4:=ah hx s4;have s5:=ah hx s5;have k0:=ah hx k0;have k1:=ah hx k1;go_wp2;exact gW
   intro vals w5 hx hf;have e6:vals 6=.bool (decide (N≤re)):=hf 6 (by omega);clear hf;have jZ:Below w.heap.size w w5:=aA hB3 hx.aG;refine pV 7 _ _ 1 (by kernel_rfl) rfl ?_ (fun a w q=>d_ 8 _ (by kernel_rfl) (by kernel_rfl) rfl q);simp only[Lf,au,Act.put,FR_];rw[e6];go_wp2;go_ret2
   exact⟨by rw[xJ,HP.out];simp only[HS.out,HN.out];rfl,jZ⟩
set_option maxHeartbeats 4000000 in
set_option maxRecDepth 100000 in
theorem Je (id ow p f lo hi no tu sl wi st ch su qB sh se wa co ho sw ra:Int) (w:World) :
  Calls Tryz.prog 129 #[.agg #[.int .i64 id,.int .i64 ow,.int .i64 p,.int .i64 f,.int .i64 lo,.int .i64 hi,.int .i64 no,.int .i64 tu,.int .i64 sl,.int .i64 wi,.int .i64 st,.int .i64 ch,.int .i64 su,.int .i64 qB,.int .i64 sh,.int .i64 se,.int .i64 wa,.int .i64 co,.int .i64 ho,.int .i64 sw,.int .i64 ra]] w fun e w'=>e=.returned (.bool (fA ⟨id,ow,⟨p,f,lo,hi,no,tu,sl⟩,wi,st,ch,su,qB,sh,se,wa,co,ho,sw,ra⟩))∧Below w.heap.size w w':=by
 have hs:fA ⟨id,ow,⟨p,f,lo,hi,no,tu,sl⟩,wi,st,ch,su,qB,sh,se,wa,co,ho,sw,ra⟩=((dO ⟨p,f,lo,hi,no,tu,sl⟩&&inB id 0 23&&inB ow 0 15&&inB wi 0 4)&&((((((inB ch 1 1000000&&inB su 0 10000&&inB qB 0 10000&&inB sh 0 10000&&inB se 0 10000)&&(inB wa 0 10000&&inB co 0 10000&&inB ho 1 1000000))&&inB st 1 1000000)&&inB sw 0 60)&&inB ra 1 1000))):=by
  simp only[fA];ac_rfl
 rw[hs];clear hs;generalize hq:dO ⟨p,f,lo,hi,no,tu,sl⟩=q;have HQ:=Lib.hid hq;clear hq;go_enter Tryz.func129,Tryz.ntmps129;go_wp2_with fail;refine (pJ p f lo hi no tu sl _).mono ?_;rintro e W0 ⟨rfl,hb0⟩;rw[HQ.out];have K:=(aI.new w 53 #[.int .i64 id,.int .i64 ow,.int .i64 p,.int .i64 f,.int .i64 lo,.int .i64 hi,.int .i64 no,.int .i64 tu,.int .i64 sl,.int .i64 wi,.int .i64 st,.int .i64 ch,.int .i64 su,.int .i64 qB,.int .i64 sh,.int .i64 se,.int .i64 wa,.int .i64 co,.int .i64 ho,.int .i64 sw,.int .i64 ra]).below hb0 (by simp);have hb:Below w.heap.size w W0:=(by repeat (first | exact Below.refl _ _ | assumption | refine Below.drew ?_ | refine below_drewN ?_ _ | refine aj ?_ _ | refine Below.setCell ?_ (by first | (simp;done) | omega | (simp;omega)) _ | refine aA ?_ (by assumption)));clear hb0;have g0:W0.cell? ⟨w.heap.size,0,none⟩=some (.int .i64 id):=K.cell 0;have g1:W0.cell? ⟨w.heap.size,1,none⟩=some (.int .i64 ow):=K.cell 1;have g2:W0.cell? ⟨w.heap.size,2,none⟩=some (.int .i64 p):=K.cell 2;have g3:W0.cell? ⟨w.heap.size,3,none⟩=some (.int .i64 f):=K.cell 3;have g4:W0.cell? ⟨w.heap.size,4,none⟩=some (.int .i64 lo):=K.cell 4;have g5:W0.cell? ⟨w.heap.size,5,none⟩=some (.int .i64 hi):=K.cell 5;have g6:W0.cell? ⟨w.heap.size,6,none⟩=some (.int .i64 no):=K.cell 6;have g7:W0.cell? ⟨w.heap.size,7,none⟩=some (.int .i64 tu):=K.cell 7;have g8:W0.cell? ⟨w.heap.size,8,none⟩=some (.int .i64 sl):=K.cell 8;have g9:W0.cell? ⟨w.heap.size,9,none⟩=some (.int .i64 wi):=K.cell 9;have g10:W0.cell? ⟨w.heap.size,10,none⟩=some (.int .i64 st):=K.cell 10;have g11:W0.cell? ⟨w.heap.size,11,none⟩=some (.int .i64 ch):=K.cell 11;have g12:W0.cell? ⟨w.heap.size,12,none⟩=some (.int .i64 su):=K.cell 12;have g13:W0.cell? ⟨w.heap.size,13,none⟩=some (.int .i64 qB):=K.cell 13;have g14:W0.cell? ⟨w.heap.size,14,none⟩=some (.int .i64 sh):=K.cell 14;have g15:W0.cell? ⟨w.heap.size,15,none⟩=some (.int .i64 se):=K.cell 15;have g16:W0.cell? ⟨w.heap.size,16,none⟩=some (.int .i64 wa):=K.cell 16;have g17:W0.cell? ⟨w.heap.size,17,none⟩=some (.int .i64 co):=K.cell 17;have g18:W0.cell? ⟨w.heap.size,18,none⟩=some (.int .i64 ho):=K.cell 18;have g19:W0.cell? ⟨w.heap.size,19,none⟩=some (.int .i64 sw):=K.cell 19;have g20:W0.cell? ⟨w.heap.size,20,none⟩=some (.int .i64 ra):=K.cell 20;clear K;cases q
 ·go_wp2_with (go_at_call 139;refine (wW _ _ _ _).mono ?_;rintro e w' ⟨rfl,rfl⟩)
  all_goals
   go_ret;exact⟨by first | (simp[*];done) | simp_all,hb⟩
 ·go_wp2_with (go_at_call 139;refine (wW _ _ _ _).mono ?_;rintro e w' ⟨rfl,rfl⟩)
  all_goals
   go_ret;exact⟨by first | (simp[*];done) | simp_all,hb⟩
end Go.Proofs.YtjidhhfabfnhnaaGreat
namespace Go.Proofs.YtjidhhfabfnhnaaGreat
open Go.RowKit
theorem DV (x:jd) (w:World):Calls Tryz.prog 131 #[.agg (bJ x).toArray] w fun e w'=>e=.returned (.bool (fM x))∧Below w.heap.size w w':=by
 obtain⟨id,⟨x,y⟩,re,an,sk⟩:=x;exact zD id x y re an sk w
set_option maxRecDepth 100000 in
set_option maxHeartbeats 2000000 in
theorem qU (l:List jd) (A:Option Addr) (n c:Nat) (w:World) (h:RA bJ 6 w w.heap.size A n c l) :
  Calls Tryz.prog 80 #[.slice A n c] w fun e w'=>e=.returned (.bool (gG l))∧Below w.heap.size w w':=by
 have HR:=Lib.hid h;have hle:=h.le;have hlen:=h.len;have HL:=Lib.hid hlen;have hs:gG l=(decide (n≤12)&&eP fM (·.id) none l):=by rw[gG,hlen]
 rw[hs];clear h hs hlen;by_cases hm:n≤12
 ·have hd:decide (n≤12)=true:=by simpa using hm
  rw[hd,Bool.true_and];clear hd;have hrl:eP fM (·.id) none l=eP fM (·.id) (bI l 0) (l.drop 0):=by simp[bI]
  have HQ:=Lib.hid hrl;clear hrl;go_enter Tryz.func80,Tryz.ntmps80;go_wp2;go_loopw [3] (fun i wr=>∃k:Nat,k≤n∧i=.int .i64 k∧Hid (eP fM (·.id) none l=eP fM (·.id) (bI l k) (l.drop k))∧Below w.heap.size w wr) (fun i _=>n-(intOf i).toNat)
  case atStart=>exact⟨0,Nat.zero_le _,rfl,HQ,Below.refl _ _⟩
  case round =>
   clear HQ;obtain⟨k,hk,rfl,HK,hB⟩:=hrel;by_cases hlt:k<n
   ·obtain⟨b,o,hz,hA,hbl,hc⟩:=RA.range qZ (HR.out.below hB) hlt;have hst:=mX fM (fun x=>x.id) l k hz;rw[←HK.out]at hst;generalize l[k]=x at hst hc;have hv:=DV x;have HC:=Lib.hid hc;have g0:wr.cell? ⟨b,o+k*6,none⟩=some (.int .i64 x.id):=hc 0 _ rfl;obtain⟨X,hX⟩:∃X,(bJ x).toArray=X:=⟨_,rfl⟩;rw[hX]at hv;have HV:=Lib.hid hv;have iq:=Lib.hid hX;generalize fM x=q at hst HV;have HS:=Lib.hid hst;clear hst hc HK hX hv;subst hA;have hblt:b<w.heap.size:=hbl;go_wp2;cases q
    ·skip;refine aH 24 [some (.slice (some ⟨b,o,none⟩) n c),some (.int .i64 (k:Int)),some (.pointer (some ⟨b,o+k*6,none⟩)),some (.agg X),some (.bool false),some (.bool true),some (.bool true),some (undef),some (undef),some (undef),some (undef),some (undef),some (undef),some (undef),some (undef),some (undef),some (undef),some (undef),some (undef),some (undef),some (undef),some (undef),some (undef),some (.bool true)] [] ?_ ?_ ?_
     ·trivial
     ·refine⟨?_,?_,?_,?x3,?x4,?_,?_,?_,?_,?_,?_,?_,?_,?_,?_,?_,?_,?_,?_,?_,?_,?_,?_,?_,trivial⟩
      case x3 =>
       intro vals w1 hx hd;clear hd;simp only[Lf,au,Act.put,aX,aW];refine ay rfl _ _ rfl b (o+k*6) rfl X (bJ x) iq.out _ (RA.bV HC.out hx.aG) Tryz.underlying71 rfl lY ?_;go_wp2;exact q_
      case x4 =>
       intro vals w1 hx hd;clear hd;simp only[Lf,au,Act.put,aX,aW];go_wp2_with fail;refine (HV.out _).mono ?_;rintro e w2 ⟨rfl,hb2⟩;go_wp2;exact⟨rfl,hb2,rfl⟩
      all_goals
       intro vals w1 hx hd;clear hd;simp only[Lf,au,Act.put,aX,aW];go_wp2;exact gW
     intro vals w5 hx hf;have e23:vals 23=.bool true:=hf 23 (by omega);clear hf;have hx:=hx.aG;have jZ:=aA hB hx;refine dJ (by kernel_rfl) ?_;simp only[Lf,au,Act.put,FR_];rw[e23];clear e23;go_wp2;go_ret;exact⟨by rw[HS.out];rfl,jZ⟩
    ·by_cases hk0:k=0
     ·have hk0':(k:Int)≤0:=by omega
      have hpv:bI l k=none:=by simp[bI,hk0]
      have HP:=Lib.hid hpv;have G5:=Lib.hid hk0;have hkd:decide (0<k)=false:=by simp;omega
      clear hpv hk0;refine aH 24 [some (.slice (some ⟨b,o,none⟩) n c),some (.int .i64 (k:Int)),some (.pointer (some ⟨b,o+k*6,none⟩)),some (.agg X),some (.bool true),some (.bool false),some (.bool false),some (.int .i64 (k:Int)),some (.bool false),some (.bool false),some (undef),some (undef),some (undef),some (undef),some (undef),some (undef),some (undef),some (undef),some (undef),some (undef),some (undef),some (undef),some (.bool false),some (.bool false)] [] ?_ ?_ ?_
      ·trivial
      ·refine⟨?_,?_,?_,?x3,?x4,?_,?_,?_,?_,?_,?_,?_,?_,?_,?_,?_,?_,?_,?_,?_,?_,?_,?_,?_,trivial⟩
       case x3 =>
        intro vals w1 hx hd;clear hd;simp only[Lf,au,Act.put,aX,aW];refine ay rfl _ _ rfl b (o+k*6) rfl X (bJ x) iq.out _ (RA.bV HC.out hx.aG) Tryz.underlying71 rfl lY ?_;go_wp2;exact q_
       case x4 =>
        intro vals w1 hx hd;clear hd;simp only[Lf,au,Act.put,aX,aW];go_wp2_with fail;refine (HV.out _).mono ?_;rintro e w2 ⟨rfl,hb2⟩;go_wp2;exact⟨rfl,hb2,rfl⟩
       all_goals
        intro vals w1 hx hd;clear hd;simp only[Lf,au,Act.put,aX,aW];have g0:=ah hx g0;go_wp2;exact gW
      intro vals w5 hx hf;have e23:vals 23=.bool false:=hf 23 (by omega);clear hf;have hx:=hx.aG;have jZ:=aA hB hx;refine dJ (by kernel_rfl) ?_;simp only[Lf,au,Act.put,FR_];rw[e23];clear e23;go_wp2;go_roundw
      case rel=>exact⟨k+1,by omega,by go_num,Lib.hid (by rw[HS.out,HP.out];rfl),jZ⟩
      case measure=>simp[intOf];omega
     ·have hk1:(0:Int)<(k:Int):=by omega
      obtain⟨b',o',hz',hA',xQ,hc'⟩:=RA.at_ qZ (HR.out.below hB) (k:=k-1) (by omega);obtain⟨rfl,rfl⟩:b'=b∧o'=o:=by injection hA' with hA';injection hA' with h1 h2;exact⟨h1.symm,h2.symm⟩
      have hpv:bI l k=some l[k-1]:=by unfold bI;rw[if_neg hk0,List.getElem?_eq_getElem hz']
      generalize l[k-1]=y at hpv hc';have d0:wr.cell? ⟨b',o'+(k-1)*6,none⟩=some (.int .i64 y.id):=hc' 0 (by omega);have HP:=Lib.hid hpv;have G5:=Lib.hid hk0;clear hpv hc' hA' xQ hk0;have hki:IntKind.i64.wrap ((k:Int)-1)=(k:Int)-1:=IntWalk.i64_in _ (by omega);have hkn:((k:Int)-1).toNat=k-1:=by omega
      have hkd:decide (0<k)=true:=by simp;omega
      refine aH 24 [some (.slice (some ⟨b',o',none⟩) n c),some (.int .i64 (k:Int)),some (.pointer (some ⟨b',o'+k*6,none⟩)),some (.agg X),some (.bool true),some (.bool false),some (.bool false),some (.int .i64 (k:Int)),some (.bool true),some (.bool true),some (.slice (some ⟨b',o',none⟩) n c),some (.int .i64 (k:Int)),some (.pointer (some ⟨b',o'+k*6,none⟩)),some (.pointer (some ⟨b',o'+k*6,none⟩)),some (.int .i64 x.id),some (.slice (some ⟨b',o',none⟩) n c),some (.int .i64 (k:Int)),some (.int .i64 ((k:Int)-1)),some (.pointer (some ⟨b',o'+(k-1)*6,none⟩)),some (.pointer (some ⟨b',o'+(k-1)*6,none⟩)),some (.int .i64 y.id),some (.bool (decide (x.id≤y.id))),some (.bool (decide (x.id≤y.id))),some (.bool (decide (x.id≤y.id)))] [] ?_ ?_ ?_
      ·trivial
      ·refine⟨?_,?_,?_,?x3,?x4,?_,?_,?_,?_,?_,?_,?_,?_,?_,?_,?_,?_,?_,?_,?_,?_,?_,?_,?_,trivial⟩
       case x3 =>
        intro vals w1 hx hd;clear hd;simp only[Lf,au,Act.put,aX,aW];refine ay rfl _ _ rfl b' (o'+k*6) rfl X (bJ x) iq.out _ (RA.bV HC.out hx.aG) Tryz.underlying71 rfl lY ?_;go_wp2;exact q_
       case x4 =>
        intro vals w1 hx hd;clear hd;simp only[Lf,au,Act.put,aX,aW];go_wp2_with fail;refine (HV.out _).mono ?_;rintro e w2 ⟨rfl,hb2⟩;go_wp2;exact⟨rfl,hb2,rfl⟩
       all_goals
        intro vals w1 hx hd;clear hd;simp only[Lf,au,Act.put,aX,aW];have g0:=ah hx g0;have d0:=ah hx d0;go_wp2;exact gW
      intro vals w5 hx hf;have e23:vals 23=.bool (decide (x.id≤y.id)):=hf 23 (by omega);clear hf;have hx:=hx.aG;have jZ:=aA hB hx;refine dJ (by kernel_rfl) ?_;simp only[Lf,au,Act.put,FR_];rw[e23];clear e23;by_cases hid:x.id≤y.id
      ·have lV:decide (y.id<x.id)=false:=by simp;omega
       have HI:=Lib.hid lV;clear lV;go_wp2;go_ret;exact⟨by rw[HS.out,HP.out];simp[HI.out],jZ⟩
      ·have lV:decide (y.id<x.id)=true:=by simp;omega
       have HI:=Lib.hid lV;clear lV;go_wp2;go_roundw
       case rel=>exact⟨k+1,by omega,by go_num,Lib.hid (by rw[HS.out,HP.out];simp[HI.out]),jZ⟩
       case measure=>simp[intOf];omega
   ·go_wp2;go_ret;exact⟨by rw[HK.out,List.drop_of_length_le (by rw[HL.out];omega)];rfl,hB⟩
 ·have hd:decide (n≤12)=false:=by simpa using hm
  rw[hd,Bool.false_and];clear hd;go_enter Tryz.func80,Tryz.ntmps80;go_wp2;go_ret;exact⟨rfl,(by repeat (first | exact Below.refl _ _ | assumption | refine Below.drew ?_ | refine below_drewN ?_ _ | refine aj ?_ _ | refine Below.setCell ?_ (by first | (simp;done) | omega | (simp;omega)) _ | refine aA ?_ (by assumption)))⟩
theorem DW (x:St) (w:World):Calls Tryz.prog 129 #[.agg (aC x).toArray] w fun e w'=>e=.returned (.bool (fA x))∧Below w.heap.size w w':=by
 obtain⟨id,ow,⟨p,f,lo,hi,no,tu,sl⟩,wi,st,ch,su,qB,sh,se,wa,co,ho,sw,ra⟩:=x;exact Je id ow p f lo hi no tu sl wi st ch su qB sh se wa co ho sw ra w
set_option maxRecDepth 100000 in
set_option maxHeartbeats 2000000 in
theorem qV (l:List St) (A:Option Addr) (n c:Nat) (w:World) (h:RA aC 21 w w.heap.size A n c l) :
  Calls Tryz.prog 73 #[.slice A n c] w fun e w'=>e=.returned (.bool (gB l))∧Below w.heap.size w w':=by
 have HR:=Lib.hid h;have hle:=h.le;have hlen:=h.len;have HL:=Lib.hid hlen;have hs:gB l=(decide (n≤24)&&eP fA (·.id) none l):=by rw[gB,hlen]
 rw[hs];clear h hs hlen;by_cases hm:n≤24
 ·have hd:decide (n≤24)=true:=by simpa using hm
  rw[hd,Bool.true_and];clear hd;have hrl:eP fA (·.id) none l=eP fA (·.id) (bI l 0) (l.drop 0):=by simp[bI]
  have HQ:=Lib.hid hrl;clear hrl;go_enter Tryz.func73,Tryz.ntmps73;go_wp2;go_loopw [3] (fun i wr=>∃k:Nat,k≤n∧i=.int .i64 k∧Hid (eP fA (·.id) none l=eP fA (·.id) (bI l k) (l.drop k))∧Below w.heap.size w wr) (fun i _=>n-(intOf i).toNat)
  case atStart=>exact⟨0,Nat.zero_le _,rfl,HQ,Below.refl _ _⟩
  case round =>
   clear HQ;obtain⟨k,hk,rfl,HK,hB⟩:=hrel;by_cases hlt:k<n
   ·obtain⟨b,o,hz,hA,hbl,hc⟩:=RA.range ig (HR.out.below hB) hlt;have hst:=mX fA (fun x=>x.id) l k hz;rw[←HK.out]at hst;generalize l[k]=x at hst hc;have hv:=DW x;have HC:=Lib.hid hc;have g0:wr.cell? ⟨b,o+k*21,none⟩=some (.int .i64 x.id):=hc 0 _ rfl;obtain⟨X,hX⟩:∃X,(aC x).toArray=X:=⟨_,rfl⟩;rw[hX]at hv;have HV:=Lib.hid hv;have iq:=Lib.hid hX;generalize fA x=q at hst HV;have HS:=Lib.hid hst;clear hst hc HK hX hv;subst hA;have hblt:b<w.heap.size:=hbl;go_wp2;cases q
    ·skip;refine aH 24 [some (.slice (some ⟨b,o,none⟩) n c),some (.int .i64 (k:Int)),some (.pointer (some ⟨b,o+k*21,none⟩)),some (.agg X),some (.bool false),some (.bool true),some (.bool true),some (undef),some (undef),some (undef),some (undef),some (undef),some (undef),some (undef),some (undef),some (undef),some (undef),some (undef),some (undef),some (undef),some (undef),some (undef),some (undef),some (.bool true)] [] ?_ ?_ ?_
     ·trivial
     ·refine⟨?_,?_,?_,?x3,?x4,?_,?_,?_,?_,?_,?_,?_,?_,?_,?_,?_,?_,?_,?_,?_,?_,?_,?_,?_,trivial⟩
      case x3 =>
       intro vals w1 hx hd;clear hd;simp only[Lf,au,Act.put,aX,aW];refine ay rfl _ _ rfl b (o+k*21) rfl X (aC x) iq.out _ (RA.bV HC.out hx.aG) Tryz.underlying53 rfl aN ?_;go_wp2;exact q_
      case x4 =>
       intro vals w1 hx hd;clear hd;simp only[Lf,au,Act.put,aX,aW];go_wp2_with fail;refine (HV.out _).mono ?_;rintro e w2 ⟨rfl,hb2⟩;go_wp2;exact⟨rfl,hb2,rfl⟩
      all_goals
       intro vals w1 hx hd;clear hd;simp only[Lf,au,Act.put,aX,aW];go_wp2;exact gW
     intro vals w5 hx hf;have e23:vals 23=.bool true:=hf 23 (by omega);clear hf;have hx:=hx.aG;have jZ:=aA hB hx;refine dJ (by kernel_rfl) ?_;simp only[Lf,au,Act.put,FR_];rw[e23];clear e23;go_wp2;go_ret;exact⟨by rw[HS.out];rfl,jZ⟩
    ·by_cases hk0:k=0
     ·have hk0':(k:Int)≤0:=by omega
      have hpv:bI l k=none:=by simp[bI,hk0]
      have HP:=Lib.hid hpv;have G5:=Lib.hid hk0;have hkd:decide (0<k)=false:=by simp;omega
      clear hpv hk0;refine aH 24 [some (.slice (some ⟨b,o,none⟩) n c),some (.int .i64 (k:Int)),some (.pointer (some ⟨b,o+k*21,none⟩)),some (.agg X),some (.bool true),some (.bool false),some (.bool false),some (.int .i64 (k:Int)),some (.bool false),some (.bool false),some (undef),some (undef),some (undef),some (undef),some (undef),some (undef),some (undef),some (undef),some (undef),some (undef),some (undef),some (undef),some (.bool false),some (.bool false)] [] ?_ ?_ ?_
      ·trivial
      ·refine⟨?_,?_,?_,?x3,?x4,?_,?_,?_,?_,?_,?_,?_,?_,?_,?_,?_,?_,?_,?_,?_,?_,?_,?_,?_,trivial⟩
       case x3 =>
        intro vals w1 hx hd;clear hd;simp only[Lf,au,Act.put,aX,aW];refine ay rfl _ _ rfl b (o+k*21) rfl X (aC x) iq.out _ (RA.bV HC.out hx.aG) Tryz.underlying53 rfl aN ?_;go_wp2;exact q_
       case x4 =>
        intro vals w1 hx hd;clear hd;simp only[Lf,au,Act.put,aX,aW];go_wp2_with fail;refine (HV.out _).mono ?_;rintro e w2 ⟨rfl,hb2⟩;go_wp2;exact⟨rfl,hb2,rfl⟩
       all_goals
        intro vals w1 hx hd;clear hd;simp only[Lf,au,Act.put,aX,aW];have g0:=ah hx g0;go_wp2;exact gW
      intro vals w5 hx hf;have e23:vals 23=.bool false:=hf 23 (by omega);clear hf;have hx:=hx.aG;have jZ:=aA hB hx;refine dJ (by kernel_rfl) ?_;simp only[Lf,au,Act.put,FR_];rw[e23];clear e23;go_wp2;go_roundw
      case rel=>exact⟨k+1,by omega,by go_num,Lib.hid (by rw[HS.out,HP.out];rfl),jZ⟩
      case measure=>simp[intOf];omega
     ·have hk1:(0:Int)<(k:Int):=by omega
      obtain⟨b',o',hz',hA',xQ,hc'⟩:=RA.at_ ig (HR.out.below hB) (k:=k-1) (by omega);obtain⟨rfl,rfl⟩:b'=b∧o'=o:=by injection hA' with hA';injection hA' with h1 h2;exact⟨h1.symm,h2.symm⟩
      have hpv:bI l k=some l[k-1]:=by unfold bI;rw[if_neg hk0,List.getElem?_eq_getElem hz']
      generalize l[k-1]=y at hpv hc';have d0:wr.cell? ⟨b',o'+(k-1)*21,none⟩=some (.int .i64 y.id):=hc' 0 (by omega);have HP:=Lib.hid hpv;have G5:=Lib.hid hk0;clear hpv hc' hA' xQ hk0;have hki:IntKind.i64.wrap ((k:Int)-1)=(k:Int)-1:=IntWalk.i64_in _ (by omega);have hkn:((k:Int)-1).toNat=k-1:=by omega
      have hkd:decide (0<k)=true:=by simp;omega
      refine aH 24 [some (.slice (some ⟨b',o',none⟩) n c),some (.int .i64 (k:Int)),some (.pointer (some ⟨b',o'+k*21,none⟩)),some (.agg X),some (.bool true),some (.bool false),some (.bool false),some (.int .i64 (k:Int)),some (.bool true),some (.bool true),some (.slice (some ⟨b',o',none⟩) n c),some (.int .i64 (k:Int)),some (.pointer (some ⟨b',o'+k*21,none⟩)),some (.pointer (some ⟨b',o'+k*21,none⟩)),some (.int .i64 x.id),some (.slice (some ⟨b',o',none⟩) n c),some (.int .i64 (k:Int)),some (.int .i64 ((k:Int)-1)),some (.pointer (some ⟨b',o'+(k-1)*21,none⟩)),some (.pointer (some ⟨b',o'+(k-1)*21,none⟩)),some (.int .i64 y.id),some (.bool (decide (x.id≤y.id))),some (.bool (decide (x.id≤y.id))),some (.bool (decide (x.id≤y.id)))] [] ?_ ?_ ?_
      ·trivial
      ·refine⟨?_,?_,?_,?x3,?x4,?_,?_,?_,?_,?_,?_,?_,?_,?_,?_,?_,?_,?_,?_,?_,?_,?_,?_,?_,trivial⟩
       case x3 =>
        intro vals w1 hx hd;clear hd;simp only[Lf,au,Act.put,aX,aW];refine ay rfl _ _ rfl b' (o'+k*21) rfl X (aC x) iq.out _ (RA.bV HC.out hx.aG) Tryz.underlying53 rfl aN ?_;go_wp2;exact q_
       case x4 =>
        intro vals w1 hx hd;clear hd;simp only[Lf,au,Act.put,aX,aW];go_wp2_with fail;refine (HV.out _).mono ?_;rintro e w2 ⟨rfl,hb2⟩;go_wp2;exact⟨rfl,hb2,rfl⟩
       all_goals
        intro vals w1 hx hd;clear hd;simp only[Lf,au,Act.put,aX,aW];have g0:=ah hx g0;have d0:=ah hx d0;go_wp2;exact gW
      intro vals w5 hx hf;have e23:vals 23=.bool (decide (x.id≤y.id)):=hf 23 (by omega);clear hf;have hx:=hx.aG;have jZ:=aA hB hx;refine dJ (by kernel_rfl) ?_;simp only[Lf,au,Act.put,FR_];rw[e23];clear e23;by_cases hid:x.id≤y.id
      ·have lV:decide (y.id<x.id)=false:=by simp;omega
       have HI:=Lib.hid lV;clear lV;go_wp2;go_ret;exact⟨by rw[HS.out,HP.out];simp[HI.out],jZ⟩
      ·have lV:decide (y.id<x.id)=true:=by simp;omega
       have HI:=Lib.hid lV;clear lV;go_wp2;go_roundw
       case rel=>exact⟨k+1,by omega,by go_num,Lib.hid (by rw[HS.out,HP.out];simp[HI.out]),jZ⟩
       case measure=>simp[intOf];omega
   ·go_wp2;go_ret;exact⟨by rw[HK.out,List.drop_of_length_le (by rw[HL.out];omega)];rfl,hB⟩
 ·have hd:decide (n≤24)=false:=by simpa using hm
  rw[hd,Bool.false_and];clear hd;go_enter Tryz.func73,Tryz.ntmps73;go_wp2;go_ret;exact⟨rfl,(by repeat (first | exact Below.refl _ _ | assumption | refine Below.drew ?_ | refine below_drewN ?_ _ | refine aj ?_ _ | refine Below.setCell ?_ (by first | (simp;done) | omega | (simp;omega)) _ | refine aA ?_ (by assumption)))⟩
end Go.Proofs.YtjidhhfabfnhnaaGreat
