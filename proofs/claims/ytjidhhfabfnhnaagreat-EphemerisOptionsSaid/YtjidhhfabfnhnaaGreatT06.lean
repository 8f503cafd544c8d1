/- The reference: pick, orbits and stations that integers determine (printed by contact_c6.py). -/
import Derived.Test.YtjidhhfabfnhnaaGreatT02
import Derived.Test.YtjidhhfabfnhnaaGreatT05
import Derived.Test.YtjidhhfabfnhnaaGreatT01
import Derived.Test.YtjidhhfabfnhnaaGreatT04
namespace Go.Proofs.YtjidhhfabfnhnaaGreat
instance:DecidableEq iM:=fun a b=>decidable_of_iff (a.period=b.period∧a.phase=b.phase∧a.low=b.low∧a.high=b.high∧a.node=b.node∧a.turn=b.turn∧a.dP=b.dP) (by cases a;cases b;simp)
structure fE where
 sat:Int
 fr:Int
 kn:Int
 eY:iM
structure Str where
 sp:iO
 eY:iM
instance:DecidableEq Str:=fun a b=>decidable_of_iff (a.sp=b.sp∧a.eY=b.eY) (by cases a;cases b;simp)
def Np (sat kn t:Int) (u:fE):Bool:=u.sat==sat&&decide (u.kn≤kn)&&decide (u.fr≤t)
def Gq (sat kn t:Int) (b:Option fE) (u:fE):Option fE:=if (Np sat kn t u&&(match b with | none=>true | some v=>decide (v.fr≤u.fr)))=true then some u else b
def fF (sat kn t:Int):List fE→Option fE→Option fE
 |[],b=>b
 |u::r,b=>fF sat kn t r (Gq sat kn t b u)
def fK (x:St) (l:List fE) (kn t:Int):iM:=match fF x.id kn t l none with
 |none=>x.aY
 |some u=>u.eY
def eX (f:Int→iM) (t:Int):Nat→List Str
 |0=>[]
 |n+1=>match eX f (t+1) n with
  |[]=>[⟨⟨t,t+1⟩,f t⟩]
  |s::r=>if s.eY=f t then ⟨⟨t,s.sp.tt⟩,f t⟩::r else ⟨⟨t,t+1⟩,f t⟩::s::r
def yE (u:fE):Bool:=inB u.fr 0 1000000&&inB u.kn 0 1000000&&dw u.eY
def jV (ids:List Int):Option Int→List fE→Bool
 |_,[]=>true
 |p,u::r=>decide (u.sat∈ids)&&yE u&&(match p with | none=>true | some k=>decide (k≤u.kn))&&jV ids (some u.kn) r
def fV (sats:List St) (l:List fE):Bool:=jV (sats.map (·.id)) none l&&decide (l.length≤24)&&eH sats
def t_ (id:Int) (l:List fE):List fE:=l.filter (fun u=>u.sat==id)
def qj (x:St) (l:List fE):Bool:=fV [x] (t_ x.id l)
def jD (s:iO):Bool:=decide (0≤s.fr∧s.fr<s.tt∧s.tt≤1000000∧s.tt-s.fr≤1440)
def oD (x:St) (l:List fE) (t kn:Int):Option iM:=if (inB t 0 1000000&&qj x l)=true then some (fK x l kn t) else none
def oW (x:St) (l:List fE) (s:iO) (kn:Int):List Str:=eX (fK x l kn) s.fr (s.tt-s.fr).toNat
def kL (x:St) (l:List fE) (s:iO) (kn:Int):Option (List Str):=if (jD s&&qj x l)=true then some (oW x l s kn) else none
theorem QZ (f:Int→iM) (n:Nat) (t:Int):∃s r,eX f t (n+1)=s::r∧s.sp.fr=t∧s.eY=f t:=by
 rw[eX]
 split
 ·exact⟨_,_,rfl,rfl,rfl⟩
 ·split
  ·exact⟨_,_,rfl,rfl,rfl⟩
  ·exact⟨_,_,rfl,rfl,rfl⟩
theorem zf (f:Int→iM) (k:Nat):∀(n:Nat) (t:Int),1≤k→k≤n→(∀i:Nat,i<k→f (t+i)=f t)→(k=n∨f (t+k)≠f t) →
  eX f t n=⟨⟨t,t+k⟩,f t⟩::eX f (t+k) (n-k):=by
 induction k with
 |zero=>intro n t h;omega
 |succ k ih =>
  intro n t _ hn hi hs;obtain⟨n,rfl⟩:∃m,n=m+1:=⟨n-1,by omega⟩;rcases Nat.eq_zero_or_pos k with rfl | hk
  ·have e1:t+((0+1:Nat):Int)=t+1:=by omega
   rw[e1]at hs⊢;rw[show n+1-(0+1)=n by omega,eX];rcases n with _ | n
   ·rfl
   ·obtain⟨s,r,e2,e3,e4⟩:=QZ f n (t+1);rw[e2];dsimp only;rw[e4,if_neg (by rcases hs with h | h;omega;exact h)]
  ·have h1:=hi 1 (by omega);have e1:t+((1:Nat):Int)=t+1:=by omega
   rw[e1]at h1;have hrec:=ih n (t+1) hk (by omega) (fun i hik=>by have:=hi (i+1) (by omega);rw[h1,show t+1+(i:Int)=t+((i+1:Nat):Int) by omega];exact this) (by
    rcases hs with hs | hs
    ·exact .inl (by omega)
    ·refine .inr ?_;rw[h1,show t+1+(k:Int)=t+((k+1:Nat):Int) by omega];exact hs)
   rw[eX,hrec,show t+1+(k:Int)=t+((k+1:Nat):Int) by omega,show n+1-(k+1)=n-k by omega];dsimp only;rw[if_pos h1]
theorem vH (f:Int→iM) (n:Nat):∀t,(eX f t n).length≤n:=by
 induction n with
 |zero=>intro t;exact Nat.le_refl _
 |succ n ih =>
  intro t;have h:=ih (t+1);unfold eX
  split
  ·simp
  ·rename_i s r hx
   rw[hx]at h
   split<;>simp at h⊢<;> omega
end Go.Proofs.YtjidhhfabfnhnaaGreat
namespace Go.Proofs.YtjidhhfabfnhnaaGreat
open Go.RowKit
def aN (o:iM):List Value:=[.int .i64 o.period,.int .i64 o.phase,.int .i64 o.low,.int .i64 o.high,.int .i64 o.node,.int .i64 o.turn,.int .i64 o.dP]
def aI (u:fE):List Value:=[.int .i64 u.sat,.int .i64 u.fr,.int .i64 u.kn,.int .i64 u.eY.period,.int .i64 u.eY.phase,.int .i64 u.eY.low,.int .i64 u.eY.high,.int .i64 u.eY.node,.int .i64 u.eY.turn,.int .i64 u.eY.dP]
def strCells (s:Str):List Value:=[.int .i64 s.sp.fr,.int .i64 s.sp.tt,.int .i64 s.eY.period,.int .i64 s.eY.phase,.int .i64 s.eY.low,.int .i64 s.eY.high,.int .i64 s.eY.node,.int .i64 s.eY.turn,.int .i64 s.eY.dP]
def dZ (x:St) (A:Option Addr) (n c:Nat) (kn:Int):List Value:=aC x++[.slice A n c,.int .i64 kn]
theorem iR (u:fE):(aI u).length=10:=rfl
theorem jl (s:Str):(strCells s).length=9:=rfl
theorem dF:(Tryz.prog.info? 66).map (·.size)=some 10:=by kernel_rfl
theorem jW:(Tryz.prog.info? 96).map (·.size)=some 9:=by kernel_rfl
theorem G6:(Tryz.prog.info? 117).map (·.size)=some 23:=by kernel_rfl
theorem EN (u:fE):(aI u).toArray.all (·.oneCell')=true:=by simp[aI,Value.oneCell']
theorem VZ (s:Str):(strCells s).toArray.all (·.oneCell')=true:=by simp[strCells,Value.oneCell']
theorem vI (o:iM):(aN o).toArray.all (·.oneCell')=true:=by simp[aN,Value.oneCell']
theorem V6 (x:St) (A:Option Addr) (n c:Nat) (kn:Int):(dZ x A n c kn).toArray.all (·.oneCell')=true:=by simp[dZ,aC,Value.oneCell']
theorem zh (n lo hi:Int) (w:World) :
  Calls Tryz.prog 51 #[.int .i64 n,.int .i64 lo,.int .i64 hi] w fun e w'=>e=.returned (.bool (inB n lo hi))∧w=w':=by
 by_cases h1:lo≤n
 ·have e:inB n lo hi=decide (n≤hi):=by simp[inB,h1]
  rw[e];go_enter Tryz.func51,Tryz.ntmps51;go_wp2;go_ret;exact⟨by first | rfl | simp[*],rfl⟩
 ·have e:inB n lo hi=false:=by simp[inB,h1]
  rw[e];go_enter Tryz.func51,Tryz.ntmps51;go_wp2;go_ret;exact⟨rfl,rfl⟩
theorem Dv (a b:Int) (w:World) :
  Calls Tryz.prog 46 #[.agg #[.int .i64 a,.int .i64 b]] w fun e w'=>e=.returned (.bool (jD ⟨a,b⟩))∧Ext w w':=by
 by_cases h:0≤a∧a<b∧b≤1000000
 ·obtain⟨h1,h2,h3⟩:=h;have hs:jD ⟨a,b⟩=decide (b-a≤1440):=by simp[jD,h1,h2,h3]
  rw[hs];clear hs;go_enter Tryz.func46,Tryz.ntmps46;go_wp2;go_ret;exact⟨by simp[*],(by repeat (first | exact Below.refl _ _ | assumption | refine Below.drew ?_ | refine below_drewN ?_ _ | refine aj ?_ _ | refine Below.setCell ?_ (by first | (simp;done) | omega | (simp;omega)) _ | refine aA ?_ (by assumption)))⟩
 ·have hs:jD ⟨a,b⟩=false:=by
   simp only[jD,decide_eq_false_iff_not];omega
  rw[hs];clear hs;by_cases h1:0≤a
  ·by_cases h2:a<b
   ·have h3:¬b≤1000000:=by omega
    clear h;go_enter Tryz.func46,Tryz.ntmps46;go_wp2;go_ret;exact⟨by simp[*],(by repeat (first | exact Below.refl _ _ | assumption | refine Below.drew ?_ | refine below_drewN ?_ _ | refine aj ?_ _ | refine Below.setCell ?_ (by first | (simp;done) | omega | (simp;omega)) _ | refine aA ?_ (by assumption)))⟩
   ·clear h;go_enter Tryz.func46,Tryz.ntmps46;go_wp2;go_ret;exact⟨by simp[*],(by repeat (first | exact Below.refl _ _ | assumption | refine Below.drew ?_ | refine below_drewN ?_ _ | refine aj ?_ _ | refine Below.setCell ?_ (by first | (simp;done) | omega | (simp;omega)) _ | refine aA ?_ (by assumption)))⟩
  ·clear h;go_enter Tryz.func46,Tryz.ntmps46;go_wp2;go_ret;exact⟨by simp[*],(by repeat (first | exact Below.refl _ _ | assumption | refine Below.drew ?_ | refine below_drewN ?_ _ | refine aj ?_ _ | refine Below.setCell ?_ (by first | (simp;done) | omega | (simp;omega)) _ | refine aA ?_ (by assumption)))⟩
theorem ZJ (u:fE) (gp gt:Nat) (id kn t:Int) (w:World) (P:Array Value) (kp:aG w gp 117 P) (p0:P[0]?=some (.int .i64 id)) (p22:P[22]?=some (.int .i64 kn)) (kt:aG w gt 3 #[.int .i64 t]) :
  Calls Tryz.prog 112 #[.agg (aI u).toArray,.pointer (some ⟨gp,0,none⟩),.pointer (some ⟨gt,0,none⟩)] w fun e w'=>e=.returned (.bool (Np id kn t u))∧Ext w w':=by
 obtain⟨us,uf,uk,⟨p,f,lo,hi,no,tu,sl⟩⟩:=u
 show Calls Tryz.prog 112 #[.agg #[.int .i64 us,.int .i64 uf,.int .i64 uk,.int .i64 p,.int .i64 f,.int .i64 lo,.int .i64 hi,.int .i64 no,.int .i64 tu,.int .i64 sl],_,_] w _
 have hx:Ext w (w.alloc (.cells #[.int .i64 us,.int .i64 uf,.int .i64 uk,.int .i64 p,.int .i64 f,.int .i64 lo,.int .i64 hi,.int .i64 no,.int .i64 tu,.int .i64 sl] 66)):=aj (Below.refl _ _) _;have c0:(w.alloc (.cells #[.int .i64 us,.int .i64 uf,.int .i64 uk,.int .i64 p,.int .i64 f,.int .i64 lo,.int .i64 hi,.int .i64 no,.int .i64 tu,.int .i64 sl] 66)).cell? ⟨gp,0,none⟩=some (.int .i64 id):=by rw[(kp.ext hx).cell];exact p0
 have c22:(w.alloc (.cells #[.int .i64 us,.int .i64 uf,.int .i64 uk,.int .i64 p,.int .i64 f,.int .i64 lo,.int .i64 hi,.int .i64 no,.int .i64 tu,.int .i64 sl] 66)).cell? ⟨gp,22,none⟩=some (.int .i64 kn):=by rw[(kp.ext hx).cell];exact p22
 have ct:(w.alloc (.cells #[.int .i64 us,.int .i64 uf,.int .i64 uk,.int .i64 p,.int .i64 f,.int .i64 lo,.int .i64 hi,.int .i64 no,.int .i64 tu,.int .i64 sl] 66)).cell? ⟨gt,0,none⟩=some (.int .i64 t):=(kt.ext hx).cell 0;have J:=aG.new w 66 #[.int .i64 us,.int .i64 uf,.int .i64 uk,.int .i64 p,.int .i64 f,.int .i64 lo,.int .i64 hi,.int .i64 no,.int .i64 tu,.int .i64 sl];have HX:=Lib.hid hx;clear hx kp kt p0 p22;by_cases h1:us=id
 ·have h1b:(us==id)=true:=by simpa using h1
  by_cases h2:uk≤kn
  ·have e:Np id kn t ⟨us,uf,uk,⟨p,f,lo,hi,no,tu,sl⟩⟩=decide (uf≤t):=by simp[Np,h1,h2]
   rw[e];clear e h1;go_enter Tryz.func112,Tryz.ntmps112;go_upto_region 1 with (fail);generalize w.alloc _=W at J c0 c22 ct HX⊢;generalize w.heap.size=g at J⊢;have u0:W.cell? ⟨g,0,none⟩=some (.int .i64 us):=J.cell 0;have u1:W.cell? ⟨g,1,none⟩=some (.int .i64 uf):=J.cell 1;have u2:W.cell? ⟨g,2,none⟩=some (.int .i64 uk):=J.cell 2;go_wp2;go_ret;exact⟨by first | rfl | simp[*],HX.out⟩
  ·have e:Np id kn t ⟨us,uf,uk,⟨p,f,lo,hi,no,tu,sl⟩⟩=false:=by simp[Np,h2]
   rw[e];clear e h1;go_enter Tryz.func112,Tryz.ntmps112;go_upto_region 1 with (fail);generalize w.alloc _=W at J c0 c22 ct HX⊢;generalize w.heap.size=g at J⊢;have u0:W.cell? ⟨g,0,none⟩=some (.int .i64 us):=J.cell 0;have u1:W.cell? ⟨g,1,none⟩=some (.int .i64 uf):=J.cell 1;have u2:W.cell? ⟨g,2,none⟩=some (.int .i64 uk):=J.cell 2;go_wp2;go_ret;exact⟨by first | rfl | simp[*],HX.out⟩
 ·have h1b:(us==id)=false:=by simpa using h1
  have e:Np id kn t ⟨us,uf,uk,⟨p,f,lo,hi,no,tu,sl⟩⟩=false:=by simp[Np,h1]
  rw[e];clear e h1;go_enter Tryz.func112,Tryz.ntmps112;go_upto_region 1 with (fail);generalize w.alloc _=W at J c0 c22 ct HX⊢;generalize w.heap.size=g at J⊢;have u0:W.cell? ⟨g,0,none⟩=some (.int .i64 us):=J.cell 0;go_wp2;go_ret;exact⟨by first | rfl | simp[*],HX.out⟩
theorem Nq (u:fE) (w:World):Calls Tryz.prog 114 #[.agg (aI u).toArray] w fun e w'=>e=.returned (.int .i64 u.fr)∧Ext w w':=by
 obtain⟨us,uf,uk,⟨p,f,lo,hi,no,tu,sl⟩⟩:=u
 show Calls Tryz.prog 114 #[.agg #[.int .i64 us,.int .i64 uf,.int .i64 uk,.int .i64 p,.int .i64 f,.int .i64 lo,.int .i64 hi,.int .i64 no,.int .i64 tu,.int .i64 sl]] w _
 go_enter Tryz.func114,Tryz.ntmps114;go_wp2;go_ret;exact⟨rfl,(by repeat (first | exact Below.refl _ _ | assumption | refine Below.drew ?_ | refine below_drewN ?_ _ | refine aj ?_ _ | refine Below.setCell ?_ (by first | (simp;done) | omega | (simp;omega)) _ | refine aA ?_ (by assumption)))⟩
end Go.Proofs.YtjidhhfabfnhnaaGreat
namespace Go.Proofs.YtjidhhfabfnhnaaGreat
open Go.RowKit
def aO (c n:Int):Int:=(if c<0 then -(c+1) else c) % n
theorem aJ (c n:Int) (hn:0<n):0≤aO c n∧aO c n<n:=⟨Int.emod_nonneg _ (by omega),Int.emod_lt_of_pos _ hn⟩
def dG (n:Int):Prop:=-9223372036854775808≤n∧n≤9223372036854775807
theorem dS (c n:Int) (w:World) (h1 : -9223372036854775808≤c) (h2:c≤9223372036854775807) (hn:0<n) (hn2:n≤1000000) :
  Calls Tryz.prog 142 #[.int .i64 c,.int .i64 n] w fun e w'=>e=.returned (.int .i64 (aO c n))∧w=w':=by
 have hn0:¬n=0:=by omega
 have hn1:(n==0)=false:=by simp;omega
 by_cases hc:c<0
 ·have hp:aO c n = -((c+1).tmod n):=by unfold aO;rw[if_pos hc,←Int.tmod_eq_emod_of_nonneg (by omega),Int.neg_tmod]
  have hb:=aJ c n hn;rw[hp]at hb⊢;have hb1:=hb.1;have hb2:=hb.2;clear hb hp;go_enter Tryz.func142,Tryz.ntmps142;go_wp2;go_ret;exact⟨rfl,rfl⟩
 ·have hp:aO c n=c % n:=by unfold aO;rw[if_neg hc]
  have hb:=aJ c n hn;rw[hp]at hb⊢;have hb1:=hb.1;have hb2:=hb.2;clear hb hp;go_enter Tryz.func142,Tryz.ntmps142;go_wp2;go_ret;exact⟨rfl,rfl⟩
theorem kM (c n:Int) (w:World) (h1 : -9223372036854775808≤c) (h2:c≤9223372036854775807) (hn:0<n) (hn2:n≤1000000) :
  Calls Tryz.prog 163 #[.int .i64 c,.int .i64 n] w fun e w'=>e=.returned (.int .i64 (aO c n))∧w=w':=by
 have hn0:¬n=0:=by omega
 have hn1:(n==0)=false:=by simp;omega
 by_cases hc:c<0
 ·have hp:aO c n = -((c+1).tmod n):=by unfold aO;rw[if_pos hc,←Int.tmod_eq_emod_of_nonneg (by omega),Int.neg_tmod]
  have hb:=aJ c n hn;rw[hp]at hb⊢;have hb1:=hb.1;have hb2:=hb.2;clear hb hp;go_enter Tryz.func163,Tryz.ntmps163;go_wp2;go_ret;exact⟨rfl,rfl⟩
 ·have hp:aO c n=c % n:=by unfold aO;rw[if_neg hc]
  have hb:=aJ c n hn;rw[hp]at hb⊢;have hb1:=hb.1;have hb2:=hb.2;clear hb hp;go_enter Tryz.func163,Tryz.ntmps163;go_wp2;go_ret;exact⟨rfl,rfl⟩
theorem aG.row {w:World} {g:Nat} {t:TypeId} {cs:Array Value} (h:aG w g t cs) (X:Array Value):aG (w.setRow g X) g t X:=setRow_heap w g cs X t (0,0) h
theorem aG.jm {w:World} {g k:Nat} {t:TypeId} {cs:Array Value} (h:aG w g t cs) (hk:g≠k) (X:Array Value):aG (w.setRow k X) g t cs:=(setRow_other w k g X hk).trans h
theorem below_setRow {B:Nat} {a w:World} (h:Below B a w) {g:Nat} (hg:B≤g) (X:Array Value):Below B a (w.setRow g X) :=
 ⟨h.os,h.tape,h.output,by simpa [World.setRow]using h.size,fun k hk=>(setRow_other w g k X (by omega)).trans (h.block k hk)⟩
theorem aZ:(Tryz.prog.info? 51).map (·.size)=some 7:=by kernel_rfl
def zQ (x0 x1 x2 x3 x4 x5 x6:Int):iM:=⟨2*(10+aO x0 90),aO x1 (2*(10+aO x0 90)),aO x2 10000,aO x2 10000+4000+aO x3 10000,aO x4 48000,aO x5 1601-800,aO x6 4⟩
set_option maxHeartbeats 2000000 in
set_option maxRecDepth 100000 in
theorem Q5 (x0 x1 x2 x3 x4 x5 x6:Int) (w:World) (bx0:dG x0) (bx1:dG x1) (bx2:dG x2) (bx3:dG x3) (bx4:dG x4) (bx5:dG x5) (bx6:dG x6) :
  Calls Tryz.prog 143 #[.agg #[.int .i64 x0,.int .i64 x1,.int .i64 x2,.int .i64 x3,.int .i64 x4,.int .i64 x5,.int .i64 x6]] w fun e w'=>e=.returned (ZB (zQ x0 x1 x2 x3 x4 x5 x6))∧Below w.heap.size w w':=by
 unfold zQ ZB;dsimp only[I64];have P0:=fun w=>kM x0 90 w bx0.1 bx0.2 (by omega) (by omega);have q0:=aJ x0 90 (by omega);generalize aO x0 90=p0 at P0 q0⊢;obtain⟨q0a,q0b⟩:=q0;have Qp:=Lib.hid P0;clear P0;obtain⟨pe,hpe⟩:∃p,p=2*(10+p0):=⟨_,rfl⟩;rw[←hpe];have ZK:20≤pe∧pe≤200:=by omega
 obtain⟨ZK,hpe2⟩:=ZK;have P1:=fun w=>kM x1 pe w bx1.1 bx1.2 (by omega) (by omega);have q1:=aJ x1 pe (by omega);generalize aO x1 pe=p1 at P1 q1⊢;obtain⟨q1a,q1b⟩:=q1;have wV:=Lib.hid P1;clear P1;have P2:=fun w=>kM x2 10000 w bx2.1 bx2.2 (by omega) (by omega);have q2:=aJ x2 10000 (by omega);generalize aO x2 10000=p2 at P2 q2⊢;obtain⟨q2a,q2b⟩:=q2;have HP2:=Lib.hid P2;clear P2;have P3:=fun w=>kM x3 10000 w bx3.1 bx3.2 (by omega) (by omega);have q3:=aJ x3 10000 (by omega);generalize aO x3 10000=p3 at P3 q3⊢;obtain⟨q3a,q3b⟩:=q3;have Vk:=Lib.hid P3;clear P3;have P4:=fun w=>kM x4 48000 w bx4.1 bx4.2 (by omega) (by omega);have q4:=aJ x4 48000 (by omega);generalize aO x4 48000=p4 at P4 q4⊢;obtain⟨q4a,q4b⟩:=q4;have Vl:=Lib.hid P4;clear P4;have P5:=fun w=>kM x5 1601 w bx5.1 bx5.2 (by omega) (by omega);have q5:=aJ x5 1601 (by omega);generalize aO x5 1601=p5 at P5 q5⊢;obtain⟨q5a,q5b⟩:=q5;have Vm:=Lib.hid P5;clear P5;have P6:=fun w=>kM x6 4 w bx6.1 bx6.2 (by omega) (by omega);have q6:=aJ x6 4 (by omega);generalize aO x6 4=p6 at P6 q6⊢;obtain⟨q6a,q6b⟩:=q6;have HP6:=Lib.hid P6;clear P6;have w1:IntKind.i64.wrap (10+p0)=10+p0:=IntWalk.i64_in _ (by omega);have w2:IntKind.i64.wrap (2*(10+p0))=pe:=by rw[←hpe];exact IntWalk.i64_in _ (by omega)
 have w3:IntKind.i64.wrap (p5-800)=p5-800:=IntWalk.i64_in _ (by omega);have ZL:=Lib.hid hpe;clear hpe;go_enter Tryz.func143,Tryz.ntmps143;go_upto_region 1 with (fail);obtain⟨g1,hg1⟩:∃g,g=w.heap.size:=⟨_,rfl⟩;obtain⟨g2,hg2⟩:∃g,g=w.heap.size+1:=⟨_,rfl⟩;have J1:aG ((w.alloc (.cells #[.int .i64 x0,.int .i64 x1,.int .i64 x2,.int .i64 x3,.int .i64 x4,.int .i64 x5,.int .i64 x6] 153)).alloc (.cells #[.int .i64 0,.int .i64 0,.int .i64 0,.int .i64 0,.int .i64 0,.int .i64 0,.int .i64 0] 51)) g1 153 #[.int .i64 x0,.int .i64 x1,.int .i64 x2,.int .i64 x3,.int .i64 x4,.int .i64 x5,.int .i64 x6]:=(aG.bC _ _ _ hg1.symm).alloc _;have J2:aG ((w.alloc (.cells #[.int .i64 x0,.int .i64 x1,.int .i64 x2,.int .i64 x3,.int .i64 x4,.int .i64 x5,.int .i64 x6] 153)).alloc (.cells #[.int .i64 0,.int .i64 0,.int .i64 0,.int .i64 0,.int .i64 0,.int .i64 0,.int .i64 0] 51)) g2 51 #[.int .i64 0,.int .i64 0,.int .i64 0,.int .i64 0,.int .i64 0,.int .i64 0,.int .i64 0]:=aG.bC _ _ _ (by simp[hg2]);have hB:Below w.heap.size w ((w.alloc (.cells #[.int .i64 x0,.int .i64 x1,.int .i64 x2,.int .i64 x3,.int .i64 x4,.int .i64 x5,.int .i64 x6] 153)).alloc (.cells #[.int .i64 0,.int .i64 0,.int .i64 0,.int .i64 0,.int .i64 0,.int .i64 0,.int .i64 0] 51)):=(by repeat (first | exact Below.refl _ _ | assumption | refine Below.drew ?_ | refine below_drewN ?_ _ | refine aj ?_ _ | refine Below.setCell ?_ (by first | (simp;done) | omega | (simp;omega)) _ | refine aA ?_ (by assumption)));have hl2:w.heap.size≤g2:=by omega
 rw[←hg2,←hg1];generalize (w.alloc (.cells #[.int .i64 x0,.int .i64 x1,.int .i64 x2,.int .i64 x3,.int .i64 x4,.int .i64 x5,.int .i64 x6] 153)).alloc (.cells #[.int .i64 0,.int .i64 0,.int .i64 0,.int .i64 0,.int .i64 0,.int .i64 0,.int .i64 0] 51)=W at J1 J2 hB⊢;clear hg1 hg2;have k0:W.cell? ⟨g1,0,none⟩=some (.int .i64 x0):=J1.cell 0;have k1:W.cell? ⟨g1,1,none⟩=some (.int .i64 x1):=J1.cell 1;have k2:W.cell? ⟨g1,2,none⟩=some (.int .i64 x2):=J1.cell 2;have k3:W.cell? ⟨g1,3,none⟩=some (.int .i64 x3):=J1.cell 3;have k4:W.cell? ⟨g1,4,none⟩=some (.int .i64 x4):=J1.cell 4;have k5:W.cell? ⟨g1,5,none⟩=some (.int .i64 x5):=J1.cell 5;have k6:W.cell? ⟨g1,6,none⟩=some (.int .i64 x6):=J1.cell 6;refine aF 20 [some (.pointer (some ⟨g1,0,none⟩)),some (.int .i64 x0),some (.int .i64 p0),some (.int .i64 (10+p0)),some (.int .i64 pe),some (.pointer (some ⟨g1,2,none⟩)),some (.int .i64 x2),some (.int .i64 p2),some (.pointer (some ⟨g1,4,none⟩)),some (.int .i64 x4),some (.int .i64 p4),some (.pointer (some ⟨g1,5,none⟩)),some (.int .i64 x5),some (.int .i64 p5),some (.int .i64 (p5-800)),some (.pointer (some ⟨g1,6,none⟩)),some (.int .i64 x6),some (.int .i64 p6),some (.agg #[.int .i64 pe,.int .i64 0,.int .i64 p2,.int .i64 0,.int .i64 p4,.int .i64 (p5-800),.int .i64 p6]),none] [(19,.w fun v w1=>∃g,v=.pointer (some ⟨g,0,none⟩)∧W.heap.size≤g∧aG w1 g 51 #[.int .i64 0,.int .i64 0,.int .i64 0,.int .i64 0,.int .i64 0,.int .i64 0,.int .i64 0])] ?_ ?_ ?_
 ·refine⟨?_,trivial⟩
  ·intro v w1 w2 hr hx;obtain⟨g,h1,h2,h3⟩:=hr;exact⟨g,h1,h2,h3.ext hx⟩
 ·refine⟨?_,?_,?x2,?_,?_,?_,?_,?x7,?_,?_,?x10,?_,?_,?x13,?_,?_,?_,?x17,?_,?x19,trivial⟩
  case x2 =>
   intro vals w1 hx hd;clear hd;simp only[Lf,au,Act.put,bH,bG];go_wp2_with fail;refine (Qp.out _).mono ?_;rintro e w2 ⟨rfl,rfl⟩;go_wp2;exact q_
  case x7 =>
   intro vals w1 hx hd;clear hd;simp only[Lf,au,Act.put,bH,bG];go_wp2_with fail;refine (HP2.out _).mono ?_;rintro e w2 ⟨rfl,rfl⟩;go_wp2;exact q_
  case x10 =>
   intro vals w1 hx hd;clear hd;simp only[Lf,au,Act.put,bH,bG];go_wp2_with fail;refine (Vl.out _).mono ?_;rintro e w2 ⟨rfl,rfl⟩;go_wp2;exact q_
  case x13 =>
   intro vals w1 hx hd;clear hd;simp only[Lf,au,Act.put,bH,bG];go_wp2_with fail;refine (Vm.out _).mono ?_;rintro e w2 ⟨rfl,rfl⟩;go_wp2;exact q_
  case x17 =>
   intro vals w1 hx hd;clear hd;simp only[Lf,au,Act.put,bH,bG];go_wp2_with fail;refine (HP6.out _).mono ?_;rintro e w2 ⟨rfl,rfl⟩;go_wp2;exact q_
  case x19 =>
   intro vals w1 hx hd;clear hd;simp only[Lf,au,Act.put,bH,bG];have hz:=Below.size hx.aH;go_wp2;exact⟨rfl,(by repeat (first | exact Below.refl _ _ | assumption | refine Below.drew ?_ | refine below_drewN ?_ _ | refine aj ?_ _ | refine Below.setCell ?_ (by first | (simp;done) | omega | (simp;omega)) _ | refine aA ?_ (by assumption))),_,rfl,by omega,aG.new _ _ _⟩
  all_goals
   intro vals w1 hx hd;clear hd;simp only[Lf,au,Act.put,bH,bG];have k0:=ah hx k0;have k2:=ah hx k2;have k4:=ah hx k4;have k5:=ah hx k5;have k6:=ah hx k6;go_wp2;exact iq
 have hl2W:g2<W.heap.size:=J2.lt;intro vals w3 hx hf;have e18:vals 18=.agg #[.int .i64 pe,.int .i64 0,.int .i64 p2,.int .i64 0,.int .i64 p4,.int .i64 (p5-800),.int .i64 p6]:=hf 18 (by omega);obtain⟨g3,e19,hg3,J3⟩:∃g,vals 19=.pointer (some ⟨g,0,none⟩)∧W.heap.size≤g∧aG w3 g 51 #[.int .i64 0,.int .i64 0,.int .i64 0,.int .i64 0,.int .i64 0,.int .i64 0,.int .i64 0]:=hf 19 (by omega);have hx:=hx.aH;have J1:=J1.ext hx;have J2:=J2.ext hx;have hWl:=hB.size;have n23:g2≠g3:=by omega
 have hB3:=aA hB hx;clear hf hx k0 k1 k2 k3 k4 k5 k6;refine eP 20 _ (by kernel_rfl) (by kernel_rfl) rfl ?_;simp only[Lf,au,Act.put,FR_];rw[e18,e19];clear e18 e19;refine wpList_store_row rfl 51 _ _ rfl g3 #[.int .i64 pe,.int .i64 0,.int .i64 p2,.int .i64 0,.int .i64 p4,.int .i64 (p5-800),.int .i64 p6] rfl rfl 51 _ J3 aZ rfl (by simp[Value.oneCell']) ?_;have J1:=J1.jm (k:=g3) (aG.Cc J1 J3 (by decide)) #[.int .i64 pe,.int .i64 0,.int .i64 p2,.int .i64 0,.int .i64 p4,.int .i64 (p5-800),.int .i64 p6];have J2:=J2.jm (k:=g3) n23 #[.int .i64 pe,.int .i64 0,.int .i64 p2,.int .i64 0,.int .i64 p4,.int .i64 (p5-800),.int .i64 p6];have J3:=J3.row #[.int .i64 pe,.int .i64 0,.int .i64 p2,.int .i64 0,.int .i64 p4,.int .i64 (p5-800),.int .i64 p6];have hB3:=below_setRow hB3 (g:=g3) (by omega) #[.int .i64 pe,.int .i64 0,.int .i64 p2,.int .i64 0,.int .i64 p4,.int .i64 (p5-800),.int .i64 p6];generalize w3.setRow g3 #[.int .i64 pe,.int .i64 0,.int .i64 p2,.int .i64 0,.int .i64 p4,.int .i64 (p5-800),.int .i64 p6]=w4 at J1 J2 J3 hB3⊢;have k1:w4.cell? ⟨g1,1,none⟩=some (.int .i64 x1):=J1.cell 1;have k3:w4.cell? ⟨g1,3,none⟩=some (.int .i64 x3):=J1.cell 3;have o0:w4.cell? ⟨g3,0,none⟩=some (.int .i64 pe):=J3.cell 0;have o1:w4.cell? ⟨g3,1,none⟩=some (.int .i64 0):=J3.cell 1;have f1:w4.frozen? ⟨g3,1,none⟩=false:=J3.frozen 1;go_wp2_with fail;refine (wV.out _).mono ?_;rintro e w5 ⟨rfl,rfl⟩;go_wp2;clear k1 k3 o0 o1 f1;have J1:=J1.far (p:=⟨g3,1,none⟩) (aG.Cc J1 J3 (by decide)) (.int .i64 p1);have J3:=J3.cZ 1 (.int .i64 p1);have J2:=J2.far (p:=⟨g3,1,none⟩) n23 (.int .i64 p1);have hB3:=hB3.setCell (p:=⟨g3,1,none⟩) (by show w.heap.size≤g3;omega) (.int .i64 p1);simp only[List.setIfInBounds_toArray,List.set_cons_zero,List.set_cons_succ]at J3;generalize w4.setCell ⟨g3,1,none⟩ (.int .i64 p1)=w6 at J1 J2 J3 hB3⊢;have k3:w6.cell? ⟨g1,3,none⟩=some (.int .i64 x3):=J1.cell 3;have o2:w6.cell? ⟨g3,2,none⟩=some (.int .i64 p2):=J3.cell 2;have w4_:IntKind.i64.wrap (p2+4000)=p2+4000:=IntWalk.i64_in _ (by omega);have w5_:IntKind.i64.wrap (p2+4000+p3)=p2+4000+p3:=IntWalk.i64_in _ (by omega);refine aF 8 [some (.pointer (some ⟨g3,2,none⟩)),some (.int .i64 p2),some (.int .i64 (p2+4000)),some (.pointer (some ⟨g1,3,none⟩)),some (.int .i64 x3),some (.int .i64 p3),some (.int .i64 (p2+4000+p3)),some (.pointer (some ⟨g3,3,none⟩))] [] ?_ ?_ ?_
 ·trivial
 ·refine⟨?_,?_,?_,?_,?_,?x5,?_,?_,trivial⟩
  case x5 =>
   intro vals w1 hx hd;clear hd;simp only[Lf,au,Act.put,bH,bG];go_wp2_with fail;refine (Vk.out _).mono ?_;rintro e w2 ⟨rfl,rfl⟩;go_wp2;exact q_
  all_goals
   intro vals w1 hx hd;clear hd;simp only[Lf,au,Act.put,bH,bG];have o2:=ah hx o2;have k3:=ah hx k3;go_wp2;exact iq
 intro vals w7 hx hf;have e6:vals 6=.int .i64 (p2+4000+p3):=hf 6 (by omega);have e7:vals 7=.pointer (some ⟨g3,3,none⟩):=hf 7 (by omega);have hx:=hx.aH;have J2:=J2.ext hx;have J3:=J3.ext hx;have hB3:=aA hB3 hx;clear hf hx k3 o2 J1;refine eP 8 _ (by kernel_rfl) (by kernel_rfl) rfl ?_;simp only[Lf,au,Act.put,FR_];rw[e6,e7];clear e6 e7;have f3:w7.frozen? ⟨g3,3,none⟩=false:=J3.frozen 3;have o3:w7.cell? ⟨g3,3,none⟩=some (.int .i64 0):=J3.cell 3;go_upto_region 4 with (fail);clear f3 o3;have J3:=J3.cZ 3 (.int .i64 (p2+4000+p3));have J2:=J2.far (p:=⟨g3,3,none⟩) n23 (.int .i64 (p2+4000+p3));have hB3:=hB3.setCell (p:=⟨g3,3,none⟩) (by show w.heap.size≤g3;omega) (.int .i64 (p2+4000+p3));simp only[List.setIfInBounds_toArray,List.set_cons_zero,List.set_cons_succ]at J3;generalize w7.setCell ⟨g3,3,none⟩ (.int .i64 (p2+4000+p3))=w8 at J2 J3 hB3⊢;go_wp2_with (first | (refine ay rfl _ _ rfl g3 0 rfl #[.int .i64 pe,.int .i64 p1,.int .i64 p2,.int .i64 (p2+4000+p3),.int .i64 p4,.int .i64 (p5-800),.int .i64 p6] [.int .i64 pe,.int .i64 p1,.int .i64 p2,.int .i64 (p2+4000+p3),.int .i64 p4,.int .i64 (p5-800),.int .i64 p6] rfl _ (aG.range J3 _ rfl) Tryz.underlying51 rfl aZ ?_) | (refine wpList_store_row rfl 51 _ _ rfl g2 #[.int .i64 pe,.int .i64 p1,.int .i64 p2,.int .i64 (p2+4000+p3),.int .i64 p4,.int .i64 (p5-800),.int .i64 p6] rfl rfl 51 _ J2 aZ rfl (by simp[Value.oneCell']) ?_));have J2:=J2.row #[.int .i64 pe,.int .i64 p1,.int .i64 p2,.int .i64 (p2+4000+p3),.int .i64 p4,.int .i64 (p5-800),.int .i64 p6];have hB3:=below_setRow hB3 (g:=g2) hl2 #[.int .i64 pe,.int .i64 p1,.int .i64 p2,.int .i64 (p2+4000+p3),.int .i64 p4,.int .i64 (p5-800),.int .i64 p6];generalize w8.setRow g2 #[.int .i64 pe,.int .i64 p1,.int .i64 p2,.int .i64 (p2+4000+p3),.int .i64 p4,.int .i64 (p5-800),.int .i64 p6]=w9 at J2 hB3⊢;have c0:=J2.cell 0;have c1:=J2.cell 1;have c2:=J2.cell 2;have c3:=J2.cell 3;have c4:=J2.cell 4;have c5:=J2.cell 5;have c6:=J2.cell 6;exact bodyPost_ret (v:=.agg #[.int .i64 pe,.int .i64 p1,.int .i64 p2,.int .i64 (p2+4000+p3),.int .i64 p4,.int .i64 (p5-800),.int .i64 p6]) (by simp[results,Tryz.results143,go_sem,c0,c1,c2,c3,c4,c5,c6]) rfl ⟨rfl,hB3⟩
def Q7 (id x0 x1 x2 x3:Int):iD:=⟨aO id 12,⟨aO x0 48,aO x1 24⟩,aO x2 5,1+aO x3 2,aO (x3.tdiv 2) 9⟩
theorem tC {x n:Int} (h:dG x) (hn:1<n):dG (x.tdiv n)∧IntKind.i64.wrap (x.tdiv n)=x.tdiv n:=by
 have h1:dG (x.tdiv n):=by
  obtain⟨h1,h2⟩:=h;have:=Int.natAbs_tdiv_le_natAbs x n;have:(x.tdiv n).natAbs≤x.natAbs:=this;by_cases hx:x.natAbs=9223372036854775808
  ·have e:(x.tdiv n).natAbs=x.natAbs / n.natAbs:=Int.natAbs_tdiv x n;have:x.natAbs / n.natAbs≤x.natAbs / 2:=Nat.div_le_div_left (by omega) (by omega);unfold dG;omega
  ·unfold dG;omega
 exact⟨h1,IntWalk.i64_in _ (by unfold dG at h1;omega)⟩
theorem Dw:(Tryz.prog.info? 71).map (·.size)=some 6:=by kernel_rfl
set_option maxHeartbeats 2000000 in
set_option maxRecDepth 100000 in
theorem G7 (id x0 x1 x2 x3:Int) (w:World) (bid:dG id) (bx0:dG x0) (bx1:dG x1) (bx2:dG x2) (bx3:dG x3) :
  Calls Tryz.prog 93 #[.int .i64 id,.agg #[.int .i64 x0,.int .i64 x1,.int .i64 x2,.int .i64 x3]] w fun e w'=>e=.returned (.agg (bJ (Q7 id x0 x1 x2 x3)).toArray)∧Below w.heap.size w w':=by
 unfold Q7 bJ;dsimp only;obtain⟨bxd,hwd⟩:=tC bx3 (n:=2) (by omega);obtain⟨xd,hxd⟩:∃y,y=x3.tdiv 2:=⟨_,rfl⟩;rw[←hxd]at bxd hwd⊢;have P0:=fun w=>dS id 12 w bid.1 bid.2 (by omega) (by omega);have q0:=aJ id 12 (by omega);generalize aO id 12=p0 at P0 q0⊢;obtain⟨q0a,q0b⟩:=q0;have Qp:=Lib.hid P0;clear P0;have P1:=fun w=>dS x0 48 w bx0.1 bx0.2 (by omega) (by omega);have q1:=aJ x0 48 (by omega);generalize aO x0 48=p1 at P1 q1⊢;obtain⟨q1a,q1b⟩:=q1;have wV:=Lib.hid P1;clear P1;have P2:=fun w=>dS x1 24 w bx1.1 bx1.2 (by omega) (by omega);have q2:=aJ x1 24 (by omega);generalize aO x1 24=p2 at P2 q2⊢;obtain⟨q2a,q2b⟩:=q2;have HP2:=Lib.hid P2;clear P2;have P3:=fun w=>dS x2 5 w bx2.1 bx2.2 (by omega) (by omega);have q3:=aJ x2 5 (by omega);generalize aO x2 5=p3 at P3 q3⊢;obtain⟨q3a,q3b⟩:=q3;have Vk:=Lib.hid P3;clear P3;have P4:=fun w=>dS x3 2 w bx3.1 bx3.2 (by omega) (by omega);have q4:=aJ x3 2 (by omega);generalize aO x3 2=p4 at P4 q4⊢;obtain⟨q4a,q4b⟩:=q4;have Vl:=Lib.hid P4;clear P4;have P5:=fun w=>dS xd 9 w bxd.1 bxd.2 (by omega) (by omega);have q5:=aJ xd 9 (by omega);generalize aO xd 9=p5 at P5 q5⊢;obtain⟨q5a,q5b⟩:=q5;have Vm:=Lib.hid P5;clear P5;have w1:IntKind.i64.wrap (1+p4)=1+p4:=IntWalk.i64_in _ (by omega);have hq:IntKind.i64.wrap (x3.tdiv 2)=xd:=by rw[←hxd];exact hwd
 clear hwd;have HXD:=Lib.hid hxd;clear hxd;go_enter Tryz.func93,Tryz.ntmps93;go_upto_region 1 with (fail);obtain⟨g1,hg1⟩:∃g,g=w.heap.size:=⟨_,rfl⟩;obtain⟨g2,hg2⟩:∃g,g=w.heap.size+1:=⟨_,rfl⟩;have J1:aG ((w.alloc (.cells #[.int .i64 x0,.int .i64 x1,.int .i64 x2,.int .i64 x3] 151)).alloc (.cells #[.int .i64 0,.int .i64 0,.int .i64 0,.int .i64 0,.int .i64 0,.int .i64 0] 71)) g1 151 #[.int .i64 x0,.int .i64 x1,.int .i64 x2,.int .i64 x3]:=(aG.bC _ _ _ hg1.symm).alloc _;have J2:aG ((w.alloc (.cells #[.int .i64 x0,.int .i64 x1,.int .i64 x2,.int .i64 x3] 151)).alloc (.cells #[.int .i64 0,.int .i64 0,.int .i64 0,.int .i64 0,.int .i64 0,.int .i64 0] 71)) g2 71 #[.int .i64 0,.int .i64 0,.int .i64 0,.int .i64 0,.int .i64 0,.int .i64 0]:=aG.bC _ _ _ (by simp[hg2]);have hB:Below w.heap.size w ((w.alloc (.cells #[.int .i64 x0,.int .i64 x1,.int .i64 x2,.int .i64 x3] 151)).alloc (.cells #[.int .i64 0,.int .i64 0,.int .i64 0,.int .i64 0,.int .i64 0,.int .i64 0] 71)):=(by repeat (first | exact Below.refl _ _ | assumption | refine Below.drew ?_ | refine below_drewN ?_ _ | refine aj ?_ _ | refine Below.setCell ?_ (by first | (simp;done) | omega | (simp;omega)) _ | refine aA ?_ (by assumption)));have hl2:w.heap.size≤g2:=by omega
 rw[←hg2,←hg1];generalize (w.alloc (.cells #[.int .i64 x0,.int .i64 x1,.int .i64 x2,.int .i64 x3] 151)).alloc (.cells #[.int .i64 0,.int .i64 0,.int .i64 0,.int .i64 0,.int .i64 0,.int .i64 0] 71)=W at J1 J2 hB⊢;clear hg1 hg2;have k0:W.cell? ⟨g1,0,none⟩=some (.int .i64 x0):=J1.cell 0;have k1:W.cell? ⟨g1,1,none⟩=some (.int .i64 x1):=J1.cell 1;have k2:W.cell? ⟨g1,2,none⟩=some (.int .i64 x2):=J1.cell 2;have k3:W.cell? ⟨g1,3,none⟩=some (.int .i64 x3):=J1.cell 3;refine aF 21 [some (.int .i64 id),some (.int .i64 p0),some (.pointer (some ⟨g1,0,none⟩)),some (.int .i64 x0),some (.int .i64 p1),some (.pointer (some ⟨g1,1,none⟩)),some (.int .i64 x1),some (.int .i64 p2),some (.agg #[.int .i64 p1,.int .i64 p2]),some (.pointer (some ⟨g1,2,none⟩)),some (.int .i64 x2),some (.int .i64 p3),some (.pointer (some ⟨g1,3,none⟩)),some (.int .i64 x3),some (.int .i64 p4),some (.int .i64 (1+p4)),some (.pointer (some ⟨g1,3,none⟩)),some (.int .i64 x3),some (.int .i64 xd),some (.int .i64 p5),some (.agg #[.int .i64 p0,.int .i64 p1,.int .i64 p2,.int .i64 p3,.int .i64 (1+p4),.int .i64 p5])] [] ?_ ?_ ?_
 ·trivial
 ·refine⟨?_,?x1,?_,?_,?x4,?_,?_,?x7,?_,?_,?_,?x11,?_,?_,?x14,?_,?_,?_,?_,?x19,?_,trivial⟩
  case x1 =>
   intro vals w1 hx hd;clear hd;simp only[Lf,au,Act.put,bH,bG];go_wp2_with fail;refine (Qp.out _).mono ?_;rintro e w2 ⟨rfl,rfl⟩;go_wp2;exact q_
  case x4 =>
   intro vals w1 hx hd;clear hd;simp only[Lf,au,Act.put,bH,bG];go_wp2_with fail;refine (wV.out _).mono ?_;rintro e w2 ⟨rfl,rfl⟩;go_wp2;exact q_
  case x7 =>
   intro vals w1 hx hd;clear hd;simp only[Lf,au,Act.put,bH,bG];go_wp2_with fail;refine (HP2.out _).mono ?_;rintro e w2 ⟨rfl,rfl⟩;go_wp2;exact q_
  case x11 =>
   intro vals w1 hx hd;clear hd;simp only[Lf,au,Act.put,bH,bG];go_wp2_with fail;refine (Vk.out _).mono ?_;rintro e w2 ⟨rfl,rfl⟩;go_wp2;exact q_
  case x14 =>
   intro vals w1 hx hd;clear hd;simp only[Lf,au,Act.put,bH,bG];go_wp2_with fail;refine (Vl.out _).mono ?_;rintro e w2 ⟨rfl,rfl⟩;go_wp2;exact q_
  case x19 =>
   intro vals w1 hx hd;clear hd;simp only[Lf,au,Act.put,bH,bG];go_wp2_with fail;refine (Vm.out _).mono ?_;rintro e w2 ⟨rfl,rfl⟩;go_wp2;exact q_
  all_goals
   intro vals w1 hx hd;clear hd;simp only[Lf,au,Act.put,bH,bG];have k0:=ah hx k0;have k1:=ah hx k1;have k2:=ah hx k2;have k3:=ah hx k3;go_wp2;exact iq
 intro vals w3 hx hf;have e20:vals 20=.agg #[.int .i64 p0,.int .i64 p1,.int .i64 p2,.int .i64 p3,.int .i64 (1+p4),.int .i64 p5]:=hf 20 (by omega);have hx:=hx.aH;have J2:=J2.ext hx;have hB3:=aA hB hx;clear hf hx J1 k0 k1 k2 k3;refine eP 21 _ (by kernel_rfl) (by kernel_rfl) rfl ?_;simp only[Lf,au,Act.put,FR_];rw[e20];clear e20;refine wpList_store_row rfl 71 _ _ rfl g2 #[.int .i64 p0,.int .i64 p1,.int .i64 p2,.int .i64 p3,.int .i64 (1+p4),.int .i64 p5] rfl rfl 71 _ J2 Dw rfl (by simp[Value.oneCell']) ?_;have J2:=J2.row #[.int .i64 p0,.int .i64 p1,.int .i64 p2,.int .i64 p3,.int .i64 (1+p4),.int .i64 p5];have hB3:=below_setRow hB3 (g:=g2) hl2 #[.int .i64 p0,.int .i64 p1,.int .i64 p2,.int .i64 p3,.int .i64 (1+p4),.int .i64 p5];generalize w3.setRow g2 #[.int .i64 p0,.int .i64 p1,.int .i64 p2,.int .i64 p3,.int .i64 (1+p4),.int .i64 p5]=w9 at J2 hB3⊢;have c0:=J2.cell 0;have c1:=J2.cell 1;have c2:=J2.cell 2;have c3:=J2.cell 3;have c4:=J2.cell 4;have c5:=J2.cell 5;go_wp2;exact bodyPost_ret (v:=.agg #[.int .i64 p0,.int .i64 p1,.int .i64 p2,.int .i64 p3,.int .i64 (1+p4),.int .i64 p5]) (by simp[results,Tryz.results93,go_sem,c0,c1,c2,c3,c4,c5]) rfl ⟨rfl,hB3⟩
end Go.Proofs.YtjidhhfabfnhnaaGreat
