/- Lists of structs in memory: a slice whose elements are so many cells each. -/
import Derived.Test.YtjidhhfabfnhnaaGreatT03
import Derived.Test.YtjidhhfabfnhnaaGreatT01
import Derived.Test.YtjidhhfabfnhnaaGreatT02
namespace Go.Proofs.YtjidhhfabfnhnaaGreat
open Go.RowKit
structure wU where
 n:Int
 lo:Int
 hi:Int
def eF (b:wU):List Value:=[.int .i64 b.n,.int .i64 b.lo,.int .i64 b.hi]
def lS (b:wU):Bool:=!inB b.n b.lo b.hi
def yQ (p:wU→Bool):List wU→Int→Int
 |[],_=>-1
 |x::r,k=>if p x then k else yQ p r (k+1)
theorem QJ (p:wU→Bool) (l:List wU) (k:Int) (hk:0≤k):(0≤yQ p l k)=(l.any p=true):=by
 induction l generalizing k with
 |nil=>simp[yQ]
 |cons x r ih =>
  unfold yQ;cases hx:p x
  ·simp[hx,ih (k+1) (by omega)]
  ·simp[hx,hk]
theorem Oi (p:wU→Bool) (l:List wU) (k:Nat) (h:k<l.length):yQ p (l.drop k) k=if p l[k] then (k:Int) else yQ p (l.drop (k+1)) (k+1:Nat):=by
 rw[List.drop_eq_getElem_cons h,yQ]
 split<;>simp
def lX (w:World) (b:Nat) (l:List wU):Prop:=∀k (h:k<l.length),w.cell? ⟨b,k*3,none⟩=some (.int .i64 l[k].n)∧w.cell? ⟨b,k*3+1,none⟩=some (.int .i64 l[k].lo)∧w.cell? ⟨b,k*3+2,none⟩=some (.int .i64 l[k].hi)
theorem lX.below {w w':World} {b B:Nat} {l:List wU} (h:lX w b l) (hb:Below B w w') (hB:b<B):lX w' b l:=fun k hk=>by
 obtain⟨h1,h2,h3⟩:=h k hk;exact⟨(hb.cell (p:=⟨b,k*3,none⟩) hB).trans h1,(hb.cell (p:=⟨b,k*3+1,none⟩) hB).trans h2,(hb.cell (p:=⟨b,k*3+2,none⟩) hB).trans h3⟩
theorem JK (x lo hi:Int) (w:World) :
  Calls Tryz.prog 156 #[.agg #[.int .i64 x,.int .i64 lo,.int .i64 hi]] w fun e w'=>e=.returned (.bool (!inB x lo hi))∧Below w.heap.size w w':=by
 go_enter Tryz.func156,Tryz.ntmps156;go_wp2_with (go_at_call 157;refine (QG _ _ _ _).mono ?_;rintro e w' ⟨rfl,rfl⟩);go_ret;exact⟨by simp,(by repeat (first | exact Below.refl _ _ | assumption | refine Below.drew ?_ | refine below_drewN ?_ _ | refine aj ?_ _ | refine Below.setCell ?_ (by first | (simp;done) | omega | (simp;omega)) _ | refine aA ?_ (by assumption)))⟩
theorem QK (l:List wU) (b n c:Nat) (w:World) (hl:l.length=n) (h:lX w b l) (hb:b<w.heap.size) (hn:n≤1099511627776) :
  Calls Tryz.prog 166 #[.slice (some ⟨b,0,none⟩) n c,.func (.func 156) #[] #[]] w
   fun e w'=>e=.returned (.int .i64 (yQ lS l 0))∧Below w.heap.size w w':=by
 have HL:=Lib.hid hl;have HB:=Lib.hid h;clear hl h;go_enter Tryz.func166,Tryz.ntmps166;go_wp2;go_loopw [8] (fun i wr=>∃k:Nat,k≤n∧i=.int .i64 k∧Hid (yQ lS l 0=yQ lS (l.drop k) k)∧Below w.heap.size w wr) (fun i _=>n-(intOf i).toNat)
 case atStart=>exact⟨0,Nat.zero_le _,rfl,rfl,Below.refl _ _⟩
 case round =>
  obtain⟨k,hk,rfl,H,hB⟩:=hrel;by_cases hlt:k<n
  ·have hz:k<l.length:=by rw[HL.out];exact hlt
   obtain⟨f0,f1,f2⟩:=(HB.out.below hB hb) k hz;have hst:=Oi lS l k hz;rw[←H.out]at hst;have he:lS l[k]=!inB l[k].n l[k].lo l[k].hi:=rfl;rw[he]at hst;have HF:=Lib.hid (JK l[k].n l[k].lo l[k].hi);clear he;generalize inB l[k].n l[k].lo l[k].hi=q at hst HF;generalize l[k].n=x at f0 HF;generalize l[k].lo=lo at f1 HF;generalize l[k].hi=hi at f2 HF;have HS:=Lib.hid hst;clear hst hz;go_wp2_with fail;refine (HF.out _).mono ?_;rintro e w2 ⟨rfl,hb2⟩;have hB2:Below w.heap.size w w2:=aA hB hb2;cases q
   ·go_wp2;go_ret;exact⟨by rw[HS.out];simp,hB2⟩
   ·go_wp2;go_roundw
    case rel=>exact⟨k+1,by omega,by go_num,HS.out.trans (by simp),hB2⟩
    case measure=>simp[intOf];omega
  ·go_wp2;go_ret;exact⟨by rw[H.out,List.drop_of_length_le (by rw[HL.out];omega)];rfl,hB⟩
end Go.Proofs.YtjidhhfabfnhnaaGreat
namespace Go.Proofs.YtjidhhfabfnhnaaGreat
open Go.RowKit
theorem GR (l:List wU) (b n c:Nat) (w:World) (hl:l.length=n) (h:lX w b l) (hb:b<w.heap.size) (hn:n≤1099511627776) :
  Calls Tryz.prog 155 #[.slice (some ⟨b,0,none⟩) n c,.func (.func 156) #[] #[]] w
   fun e w'=>e=.returned (.bool (l.any lS))∧Below w.heap.size w w':=by
 have hf:=QK l b n c w hl h hb hn;have hbb:l.any lS=decide (0≤yQ lS l 0):=by
  rw[Bool.eq_iff_iff,←QJ _ _ 0 (by omega),decide_eq_true_iff]
 rw[hbb];generalize yQ lS l 0=r at hf;have HF:=Lib.hid hf;clear hf hbb h hl;go_enter Tryz.func155,Tryz.ntmps155;go_wp2_with (go_at_call 166;refine HF.out.mono ?_;rintro e w' ⟨rfl,hb'⟩);go_ret;exact⟨rfl,(by repeat (first | exact Below.refl _ _ | assumption | refine Below.drew ?_ | refine below_drewN ?_ _ | refine aj ?_ _ | refine Below.setCell ?_ (by first | (simp;done) | omega | (simp;omega)) _ | refine aA ?_ (by assumption)))⟩
theorem oN (l:List wU) (b n c:Nat) (w:World) (hl:l.length=n) (h:lX w b l) (hb:b<w.heap.size) (hn:n≤1099511627776) :
  Calls Tryz.prog 122 #[.slice (some ⟨b,0,none⟩) n c] w
   fun e w'=>e=.returned (.bool (l.all fun x=>inB x.n x.lo x.hi))∧Below w.heap.size w w':=by
 have hf:=GR l b n c w hl h hb hn;have hbb:(l.all fun x=>inB x.n x.lo x.hi)=!(l.any lS):=by
  rw[List.any_eq_not_all_not,Bool.not_not];simp[lS]
 rw[hbb];generalize l.any lS=r at hf;have HF:=Lib.hid hf;clear hf hbb h hl;go_enter Tryz.func122,Tryz.ntmps122;go_wp2_with (go_at_call 155;refine HF.out.mono ?_;rintro e w' ⟨rfl,hb'⟩);go_ret;exact⟨by simp,(by repeat (first | exact Below.refl _ _ | assumption | refine Below.drew ?_ | refine below_drewN ?_ _ | refine aj ?_ _ | refine Below.setCell ?_ (by first | (simp;done) | omega | (simp;omega)) _ | refine aA ?_ (by assumption)))⟩
theorem lX.VQ {w:World} {b:Nat} {t:TypeId} {b0 b1 b2 b3:wU} (h:aG w b t (eF b0++eF b1++eF b2++eF b3).toArray):lX w b [b0,b1,b2,b3]:=fun k hk=>by
 have hk:k<4:=hk
 match k,hk with
 |0,_=>exact⟨h.cell 0,h.cell 1,h.cell 2⟩
 |1,_=>exact⟨h.cell 3,h.cell 4,h.cell 5⟩
 |2,_=>exact⟨h.cell 6,h.cell 7,h.cell 8⟩
 |3,_=>exact⟨h.cell 9,h.cell 10,h.cell 11⟩
end Go.Proofs.YtjidhhfabfnhnaaGreat
namespace Go.Proofs.YtjidhhfabfnhnaaGreat
open Go.RowKit
theorem CO (id x y re an sk:Int) (w:World) :
  Calls Tryz.prog 62 #[.agg #[.int .i64 id,.int .i64 x,.int .i64 y,.int .i64 re,.int .i64 an,.int .i64 sk]] w fun e w'=>e=.returned (.bool (fZ ⟨id,⟨x,y⟩,re,an,sk⟩))∧Below w.heap.size w w':=by
 have hs:fZ ⟨id,⟨x,y⟩,re,an,sk⟩=(([⟨id,0,11⟩,⟨re,0,6⟩,⟨an,1,8⟩,⟨sk,0,30⟩]:List wU).all (fun b=>inB b.n b.lo b.hi)&&jk ⟨x,y⟩):=by
  simp only[fZ,List.all_cons,List.all_nil,Bool.and_true];generalize inB id 0 11=a;generalize inB re 0 6=b;generalize inB an 1 8=c;generalize inB sk 0 30=d;generalize jk ⟨x,y⟩=e
  revert a b c d e
  decide
 rw[hs];clear hs;generalize ha:([⟨id,0,11⟩,⟨re,0,6⟩,⟨an,1,8⟩,⟨sk,0,30⟩]:List wU).all (fun b=>inB b.n b.lo b.hi)=a;have HA:=Lib.hid ha;clear ha;have V:=jc x y;generalize jk ⟨x,y⟩=q at V⊢;have HV:=Lib.hid V;clear V;go_enter Tryz.func62,Tryz.ntmps62;go_wp2_with fail;have K:aG ((w.alloc (.cells #[.int .i64 id,.int .i64 x,.int .i64 y,.int .i64 re,.int .i64 an,.int .i64 sk] 71)).alloc (.cells #[.int .i64 id,.int .i64 0,.int .i64 11,.int .i64 re,.int .i64 0,.int .i64 6,.int .i64 an,.int .i64 1,.int .i64 8,.int .i64 sk,.int .i64 0,.int .i64 30] 189)) w.heap.size 71 #[.int .i64 id,.int .i64 x,.int .i64 y,.int .i64 re,.int .i64 an,.int .i64 sk]:=(aG.new _ _ _).alloc _;have K2:aG ((w.alloc (.cells #[.int .i64 id,.int .i64 x,.int .i64 y,.int .i64 re,.int .i64 an,.int .i64 sk] 71)).alloc (.cells #[.int .i64 id,.int .i64 0,.int .i64 11,.int .i64 re,.int .i64 0,.int .i64 6,.int .i64 an,.int .i64 1,.int .i64 8,.int .i64 sk,.int .i64 0,.int .i64 30] 189)) (w.heap.size+1) 189 #[.int .i64 id,.int .i64 0,.int .i64 11,.int .i64 re,.int .i64 0,.int .i64 6,.int .i64 an,.int .i64 1,.int .i64 8,.int .i64 sk,.int .i64 0,.int .i64 30]:=by
  have k:=aG.new (w.alloc (.cells #[.int .i64 id,.int .i64 x,.int .i64 y,.int .i64 re,.int .i64 an,.int .i64 sk] 71)) 189 #[.int .i64 id,.int .i64 0,.int .i64 11,.int .i64 re,.int .i64 0,.int .i64 6,.int .i64 an,.int .i64 1,.int .i64 8,.int .i64 sk,.int .i64 0,.int .i64 30];rw[World.size_alloc]at k;exact k
 have hb:Below w.heap.size w ((w.alloc (.cells #[.int .i64 id,.int .i64 x,.int .i64 y,.int .i64 re,.int .i64 an,.int .i64 sk] 71)).alloc (.cells #[.int .i64 id,.int .i64 0,.int .i64 11,.int .i64 re,.int .i64 0,.int .i64 6,.int .i64 an,.int .i64 1,.int .i64 8,.int .i64 sk,.int .i64 0,.int .i64 30] 189)):=(by repeat (first | exact Below.refl _ _ | assumption | refine Below.drew ?_ | refine below_drewN ?_ _ | refine aj ?_ _ | refine Below.setCell ?_ (by first | (simp;done) | omega | (simp;omega)) _ | refine aA ?_ (by assumption)));generalize (w.alloc (.cells #[.int .i64 id,.int .i64 x,.int .i64 y,.int .i64 re,.int .i64 an,.int .i64 sk] 71)).alloc (.cells #[.int .i64 id,.int .i64 0,.int .i64 11,.int .i64 re,.int .i64 0,.int .i64 6,.int .i64 an,.int .i64 1,.int .i64 8,.int .i64 sk,.int .i64 0,.int .i64 30] 189)=W at K K2 hb⊢;refine (oN [⟨id,0,11⟩,⟨re,0,6⟩,⟨an,1,8⟩,⟨sk,0,30⟩] (w.heap.size+1) 4 4 W rfl (lX.VQ K2) K2.lt (by omega)).mono ?_;rintro e W2 ⟨rfl,hb2⟩;have K:=K.below hb2 (by have:=K.lt;omega);have hB2:Below w.heap.size w W2:=hb.trans (Below.mono hb2 hb.size);clear K2 hb hb2;have g1:W2.cell? ⟨w.heap.size,1,none⟩=some (.int .i64 x):=K.cell 1;have g2:W2.cell? ⟨w.heap.size,2,none⟩=some (.int .i64 y):=K.cell 2;clear K;rw[HA.out];clear HA;cases a
 ·go_wp2;go_ret;exact⟨by simp,hB2⟩
 ·go_wp2_with fail;refine (HV.out _).mono ?_;rintro e W3 ⟨rfl,hb3⟩;have hB3:Below w.heap.size w W3:=aA hB2 hb3;go_wp2;go_ret;exact⟨by simp,hB3⟩
end Go.Proofs.YtjidhhfabfnhnaaGreat
namespace Go.Proofs.YtjidhhfabfnhnaaGreat
open Go.RowKit
theorem JL (a b:Int) (w:World) :
  Calls Tryz.prog 88 #[.agg #[.int .i64 a,.int .i64 b]] w fun e w'=>e=.returned (.bool (gV ⟨a,b⟩))∧Below w.heap.size w w':=by
 by_cases h:0≤a∧a<b∧b≤1000001
 ·obtain⟨h1,h2,h3⟩:=h;have hs:gV ⟨a,b⟩=decide (b-a≤4320):=by simp[gV,h1,h2,h3]
  rw[hs];clear hs;go_enter Tryz.func88,Tryz.ntmps88;go_wp2;go_ret;exact⟨by simp[*],(by repeat (first | exact Below.refl _ _ | assumption | refine Below.drew ?_ | refine below_drewN ?_ _ | refine aj ?_ _ | refine Below.setCell ?_ (by first | (simp;done) | omega | (simp;omega)) _ | refine aA ?_ (by assumption)))⟩
 ·have hs:gV ⟨a,b⟩=false:=by
   simp only[gV,decide_eq_false_iff_not];omega
  rw[hs];clear hs;by_cases h1:0≤a
  ·by_cases h2:a<b
   ·have h3:¬b≤1000001:=by omega
    clear h;go_enter Tryz.func88,Tryz.ntmps88;go_wp2;go_ret;exact⟨by simp[*],(by repeat (first | exact Below.refl _ _ | assumption | refine Below.drew ?_ | refine below_drewN ?_ _ | refine aj ?_ _ | refine Below.setCell ?_ (by first | (simp;done) | omega | (simp;omega)) _ | refine aA ?_ (by assumption)))⟩
   ·clear h;go_enter Tryz.func88,Tryz.ntmps88;go_wp2;go_ret;exact⟨by simp[*],(by repeat (first | exact Below.refl _ _ | assumption | refine Below.drew ?_ | refine below_drewN ?_ _ | refine aj ?_ _ | refine Below.setCell ?_ (by first | (simp;done) | omega | (simp;omega)) _ | refine aA ?_ (by assumption)))⟩
  ·clear h;go_enter Tryz.func88,Tryz.ntmps88;go_wp2;go_ret;exact⟨by simp[*],(by repeat (first | exact Below.refl _ _ | assumption | refine Below.drew ?_ | refine below_drewN ?_ _ | refine aj ?_ _ | refine Below.setCell ?_ (by first | (simp;done) | omega | (simp;omega)) _ | refine aA ?_ (by assumption)))⟩
end Go.Proofs.YtjidhhfabfnhnaaGreat
namespace Go.Proofs.YtjidhhfabfnhnaaGreat
open Go.RowKit
def Yt:Option Bool→Value
 |none=>.tuple #[.bool false,.int .i64 90]
 |some b=>.tuple #[.bool b,.int .i64 0]
end Go.Proofs.YtjidhhfabfnhnaaGreat
namespace Go.Proofs.YtjidhhfabfnhnaaGreat
open Go.RowKit
end Go.Proofs.YtjidhhfabfnhnaaGreat
namespace Go.Proofs.YtjidhhfabfnhnaaGreat
open Go.RowKit Go.Shelf
attribute [local go_sem] Oper.semAt_some
theorem aG.bC {g:Nat} (w:World) (t:TypeId) (cs:Array Value) (h:w.heap.size=g):aG (w.alloc (.cells cs t)) g t cs:=by subst h;exact aG.new w t cs
theorem JM (a b:Int) (g:Nat) (caps:Array Value) (w:World) :
  Calls Tryz.prog 90 #[.int .i64 a,.int .i64 b,.func (.func g) #[] caps] w fun e w'=>e=.returned (.func (.func 141) #[] #[.pointer (some ⟨w.heap.size,0,none⟩),.pointer (some ⟨w.heap.size+1,0,none⟩),.pointer (some ⟨w.heap.size+1+1,0,none⟩)]) ∧
   w'=((w.alloc (.cells #[.int .i64 a] 3)).alloc (.cells #[.int .i64 b] 3)).alloc (.cells #[.func (.func g) #[] caps] 147):=by
 go_enter Tryz.func90,Tryz.ntmps90;go_wp2;go_ret;exact⟨rfl,rfl⟩
def SpellsRet (r:Option (List iO)) (w:World) (e:Ending) (w':World):Prop:=match r with
 |none=>e=.returned (.tuple #[.slice none 0 0,.int .i64 90])∧Below w.heap.size w w'
 |some l=>∃v,e=.returned (.tuple #[v,.int .i64 0])∧w'.ownsRow w.heap.size 32 2 v l.length (l.flatMap GN)∧Below w.heap.size w w'
structure CtI (w:World) (B0 gu:Nat) (pre:List uN) (W:World):Prop where
 row:∃v,aG W gu 82 #[v]∧W.ownsRow B0 32 2 v pre.length ((pre.map (·.1)).flatMap GN)∧(pre.length=0→v=.slice none 0 0)
 below:Below w.heap.size w W
 size:B0≤W.heap.size
end Go.Proofs.YtjidhhfabfnhnaaGreat
namespace Go.Proofs.YtjidhhfabfnhnaaGreat
open Go.RowKit
theorem wX (a:Int) (w:World):Calls Tryz.prog 149 #[.int .i64 a] w fun e w'=>e=.returned (.bool false)∧w=w':=by
 go_enter Tryz.func149,Tryz.ntmps149;go_wp2;go_ret;exact⟨rfl,rfl⟩
theorem lg (a b:Int) (w:World):Calls Tryz.prog 108 #[.int .i64 a,.int .i64 b] w fun e w'=>e=.returned (.int .i64 (iL a b))∧w=w':=by
 by_cases h1:a<b
 ·have hc:iL a b = -1:=by simp[iL,h1]
  rw[hc];clear hc;go_enter Tryz.func108,Tryz.ntmps108;go_wp2_with (go_at_call 149;refine (wX _ _).mono ?_;rintro e w' ⟨rfl,rfl⟩);go_ret;exact⟨rfl,rfl⟩
 ·by_cases h2:b<a
  ·have hc:iL a b=1:=by simp[iL,h1,h2]
   rw[hc];clear hc;go_enter Tryz.func108,Tryz.ntmps108;go_wp2_with (go_at_call 149;refine (wX _ _).mono ?_;rintro e w' ⟨rfl,rfl⟩);go_ret;exact⟨rfl,rfl⟩
  ·have hc:iL a b=0:=by simp[iL,h1,h2]
   rw[hc];clear hc;go_enter Tryz.func108,Tryz.ntmps108;go_wp2_with (go_at_call 149;refine (wX _ _).mono ?_;rintro e w' ⟨rfl,rfl⟩);go_ret;exact⟨rfl,rfl⟩
def JQ:List Int→Int
 |[]=>0
 |x::r=>if (x != 0)=true then x else JQ r
theorem aG.ints {w:World} {g:Nat} {t:TypeId} {cs:Array Value} {l:List Int} (h:aG w g t cs) (hc:cs.toList=l.map (Value.int .i64)):∀k (hk:k<l.length),w.cell? ⟨g,k,none⟩=some (.int .i64 l[k]):=fun k hk=>by
 rw[h.cell,←Array.getElem?_toList,hc];simp[hk]
theorem QM (l:List Int) (b n c:Nat) (w:World) (hl:l.length=n) (hn:n≤1000) (hc:∀k (hk:k<l.length),w.cell? ⟨b,k,none⟩=some (.int .i64 l[k])) :
  Calls Tryz.prog 107 #[.slice (some ⟨b,0,none⟩) n c] w fun e w'=>e=.returned (.int .i64 (JQ l))∧w=w':=by
 have HL:=Lib.hid hl;have HC:=Lib.hid hc;clear hl hc;go_enter Tryz.func107,Tryz.ntmps107;go_wp2;go_loop [8] (fun i=>∃k:Nat,k≤n∧i=.int .i64 k∧Hid (JQ l=JQ (l.drop k))) (fun i=>n-(intOf i).toNat)
 case atStart=>exact⟨0,Nat.zero_le _,rfl,rfl⟩
 case round =>
  obtain⟨k,hk,rfl,H⟩:=hrel;by_cases hlt:k<n
  ·have hz:k<l.length:=by rw[HL.out];exact hlt
   have f0:=HC.out k hz;have hst:JQ l=if (l[k] != 0)=true then l[k] else JQ (l.drop (k+1)):=by rw[H.out,List.drop_eq_getElem_cons hz,JQ]
   generalize l[k]=x at f0 hst;cases hx:(x != 0)
   ·rw[hx]at hst;have hx2:(x==0)=true:=by simpa using hx
    have HS:=Lib.hid hst;have H0:=Lib.hid hx;clear hst;go_wp2;go_round
    case rel=>exact⟨k+1,by omega,by go_num,HS.out.trans (if_neg (by simp))⟩
    case measure=>simp[intOf];omega
   ·rw[hx]at hst;have hx2:(x==0)=false:=by simpa using hx
    have HS:=Lib.hid hst;clear hst;go_wp2;go_ret;exact⟨by rw[HS.out];simp,rfl⟩
  ·go_wp2;go_ret;exact⟨by rw[H.out,List.drop_of_length_le (by rw[HL.out];omega)];rfl,rfl⟩
theorem orL5 (c0 c1 c2 c3 c4:Int):JQ [c0,c1,c2,c3,c4]=Nh c0 (Nh c1 (Nh c2 (Nh c3 c4))):=by
 simp only[JQ,Nh,bne_iff_ne];by_cases h:c4=0<;>simp[h]
set_option maxHeartbeats 1000000 in
theorem GU (oO oP aa ab ac ad oQ oU ba bb bc bd:Int) (w:World) :
  Calls Tryz.prog 68 #[.agg #[.int .i64 oO,.int .i64 oP,.int .i64 aa,.int .i64 ab,.int .i64 ac,.int .i64 ad],.agg #[.int .i64 oQ,.int .i64 oU,.int .i64 ba,.int .i64 bb,.int .i64 bc,.int .i64 bd]] w fun e w'=>e=.returned (.int .i64 (aU ⟨oO,oP,⟨aa,ab⟩,⟨ac,ad⟩⟩ ⟨oQ,oU,⟨ba,bb⟩,⟨bc,bd⟩⟩))∧Below w.heap.size w w':=by
 have hr:aU ⟨oO,oP,⟨aa,ab⟩,⟨ac,ad⟩⟩ ⟨oQ,oU,⟨ba,bb⟩,⟨bc,bd⟩⟩=JQ [iL ac bc,iL oO oQ,iL oP oU,iL aa ba,iL ad bd]:=(orL5 _ _ _ _ _).symm;rw[hr];clear hr;generalize h0:iL ac bc=c0;generalize h1:iL oO oQ=c1;generalize h2:iL oP oU=c2;generalize h3:iL aa ba=c3;generalize h4:iL ad bd=c4;have Vj:=Lib.hid h0;have HC1:=Lib.hid h1;have HC2:=Lib.hid h2;have HC3:=Lib.hid h3;have HC4:=Lib.hid h4;clear h0 h1 h2 h3 h4;go_enter Tryz.func68,Tryz.ntmps68;go_wp2_with fail;have K1:aG ((w.alloc (.cells #[.int .i64 oO,.int .i64 oP,.int .i64 aa,.int .i64 ab,.int .i64 ac,.int .i64 ad] 75)).alloc (.cells #[.int .i64 oQ,.int .i64 oU,.int .i64 ba,.int .i64 bb,.int .i64 bc,.int .i64 bd] 75)) w.heap.size 75 #[.int .i64 oO,.int .i64 oP,.int .i64 aa,.int .i64 ab,.int .i64 ac,.int .i64 ad]:=(aG.new _ _ _).alloc _;have K2:aG ((w.alloc (.cells #[.int .i64 oO,.int .i64 oP,.int .i64 aa,.int .i64 ab,.int .i64 ac,.int .i64 ad] 75)).alloc (.cells #[.int .i64 oQ,.int .i64 oU,.int .i64 ba,.int .i64 bb,.int .i64 bc,.int .i64 bd] 75)) (w.heap.size+1) 75 #[.int .i64 oQ,.int .i64 oU,.int .i64 ba,.int .i64 bb,.int .i64 bc,.int .i64 bd]:=aG.bC _ _ _ (by simp);have hB:Below w.heap.size w ((w.alloc (.cells #[.int .i64 oO,.int .i64 oP,.int .i64 aa,.int .i64 ab,.int .i64 ac,.int .i64 ad] 75)).alloc (.cells #[.int .i64 oQ,.int .i64 oU,.int .i64 ba,.int .i64 bb,.int .i64 bc,.int .i64 bd] 75)):=(by repeat (first | exact Below.refl _ _ | assumption | refine Below.drew ?_ | refine below_drewN ?_ _ | refine aj ?_ _ | refine Below.setCell ?_ (by first | (simp;done) | omega | (simp;omega)) _ | refine aA ?_ (by assumption)));generalize (w.alloc (.cells #[.int .i64 oO,.int .i64 oP,.int .i64 aa,.int .i64 ab,.int .i64 ac,.int .i64 ad] 75)).alloc (.cells #[.int .i64 oQ,.int .i64 oU,.int .i64 ba,.int .i64 bb,.int .i64 bc,.int .i64 bd] 75)=W at K1 K2 hB⊢;have g0:W.cell? ⟨w.heap.size,0,none⟩=some (.int .i64 oO):=K1.cell 0;have g1:W.cell? ⟨w.heap.size,1,none⟩=some (.int .i64 oP):=K1.cell 1;have g2:W.cell? ⟨w.heap.size,2,none⟩=some (.int .i64 aa):=K1.cell 2;have g3:W.cell? ⟨w.heap.size,3,none⟩=some (.int .i64 ab):=K1.cell 3;have g4:W.cell? ⟨w.heap.size,4,none⟩=some (.int .i64 ac):=K1.cell 4;have g5:W.cell? ⟨w.heap.size,5,none⟩=some (.int .i64 ad):=K1.cell 5;have k0:W.cell? ⟨(w.heap.size+1),0,none⟩=some (.int .i64 oQ):=K2.cell 0;have k1:W.cell? ⟨(w.heap.size+1),1,none⟩=some (.int .i64 oU):=K2.cell 1;have k2:W.cell? ⟨(w.heap.size+1),2,none⟩=some (.int .i64 ba):=K2.cell 2;have k3:W.cell? ⟨(w.heap.size+1),3,none⟩=some (.int .i64 bb):=K2.cell 3;have k4:W.cell? ⟨(w.heap.size+1),4,none⟩=some (.int .i64 bc):=K2.cell 4;have k5:W.cell? ⟨(w.heap.size+1),5,none⟩=some (.int .i64 bd):=K2.cell 5;refine aF 33 [some (.pointer (some ⟨w.heap.size,4,none⟩)),some (.pointer (some ⟨w.heap.size,4,none⟩)),some (.int .i64 ac),some (.pointer (some ⟨w.heap.size+1,4,none⟩)),some (.pointer (some ⟨w.heap.size+1,4,none⟩)),some (.int .i64 bc),some (.int .i64 c0),some (.pointer (some ⟨w.heap.size,0,none⟩)),some (.int .i64 oO),some (.pointer (some ⟨w.heap.size+1,0,none⟩)),some (.int .i64 oQ),some (.int .i64 c1),some (.pointer (some ⟨w.heap.size,1,none⟩)),some (.int .i64 oP),some (.pointer (some ⟨w.heap.size+1,1,none⟩)),some (.int .i64 oU),some (.int .i64 c2),some (.pointer (some ⟨w.heap.size,2,none⟩)),some (.pointer (some ⟨w.heap.size,2,none⟩)),some (.int .i64 aa),some (.pointer (some ⟨w.heap.size+1,2,none⟩)),some (.pointer (some ⟨w.heap.size+1,2,none⟩)),some (.int .i64 ba),some (.int .i64 c3),some (.pointer (some ⟨w.heap.size,4,none⟩)),some (.pointer (some ⟨w.heap.size,5,none⟩)),some (.int .i64 ad),some (.pointer (some ⟨w.heap.size+1,4,none⟩)),some (.pointer (some ⟨w.heap.size+1,5,none⟩)),some (.int .i64 bd),some (.int .i64 c4),none,some (.int .i64 (JQ [c0,c1,c2,c3,c4]))] [(31,.w fun v w1=>∃g,v=.slice (some ⟨g,0,none⟩) 5 5∧aG w1 g 3 #[.int .i64 c0,.int .i64 c1,.int .i64 c2,.int .i64 c3,.int .i64 c4])] ?_ ?_ ?_
 ·refine⟨?_,trivial⟩
  ·intro v w1 w2 hr hx;obtain⟨g,h1,h2⟩:=hr;exact⟨g,h1,h2.ext hx⟩
 ·refine⟨?_,?_,?_,?_,?_,?_,?x6,?_,?_,?_,?_,?x11,?_,?_,?_,?_,?x16,?_,?_,?_,?_,?_,?_,?x23,?_,?_,?_,?_,?_,?_,?x30,?x31,?x32,trivial⟩
  case x6 =>
   intro vals w1 hx hd;clear hd;simp only[Lf,au,Act.put,bH,bG];go_wp2_with fail;refine (lg ac bc _).mono ?_;rintro e w2 ⟨rfl,rfl⟩;rw[Vj.out];go_wp2;exact q_
  case x11 =>
   intro vals w1 hx hd;clear hd;simp only[Lf,au,Act.put,bH,bG];go_wp2_with fail;refine (lg oO oQ _).mono ?_;rintro e w2 ⟨rfl,rfl⟩;rw[HC1.out];go_wp2;exact q_
  case x16 =>
   intro vals w1 hx hd;clear hd;simp only[Lf,au,Act.put,bH,bG];go_wp2_with fail;refine (lg oP oU _).mono ?_;rintro e w2 ⟨rfl,rfl⟩;rw[HC2.out];go_wp2;exact q_
  case x23 =>
   intro vals w1 hx hd;clear hd;simp only[Lf,au,Act.put,bH,bG];go_wp2_with fail;refine (lg aa ba _).mono ?_;rintro e w2 ⟨rfl,rfl⟩;rw[HC3.out];go_wp2;exact q_
  case x30 =>
   intro vals w1 hx hd;clear hd;simp only[Lf,au,Act.put,bH,bG];go_wp2_with fail;refine (lg ad bd _).mono ?_;rintro e w2 ⟨rfl,rfl⟩;rw[HC4.out];go_wp2;exact q_
  case x31 =>
   intro vals w1 hx hd;clear hd;simp only[Lf,au,Act.put,bH,bG];go_wp2;exact⟨rfl,(by repeat (first | exact Below.refl _ _ | assumption | refine Below.drew ?_ | refine below_drewN ?_ _ | refine aj ?_ _ | refine Below.setCell ?_ (by first | (simp;done) | omega | (simp;omega)) _ | refine aA ?_ (by assumption))),_,rfl,aG.new _ _ _⟩
  case x32 =>
   intro vals w1 hx hd;have r31:(fun v w1=>∃g,v=.slice (some ⟨g,0,none⟩) 5 5∧aG w1 g 3 #[.int .i64 c0,.int .i64 c1,.int .i64 c2,.int .i64 c3,.int .i64 c4]) (vals 31) w1:=hd 31 (by decide) rfl;dsimp only at r31;clear hd;simp only[Lf,au,Act.put,bH,bG];obtain⟨g,h1,h2⟩:=r31;simp only[h1];go_wp2_with fail;refine (QM [c0,c1,c2,c3,c4] g 5 5 _ rfl (by omega) (h2.ints rfl)).mono ?_;rintro e w2 ⟨rfl,rfl⟩;go_wp2;exact q_
  all_goals
   intro vals w1 hx hd;clear hd;simp only[Lf,au,Act.put,bH,bG];have g4:=ah hx g4;have k4:=ah hx k4;have g0:=ah hx g0;have k0:=ah hx k0;have g1:=ah hx g1;have k1:=ah hx k1;have g2:=ah hx g2;have k2:=ah hx k2;have g5:=ah hx g5;have k5:=ah hx k5;go_wp2;exact iq
 intro vals w5 hx hf;have e32:vals 32=.int .i64 (JQ [c0,c1,c2,c3,c4]):=hf 32 (by omega);clear hf;have iJ:Below w.heap.size w w5:=aA hB hx.aH;refine eP 33 _ (by kernel_rfl) (by kernel_rfl) rfl ?_;simp only[Lf,au,Act.put,FR_];rw[e32];go_wp2;go_ret;exact⟨rfl,iJ⟩
set_option maxHeartbeats 2000000 in
theorem Dt (a b d p q:Int) (w:World) (h1 : -1000000≤d∧d≤1000000) (h2 : -10000000≤a∧a≤10000000) (h3 : -10000000≤b∧b≤10000000) :
  Calls Tryz.prog 91 #[.agg #[.int .i64 a,.int .i64 b],.int .i64 d,.agg #[.int .i64 p,.int .i64 q]] w
   fun e w'=>e=.returned (.agg #[.int .i64 (iy ⟨a,b⟩ d ⟨p,q⟩).fr,.int .i64 (iy ⟨a,b⟩ d ⟨p,q⟩).tt])∧Below w.heap.size w w':=by
 obtain⟨m,hm⟩:∃m,m=max (a-d) p:=⟨_,rfl⟩;obtain⟨n,hn⟩:∃n,n=min (b+d) q:=⟨_,rfl⟩;have hw:iy ⟨a,b⟩ d ⟨p,q⟩=if n≤m then ⟨0,0⟩ else ⟨m,n⟩:=by rw[hm,hn];rfl
 rw[hw];clear hw;have hm2:(p≤a-d∧m=a-d)∨(a-d<p∧m=p):=by omega
 have hn2:(b+d≤q∧n=b+d)∨(q<b+d∧n=q):=by omega
 clear hm hn;rcases hm2 with ⟨k1,rfl⟩ | ⟨k1,rfl⟩<;>rcases hn2 with ⟨k2,rfl⟩ | ⟨k2,rfl⟩
 ·by_cases h:b+d≤a-d
  ·rw[if_pos h];go_enter Tryz.func91,Tryz.ntmps91;go_wp2;exact bodyPost_ret (v:=.agg #[.int .i64 0,.int .i64 0]) (by simp[results,Tryz.results91,go_sem]) rfl ⟨rfl,(by repeat (first | exact Below.refl _ _ | assumption | refine Below.drew ?_ | refine below_drewN ?_ _ | refine aj ?_ _ | refine Below.setCell ?_ (by first | (simp;done) | omega | (simp;omega)) _ | refine aA ?_ (by assumption)))⟩
  ·rw[if_neg h];go_enter Tryz.func91,Tryz.ntmps91;go_wp2;exact bodyPost_ret (v:=.agg #[.int .i64 (a-d),.int .i64 (b+d)]) (by simp[results,Tryz.results91,go_sem]) rfl ⟨rfl,(by repeat (first | exact Below.refl _ _ | assumption | refine Below.drew ?_ | refine below_drewN ?_ _ | refine aj ?_ _ | refine Below.setCell ?_ (by first | (simp;done) | omega | (simp;omega)) _ | refine aA ?_ (by assumption)))⟩
 ·by_cases h:n≤a-d
  ·rw[if_pos h];go_enter Tryz.func91,Tryz.ntmps91;go_wp2;exact bodyPost_ret (v:=.agg #[.int .i64 0,.int .i64 0]) (by simp[results,Tryz.results91,go_sem]) rfl ⟨rfl,(by repeat (first | exact Below.refl _ _ | assumption | refine Below.drew ?_ | refine below_drewN ?_ _ | refine aj ?_ _ | refine Below.setCell ?_ (by first | (simp;done) | omega | (simp;omega)) _ | refine aA ?_ (by assumption)))⟩
  ·rw[if_neg h];go_enter Tryz.func91,Tryz.ntmps91;go_wp2;exact bodyPost_ret (v:=.agg #[.int .i64 (a-d),.int .i64 (n)]) (by simp[results,Tryz.results91,go_sem]) rfl ⟨rfl,(by repeat (first | exact Below.refl _ _ | assumption | refine Below.drew ?_ | refine below_drewN ?_ _ | refine aj ?_ _ | refine Below.setCell ?_ (by first | (simp;done) | omega | (simp;omega)) _ | refine aA ?_ (by assumption)))⟩
 ·by_cases h:b+d≤m
  ·rw[if_pos h];go_enter Tryz.func91,Tryz.ntmps91;go_wp2;exact bodyPost_ret (v:=.agg #[.int .i64 0,.int .i64 0]) (by simp[results,Tryz.results91,go_sem]) rfl ⟨rfl,(by repeat (first | exact Below.refl _ _ | assumption | refine Below.drew ?_ | refine below_drewN ?_ _ | refine aj ?_ _ | refine Below.setCell ?_ (by first | (simp;done) | omega | (simp;omega)) _ | refine aA ?_ (by assumption)))⟩
  ·rw[if_neg h];go_enter Tryz.func91,Tryz.ntmps91;go_wp2;exact bodyPost_ret (v:=.agg #[.int .i64 (m),.int .i64 (b+d)]) (by simp[results,Tryz.results91,go_sem]) rfl ⟨rfl,(by repeat (first | exact Below.refl _ _ | assumption | refine Below.drew ?_ | refine below_drewN ?_ _ | refine aj ?_ _ | refine Below.setCell ?_ (by first | (simp;done) | omega | (simp;omega)) _ | refine aA ?_ (by assumption)))⟩
 ·by_cases h:n≤m
  ·rw[if_pos h];go_enter Tryz.func91,Tryz.ntmps91;go_wp2;exact bodyPost_ret (v:=.agg #[.int .i64 0,.int .i64 0]) (by simp[results,Tryz.results91,go_sem]) rfl ⟨rfl,(by repeat (first | exact Below.refl _ _ | assumption | refine Below.drew ?_ | refine below_drewN ?_ _ | refine aj ?_ _ | refine Below.setCell ?_ (by first | (simp;done) | omega | (simp;omega)) _ | refine aA ?_ (by assumption)))⟩
  ·rw[if_neg h];go_enter Tryz.func91,Tryz.ntmps91;go_wp2;exact bodyPost_ret (v:=.agg #[.int .i64 (m),.int .i64 (n)]) (by simp[results,Tryz.results91,go_sem]) rfl ⟨rfl,(by repeat (first | exact Below.refl _ _ | assumption | refine Below.drew ?_ | refine below_drewN ?_ _ | refine aj ?_ _ | refine Below.setCell ?_ (by first | (simp;done) | omega | (simp;omega)) _ | refine aA ?_ (by assumption)))⟩
end Go.Proofs.YtjidhhfabfnhnaaGreat
namespace Go.Proofs.YtjidhhfabfnhnaaGreat
open Go.RowKit
theorem lX.VR {w:World} {b:Nat} {t:TypeId} {b0 b1 b2 b3 b4 b5:wU} (h:aG w b t (eF b0++eF b1++eF b2++eF b3++eF b4++eF b5).toArray):lX w b [b0,b1,b2,b3,b4,b5]:=fun k hk=>by
 have hk:k<6:=hk
 match k,hk with
 |0,_=>exact⟨h.cell 0,h.cell 1,h.cell 2⟩
 |1,_=>exact⟨h.cell 3,h.cell 4,h.cell 5⟩
 |2,_=>exact⟨h.cell 6,h.cell 7,h.cell 8⟩
 |3,_=>exact⟨h.cell 9,h.cell 10,h.cell 11⟩
 |4,_=>exact⟨h.cell 12,h.cell 13,h.cell 14⟩
 |5,_=>exact⟨h.cell 15,h.cell 16,h.cell 17⟩
theorem lX.VT {w:World} {b:Nat} {t:TypeId} {b0 b1 b2 b3 b4:wU} (h:aG w b t (eF b0++eF b1++eF b2++eF b3++eF b4).toArray):lX w b [b0,b1,b2,b3,b4]:=fun k hk=>by
 have hk:k<5:=hk
 match k,hk with
 |0,_=>exact⟨h.cell 0,h.cell 1,h.cell 2⟩
 |1,_=>exact⟨h.cell 3,h.cell 4,h.cell 5⟩
 |2,_=>exact⟨h.cell 6,h.cell 7,h.cell 8⟩
 |3,_=>exact⟨h.cell 9,h.cell 10,h.cell 11⟩
 |4,_=>exact⟨h.cell 12,h.cell 13,h.cell 14⟩
theorem lX.VU {w:World} {b:Nat} {t:TypeId} {b0 b1 b2:wU} (h:aG w b t (eF b0++eF b1++eF b2).toArray):lX w b [b0,b1,b2]:=fun k hk=>by
 have hk:k<3:=hk
 match k,hk with
 |0,_=>exact⟨h.cell 0,h.cell 1,h.cell 2⟩
 |1,_=>exact⟨h.cell 3,h.cell 4,h.cell 5⟩
 |2,_=>exact⟨h.cell 6,h.cell 7,h.cell 8⟩
set_option maxHeartbeats 2000000 in
theorem Oj (id ow p f lo hi no tu sl wi st ch su rH sh se wa co ho sw ra:Int) (w:World) :
  Calls Tryz.prog 127 #[.agg #[.int .i64 id,.int .i64 ow,.int .i64 p,.int .i64 f,.int .i64 lo,.int .i64 hi,.int .i64 no,.int .i64 tu,.int .i64 sl,.int .i64 wi,.int .i64 st,.int .i64 ch,.int .i64 su,.int .i64 rH,.int .i64 sh,.int .i64 se,.int .i64 wa,.int .i64 co,.int .i64 ho,.int .i64 sw,.int .i64 ra]] w fun e w'=>e=.returned (.bool (dQ ⟨id,ow,⟨p,f,lo,hi,no,tu,sl⟩,wi,st,ch,su,rH,sh,se,wa,co,ho,sw,ra⟩))∧Below w.heap.size w w':=by
 have hs:dQ ⟨id,ow,⟨p,f,lo,hi,no,tu,sl⟩,wi,st,ch,su,rH,sh,se,wa,co,ho,sw,ra⟩=(([⟨id,0,23⟩,⟨ow,0,15⟩,⟨wi,0,4⟩,⟨st,1,1000000⟩,⟨sw,0,60⟩,⟨ra,1,1000⟩]:List wU).all (fun b=>inB b.n b.lo b.hi)&&([⟨ch,1,1000000⟩,⟨su,0,10000⟩,⟨rH,0,10000⟩,⟨sh,0,10000⟩,⟨se,0,10000⟩]:List wU).all (fun b=>inB b.n b.lo b.hi)&&([⟨wa,0,10000⟩,⟨co,0,10000⟩,⟨ho,1,1000000⟩]:List wU).all (fun b=>inB b.n b.lo b.hi)&&dw ⟨p,f,lo,hi,no,tu,sl⟩):=by
  simp only[dQ,List.all_cons,List.all_nil,Bool.and_true]
  ac_rfl
 rw[hs];clear hs;generalize ha0:([⟨id,0,23⟩,⟨ow,0,15⟩,⟨wi,0,4⟩,⟨st,1,1000000⟩,⟨sw,0,60⟩,⟨ra,1,1000⟩]:List wU).all (fun b=>inB b.n b.lo b.hi)=a0;generalize ha1:([⟨ch,1,1000000⟩,⟨su,0,10000⟩,⟨rH,0,10000⟩,⟨sh,0,10000⟩,⟨se,0,10000⟩]:List wU).all (fun b=>inB b.n b.lo b.hi)=a1;generalize ha2:([⟨wa,0,10000⟩,⟨co,0,10000⟩,⟨ho,1,1000000⟩]:List wU).all (fun b=>inB b.n b.lo b.hi)=a2;have V:=nS p f lo hi no tu sl;generalize dw ⟨p,f,lo,hi,no,tu,sl⟩=q at V⊢;have HA0:=Lib.hid ha0;have HA1:=Lib.hid ha1;have HA2:=Lib.hid ha2;have HV:=Lib.hid V;clear ha0 ha1 ha2 V;go_enter Tryz.func127,Tryz.ntmps127;go_wp2_with fail;have K:=aG.new w 53 #[.int .i64 id,.int .i64 ow,.int .i64 p,.int .i64 f,.int .i64 lo,.int .i64 hi,.int .i64 no,.int .i64 tu,.int .i64 sl,.int .i64 wi,.int .i64 st,.int .i64 ch,.int .i64 su,.int .i64 rH,.int .i64 sh,.int .i64 se,.int .i64 wa,.int .i64 co,.int .i64 ho,.int .i64 sw,.int .i64 ra];have hb:Below w.heap.size w (w.alloc (.cells #[.int .i64 id,.int .i64 ow,.int .i64 p,.int .i64 f,.int .i64 lo,.int .i64 hi,.int .i64 no,.int .i64 tu,.int .i64 sl,.int .i64 wi,.int .i64 st,.int .i64 ch,.int .i64 su,.int .i64 rH,.int .i64 sh,.int .i64 se,.int .i64 wa,.int .i64 co,.int .i64 ho,.int .i64 sw,.int .i64 ra] 53)):=(by repeat (first | exact Below.refl _ _ | assumption | refine Below.drew ?_ | refine below_drewN ?_ _ | refine aj ?_ _ | refine Below.setCell ?_ (by first | (simp;done) | omega | (simp;omega)) _ | refine aA ?_ (by assumption)));have hz0:(w.alloc (.cells #[.int .i64 id,.int .i64 ow,.int .i64 p,.int .i64 f,.int .i64 lo,.int .i64 hi,.int .i64 no,.int .i64 tu,.int .i64 sl,.int .i64 wi,.int .i64 st,.int .i64 ch,.int .i64 su,.int .i64 rH,.int .i64 sh,.int .i64 se,.int .i64 wa,.int .i64 co,.int .i64 ho,.int .i64 sw,.int .i64 ra] 53)).heap.size=w.heap.size+1:=World.size_alloc _ _;generalize w.alloc (.cells #[.int .i64 id,.int .i64 ow,.int .i64 p,.int .i64 f,.int .i64 lo,.int .i64 hi,.int .i64 no,.int .i64 tu,.int .i64 sl,.int .i64 wi,.int .i64 st,.int .i64 ch,.int .i64 su,.int .i64 rH,.int .i64 sh,.int .i64 se,.int .i64 wa,.int .i64 co,.int .i64 ho,.int .i64 sw,.int .i64 ra] 53)=W0 at K hb hz0⊢;have k:lX (W0.alloc (.cells #[.int .i64 id,.int .i64 0,.int .i64 23,.int .i64 ow,.int .i64 0,.int .i64 15,.int .i64 wi,.int .i64 0,.int .i64 4,.int .i64 st,.int .i64 1,.int .i64 1000000,.int .i64 sw,.int .i64 0,.int .i64 60,.int .i64 ra,.int .i64 1,.int .i64 1000] 189)) W0.heap.size [⟨id,0,23⟩,⟨ow,0,15⟩,⟨wi,0,4⟩,⟨st,1,1000000⟩,⟨sw,0,60⟩,⟨ra,1,1000⟩]:=lX.VR (aG.new W0 189 #[.int .i64 id,.int .i64 0,.int .i64 23,.int .i64 ow,.int .i64 0,.int .i64 15,.int .i64 wi,.int .i64 0,.int .i64 4,.int .i64 st,.int .i64 1,.int .i64 1000000,.int .i64 sw,.int .i64 0,.int .i64 60,.int .i64 ra,.int .i64 1,.int .i64 1000]);rw[hz0]at k;refine (oN [⟨id,0,23⟩,⟨ow,0,15⟩,⟨wi,0,4⟩,⟨st,1,1000000⟩,⟨sw,0,60⟩,⟨ra,1,1000⟩] (w.heap.size+1) 6 6 _ rfl k (by rw[World.size_alloc];omega) (by omega)).mono ?_;rintro e W1 ⟨rfl,hb1⟩;have K:=(K.alloc (.cells #[.int .i64 id,.int .i64 0,.int .i64 23,.int .i64 ow,.int .i64 0,.int .i64 15,.int .i64 wi,.int .i64 0,.int .i64 4,.int .i64 st,.int .i64 1,.int .i64 1000000,.int .i64 sw,.int .i64 0,.int .i64 60,.int .i64 ra,.int .i64 1,.int .i64 1000] 189)).below hb1 (by have:=K.lt;rw[World.size_alloc];omega);have hb:Below w.heap.size w W1:=aA (aj hb _) hb1;rw[HA0.out];clear k hb1 HA0;have g0:W1.cell? ⟨w.heap.size,0,none⟩=some (.int .i64 id):=K.cell 0;have g1:W1.cell? ⟨w.heap.size,1,none⟩=some (.int .i64 ow):=K.cell 1;have g2:W1.cell? ⟨w.heap.size,2,none⟩=some (.int .i64 p):=K.cell 2;have g3:W1.cell? ⟨w.heap.size,3,none⟩=some (.int .i64 f):=K.cell 3;have g4:W1.cell? ⟨w.heap.size,4,none⟩=some (.int .i64 lo):=K.cell 4;have g5:W1.cell? ⟨w.heap.size,5,none⟩=some (.int .i64 hi):=K.cell 5;have g6:W1.cell? ⟨w.heap.size,6,none⟩=some (.int .i64 no):=K.cell 6;have g7:W1.cell? ⟨w.heap.size,7,none⟩=some (.int .i64 tu):=K.cell 7;have g8:W1.cell? ⟨w.heap.size,8,none⟩=some (.int .i64 sl):=K.cell 8;have g9:W1.cell? ⟨w.heap.size,9,none⟩=some (.int .i64 wi):=K.cell 9;have g10:W1.cell? ⟨w.heap.size,10,none⟩=some (.int .i64 st):=K.cell 10;have g11:W1.cell? ⟨w.heap.size,11,none⟩=some (.int .i64 ch):=K.cell 11;have g12:W1.cell? ⟨w.heap.size,12,none⟩=some (.int .i64 su):=K.cell 12;have g13:W1.cell? ⟨w.heap.size,13,none⟩=some (.int .i64 rH):=K.cell 13;have g14:W1.cell? ⟨w.heap.size,14,none⟩=some (.int .i64 sh):=K.cell 14;have g15:W1.cell? ⟨w.heap.size,15,none⟩=some (.int .i64 se):=K.cell 15;have g16:W1.cell? ⟨w.heap.size,16,none⟩=some (.int .i64 wa):=K.cell 16;have g17:W1.cell? ⟨w.heap.size,17,none⟩=some (.int .i64 co):=K.cell 17;have g18:W1.cell? ⟨w.heap.size,18,none⟩=some (.int .i64 ho):=K.cell 18;have g19:W1.cell? ⟨w.heap.size,19,none⟩=some (.int .i64 sw):=K.cell 19;have g20:W1.cell? ⟨w.heap.size,20,none⟩=some (.int .i64 ra):=K.cell 20;go_wp2_with fail;have k:lX (W1.alloc (.cells #[.int .i64 ch,.int .i64 1,.int .i64 1000000,.int .i64 su,.int .i64 0,.int .i64 10000,.int .i64 rH,.int .i64 0,.int .i64 10000,.int .i64 sh,.int .i64 0,.int .i64 10000,.int .i64 se,.int .i64 0,.int .i64 10000] 189)) W1.heap.size [⟨ch,1,1000000⟩,⟨su,0,10000⟩,⟨rH,0,10000⟩,⟨sh,0,10000⟩,⟨se,0,10000⟩]:=lX.VT (aG.new W1 189 #[.int .i64 ch,.int .i64 1,.int .i64 1000000,.int .i64 su,.int .i64 0,.int .i64 10000,.int .i64 rH,.int .i64 0,.int .i64 10000,.int .i64 sh,.int .i64 0,.int .i64 10000,.int .i64 se,.int .i64 0,.int .i64 10000]);refine (oN [⟨ch,1,1000000⟩,⟨su,0,10000⟩,⟨rH,0,10000⟩,⟨sh,0,10000⟩,⟨se,0,10000⟩] W1.heap.size 5 5 _ rfl k (by rw[World.size_alloc];omega) (by omega)).mono ?_;rintro e W2 ⟨rfl,hb2⟩;have K:=(K.alloc (.cells #[.int .i64 ch,.int .i64 1,.int .i64 1000000,.int .i64 su,.int .i64 0,.int .i64 10000,.int .i64 rH,.int .i64 0,.int .i64 10000,.int .i64 sh,.int .i64 0,.int .i64 10000,.int .i64 se,.int .i64 0,.int .i64 10000] 189)).below hb2 (by have:=K.lt;rw[World.size_alloc];omega);have hb:Below w.heap.size w W2:=aA (aj hb _) hb2;rw[HA1.out];clear k hb2 HA1 g0 g1 g2 g3 g4 g5 g6 g7 g8 g9 g10 g11 g12 g13 g14 g15 g16 g17 g18 g19 g20;have g0:W2.cell? ⟨w.heap.size,0,none⟩=some (.int .i64 id):=K.cell 0;have g1:W2.cell? ⟨w.heap.size,1,none⟩=some (.int .i64 ow):=K.cell 1;have g2:W2.cell? ⟨w.heap.size,2,none⟩=some (.int .i64 p):=K.cell 2;have g3:W2.cell? ⟨w.heap.size,3,none⟩=some (.int .i64 f):=K.cell 3;have g4:W2.cell? ⟨w.heap.size,4,none⟩=some (.int .i64 lo):=K.cell 4;have g5:W2.cell? ⟨w.heap.size,5,none⟩=some (.int .i64 hi):=K.cell 5;have g6:W2.cell? ⟨w.heap.size,6,none⟩=some (.int .i64 no):=K.cell 6;have g7:W2.cell? ⟨w.heap.size,7,none⟩=some (.int .i64 tu):=K.cell 7;have g8:W2.cell? ⟨w.heap.size,8,none⟩=some (.int .i64 sl):=K.cell 8;have g9:W2.cell? ⟨w.heap.size,9,none⟩=some (.int .i64 wi):=K.cell 9;have g10:W2.cell? ⟨w.heap.size,10,none⟩=some (.int .i64 st):=K.cell 10;have g11:W2.cell? ⟨w.heap.size,11,none⟩=some (.int .i64 ch):=K.cell 11;have g12:W2.cell? ⟨w.heap.size,12,none⟩=some (.int .i64 su):=K.cell 12;have g13:W2.cell? ⟨w.heap.size,13,none⟩=some (.int .i64 rH):=K.cell 13;have g14:W2.cell? ⟨w.heap.size,14,none⟩=some (.int .i64 sh):=K.cell 14;have g15:W2.cell? ⟨w.heap.size,15,none⟩=some (.int .i64 se):=K.cell 15;have g16:W2.cell? ⟨w.heap.size,16,none⟩=some (.int .i64 wa):=K.cell 16;have g17:W2.cell? ⟨w.heap.size,17,none⟩=some (.int .i64 co):=K.cell 17;have g18:W2.cell? ⟨w.heap.size,18,none⟩=some (.int .i64 ho):=K.cell 18;have g19:W2.cell? ⟨w.heap.size,19,none⟩=some (.int .i64 sw):=K.cell 19;have g20:W2.cell? ⟨w.heap.size,20,none⟩=some (.int .i64 ra):=K.cell 20;go_wp2_with fail;have k:lX (W2.alloc (.cells #[.int .i64 wa,.int .i64 0,.int .i64 10000,.int .i64 co,.int .i64 0,.int .i64 10000,.int .i64 ho,.int .i64 1,.int .i64 1000000] 189)) W2.heap.size [⟨wa,0,10000⟩,⟨co,0,10000⟩,⟨ho,1,1000000⟩]:=lX.VU (aG.new W2 189 #[.int .i64 wa,.int .i64 0,.int .i64 10000,.int .i64 co,.int .i64 0,.int .i64 10000,.int .i64 ho,.int .i64 1,.int .i64 1000000]);refine (oN [⟨wa,0,10000⟩,⟨co,0,10000⟩,⟨ho,1,1000000⟩] W2.heap.size 3 3 _ rfl k (by rw[World.size_alloc];omega) (by omega)).mono ?_;rintro e W3 ⟨rfl,hb3⟩;have K:=(K.alloc (.cells #[.int .i64 wa,.int .i64 0,.int .i64 10000,.int .i64 co,.int .i64 0,.int .i64 10000,.int .i64 ho,.int .i64 1,.int .i64 1000000] 189)).below hb3 (by have:=K.lt;rw[World.size_alloc];omega);have hb:Below w.heap.size w W3:=aA (aj hb _) hb3;rw[HA2.out];clear k hb3 HA2 g0 g1 g2 g3 g4 g5 g6 g7 g8 g9 g10 g11 g12 g13 g14 g15 g16 g17 g18 g19 g20;have g0:W3.cell? ⟨w.heap.size,0,none⟩=some (.int .i64 id):=K.cell 0;have g1:W3.cell? ⟨w.heap.size,1,none⟩=some (.int .i64 ow):=K.cell 1;have g2:W3.cell? ⟨w.heap.size,2,none⟩=some (.int .i64 p):=K.cell 2;have g3:W3.cell? ⟨w.heap.size,3,none⟩=some (.int .i64 f):=K.cell 3;have g4:W3.cell? ⟨w.heap.size,4,none⟩=some (.int .i64 lo):=K.cell 4;have g5:W3.cell? ⟨w.heap.size,5,none⟩=some (.int .i64 hi):=K.cell 5;have g6:W3.cell? ⟨w.heap.size,6,none⟩=some (.int .i64 no):=K.cell 6;have g7:W3.cell? ⟨w.heap.size,7,none⟩=some (.int .i64 tu):=K.cell 7;have g8:W3.cell? ⟨w.heap.size,8,none⟩=some (.int .i64 sl):=K.cell 8;have g9:W3.cell? ⟨w.heap.size,9,none⟩=some (.int .i64 wi):=K.cell 9;have g10:W3.cell? ⟨w.heap.size,10,none⟩=some (.int .i64 st):=K.cell 10;have g11:W3.cell? ⟨w.heap.size,11,none⟩=some (.int .i64 ch):=K.cell 11;have g12:W3.cell? ⟨w.heap.size,12,none⟩=some (.int .i64 su):=K.cell 12;have g13:W3.cell? ⟨w.heap.size,13,none⟩=some (.int .i64 rH):=K.cell 13;have g14:W3.cell? ⟨w.heap.size,14,none⟩=some (.int .i64 sh):=K.cell 14;have g15:W3.cell? ⟨w.heap.size,15,none⟩=some (.int .i64 se):=K.cell 15;have g16:W3.cell? ⟨w.heap.size,16,none⟩=some (.int .i64 wa):=K.cell 16;have g17:W3.cell? ⟨w.heap.size,17,none⟩=some (.int .i64 co):=K.cell 17;have g18:W3.cell? ⟨w.heap.size,18,none⟩=some (.int .i64 ho):=K.cell 18;have g19:W3.cell? ⟨w.heap.size,19,none⟩=some (.int .i64 sw):=K.cell 19;have g20:W3.cell? ⟨w.heap.size,20,none⟩=some (.int .i64 ra):=K.cell 20;go_wp2_with (go_at_call 71;refine (HV.out _).mono ?_;rintro e W4 ⟨rfl,hb4⟩)
 all_goals
  go_ret;exact⟨by simp[*],(by repeat (first | exact Below.refl _ _ | assumption | refine Below.drew ?_ | refine below_drewN ?_ _ | refine aj ?_ _ | refine Below.setCell ?_ (by first | (simp;done) | omega | (simp;omega)) _ | refine aA ?_ (by assumption)))⟩
end Go.Proofs.YtjidhhfabfnhnaaGreat
namespace Go.Proofs.YtjidhhfabfnhnaaGreat
open Go.RowKit
section
variable {α:Type} {cells:α→List Value} {s:Nat}
theorem rJ (hs:∀x,(cells x).length=s) (l:List α):(l.flatMap cells).length=l.length*s:=by
 induction l with
 |nil=>simp
 |cons x r ih=>rw[List.flatMap_cons,List.length_append,ih,hs,List.length_cons,Nat.succ_mul];omega
theorem Nk (hs:∀x,(cells x).length=s) (l:List α) (k:Nat) (h:k<l.length) (j:Nat) (hj:j<s):(l.flatMap cells)[k*s+j]?=(cells l[k])[j]?:=by
 induction l generalizing k with
 |nil=>simp at h
 |cons x r ih =>
  rw[List.flatMap_cons];cases k with
  |zero=>rw[Nat.zero_mul,Nat.zero_add,List.getElem?_append_left (by rw[hs];exact hj)];rfl
  |succ k =>
   rw[List.getElem?_append_right (by rw[hs,Nat.succ_mul];omega),hs,show (k+1)*s+j-s=k*s+j by rw[Nat.succ_mul];omega];exact ih k (by simpa using h)
structure RA (cells:α→List Value) (s:Nat) (w:World) (B:Nat) (A:Option Addr) (n c:Nat) (l:List α):Prop where
 rd:Reads w B s A n (l.flatMap cells)
 len:l.length=n
 cap:n≤c
 vw:c≤maxLen
 le:n≤9223372036854775807
variable {w w':World} {B B' n c:Nat} {A:Option Addr} {l:List α}
theorem RA.keep (h:RA cells s w B A n c l) (hk:∀p:Addr,p.block<B→w'.cell? p=w.cell? p):RA cells s w' B A n c l:=⟨h.rd.keep hk,h.len,h.cap,h.vw,h.le⟩
theorem RA.below (h:RA cells s w B A n c l) (hb:Below B w w'):RA cells s w' B A n c l:=⟨h.rd.below hb,h.len,h.cap,h.vw,h.le⟩
theorem RA.more (h:RA cells s w B A n c l) (hb:B≤B'):RA cells s w B' A n c l:=⟨h.rd.more hb,h.len,h.cap,h.vw,h.le⟩
theorem RA.alloc (h:RA cells s w B A n c l) (hB:B≤w.heap.size) (o:Obj):RA cells s (w.alloc o) B A n c l:=⟨h.rd.alloc hB o,h.len,h.cap,h.vw,h.le⟩
theorem RA.at_ (hs:∀x,(cells x).length=s) (h:RA cells s w B A n c l) {k:Nat} (hk:k<n) :
  ∃(b o:Nat) (hz:k<l.length),A=some ⟨b,o,none⟩∧b<B∧∀j,j<s→w.cell? ⟨b,o+k*s+j,none⟩=(cells l[k])[j]?:=by
 obtain⟨b,o,e,hb,hc⟩:=h.rd.2 (by omega);have hz:k<l.length:=by rw[h.len];exact hk
 refine⟨b,o,hz,e,hb,fun j hj=>?_⟩;have hu:(cells l[k])[j]?=some ((cells l[k])[j]'(by rw[hs];exact hj)):=List.getElem?_eq_getElem _;rw[hu,Nat.add_assoc];exact hc _ _ (by rw[Nk hs l k hz j hj];exact hu)
end
def bJ (x:iD):List Value:=[.int .i64 x.id,.int .i64 x.cell.x,.int .i64 x.cell.y,.int .i64 x.reach,.int .i64 x.GL,.int .i64 x.skew]
def aC (x:St):List Value:=[.int .i64 x.id,.int .i64 x.owner,.int .i64 x.aY.period,.int .i64 x.aY.phase,.int .i64 x.aY.low,.int .i64 x.aY.high,.int .i64 x.aY.node,.int .i64 x.aY.turn,.int .i64 x.aY.dP,.int .i64 x.wide,.int .i64 x.store,.int .i64 x.QF,.int .i64 x.Yp,.int .i64 x.idle,.int .i64 x.Yq,.int .i64 x.send,.int .i64 x.warm,.int .i64 x.cool,.int .i64 x.hot,.int .i64 x.slew,.int .i64 x.rate]
def ak (x:bP):List Value:=[.int .i64 x.sat,.int .i64 x.dh,.int .i64 x.sure.fr,.int .i64 x.sure.tt,.int .i64 x.can.fr,.int .i64 x.can.tt]
theorem tq (x:iD):(bJ x).length=6:=rfl
theorem gJ (x:St):(aC x).length=21:=rfl
theorem bg (x:bP):(ak x).length=6:=rfl
def aV {α:Type} (l:List α) (k:Nat):Option α:=if k=0 then none else l[k-1]?
theorem nT {α:Type} (ok:α→Bool) (id:α→Int) (l:List α) (k:Nat) (h:k<l.length) :
  dH ok id (aV l k) (l.drop k)=(ok l[k]&&(match aV l k with | none=>true | some y=>decide (id y<id l[k]))&&dH ok id (aV l (k+1)) (l.drop (k+1))):=by
 have hp:aV l (k+1)=some l[k]:=by simp[aV,h]
 rw[List.drop_eq_getElem_cons h,hp];cases aV l k<;>rfl
end Go.Proofs.YtjidhhfabfnhnaaGreat
