/- The cell at a minute. -/
import Derived.Test.YtjidhhfabfnhnaaGreatT02
import Derived.ArgAppend
import Derived.Test.YtjidhhfabfnhnaaGreatT01
import Derived.BigRegion
import Derived.Laws.Small
import Derived.Laws.Cover1
namespace Go.Proofs.YtjidhhfabfnhnaaGreat
open Go.RowKit Go.Shelf
def GN (s:iO):List Value:=[.int .i64 s.fr,.int .i64 s.tt]
theorem JI (is:Int→Bool) (n:Nat):∀t,(bK is t n).length≤n:=by
 induction n with
 |zero=>intro t;exact Nat.le_refl _
 |succ n ih =>
  intro t;have h:=ih (t+1);unfold bK
  split
  ·split
   ·simp
   ·rename_i s r hx
    rw[hx]at h
    split<;>simp at h⊢<;> omega
  ·omega
section
variable {P:Program}
theorem jI (w:World) (base:Nat) (t ty e:TypeId) (i:TypeInfo) (z:Value) (size bytes:Nat) (ht:P.underlying t=some (.slice e)) (hi:P.info? e=some i) (hz:i.zero=some z)
  (hsize:i.size=size) (hby:i.bytes=bytes) (hzs:z.cells.size=size) (hsz:2≤size)
  (v:Value) (k:Nat) (xs:List Value) (hown:w.ownsRow base e size v k xs) (hnil:k=0→v=.slice none 0 0)
  (ad:Addr) (c:Nat) (news:List Value) (hn:news.length=size) (hc:∀j u,news[j]?=some u→w.cell? (ad.add j)=some u) (h1:∀u∈news,u.oneCell'=true)
  (b1:k+1≤maxLen) (b2:(k+1)*bytes≤140737488355328) (b3:base≤w.heap.size) :
  ∃(v':Value) (w':World),(Builtin.append_ #[t,t] ty #[v,.slice (some ad) 1 c]).run P w=.ok v' w'∧w'.ownsRow base e size v' (k+1) (xs++news)∧w.grownBy w' v.ownBlock ∧
   ∀(g:Nat) (cs:Array Value) (t':TypeId),w.heap[g]?=some (Obj.cells cs t' (0,0))→cs.size=2→w'.heap[g]?=w.heap[g]?:=by
 have hn1:news.length=1*size:=by omega
 rcases hown.2 with ⟨rfl,rfl⟩ | ⟨g0,cap,cur,rfl,hg0,hh,hcap,hmax,hcur,htk⟩
 ·obtain⟨v',w',h1',h2,h3,_⟩:=run_append_own (P:=P) w base t ty e i z size bytes ht hi hz hsize hby hzs (by omega) _ 0 xs hown ad 1 c news hn1 hc h1 (by omega) (by omega) b3;exact⟨v',w',h1',h2,h3,fun g cs t' hg _=>h3.block g (Array.getElem?_eq_some_iff.1 hg).1 (by simp[Value.ownBlock])⟩
 ·have hk:k≠0:=fun h=>by have:=hnil h;cases this
  by_cases hroom:k+1≤cap
  ·obtain⟨w',h1',h2,h3⟩:=run_append_fits (P:=P) w base t ty e i size ht hi hsize g0 k cap xs hown ad 1 c news hn1 hc h1 hroom;refine⟨_,w',h1',h2,h3,fun g cs t' hg hs=>h3.block g (Array.getElem?_eq_some_iff.1 hg).1 ?_⟩;intro e';have e2:g=g0:=by simpa using e'
   subst e2;rw[hg]at hh;injection hh with hh;injection hh with e3 _;subst e3;have:=Nat.mul_le_mul (show 2≤cap by omega) hsz;omega
  ·obtain⟨v',w',h1',h2,h3⟩:=run_append_arg_grows (P:=P) w t ty e i z size bytes ht hi hz hsize hby hzs (by omega) ⟨g0,0,none⟩ k cap xs hown.1 (fun j u hu=>hown.cells (g:=g0) rfl j u hu) ad 1 c news hn1 hc (by omega) b1 b2;exact⟨v',w',h1',own_base h2 b3,⟨h3.os,h3.tape,h3.output,h3.size,fun j hj _=>h3.block j hj (by simp)⟩,fun g cs t' hg _=>h3.block g (Array.getElem?_eq_some_iff.1 hg).1 (by simp)⟩
end
theorem f_ {F:Fence} {n:Nat} {P:Program} {w:World} {ops:Array Oper} {rest:List Oper} {o:Oper} {a:Act} {Q:Exit→Act→World→Prop}
  (hg:o.guard=none) (s x:Operand) (t:TypeId) (hop:o.op=Op.call { callee:=Callee.builtin Builtin.append,args:=#[s,x],argTypes:=#[t,t] })
  {v1 v2 v':Value} {w':World} (hs:a.eval s=v1) (hx:a.eval x=v2) (hrun:(Builtin.append_ #[t,t] o.type #[v1,v2]).run P w=.ok v' w')
  (hK:wpListIn F n P ops Q rest (a.put o.dst v') w'):wpListIn F n P ops Q (o::rest) a w:=by
 refine wpListIn_plain hg fun K hK'=>?_;unfold Oper.wpIn;refine⟨?_,?_⟩
 ·simp[Oper.about,hop,resolve,Target.leads,Sem.run_pure]
 ·rw[Oper.semAt_plain F _ _ (by rw[hop];intro c hc';cases hc')];simp[execOp,hop,resolve,invoke,builtin,hs,hx,hrun,Result.andThen];exact hK' _ _ hK
theorem oM {W W':World} {base:Nat} {e:TypeId} {size k:Nat} {v:Value} {xs:List Value} (h:W.ownsRow base e size v k xs) (hg:W.grownBy W' v.ownBlock):KeepsOthers W W' :=
 ⟨hg.size,fun j o hj ho=>by
  refine (hg.block j (Array.getElem?_eq_some_iff.1 hj).1 fun e'=>?_).trans hj;rcases h.2 with ⟨rfl,_⟩ | ⟨g,cap,cur,rfl,_,hh,_⟩
  ·simp[Value.ownBlock]at e'
  ·have e2:j=g:=by simpa [Value.ownBlock]using e'
   subst e2;rw[hh]at hj;injection hj with hj;subst hj;cases ho⟩
theorem iH {B:Nat} {W W':World} {row:Option Nat} {base:Nat} {e:TypeId} {size k:Nat} {v:Value} {xs:List Value} (h:W.ownsRow base e size v k xs) (hg:W.grownBy W' row) (hr:∀r,row=some r→B≤r∧∃o:Obj,W.heap[r]?=some o∧o.isCells=false):W'.ownsRow base e size v k xs:=by
 refine⟨h.1,?_⟩;rcases h.2 with hn | ⟨g,cap,cur,rfl,hb,hh,r⟩
 ·exact .inl hn
 ·refine .inr ⟨g,cap,cur,rfl,hb,?_,r⟩;refine (hg.block g (Array.getElem?_eq_some_iff.1 hh).1 fun e'=>?_).trans hh;obtain⟨_,o,ho,hc⟩:=hr g e'.symm;rw[hh]at ho;injection ho with ho;subst ho;cases hc
theorem bF {B:Nat} {W W':World} {row:Option Nat} {g:Nat} {t:TypeId} {cs:Array Value} (h:aG W g t cs) (hg:W.grownBy W' row) (hr:∀r,row=some r→B≤r∧∃o:Obj,W.heap[r]?=some o∧o.isCells=false):aG W' g t cs:=by
 refine (hg.block g h.lt fun e'=>?_).trans h;obtain⟨_,o,ho,hc⟩:=hr g e'.symm;have hh:W.heap[g]?=_:=h;rw[hh]at ho;injection ho with ho;subst ho;cases hc
theorem oL.setCell {ex:Nat→Prop} {B0:Nat} (W:World) (p:Addr) (u:Value) (hx:ex p.block):oL ex B0 W (W.setCell p u) :=
 ⟨by simp,fun k _ _ _ hk _=>Below.heap_setCell W p u k (fun e=>hk (by rw[e];exact hx))⟩
theorem oL.append {ex:Nat→Prop} {B0 base:Nat} {W W':World} {e:TypeId} {size k:Nat} {v:Value} {xs:List Value} (h:W.ownsRow base e size v k xs) (hb:B0≤base) (hg:W.grownBy W' v.ownBlock)
  (hp:∀(g:Nat) (cs:Array Value) (t':TypeId),W.heap[g]?=some (Obj.cells cs t' (0,0))→cs.size=2→W'.heap[g]?=W.heap[g]?):oL ex B0 W W' :=
 ⟨hg.size,fun j cs t hj _ hz=>by
  rcases hz with hz | hz
  ·exact hg.block j (Array.getElem?_eq_some_iff.1 hj).1 fun e'=>by have:=(World.ownsRow.lt h j e'.symm).1;omega
  ·exact hp j cs t hj hz⟩
theorem yP (ex:Nat→Prop) (g:Nat) (caps:Array Value) (is:Int→Bool) (fr tt:Int) (bf bt bi:Nat) (n:Nat) (hn:1≤n) {w:World} (hex:∀k,ex k→k<w.heap.size)
  (eg:∀args w,(callFunc g args).run Tryz.prog w=.ok (.enter g args) w)
  (kf:aG w bf 3 #[.int .i64 fr]) (kt:aG w bt 3 #[.int .i64 tt]) (ki:aG w bi 147 #[.func (.func g) #[] caps]) (hf:¬ex bf) (ht:¬ex bt) (hi:¬ex bi)
  (b1 : -1000000≤fr) (b2:fr≤tt) (b3:tt≤10000000)
  (hp:∀t W,fr≤t→t<tt→oL ex w.heap.size w W→Calls Tryz.prog g (#[.int .i64 t]++caps) W fun e W'=>e=.returned (.bool (is t))∧Below W.heap.size W W')
  {op:Operand} {p q:Nat} {assign body:Code} {Q:Exit→Act→World→Prop} {a:Act} (hg:a.eval op=.func (.func 141) #[] #[.pointer (some ⟨bf,0,none⟩),.pointer (some ⟨bt,0,none⟩),.pointer (some ⟨bi,0,none⟩)])
  (I:List uN→World→Prop) (hI:OwnFrom w.heap.size I) (hIs:∀pre W,I pre W→w.heap.size≤W.heap.size) (h0:I [] w)
  (hassign:∀(l:Nat) (x:uN) (W:World) (K:Act→World→Prop),K { tmps:=(a.tmps.setIfInBounds p (.agg #[.int .i64 x.1.fr,.int .i64 x.1.tt])).setIfInBounds q (.pointer (some ⟨W.heap.size,0,none⟩)),defers:=[] } (W.alloc (.cells #[.int .i64 x.1.fr,.int .i64 x.1.tt] 32)) →
   assign.wpIn (Fence.wide.inRound l) (n-1-1) Tryz.prog (Exit.then K (fun _ _ _=>False)) { tmps:=a.tmps.setIfInBounds p (.agg #[.int .i64 x.1.fr,.int .i64 x.1.tt]),defers:=[] } W)
  (hbody:∀(l:Nat) (pre:List uN) (x:uN) (Bx:Nat) (W:World),I pre W→w.heap.size≤Bx→aG W Bx 32 #[.int .i64 x.1.fr,.int .i64 x.1.tt]→pre.length<(bK is fr (tt-fr).toNat).length →
   body.wpIn (Fence.wide.inRound l) (n-1-1) Tryz.prog (ownPostG w.heap.size (oL ex w.heap.size) I (fun _ _ _=>False) (pre++[x]) W) { tmps:=(a.tmps.setIfInBounds p (.agg #[.int .i64 x.1.fr,.int .i64 x.1.tt])).setIfInBounds q (.pointer (some ⟨Bx,0,none⟩)),defers:=[] } W)
  (hdone:∀(D:Nat) (xs:List uN) (W:World),w.heap.size≤D→xs.map (·.1)=bK is fr (tt-fr).toNat→I xs W→W.heap[D]?=some (.deferred (some []))→Q .normal { a with defers:={ target:=.collected D,args:=#[] } :: a.defers } W) :
  (Code.rangeFunc op #[p] assign body).wpIn Fence.wide n Tryz.prog Q a w:=by
 have hseq:=JH ex w.heap.size g caps is fr tt bf bt bi (n-1) w hex (Nat.le_refl _) eg kf kt ki ⟨hf,kf.lt⟩ ⟨ht,kt.lt⟩ ⟨hi,ki.lt⟩ b1 b2 b3 hp;refine wpIn_rangeFunc_ownH (F:=Fence.wide) rfl hn (gf:=141) hg trivial (enters_of Tryz.func141 (by kernel_rfl) rfl) hseq (fun h k=>h.trans k) (fun W l o o' _ h h1 _=>oL.putObj W l o o' h h1) (Below.refl _ _) (fun _=>rfl)
  I (fun _ _ _=>False) hI (fun _ _ _ _ _ hs _ _=>hs) h0
  (fun x a' W=>∃Bx,w.heap.size≤Bx∧w.heap.size≤W.heap.size∧aG W Bx 32 #[.int .i64 x.1.fr,.int .i64 x.1.tt]∧a'={ tmps:=(a.tmps.setIfInBounds p (.agg #[.int .i64 x.1.fr,.int .i64 x.1.tt])).setIfInBounds q (.pointer (some ⟨Bx,0,none⟩)),defers:=[] })
  ?_ ?_ ?_ ?_ ?_
 ·rintro x a' _ X Y row ⟨Bx,h1,h2,h3,h4⟩ hgr hr;exact⟨Bx,h1,Nat.le_trans h2 hgr.size,bF h3 hgr hr,h4⟩
 ·intro l pre x W K EC hK;have hz:((#[p].zip #[Value.agg #[.int .i64 x.1.fr,.int .i64 x.1.tt]]).foldl (fun t (p,v)=>t.setIfInBounds p v) a.tmps)=a.tmps.setIfInBounds p (.agg #[.int .i64 x.1.fr,.int .i64 x.1.tt]):=by simp
  rw[hz];exact hassign l x W _ (hK _ _ ((KeepsOthers.alloc W _).from _) (oL.ext (aj (Below.refl _ _) _)) (hI.alloc _ EC) ⟨W.heap.size,hIs _ _ EC,by rw[World.size_alloc];exact Nat.le_succ_of_le (hIs _ _ EC),aG.new _ _ _,rfl⟩)
 ·rintro l pre x a' W _ _ EC ⟨Bx,h1,_,h3,rfl⟩ hl;exact hbody l pre x Bx W EC h1 h3 hl
 ·intro D xs W hD hxs hIx hK;exact hdone D xs W hD hxs hIx hK
 ·rintro D c pre W _ _ h _;exact h.elim
end Go.Proofs.YtjidhhfabfnhnaaGreat
namespace Go.Proofs.YtjidhhfabfnhnaaGreat
open Go.RowKit
abbrev I64 (n:Int):Value:=.int .i64 n
def celV (c:Vg):Value:=.agg #[I64 c.x,I64 c.y]
def splV (s:iO):Value:=.agg #[I64 s.fr,I64 s.tt]
def ZB (o:iM):Value:=.agg #[I64 o.period,I64 o.phase,I64 o.low,I64 o.high,I64 o.node,I64 o.turn,I64 o.dP]
theorem QG (n lo hi:Int) (w:World) :
  Calls Tryz.prog 157 #[.int .i64 n,.int .i64 lo,.int .i64 hi] w fun e w'=>e=.returned (.bool (inB n lo hi))∧w=w':=by
 by_cases h1:lo≤n
 ·have e:inB n lo hi=decide (n≤hi):=by simp[inB,h1]
  rw[e];go_enter Tryz.func157,Tryz.ntmps157;go_wp2;go_ret;exact⟨by first | rfl | simp[*],rfl⟩
 ·have e:inB n lo hi=false:=by simp[inB,h1]
  rw[e];go_enter Tryz.func157,Tryz.ntmps157;go_wp2;go_ret;exact⟨rfl,rfl⟩
theorem vk (n lo hi:Int) (w:World) :
  Calls Tryz.prog 125 #[.int .i64 n,.int .i64 lo,.int .i64 hi] w fun e w'=>e=.returned (.bool (inB n lo hi))∧w=w':=by
 by_cases h1:lo≤n
 ·have e:inB n lo hi=decide (n≤hi):=by simp[inB,h1]
  rw[e];go_enter Tryz.func125,Tryz.ntmps125;go_wp2;go_ret;exact⟨by first | rfl | simp[*],rfl⟩
 ·have e:inB n lo hi=false:=by simp[inB,h1]
  rw[e];go_enter Tryz.func125,Tryz.ntmps125;go_wp2;go_ret;exact⟨rfl,rfl⟩
theorem VO (n lo hi:Int) (w:World) :
  Calls Tryz.prog 158 #[.int .i64 n,.int .i64 lo,.int .i64 hi] w fun e w'=>e=.returned (.bool (inB n lo hi))∧w=w':=by
 by_cases h1:lo≤n
 ·have e:inB n lo hi=decide (n≤hi):=by simp[inB,h1]
  rw[e];go_enter Tryz.func158,Tryz.ntmps158;go_wp2;go_ret;exact⟨by first | rfl | simp[*],rfl⟩
 ·have e:inB n lo hi=false:=by simp[inB,h1]
  rw[e];go_enter Tryz.func158,Tryz.ntmps158;go_wp2;go_ret;exact⟨rfl,rfl⟩
theorem jg (n lo hi:Int) (w:World) :
  Calls Tryz.prog 139 #[.int .i64 n,.int .i64 lo,.int .i64 hi] w fun e w'=>e=.returned (.bool (inB n lo hi))∧w=w':=by
 by_cases h1:lo≤n
 ·have e:inB n lo hi=decide (n≤hi):=by simp[inB,h1]
  rw[e];go_enter Tryz.func139,Tryz.ntmps139;go_wp2;go_ret;exact⟨by first | rfl | simp[*],rfl⟩
 ·have e:inB n lo hi=false:=by simp[inB,h1]
  rw[e];go_enter Tryz.func139,Tryz.ntmps139;go_wp2;go_ret;exact⟨rfl,rfl⟩
theorem ED (n lo hi:Int) (w:World) :
  Calls Tryz.prog 130 #[.int .i64 n,.int .i64 lo,.int .i64 hi] w fun e w'=>e=.returned (.bool (inB n lo hi))∧w=w':=by
 by_cases h1:lo≤n
 ·have e:inB n lo hi=decide (n≤hi):=by simp[inB,h1]
  rw[e];go_enter Tryz.func130,Tryz.ntmps130;go_wp2;go_ret;exact⟨by first | rfl | simp[*],rfl⟩
 ·have e:inB n lo hi=false:=by simp[inB,h1]
  rw[e];go_enter Tryz.func130,Tryz.ntmps130;go_wp2;go_ret;exact⟨rfl,rfl⟩
theorem jc (x y:Int) (w:World) :
  Calls Tryz.prog 123 #[.agg #[.int .i64 x,.int .i64 y]] w fun e w'=>e=.returned (.bool (jk ⟨x,y⟩))∧Below w.heap.size w w':=by
 have hb:jk ⟨x,y⟩=(inB x 0 47&&inB y 0 23):=rfl;rw[hb];clear hb;generalize e0:inB x 0 47=b0;generalize e1:inB y 0 23=b1;have E0:=Lib.hid e0;have E1:=Lib.hid e1;clear e0 e1;go_enter Tryz.func123,Tryz.ntmps123;go_wp2_with (go_at_call 158;refine (VO _ _ _ _).mono ?_;rintro e w' ⟨rfl,rfl⟩;first | rw[E0.out] | rw[E1.out])
 all_goals
  go_ret;exact⟨by simp[*],(by repeat (first | exact Below.refl _ _ | assumption | refine Below.drew ?_ | refine below_drewN ?_ _ | refine aj ?_ _ | refine Below.setCell ?_ (by first | (simp;done) | omega | (simp;omega)) _ | refine aA ?_ (by assumption)))⟩
theorem nS (p f lo hi no tu sl:Int) (w:World) :
  Calls Tryz.prog 71 #[.agg #[.int .i64 p,.int .i64 f,.int .i64 lo,.int .i64 hi,.int .i64 no,.int .i64 tu,.int .i64 sl]] w fun e w'=>e=.returned (.bool (dw ⟨p,f,lo,hi,no,tu,sl⟩))∧Below w.heap.size w w':=by
 have hb:dw ⟨p,f,lo,hi,no,tu,sl⟩=(inB p 20 2000&&(p % 2==0)&&inB f 0 (p-1)&&inB lo 0 23999&&inB hi 0 23999&&decide (lo<hi)&&inB no 0 47999&&inB tu (-2000) 2000&&inB sl 0 10):=rfl;rw[hb];clear hb;generalize e0:inB p 20 2000=b0;generalize e1:inB f 0 (p-1)=b1;generalize e2:inB lo 0 23999=b2;generalize e3:inB hi 0 23999=b3;generalize e4:inB no 0 47999=b4;generalize e5:inB tu (-2000) 2000=b5;generalize e6:inB sl 0 10=b6;have E0:=Lib.hid e0;have E1:=Lib.hid e1;have E2:=Lib.hid e2;have E3:=Lib.hid e3;have E4:=Lib.hid e4;have E5:=Lib.hid e5;have E6:=Lib.hid e6;clear e0 e1 e2 e3 e4 e5 e6;generalize hlt:decide (lo<hi)=lt;cases b0
 ·go_enter Tryz.func71,Tryz.ntmps71;go_wp2_with (go_at_call 125;refine (vk _ _ _ _).mono ?_;rintro e w' ⟨rfl,rfl⟩;first | rw[E0.out] | rw[E1.out] | rw[E2.out] | rw[E3.out] | rw[E4.out] | rw[E5.out] | rw[E6.out])
  all_goals
   go_ret;exact⟨by simp[*],(by repeat (first | exact Below.refl _ _ | assumption | refine Below.drew ?_ | refine below_drewN ?_ _ | refine aj ?_ _ | refine Below.setCell ?_ (by first | (simp;done) | omega | (simp;omega)) _ | refine aA ?_ (by assumption)))⟩
 ·obtain⟨p1,p2⟩:=jf.1 E0.out;have hm:p.tmod 2=p % 2:=Int.tmod_eq_emod_of_nonneg (by omega);generalize hq:p % 2=q at hm⊢;go_enter Tryz.func71,Tryz.ntmps71;go_wp2_with (go_at_call 125;refine (vk _ _ _ _).mono ?_;rintro e w' ⟨rfl,rfl⟩;first | rw[E0.out] | rw[E1.out] | rw[E2.out] | rw[E3.out] | rw[E4.out] | rw[E5.out] | rw[E6.out])
  all_goals
   go_ret;exact⟨by simp[*],(by repeat (first | exact Below.refl _ _ | assumption | refine Below.drew ?_ | refine below_drewN ?_ _ | refine aj ?_ _ | refine Below.setCell ?_ (by first | (simp;done) | omega | (simp;omega)) _ | refine aA ?_ (by assumption)))⟩
end Go.Proofs.YtjidhhfabfnhnaaGreat
namespace Go.Proofs.YtjidhhfabfnhnaaGreat
open Go.RowKit
theorem yC {W w1:World} (hb:Below W.heap.size W w1):(∀b o,b<W.heap.size→w1.cell? ⟨b,o,none⟩=W.cell? ⟨b,o,none⟩)∧(∀b o,b<W.heap.size→w1.frozen? ⟨b,o,none⟩=W.frozen? ⟨b,o,none⟩) :=
 ⟨fun b o h=>hb.cell (p:=⟨b,o,none⟩) h,fun b o h=>hb.frozen (p:=⟨b,o,none⟩) h⟩
theorem yD (n c:Int):(n.tmod c+c) % c=n % c:=by
 rw[Int.add_emod_right];have:n.tmod c=n-c*(n.tdiv c):=by have:=Int.mul_tdiv_add_tmod n c;omega
 rw[this,Int.sub_mul_emod_self_left]
theorem zL (n c:Int) (h1:0<c) (h2:c≤1000000) (w:World) :
  Calls Tryz.prog 165 #[.int .i64 n,.int .i64 c] w fun e w'=>e=.returned (.int .i64 (n % c))∧w=w':=by
 rw[←yD n c];have b1:=Int.lt_tmod_of_pos n h1;have b2:=Int.tmod_lt_of_pos n h1;go_enter Tryz.func165,Tryz.ntmps165;go_wp2;go_ret;exact⟨rfl,rfl⟩
theorem QH (a b c d:Int) (w:World) :
  Calls Tryz.prog 63 #[.agg #[.int .i64 a,.int .i64 b],.agg #[.int .i64 c,.int .i64 d]] w fun e w'=>e=.returned (.int .i64 (jB ⟨a,b⟩ ⟨c,d⟩))∧Below w.heap.size w w':=by
 generalize e1:jk ⟨a,b⟩=q;generalize e2:jk ⟨c,d⟩=r;have E1:=Lib.hid e1;have E2:=Lib.hid e2;cases q
 ·have hn:jB ⟨a,b⟩ ⟨c,d⟩ = -1:=by simp[jB,e1]
  rw[hn];clear hn e1 e2;go_enter Tryz.func63,Tryz.ntmps63;go_wp2_with fail;refine (jc a b _).mono ?_;rintro e w1 ⟨rfl,hb1⟩;rw[E1.out];go_wp2;go_ret;exact⟨rfl,(by repeat (first | exact Below.refl _ _ | assumption | refine Below.drew ?_ | refine below_drewN ?_ _ | refine aj ?_ _ | refine Below.setCell ?_ (by first | (simp;done) | omega | (simp;omega)) _ | refine aA ?_ (by assumption)))⟩
 ·cases r
  ·have hn:jB ⟨a,b⟩ ⟨c,d⟩ = -1:=by simp[jB,e2]
   rw[hn];clear hn e1 e2;go_enter Tryz.func63,Tryz.ntmps63;go_wp2_with fail;refine (jc a b _).mono ?_;rintro e w1 ⟨rfl,hb1⟩;rw[E1.out];obtain⟨hc1,hf1⟩:=yC hb1;go_wp2_with fail;refine (jc c d _).mono ?_;rintro e w2 ⟨rfl,hb2⟩;rw[E2.out];go_wp2;go_ret;exact⟨rfl,(by repeat (first | exact Below.refl _ _ | assumption | refine Below.drew ?_ | refine below_drewN ?_ _ | refine aj ?_ _ | refine Below.setCell ?_ (by first | (simp;done) | omega | (simp;omega)) _ | refine aA ?_ (by assumption)))⟩
  ·have hn:jB ⟨a,b⟩ ⟨c,d⟩=max (max (b-d) (d-b)) (min (max (a-c) (c-a)) (48-max (a-c) (c-a))):=by
    have h1 : -(b-d)=d-b:=by omega
    have h2 : -(a-c)=c-a:=by omega
    simp[jB,e1,e2,vg,h1,h2]
   rw[hn];have k1:0≤a∧a≤47∧0≤b∧b≤23:=by simp[jk,inB]at e1;omega
   have k2:0≤c∧c≤47∧0≤d∧d≤23:=by simp[jk,inB]at e2;omega
   clear hn e1 e2;obtain⟨a1,a2,b1,b2⟩:=k1;obtain⟨c1,c2,d1,d2⟩:=k2;go_enter Tryz.func63,Tryz.ntmps63;go_wp2_with fail;refine (jc a b _).mono ?_;rintro e w1 ⟨rfl,hb1⟩;rw[E1.out];obtain⟨hc1,hf1⟩:=yC hb1;go_wp2_with fail;refine (jc c d _).mono ?_;rintro e w2 ⟨rfl,hb2⟩;rw[E2.out];obtain⟨hc2,hf2⟩:=yC hb2;have hz:=hb1.size;simp at hz;have k0:aG w2 w.heap.size 69 #[.int .i64 a,.int .i64 b]:=(((aG.new w _ _).alloc _).below hb1 (by simp<;>omega)).below hb2 (by omega);have k1:aG w2 (w.heap.size+1) 69 #[.int .i64 c,.int .i64 d]:=by
    have k:=(aG.new (w.alloc (.cells #[.int .i64 a,.int .i64 b] 69)) 69 #[.int .i64 c,.int .i64 d]).below hb1 (by simp);rw[World.size_alloc]at k;exact k.below hb2 (by omega)
   have f0:w2.cell? ⟨w.heap.size,0,none⟩=some (.int .i64 a):=k0.cell 0;have f1:w2.cell? ⟨w.heap.size,1,none⟩=some (.int .i64 b):=k0.cell 1;have f2:w2.cell? ⟨w.heap.size+1,0,none⟩=some (.int .i64 c):=k1.cell 0;have f3:w2.cell? ⟨w.heap.size+1,1,none⟩=some (.int .i64 d):=k1.cell 1;clear hc1 hc2 hf1 hf2 k0 k1;go_wp2
   all_goals
    go_ret;exact⟨by simp only[Array.getD_eq_getD_getElem?,List.getElem?_toArray,List.getElem?_cons_succ,List.getElem?_cons_zero,Option.getD_some];congr 2;omega,(by repeat (first | exact Below.refl _ _ | assumption | refine Below.drew ?_ | refine below_drewN ?_ _ | refine aj ?_ _ | refine Below.setCell ?_ (by first | (simp;done) | omega | (simp;omega)) _ | refine aA ?_ (by assumption)))⟩
end Go.Proofs.YtjidhhfabfnhnaaGreat
namespace Go.Proofs.YtjidhhfabfnhnaaGreat
open Go.RowKit
theorem JJ (p f lo hi no tu sl t:Int) (h1 : -4000000000≤tu*t) (h2:tu*t≤4000000000) (h3:0≤no) (h4:no≤47999) (w:World) :
  Calls Tryz.prog 153 #[.agg #[.int .i64 p,.int .i64 f,.int .i64 lo,.int .i64 hi,.int .i64 no,.int .i64 tu,.int .i64 sl,.int .i64 t]] w fun e w'=>e=.returned (.int .i64 ((no+tu*t) % 48000))∧Below w.heap.size w w':=by
 go_enter Tryz.func153,Tryz.ntmps153;go_wp2_with (go_at_call 165;refine (zL _ _ (by omega) (by omega) _).mono ?_;rintro e w' ⟨rfl,rfl⟩);go_ret;exact⟨rfl,(by repeat (first | exact Below.refl _ _ | assumption | refine Below.drew ?_ | refine below_drewN ?_ _ | refine aj ?_ _ | refine Below.setCell ?_ (by first | (simp;done) | omega | (simp;omega)) _ | refine aA ?_ (by assumption)))⟩
theorem VP (p f lo hi no tu sl t:Int) (h1:20≤p) (h2:p≤2000) (h3:0≤f) (h4:f≤1999) (h5:0≤lo) (h6:lo<hi) (h7:hi≤23999) (h8 : -10≤t) (h9:t≤1000010) (w:World) :
  Calls Tryz.prog 154 #[.agg #[.int .i64 p,.int .i64 f,.int .i64 lo,.int .i64 hi,.int .i64 no,.int .i64 tu,.int .i64 sl,.int .i64 t]] w fun e w'=>e=.returned (.int .i64 (rowP ⟨p,f,lo,hi,no,tu,sl⟩ t))∧Below w.heap.size w w':=by
 have hm:rowP ⟨p,f,lo,hi,no,tu,sl⟩ t=lo+(hi-lo)*2*(if p-(t+f) % p<(t+f) % p then p-(t+f) % p else (t+f) % p) / p:=by
  simp only[rowP];congr 3
  split<;>omega
 rw[hm];clear hm;have u1:=Int.emod_nonneg (t+f) (b:=p) (by omega);have u2:=Int.emod_lt_of_pos (t+f) (b:=p) (by omega);have A1:=fun w=>zL (t+f) p (by omega) (by omega) w;generalize (t+f) % p=u at u1 u2 A1⊢;have AA:=Lib.hid A1;clear A1;by_cases hc:p-u<u
 ·rw[if_pos hc];have v1:0≤p-u:=by omega
  have v2:p-u≤2000:=by omega
  have m1:0≤(hi-lo)*2*(p-u):=Int.mul_nonneg (by omega) v1;have m2:(hi-lo)*2*(p-u)≤96000000:=by
   have:=Int.mul_le_mul (a:=(hi-lo)*2) (b:=p-u) (c:=48000) (d:=2000) (by omega) v2 v1 (by omega);omega
  have d0:((hi-lo)*2*(p-u)).tdiv p=(hi-lo)*2*(p-u) / p:=Int.tdiv_eq_ediv_of_nonneg m1;have x1:IntKind.i64.wrap (hi-lo)=hi-lo:=IntWalk.i64_in _ (by omega);have x2:IntKind.i64.wrap ((hi-lo)*2)=(hi-lo)*2:=IntWalk.i64_in _ (by omega);have x3:IntKind.i64.wrap (p-u)=p-u:=IntWalk.i64_in _ (by omega);have x4:IntKind.i64.wrap ((hi-lo)*2*(p-u))=(hi-lo)*2*(p-u):=IntWalk.i64_in _ (by omega);have d1:0≤(hi-lo)*2*(p-u) / p:=Int.ediv_nonneg m1 (by omega);have d2:(hi-lo)*2*(p-u) / p≤96000000:=Int.le_trans (Int.ediv_le_self _ m1) m2;have x5:IntKind.i64.wrap ((hi-lo)*2*(p-u) / p)=(hi-lo)*2*(p-u) / p:=IntWalk.i64_in _ (by omega);have x6:IntKind.i64.wrap (lo+(hi-lo)*2*(p-u) / p)=lo+(hi-lo)*2*(p-u) / p:=IntWalk.i64_in _ (by omega);have pz:p≠0:=by omega
  go_enter Tryz.func154,Tryz.ntmps154;go_wp2_with (go_at_call 165;refine (AA.out _).mono ?_;rintro e w' ⟨rfl,rfl⟩);have K:aG (w.alloc (.cells #[.int .i64 p,.int .i64 f,.int .i64 lo,.int .i64 hi,.int .i64 no,.int .i64 tu,.int .i64 sl,.int .i64 t] 183)) w.heap.size 183 #[.int .i64 p,.int .i64 f,.int .i64 lo,.int .i64 hi,.int .i64 no,.int .i64 tu,.int .i64 sl,.int .i64 t]:=aG.new _ _ _;have hb:Below w.heap.size w (w.alloc (.cells #[.int .i64 p,.int .i64 f,.int .i64 lo,.int .i64 hi,.int .i64 no,.int .i64 tu,.int .i64 sl,.int .i64 t] 183)):=(by repeat (first | exact Below.refl _ _ | assumption | refine Below.drew ?_ | refine below_drewN ?_ _ | refine aj ?_ _ | refine Below.setCell ?_ (by first | (simp;done) | omega | (simp;omega)) _ | refine aA ?_ (by assumption)));generalize w.alloc (.cells #[.int .i64 p,.int .i64 f,.int .i64 lo,.int .i64 hi,.int .i64 no,.int .i64 tu,.int .i64 sl,.int .i64 t] 183)=W at K hb⊢;have f0:W.cell? ⟨w.heap.size,0,none⟩=some (.int .i64 p):=K.cell 0;have f2:W.cell? ⟨w.heap.size,2,none⟩=some (.int .i64 lo):=K.cell 2;have f3:W.cell? ⟨w.heap.size,3,none⟩=some (.int .i64 hi):=K.cell 3;clear K;go_region_held3 (fun w'=>w'.cell? ⟨w.heap.size,0,none⟩=some (.int .i64 p)∧w'.cell? ⟨w.heap.size,2,none⟩=some (.int .i64 lo)∧w'.cell? ⟨w.heap.size,3,none⟩=some (.int .i64 hi))
   (first | go_keep)
   (fail)
  go_wp2;go_ret;exact⟨rfl,(by repeat (first | exact Below.refl _ _ | assumption | refine Below.drew ?_ | refine below_drewN ?_ _ | refine aj ?_ _ | refine Below.setCell ?_ (by first | (simp;done) | omega | (simp;omega)) _ | refine aA ?_ (by assumption)))⟩
 ·rw[if_neg hc];have v1:0≤u:=by omega
  have v2:u≤2000:=by omega
  have m1:0≤(hi-lo)*2*(u):=Int.mul_nonneg (by omega) v1;have m2:(hi-lo)*2*(u)≤96000000:=by
   have:=Int.mul_le_mul (a:=(hi-lo)*2) (b:=u) (c:=48000) (d:=2000) (by omega) v2 v1 (by omega);omega
  have d0:((hi-lo)*2*(u)).tdiv p=(hi-lo)*2*(u) / p:=Int.tdiv_eq_ediv_of_nonneg m1;have x1:IntKind.i64.wrap (hi-lo)=hi-lo:=IntWalk.i64_in _ (by omega);have x2:IntKind.i64.wrap ((hi-lo)*2)=(hi-lo)*2:=IntWalk.i64_in _ (by omega);have x3:IntKind.i64.wrap (p-u)=p-u:=IntWalk.i64_in _ (by omega);have x4:IntKind.i64.wrap ((hi-lo)*2*(u))=(hi-lo)*2*(u):=IntWalk.i64_in _ (by omega);have d1:0≤(hi-lo)*2*(u) / p:=Int.ediv_nonneg m1 (by omega);have d2:(hi-lo)*2*(u) / p≤96000000:=Int.le_trans (Int.ediv_le_self _ m1) m2;have x5:IntKind.i64.wrap ((hi-lo)*2*(u) / p)=(hi-lo)*2*(u) / p:=IntWalk.i64_in _ (by omega);have x6:IntKind.i64.wrap (lo+(hi-lo)*2*(u) / p)=lo+(hi-lo)*2*(u) / p:=IntWalk.i64_in _ (by omega);have pz:p≠0:=by omega
  go_enter Tryz.func154,Tryz.ntmps154;go_wp2_with (go_at_call 165;refine (AA.out _).mono ?_;rintro e w' ⟨rfl,rfl⟩);have K:aG (w.alloc (.cells #[.int .i64 p,.int .i64 f,.int .i64 lo,.int .i64 hi,.int .i64 no,.int .i64 tu,.int .i64 sl,.int .i64 t] 183)) w.heap.size 183 #[.int .i64 p,.int .i64 f,.int .i64 lo,.int .i64 hi,.int .i64 no,.int .i64 tu,.int .i64 sl,.int .i64 t]:=aG.new _ _ _;have hb:Below w.heap.size w (w.alloc (.cells #[.int .i64 p,.int .i64 f,.int .i64 lo,.int .i64 hi,.int .i64 no,.int .i64 tu,.int .i64 sl,.int .i64 t] 183)):=(by repeat (first | exact Below.refl _ _ | assumption | refine Below.drew ?_ | refine below_drewN ?_ _ | refine aj ?_ _ | refine Below.setCell ?_ (by first | (simp;done) | omega | (simp;omega)) _ | refine aA ?_ (by assumption)));generalize w.alloc (.cells #[.int .i64 p,.int .i64 f,.int .i64 lo,.int .i64 hi,.int .i64 no,.int .i64 tu,.int .i64 sl,.int .i64 t] 183)=W at K hb⊢;have f0:W.cell? ⟨w.heap.size,0,none⟩=some (.int .i64 p):=K.cell 0;have f2:W.cell? ⟨w.heap.size,2,none⟩=some (.int .i64 lo):=K.cell 2;have f3:W.cell? ⟨w.heap.size,3,none⟩=some (.int .i64 hi):=K.cell 3;clear K;go_region_held3 (fun w'=>w'.cell? ⟨w.heap.size,0,none⟩=some (.int .i64 p)∧w'.cell? ⟨w.heap.size,2,none⟩=some (.int .i64 lo)∧w'.cell? ⟨w.heap.size,3,none⟩=some (.int .i64 hi))
   (first | go_keep)
   (fail)
  go_wp2;go_ret;exact⟨rfl,(by repeat (first | exact Below.refl _ _ | assumption | refine Below.drew ?_ | refine below_drewN ?_ _ | refine aj ?_ _ | refine Below.setCell ?_ (by first | (simp;done) | omega | (simp;omega)) _ | refine aA ?_ (by assumption)))⟩
end Go.Proofs.YtjidhhfabfnhnaaGreat
namespace Go.Proofs.YtjidhhfabfnhnaaGreat
open Go.RowKit
theorem EF (o:iM) (t:Int) (h:0<o.period) (h5:0≤o.low) (h6:o.low<o.high):0≤rowP o t∧rowP o t≤o.low+(o.high-o.low):=by
 unfold rowP;have u1:=Int.emod_nonneg (t+o.phase) (b:=o.period) (by omega);have u2:=Int.emod_lt_of_pos (t+o.phase) (b:=o.period) (by omega);generalize (t+o.phase) % o.period=u at u1 u2;have hv:0≤min u (o.period-u)∧2*min u (o.period-u)≤o.period:=by omega
 generalize min u (o.period-u)=v at hv;obtain⟨v1,v2⟩:=hv;have e:(o.high-o.low)*2*v=(o.high-o.low)*(2*v):=by rw[Int.mul_assoc]
 rw[e];have m1:0≤(o.high-o.low)*(2*v):=Int.mul_nonneg (by omega) (by omega);have m2:(o.high-o.low)*(2*v)≤(o.high-o.low)*o.period:=Int.mul_le_mul_of_nonneg_left v2 (by omega);have d1:=Int.ediv_nonneg m1 (show 0≤o.period by omega);have d2:(o.high-o.low)*(2*v) / o.period≤o.high-o.low:=Int.ediv_le_of_le_mul h m2;omega
theorem QI (p f lo hi no tu sl t:Int) (h1:20≤p) (h2:p≤2000) (h3:0≤f) (h4:f≤1999) (h5:0≤lo) (h6:lo<hi) (h7:hi≤23999) (h8 : -10≤t) (h9:t≤1000010) (h10:0≤no) (h11:no≤47999) (h12 : -2000≤tu) (h13:tu≤2000) (w:World) :
  Calls Tryz.prog 121 #[.agg #[.int .i64 p,.int .i64 f,.int .i64 lo,.int .i64 hi,.int .i64 no,.int .i64 tu,.int .i64 sl,.int .i64 t]] w fun e w'=>e=.returned (.agg #[.int .i64 (qX ⟨p,f,lo,hi,no,tu,sl⟩ t / 1000),.int .i64 (rowP ⟨p,f,lo,hi,no,tu,sl⟩ t / 1000)])∧Below w.heap.size w w':=by
 have q : -4000000000≤tu*t∧tu*t≤4000000000:=by
  have a1:tu*t≤2000*1000010∨tu*t≤2000*1000010:=by
   by_cases ht:0≤t
   ·left;exact Int.mul_le_mul h13 h9 ht (by omega)
   ·left;have:=Int.mul_le_mul_of_nonpos_right h12 (show t≤0 by omega);omega
  have a2 : -(2000*1000010)≤tu*t:=by
   by_cases ht:0≤t
   ·have:=Int.mul_le_mul_of_nonneg_right h12 ht;omega
   ·have:=Int.mul_le_mul_of_nonpos_right h13 (show t≤0 by omega);omega
  omega
 have C:=JJ p f lo hi no tu sl t q.1 q.2 h10 h11;have R:=VP p f lo hi no tu sl t h1 h2 h3 h4 h5 h6 h7 h8 h9;have hY:=EF ⟨p,f,lo,hi,no,tu,sl⟩ t (by simp;omega) h5 h6;simp only at hY;have hc:qX ⟨p,f,lo,hi,no,tu,sl⟩ t=(no+tu*t) % 48000:=rfl;rw[hc];have x1:=Int.emod_nonneg (no+tu*t) (b:=48000) (by omega);have x2:=Int.emod_lt_of_pos (no+tu*t) (b:=48000) (by omega);generalize (no+tu*t) % 48000=X at C x1 x2⊢;generalize rowP ⟨p,f,lo,hi,no,tu,sl⟩ t=Y at R hY⊢;obtain⟨y1,y2⟩:=hY;have HC:=Lib.hid C;have HR:=Lib.hid R;clear C R q hc;go_enter Tryz.func121,Tryz.ntmps121;go_wp2_with fail;have K:aG ((w.alloc (.cells #[.int .i64 p,.int .i64 f,.int .i64 lo,.int .i64 hi,.int .i64 no,.int .i64 tu,.int .i64 sl,.int .i64 t] 183)).alloc (.cells #[.int .i64 0,.int .i64 0] 69)) w.heap.size 183 #[.int .i64 p,.int .i64 f,.int .i64 lo,.int .i64 hi,.int .i64 no,.int .i64 tu,.int .i64 sl,.int .i64 t]:=(aG.new _ _ _).alloc _;have K2:aG ((w.alloc (.cells #[.int .i64 p,.int .i64 f,.int .i64 lo,.int .i64 hi,.int .i64 no,.int .i64 tu,.int .i64 sl,.int .i64 t] 183)).alloc (.cells #[.int .i64 0,.int .i64 0] 69)) (w.heap.size+1) 69 #[.int .i64 0,.int .i64 0]:=by
  have k:=aG.new (w.alloc (.cells #[.int .i64 p,.int .i64 f,.int .i64 lo,.int .i64 hi,.int .i64 no,.int .i64 tu,.int .i64 sl,.int .i64 t] 183)) 69 #[.int .i64 0,.int .i64 0];rw[World.size_alloc]at k;exact k
 have hb:Below w.heap.size w ((w.alloc (.cells #[.int .i64 p,.int .i64 f,.int .i64 lo,.int .i64 hi,.int .i64 no,.int .i64 tu,.int .i64 sl,.int .i64 t] 183)).alloc (.cells #[.int .i64 0,.int .i64 0] 69)):=(by repeat (first | exact Below.refl _ _ | assumption | refine Below.drew ?_ | refine below_drewN ?_ _ | refine aj ?_ _ | refine Below.setCell ?_ (by first | (simp;done) | omega | (simp;omega)) _ | refine aA ?_ (by assumption)));generalize (w.alloc (.cells #[.int .i64 p,.int .i64 f,.int .i64 lo,.int .i64 hi,.int .i64 no,.int .i64 tu,.int .i64 sl,.int .i64 t] 183)).alloc (.cells #[.int .i64 0,.int .i64 0] 69)=W at K K2 hb⊢;have g0:W.cell? ⟨w.heap.size,0,none⟩=some (.int .i64 p):=K.cell 0;have g1:W.cell? ⟨w.heap.size,1,none⟩=some (.int .i64 f):=K.cell 1;have g2:W.cell? ⟨w.heap.size,2,none⟩=some (.int .i64 lo):=K.cell 2;have g3:W.cell? ⟨w.heap.size,3,none⟩=some (.int .i64 hi):=K.cell 3;have g4:W.cell? ⟨w.heap.size,4,none⟩=some (.int .i64 no):=K.cell 4;have g5:W.cell? ⟨w.heap.size,5,none⟩=some (.int .i64 tu):=K.cell 5;have g6:W.cell? ⟨w.heap.size,6,none⟩=some (.int .i64 sl):=K.cell 6;have g7:W.cell? ⟨w.heap.size,7,none⟩=some (.int .i64 t):=K.cell 7;refine aF 7 [some (.agg #[.int .i64 p,.int .i64 f,.int .i64 lo,.int .i64 hi,.int .i64 no,.int .i64 tu,.int .i64 sl,.int .i64 t]),some (.int .i64 X),some (.int .i64 (X / 1000)),some (.agg #[.int .i64 p,.int .i64 f,.int .i64 lo,.int .i64 hi,.int .i64 no,.int .i64 tu,.int .i64 sl,.int .i64 t]),some (.int .i64 Y),some (.int .i64 (Y / 1000)),some (.agg #[.int .i64 (X / 1000),.int .i64 (Y / 1000)])] [] ?_ ?_ ?_
 ·trivial
 ·refine⟨?_,?x1,?_,?_,?x4,?_,?_,trivial⟩
  case x1 =>
   intro vals w1 hx hd;clear hd;simp only[Lf,au,Act.put,bH,bG];have g0:=ah hx g0;have g1:=ah hx g1;have g2:=ah hx g2;have g3:=ah hx g3;have g4:=ah hx g4;have g5:=ah hx g5;have g6:=ah hx g6;have g7:=ah hx g7;go_wp2_with fail;refine (HC.out _).mono ?_;rintro e w2 ⟨rfl,hb2⟩;go_wp2;exact⟨rfl,hb2,rfl⟩
  case x4 =>
   intro vals w1 hx hd;clear hd;simp only[Lf,au,Act.put,bH,bG];have g0:=ah hx g0;have g1:=ah hx g1;have g2:=ah hx g2;have g3:=ah hx g3;have g4:=ah hx g4;have g5:=ah hx g5;have g6:=ah hx g6;have g7:=ah hx g7;go_wp2_with fail;refine (HR.out _).mono ?_;rintro e w2 ⟨rfl,hb2⟩;go_wp2;exact⟨rfl,hb2,rfl⟩
  all_goals
   intro vals w1 hx hd;clear hd;simp only[Lf,au,Act.put,bH,bG];have g0:=ah hx g0;have g1:=ah hx g1;have g2:=ah hx g2;have g3:=ah hx g3;have g4:=ah hx g4;have g5:=ah hx g5;have g6:=ah hx g6;have g7:=ah hx g7;go_wp2;exact iq
 intro vals w2 hx hf;have e6:vals 6=.agg #[.int .i64 (X / 1000),.int .i64 (Y / 1000)]:=hf 6 (by omega);clear hf;have hx:=hx.aH;have hB2:Below w.heap.size w w2:=hb.trans (Below.mono hx hb.size);have K3:=K2.ext hx;refine eP 7 _ (by kernel_rfl) (by kernel_rfl) rfl ?_;simp only[Lf,au,Act.put,FR_];rw[e6];clear e6;have k0:=K3.frozen 0;have k1:=K3.frozen 1;have c0:=K3.cell 0;have c1:=K3.cell 1;go_wp2;have K4:=(K3.cZ 0 (.int .i64 (X / 1000))).cZ 1 (.int .i64 (Y / 1000));have hB4:Below w.heap.size w ((w2.setCell ⟨w.heap.size+1,0,none⟩ (.int .i64 (X / 1000))).setCell ⟨w.heap.size+1,1,none⟩ (.int .i64 (Y / 1000))):=(by repeat (first | exact Below.refl _ _ | assumption | refine Below.drew ?_ | refine below_drewN ?_ _ | refine aj ?_ _ | refine Below.setCell ?_ (by first | (simp;done) | omega | (simp;omega)) _ | refine aA ?_ (by assumption)));generalize (w2.setCell ⟨w.heap.size+1,0,none⟩ (.int .i64 (X / 1000))).setCell ⟨w.heap.size+1,1,none⟩ (.int .i64 (Y / 1000))=w4 at K4 hB4⊢;have c2:w4.cell? ⟨w.heap.size+1,0,none⟩=some (.int .i64 (X / 1000)):=K4.cell 0;have c3:w4.cell? ⟨w.heap.size+1,1,none⟩=some (.int .i64 (Y / 1000)):=K4.cell 1;exact bodyPost_ret (v:=.agg #[.int .i64 (X / 1000),.int .i64 (Y / 1000)]) (by simp[results,Tryz.results121,go_sem,c2,c3]) rfl ⟨rfl,hB4⟩
end Go.Proofs.YtjidhhfabfnhnaaGreat
namespace Go.Proofs.YtjidhhfabfnhnaaGreat
open Go.RowKit
theorem aG.ZC {w:World} {g:Nat} {t:TypeId} {a0 a1 a2 a3 a4 a5 a6 a7:Value} (h:aG w g t #[a0,a1,a2,a3,a4,a5,a6,a7]) (b0 b1 b2 b3 b4 b5 b6 b7:Value) :
  aG ((((((((w.setCell ⟨g,0,none⟩ b0).setCell ⟨g,1,none⟩ b1).setCell ⟨g,2,none⟩ b2).setCell ⟨g,3,none⟩ b3).setCell ⟨g,4,none⟩ b4).setCell ⟨g,5,none⟩ b5).setCell ⟨g,6,none⟩ b6).setCell ⟨g,7,none⟩ b7) g t #[b0,b1,b2,b3,b4,b5,b6,b7]:=by
 have k:=(((((((h.cZ 0 b0).cZ 1 b1).cZ 2 b2).cZ 3 b3).cZ 4 b4).cZ 5 b5).cZ 6 b6).cZ 7 b7;simp only[List.setIfInBounds_toArray,List.set_cons_zero,List.set_cons_succ]at k;exact k
set_option maxHeartbeats 1000000 in
theorem ZE (p f lo hi no tu sl t la:Int) (w:World) :
  Calls Tryz.prog 120 #[.agg #[.int .i64 p,.int .i64 f,.int .i64 lo,.int .i64 hi,.int .i64 no,.int .i64 tu,.int .i64 sl],.int .i64 t,.int .i64 la] w fun e w'=>e=.returned (.tuple #[.agg #[.int .i64 p,.int .i64 f,.int .i64 lo,.int .i64 hi,.int .i64 no,.int .i64 tu,.int .i64 sl,.int .i64 (IntKind.i64.wrap (t-la))],.bool (inB t 0 1000000&&inB la (-10) 10&&dw ⟨p,f,lo,hi,no,tu,sl⟩)])∧Below w.heap.size w w':=by
 generalize hT:IntKind.i64.wrap (t-la)=T;generalize e0:inB t 0 1000000=b0;generalize e1:inB la (-10) 10=b1;have V:=nS p f lo hi no tu sl;generalize dw ⟨p,f,lo,hi,no,tu,sl⟩=b2 at V⊢;have E0:=Lib.hid e0;have E1:=Lib.hid e1;have HV:=Lib.hid V;clear e0 e1 V;go_enter Tryz.func120,Tryz.ntmps120;go_wp2_with fail;have K:aG ((w.alloc (.cells #[.int .i64 p,.int .i64 f,.int .i64 lo,.int .i64 hi,.int .i64 no,.int .i64 tu,.int .i64 sl] 51)).alloc (.cells #[.int .i64 0,.int .i64 0,.int .i64 0,.int .i64 0,.int .i64 0,.int .i64 0,.int .i64 0,.int .i64 0] 183)) w.heap.size 51 #[.int .i64 p,.int .i64 f,.int .i64 lo,.int .i64 hi,.int .i64 no,.int .i64 tu,.int .i64 sl]:=(aG.new _ _ _).alloc _;have K2:aG ((w.alloc (.cells #[.int .i64 p,.int .i64 f,.int .i64 lo,.int .i64 hi,.int .i64 no,.int .i64 tu,.int .i64 sl] 51)).alloc (.cells #[.int .i64 0,.int .i64 0,.int .i64 0,.int .i64 0,.int .i64 0,.int .i64 0,.int .i64 0,.int .i64 0] 183)) (w.heap.size+1) 183 #[.int .i64 0,.int .i64 0,.int .i64 0,.int .i64 0,.int .i64 0,.int .i64 0,.int .i64 0,.int .i64 0]:=by
  have k:=aG.new (w.alloc (.cells #[.int .i64 p,.int .i64 f,.int .i64 lo,.int .i64 hi,.int .i64 no,.int .i64 tu,.int .i64 sl] 51)) 183 #[.int .i64 0,.int .i64 0,.int .i64 0,.int .i64 0,.int .i64 0,.int .i64 0,.int .i64 0,.int .i64 0];rw[World.size_alloc]at k;exact k
 have hb:Below w.heap.size w ((w.alloc (.cells #[.int .i64 p,.int .i64 f,.int .i64 lo,.int .i64 hi,.int .i64 no,.int .i64 tu,.int .i64 sl] 51)).alloc (.cells #[.int .i64 0,.int .i64 0,.int .i64 0,.int .i64 0,.int .i64 0,.int .i64 0,.int .i64 0,.int .i64 0] 183)):=(by repeat (first | exact Below.refl _ _ | assumption | refine Below.drew ?_ | refine below_drewN ?_ _ | refine aj ?_ _ | refine Below.setCell ?_ (by first | (simp;done) | omega | (simp;omega)) _ | refine aA ?_ (by assumption)));generalize (w.alloc (.cells #[.int .i64 p,.int .i64 f,.int .i64 lo,.int .i64 hi,.int .i64 no,.int .i64 tu,.int .i64 sl] 51)).alloc (.cells #[.int .i64 0,.int .i64 0,.int .i64 0,.int .i64 0,.int .i64 0,.int .i64 0,.int .i64 0,.int .i64 0] 183)=W at K K2 hb⊢;refine (vk _ _ _ _).mono ?_;rintro e w1 ⟨rfl,rfl⟩;rw[E0.out];cases b0
 ·skip;have g0:W.cell? ⟨w.heap.size,0,none⟩=some (.int .i64 p):=K.cell 0;have g1:W.cell? ⟨w.heap.size,1,none⟩=some (.int .i64 f):=K.cell 1;have g2:W.cell? ⟨w.heap.size,2,none⟩=some (.int .i64 lo):=K.cell 2;have g3:W.cell? ⟨w.heap.size,3,none⟩=some (.int .i64 hi):=K.cell 3;have g4:W.cell? ⟨w.heap.size,4,none⟩=some (.int .i64 no):=K.cell 4;have g5:W.cell? ⟨w.heap.size,5,none⟩=some (.int .i64 tu):=K.cell 5;have g6:W.cell? ⟨w.heap.size,6,none⟩=some (.int .i64 sl):=K.cell 6;have z0:W.cell? ⟨w.heap.size+1,0,none⟩=some (.int .i64 0):=K2.cell 0;have y0:=K2.frozen 0;have z1:W.cell? ⟨w.heap.size+1,1,none⟩=some (.int .i64 0):=K2.cell 1;have y1:=K2.frozen 1;have z2:W.cell? ⟨w.heap.size+1,2,none⟩=some (.int .i64 0):=K2.cell 2;have y2:=K2.frozen 2;have z3:W.cell? ⟨w.heap.size+1,3,none⟩=some (.int .i64 0):=K2.cell 3;have y3:=K2.frozen 3;have z4:W.cell? ⟨w.heap.size+1,4,none⟩=some (.int .i64 0):=K2.cell 4;have y4:=K2.frozen 4;have z5:W.cell? ⟨w.heap.size+1,5,none⟩=some (.int .i64 0):=K2.cell 5;have y5:=K2.frozen 5;have z6:W.cell? ⟨w.heap.size+1,6,none⟩=some (.int .i64 0):=K2.cell 6;have y6:=K2.frozen 6;have z7:W.cell? ⟨w.heap.size+1,7,none⟩=some (.int .i64 0):=K2.cell 7;have y7:=K2.frozen 7;go_wp2;clear z0 y0 z1 y1 z2 y2 z3 y3 z4 y4 z5 y5 z6 y6 z7 y7 g0 g1 g2 g3 g4 g5 g6;have K4:=K2.ZC (.int .i64 p) (.int .i64 f) (.int .i64 lo) (.int .i64 hi) (.int .i64 no) (.int .i64 tu) (.int .i64 sl) (.int .i64 T);have hB4:Below w.heap.size w ((((((((W.setCell ⟨w.heap.size+1,0,none⟩ (.int .i64 p)).setCell ⟨w.heap.size+1,1,none⟩ (.int .i64 f)).setCell ⟨w.heap.size+1,2,none⟩ (.int .i64 lo)).setCell ⟨w.heap.size+1,3,none⟩ (.int .i64 hi)).setCell ⟨w.heap.size+1,4,none⟩ (.int .i64 no)).setCell ⟨w.heap.size+1,5,none⟩ (.int .i64 tu)).setCell ⟨w.heap.size+1,6,none⟩ (.int .i64 sl)).setCell ⟨w.heap.size+1,7,none⟩ (.int .i64 T)):=((((((((hb.setCell (p:=⟨w.heap.size+1,0,none⟩) (Nat.le_succ _) _).setCell (p:=⟨w.heap.size+1,1,none⟩) (Nat.le_succ _) _).setCell (p:=⟨w.heap.size+1,2,none⟩) (Nat.le_succ _) _).setCell (p:=⟨w.heap.size+1,3,none⟩) (Nat.le_succ _) _).setCell (p:=⟨w.heap.size+1,4,none⟩) (Nat.le_succ _) _).setCell (p:=⟨w.heap.size+1,5,none⟩) (Nat.le_succ _) _).setCell (p:=⟨w.heap.size+1,6,none⟩) (Nat.le_succ _) _).setCell (p:=⟨w.heap.size+1,7,none⟩) (Nat.le_succ _) _);generalize ((((((((W.setCell ⟨w.heap.size+1,0,none⟩ (.int .i64 p)).setCell ⟨w.heap.size+1,1,none⟩ (.int .i64 f)).setCell ⟨w.heap.size+1,2,none⟩ (.int .i64 lo)).setCell ⟨w.heap.size+1,3,none⟩ (.int .i64 hi)).setCell ⟨w.heap.size+1,4,none⟩ (.int .i64 no)).setCell ⟨w.heap.size+1,5,none⟩ (.int .i64 tu)).setCell ⟨w.heap.size+1,6,none⟩ (.int .i64 sl)).setCell ⟨w.heap.size+1,7,none⟩ (.int .i64 T))=w4 at K4 hB4⊢;have c0:w4.cell? ⟨w.heap.size+1,0,none⟩=some (.int .i64 p):=K4.cell 0;have c1:w4.cell? ⟨w.heap.size+1,1,none⟩=some (.int .i64 f):=K4.cell 1;have c2:w4.cell? ⟨w.heap.size+1,2,none⟩=some (.int .i64 lo):=K4.cell 2;have c3:w4.cell? ⟨w.heap.size+1,3,none⟩=some (.int .i64 hi):=K4.cell 3;have c4:w4.cell? ⟨w.heap.size+1,4,none⟩=some (.int .i64 no):=K4.cell 4;have c5:w4.cell? ⟨w.heap.size+1,5,none⟩=some (.int .i64 tu):=K4.cell 5;have c6:w4.cell? ⟨w.heap.size+1,6,none⟩=some (.int .i64 sl):=K4.cell 6;have c7:w4.cell? ⟨w.heap.size+1,7,none⟩=some (.int .i64 T):=K4.cell 7;exact bodyPost_ret (v:=.tuple #[.agg #[.int .i64 p,.int .i64 f,.int .i64 lo,.int .i64 hi,.int .i64 no,.int .i64 tu,.int .i64 sl,.int .i64 T],.bool false]) (by simp[results,Tryz.results120,go_sem,c0,c1,c2,c3,c4,c5,c6,c7]) rfl ⟨by simp,hB4⟩
 ·cases b1
  ·skip;have g0:W.cell? ⟨w.heap.size,0,none⟩=some (.int .i64 p):=K.cell 0;have g1:W.cell? ⟨w.heap.size,1,none⟩=some (.int .i64 f):=K.cell 1;have g2:W.cell? ⟨w.heap.size,2,none⟩=some (.int .i64 lo):=K.cell 2;have g3:W.cell? ⟨w.heap.size,3,none⟩=some (.int .i64 hi):=K.cell 3;have g4:W.cell? ⟨w.heap.size,4,none⟩=some (.int .i64 no):=K.cell 4;have g5:W.cell? ⟨w.heap.size,5,none⟩=some (.int .i64 tu):=K.cell 5;have g6:W.cell? ⟨w.heap.size,6,none⟩=some (.int .i64 sl):=K.cell 6;have z0:W.cell? ⟨w.heap.size+1,0,none⟩=some (.int .i64 0):=K2.cell 0;have y0:=K2.frozen 0;have z1:W.cell? ⟨w.heap.size+1,1,none⟩=some (.int .i64 0):=K2.cell 1;have y1:=K2.frozen 1;have z2:W.cell? ⟨w.heap.size+1,2,none⟩=some (.int .i64 0):=K2.cell 2;have y2:=K2.frozen 2;have z3:W.cell? ⟨w.heap.size+1,3,none⟩=some (.int .i64 0):=K2.cell 3;have y3:=K2.frozen 3;have z4:W.cell? ⟨w.heap.size+1,4,none⟩=some (.int .i64 0):=K2.cell 4;have y4:=K2.frozen 4;have z5:W.cell? ⟨w.heap.size+1,5,none⟩=some (.int .i64 0):=K2.cell 5;have y5:=K2.frozen 5;have z6:W.cell? ⟨w.heap.size+1,6,none⟩=some (.int .i64 0):=K2.cell 6;have y6:=K2.frozen 6;have z7:W.cell? ⟨w.heap.size+1,7,none⟩=some (.int .i64 0):=K2.cell 7;have y7:=K2.frozen 7;go_wp2_with fail;refine (vk _ _ _ _).mono ?_;rintro e w1 ⟨rfl,rfl⟩;rw[E1.out];go_wp2;clear z0 y0 z1 y1 z2 y2 z3 y3 z4 y4 z5 y5 z6 y6 z7 y7 g0 g1 g2 g3 g4 g5 g6;have K4:=K2.ZC (.int .i64 p) (.int .i64 f) (.int .i64 lo) (.int .i64 hi) (.int .i64 no) (.int .i64 tu) (.int .i64 sl) (.int .i64 T);have hB4:Below w.heap.size w ((((((((W.setCell ⟨w.heap.size+1,0,none⟩ (.int .i64 p)).setCell ⟨w.heap.size+1,1,none⟩ (.int .i64 f)).setCell ⟨w.heap.size+1,2,none⟩ (.int .i64 lo)).setCell ⟨w.heap.size+1,3,none⟩ (.int .i64 hi)).setCell ⟨w.heap.size+1,4,none⟩ (.int .i64 no)).setCell ⟨w.heap.size+1,5,none⟩ (.int .i64 tu)).setCell ⟨w.heap.size+1,6,none⟩ (.int .i64 sl)).setCell ⟨w.heap.size+1,7,none⟩ (.int .i64 T)):=((((((((hb.setCell (p:=⟨w.heap.size+1,0,none⟩) (Nat.le_succ _) _).setCell (p:=⟨w.heap.size+1,1,none⟩) (Nat.le_succ _) _).setCell (p:=⟨w.heap.size+1,2,none⟩) (Nat.le_succ _) _).setCell (p:=⟨w.heap.size+1,3,none⟩) (Nat.le_succ _) _).setCell (p:=⟨w.heap.size+1,4,none⟩) (Nat.le_succ _) _).setCell (p:=⟨w.heap.size+1,5,none⟩) (Nat.le_succ _) _).setCell (p:=⟨w.heap.size+1,6,none⟩) (Nat.le_succ _) _).setCell (p:=⟨w.heap.size+1,7,none⟩) (Nat.le_succ _) _);generalize ((((((((W.setCell ⟨w.heap.size+1,0,none⟩ (.int .i64 p)).setCell ⟨w.heap.size+1,1,none⟩ (.int .i64 f)).setCell ⟨w.heap.size+1,2,none⟩ (.int .i64 lo)).setCell ⟨w.heap.size+1,3,none⟩ (.int .i64 hi)).setCell ⟨w.heap.size+1,4,none⟩ (.int .i64 no)).setCell ⟨w.heap.size+1,5,none⟩ (.int .i64 tu)).setCell ⟨w.heap.size+1,6,none⟩ (.int .i64 sl)).setCell ⟨w.heap.size+1,7,none⟩ (.int .i64 T))=w4 at K4 hB4⊢;have c0:w4.cell? ⟨w.heap.size+1,0,none⟩=some (.int .i64 p):=K4.cell 0;have c1:w4.cell? ⟨w.heap.size+1,1,none⟩=some (.int .i64 f):=K4.cell 1;have c2:w4.cell? ⟨w.heap.size+1,2,none⟩=some (.int .i64 lo):=K4.cell 2;have c3:w4.cell? ⟨w.heap.size+1,3,none⟩=some (.int .i64 hi):=K4.cell 3;have c4:w4.cell? ⟨w.heap.size+1,4,none⟩=some (.int .i64 no):=K4.cell 4;have c5:w4.cell? ⟨w.heap.size+1,5,none⟩=some (.int .i64 tu):=K4.cell 5;have c6:w4.cell? ⟨w.heap.size+1,6,none⟩=some (.int .i64 sl):=K4.cell 6;have c7:w4.cell? ⟨w.heap.size+1,7,none⟩=some (.int .i64 T):=K4.cell 7;exact bodyPost_ret (v:=.tuple #[.agg #[.int .i64 p,.int .i64 f,.int .i64 lo,.int .i64 hi,.int .i64 no,.int .i64 tu,.int .i64 sl,.int .i64 T],.bool false]) (by simp[results,Tryz.results120,go_sem,c0,c1,c2,c3,c4,c5,c6,c7]) rfl ⟨by simp,hB4⟩
  ·skip;have g0:W.cell? ⟨w.heap.size,0,none⟩=some (.int .i64 p):=K.cell 0;have g1:W.cell? ⟨w.heap.size,1,none⟩=some (.int .i64 f):=K.cell 1;have g2:W.cell? ⟨w.heap.size,2,none⟩=some (.int .i64 lo):=K.cell 2;have g3:W.cell? ⟨w.heap.size,3,none⟩=some (.int .i64 hi):=K.cell 3;have g4:W.cell? ⟨w.heap.size,4,none⟩=some (.int .i64 no):=K.cell 4;have g5:W.cell? ⟨w.heap.size,5,none⟩=some (.int .i64 tu):=K.cell 5;have g6:W.cell? ⟨w.heap.size,6,none⟩=some (.int .i64 sl):=K.cell 6;have z0:W.cell? ⟨w.heap.size+1,0,none⟩=some (.int .i64 0):=K2.cell 0;have y0:=K2.frozen 0;have z1:W.cell? ⟨w.heap.size+1,1,none⟩=some (.int .i64 0):=K2.cell 1;have y1:=K2.frozen 1;have z2:W.cell? ⟨w.heap.size+1,2,none⟩=some (.int .i64 0):=K2.cell 2;have y2:=K2.frozen 2;have z3:W.cell? ⟨w.heap.size+1,3,none⟩=some (.int .i64 0):=K2.cell 3;have y3:=K2.frozen 3;have z4:W.cell? ⟨w.heap.size+1,4,none⟩=some (.int .i64 0):=K2.cell 4;have y4:=K2.frozen 4;have z5:W.cell? ⟨w.heap.size+1,5,none⟩=some (.int .i64 0):=K2.cell 5;have y5:=K2.frozen 5;have z6:W.cell? ⟨w.heap.size+1,6,none⟩=some (.int .i64 0):=K2.cell 6;have y6:=K2.frozen 6;have z7:W.cell? ⟨w.heap.size+1,7,none⟩=some (.int .i64 0):=K2.cell 7;have y7:=K2.frozen 7;go_wp2_with fail;refine (vk _ _ _ _).mono ?_;rintro e w1 ⟨rfl,rfl⟩;rw[E1.out];go_wp2_with fail;refine (HV.out _).mono ?_;rintro e W2 ⟨rfl,hb2⟩;clear z0 y0 z1 y1 z2 y2 z3 y3 z4 y4 z5 y5 z6 y6 z7 y7 g0 g1 g2 g3 g4 g5 g6;have K:=K.below hb2 (by have:=K.lt;omega);have K2:=K2.below hb2 (by have:=K2.lt;omega);have hB2:Below w.heap.size w W2:=hb.trans (Below.mono hb2 hb.size);have g0:W2.cell? ⟨w.heap.size,0,none⟩=some (.int .i64 p):=K.cell 0;have g1:W2.cell? ⟨w.heap.size,1,none⟩=some (.int .i64 f):=K.cell 1;have g2:W2.cell? ⟨w.heap.size,2,none⟩=some (.int .i64 lo):=K.cell 2;have g3:W2.cell? ⟨w.heap.size,3,none⟩=some (.int .i64 hi):=K.cell 3;have g4:W2.cell? ⟨w.heap.size,4,none⟩=some (.int .i64 no):=K.cell 4;have g5:W2.cell? ⟨w.heap.size,5,none⟩=some (.int .i64 tu):=K.cell 5;have g6:W2.cell? ⟨w.heap.size,6,none⟩=some (.int .i64 sl):=K.cell 6;have z0:W2.cell? ⟨w.heap.size+1,0,none⟩=some (.int .i64 0):=K2.cell 0;have y0:=K2.frozen 0;have z1:W2.cell? ⟨w.heap.size+1,1,none⟩=some (.int .i64 0):=K2.cell 1;have y1:=K2.frozen 1;have z2:W2.cell? ⟨w.heap.size+1,2,none⟩=some (.int .i64 0):=K2.cell 2;have y2:=K2.frozen 2;have z3:W2.cell? ⟨w.heap.size+1,3,none⟩=some (.int .i64 0):=K2.cell 3;have y3:=K2.frozen 3;have z4:W2.cell? ⟨w.heap.size+1,4,none⟩=some (.int .i64 0):=K2.cell 4;have y4:=K2.frozen 4;have z5:W2.cell? ⟨w.heap.size+1,5,none⟩=some (.int .i64 0):=K2.cell 5;have y5:=K2.frozen 5;have z6:W2.cell? ⟨w.heap.size+1,6,none⟩=some (.int .i64 0):=K2.cell 6;have y6:=K2.frozen 6;have z7:W2.cell? ⟨w.heap.size+1,7,none⟩=some (.int .i64 0):=K2.cell 7;have y7:=K2.frozen 7;go_wp2;clear z0 y0 z1 y1 z2 y2 z3 y3 z4 y4 z5 y5 z6 y6 z7 y7 g0 g1 g2 g3 g4 g5 g6;have K4:=K2.ZC (.int .i64 p) (.int .i64 f) (.int .i64 lo) (.int .i64 hi) (.int .i64 no) (.int .i64 tu) (.int .i64 sl) (.int .i64 T);have hB4:Below w.heap.size w ((((((((W2.setCell ⟨w.heap.size+1,0,none⟩ (.int .i64 p)).setCell ⟨w.heap.size+1,1,none⟩ (.int .i64 f)).setCell ⟨w.heap.size+1,2,none⟩ (.int .i64 lo)).setCell ⟨w.heap.size+1,3,none⟩ (.int .i64 hi)).setCell ⟨w.heap.size+1,4,none⟩ (.int .i64 no)).setCell ⟨w.heap.size+1,5,none⟩ (.int .i64 tu)).setCell ⟨w.heap.size+1,6,none⟩ (.int .i64 sl)).setCell ⟨w.heap.size+1,7,none⟩ (.int .i64 T)):=((((((((hB2.setCell (p:=⟨w.heap.size+1,0,none⟩) (Nat.le_succ _) _).setCell (p:=⟨w.heap.size+1,1,none⟩) (Nat.le_succ _) _).setCell (p:=⟨w.heap.size+1,2,none⟩) (Nat.le_succ _) _).setCell (p:=⟨w.heap.size+1,3,none⟩) (Nat.le_succ _) _).setCell (p:=⟨w.heap.size+1,4,none⟩) (Nat.le_succ _) _).setCell (p:=⟨w.heap.size+1,5,none⟩) (Nat.le_succ _) _).setCell (p:=⟨w.heap.size+1,6,none⟩) (Nat.le_succ _) _).setCell (p:=⟨w.heap.size+1,7,none⟩) (Nat.le_succ _) _);generalize ((((((((W2.setCell ⟨w.heap.size+1,0,none⟩ (.int .i64 p)).setCell ⟨w.heap.size+1,1,none⟩ (.int .i64 f)).setCell ⟨w.heap.size+1,2,none⟩ (.int .i64 lo)).setCell ⟨w.heap.size+1,3,none⟩ (.int .i64 hi)).setCell ⟨w.heap.size+1,4,none⟩ (.int .i64 no)).setCell ⟨w.heap.size+1,5,none⟩ (.int .i64 tu)).setCell ⟨w.heap.size+1,6,none⟩ (.int .i64 sl)).setCell ⟨w.heap.size+1,7,none⟩ (.int .i64 T))=w4 at K4 hB4⊢;have c0:w4.cell? ⟨w.heap.size+1,0,none⟩=some (.int .i64 p):=K4.cell 0;have c1:w4.cell? ⟨w.heap.size+1,1,none⟩=some (.int .i64 f):=K4.cell 1;have c2:w4.cell? ⟨w.heap.size+1,2,none⟩=some (.int .i64 lo):=K4.cell 2;have c3:w4.cell? ⟨w.heap.size+1,3,none⟩=some (.int .i64 hi):=K4.cell 3;have c4:w4.cell? ⟨w.heap.size+1,4,none⟩=some (.int .i64 no):=K4.cell 4;have c5:w4.cell? ⟨w.heap.size+1,5,none⟩=some (.int .i64 tu):=K4.cell 5;have c6:w4.cell? ⟨w.heap.size+1,6,none⟩=some (.int .i64 sl):=K4.cell 6;have c7:w4.cell? ⟨w.heap.size+1,7,none⟩=some (.int .i64 T):=K4.cell 7;exact bodyPost_ret (v:=.tuple #[.agg #[.int .i64 p,.int .i64 f,.int .i64 lo,.int .i64 hi,.int .i64 no,.int .i64 tu,.int .i64 sl,.int .i64 T],.bool b2]) (by simp[results,Tryz.results120,go_sem,c0,c1,c2,c3,c4,c5,c6,c7]) rfl ⟨by simp,hB4⟩
end Go.Proofs.YtjidhhfabfnhnaaGreat
namespace Go.Proofs.YtjidhhfabfnhnaaGreat
open Go.RowKit
def Yr:Option Vg→Value
 |none=>.tuple #[.agg #[.int .i64 0,.int .i64 0],.int .i64 70]
 |some c=>.tuple #[.agg #[.int .i64 c.x,.int .i64 c.y],.int .i64 0]
theorem EG (p f lo hi no tu sl t la:Int) (w:World) :
  Calls Tryz.prog 61 #[.agg #[.int .i64 p,.int .i64 f,.int .i64 lo,.int .i64 hi,.int .i64 no,.int .i64 tu,.int .i64 sl],.int .i64 t,.int .i64 la] w fun e w'=>e=.returned (Yr (Nb ⟨p,f,lo,hi,no,tu,sl⟩ t la))∧Below w.heap.size w w':=by
 have A1:=ZE p f lo hi no tu sl t la;generalize hT:IntKind.i64.wrap (t-la)=T at A1;generalize hok:(inB t 0 1000000&&inB la (-10) 10&&dw ⟨p,f,lo,hi,no,tu,sl⟩)=ok at A1;have HA:=Lib.hid A1;clear A1;go_enter Tryz.func61,Tryz.ntmps61;go_wp2_with fail;have K:aG ((w.alloc (.cells #[.int .i64 p,.int .i64 f,.int .i64 lo,.int .i64 hi,.int .i64 no,.int .i64 tu,.int .i64 sl] 51)).alloc (.cells #[.int .i64 0,.int .i64 0] 69)) w.heap.size 51 #[.int .i64 p,.int .i64 f,.int .i64 lo,.int .i64 hi,.int .i64 no,.int .i64 tu,.int .i64 sl]:=(aG.new _ _ _).alloc _;have K2:aG ((w.alloc (.cells #[.int .i64 p,.int .i64 f,.int .i64 lo,.int .i64 hi,.int .i64 no,.int .i64 tu,.int .i64 sl] 51)).alloc (.cells #[.int .i64 0,.int .i64 0] 69)) (w.heap.size+1) 69 #[.int .i64 0,.int .i64 0]:=by
  have k:=aG.new (w.alloc (.cells #[.int .i64 p,.int .i64 f,.int .i64 lo,.int .i64 hi,.int .i64 no,.int .i64 tu,.int .i64 sl] 51)) 69 #[.int .i64 0,.int .i64 0];rw[World.size_alloc]at k;exact k
 have hb:Below w.heap.size w ((w.alloc (.cells #[.int .i64 p,.int .i64 f,.int .i64 lo,.int .i64 hi,.int .i64 no,.int .i64 tu,.int .i64 sl] 51)).alloc (.cells #[.int .i64 0,.int .i64 0] 69)):=(by repeat (first | exact Below.refl _ _ | assumption | refine Below.drew ?_ | refine below_drewN ?_ _ | refine aj ?_ _ | refine Below.setCell ?_ (by first | (simp;done) | omega | (simp;omega)) _ | refine aA ?_ (by assumption)));generalize (w.alloc (.cells #[.int .i64 p,.int .i64 f,.int .i64 lo,.int .i64 hi,.int .i64 no,.int .i64 tu,.int .i64 sl] 51)).alloc (.cells #[.int .i64 0,.int .i64 0] 69)=W at K K2 hb⊢;refine (HA.out _).mono ?_;rintro e W2 ⟨rfl,hb2⟩;have K2:=K2.below hb2 (by have:=K2.lt;omega);have hB2:Below w.heap.size w W2:=hb.trans (Below.mono hb2 hb.size);clear K hb hb2;have hlt:w.heap.size+1<W2.heap.size:=K2.lt;have z0:W2.cell? ⟨w.heap.size+1,0,none⟩=some (.int .i64 0):=K2.cell 0;have z1:W2.cell? ⟨w.heap.size+1,1,none⟩=some (.int .i64 0):=K2.cell 1;have y0:=K2.frozen 0;have y1:=K2.frozen 1;cases ok
 ·have ha:Nb ⟨p,f,lo,hi,no,tu,sl⟩ t la=none:=by rw[Nb,hok];rfl
  have HP:=Lib.hid ha;clear ha hok;go_wp2;have K4:=((K2.cZ 0 (.int .i64 0)).cZ 1 (.int .i64 0)).alloc (.cells #[.int .i64 p,.int .i64 f,.int .i64 lo,.int .i64 hi,.int .i64 no,.int .i64 tu,.int .i64 sl,.int .i64 T] 183);have hB4:Below w.heap.size w (((W2.setCell ⟨w.heap.size+1,0,none⟩ (.int .i64 0)).setCell ⟨w.heap.size+1,1,none⟩ (.int .i64 0)).alloc (.cells #[.int .i64 p,.int .i64 f,.int .i64 lo,.int .i64 hi,.int .i64 no,.int .i64 tu,.int .i64 sl,.int .i64 T] 183)):=aj ((hB2.setCell (p:=⟨w.heap.size+1,0,none⟩) (Nat.le_succ _) _).setCell (p:=⟨w.heap.size+1,1,none⟩) (Nat.le_succ _) _) _;generalize ((W2.setCell ⟨w.heap.size+1,0,none⟩ (.int .i64 0)).setCell ⟨w.heap.size+1,1,none⟩ (.int .i64 0)).alloc (.cells #[.int .i64 p,.int .i64 f,.int .i64 lo,.int .i64 hi,.int .i64 no,.int .i64 tu,.int .i64 sl,.int .i64 T] 183)=w4 at K4 hB4⊢;have c0:w4.cell? ⟨w.heap.size+1,0,none⟩=some (.int .i64 0):=K4.cell 0;have c1:w4.cell? ⟨w.heap.size+1,1,none⟩=some (.int .i64 0):=K4.cell 1;exact bodyPost_ret (v:=.tuple #[.agg #[.int .i64 0,.int .i64 0],.int .i64 70]) (by simp[results,Tryz.results61,go_sem,c0,c1]) rfl ⟨by rw[HP.out];rfl,hB4⟩
 ·have ha:Nb ⟨p,f,lo,hi,no,tu,sl⟩ t la=some ⟨qX ⟨p,f,lo,hi,no,tu,sl⟩ (t-la) / 1000,rowP ⟨p,f,lo,hi,no,tu,sl⟩ (t-la) / 1000⟩:=by rw[Nb,hok];rfl
  have HP:=Lib.hid ha;clear ha;simp only[dw,inB,Bool.and_eq_true,decide_eq_true_eq]at hok;obtain⟨⟨⟨i1,i2⟩,i3,i4⟩,⟨⟨⟨⟨⟨⟨⟨⟨o1,o2⟩,o3⟩,o4,o5⟩,o6,o7⟩,o8,o9⟩,o10⟩,o11,o12⟩,o13,o14⟩,o15,o16⟩:=hok;have hT':T=t-la:=by rw[←hT];exact IntWalk.i64_in _ (by omega)
  clear hT;have C:=QI p f lo hi no tu sl (t-la) o1 o2 o4 (by omega) o6 o10 o9 (by omega) (by omega) o11 o12 o13 o14;rw[←hT']at C HP;generalize qX ⟨p,f,lo,hi,no,tu,sl⟩ T / 1000=X at C HP;generalize rowP ⟨p,f,lo,hi,no,tu,sl⟩ T / 1000=Y at C HP;have HC:=Lib.hid C;clear C o3 hT';go_wp2_with fail;refine (HC.out _).mono ?_;rintro e W5 ⟨rfl,hb5⟩;have K5:=(K2.alloc (.cells #[.int .i64 p,.int .i64 f,.int .i64 lo,.int .i64 hi,.int .i64 no,.int .i64 tu,.int .i64 sl,.int .i64 T] 183)).below hb5 (by rw[World.size_alloc];omega);have iJ:Below w.heap.size w W5:=aA (aj hB2 _) hb5;clear z0 z1 y0 y1 hb5 K2 hB2 hlt;have z0:W5.cell? ⟨w.heap.size+1,0,none⟩=some (.int .i64 0):=K5.cell 0;have z1:W5.cell? ⟨w.heap.size+1,1,none⟩=some (.int .i64 0):=K5.cell 1;have y0:=K5.frozen 0;have y1:=K5.frozen 1;go_wp2;have K4:=(K5.cZ 0 (.int .i64 X)).cZ 1 (.int .i64 Y);have hB4:Below w.heap.size w ((W5.setCell ⟨w.heap.size+1,0,none⟩ (.int .i64 X)).setCell ⟨w.heap.size+1,1,none⟩ (.int .i64 Y)):=(iJ.setCell (p:=⟨w.heap.size+1,0,none⟩) (Nat.le_succ _) _).setCell (p:=⟨w.heap.size+1,1,none⟩) (Nat.le_succ _) _;generalize (W5.setCell ⟨w.heap.size+1,0,none⟩ (.int .i64 X)).setCell ⟨w.heap.size+1,1,none⟩ (.int .i64 Y)=w4 at K4 hB4⊢;have c0:w4.cell? ⟨w.heap.size+1,0,none⟩=some (.int .i64 X):=K4.cell 0;have c1:w4.cell? ⟨w.heap.size+1,1,none⟩=some (.int .i64 Y):=K4.cell 1;exact bodyPost_ret (v:=.tuple #[.agg #[.int .i64 X,.int .i64 Y],.int .i64 0]) (by simp[results,Tryz.results61,go_sem,c0,c1]) rfl ⟨by rw[HP.out];rfl,hB4⟩
end Go.Proofs.YtjidhhfabfnhnaaGreat
