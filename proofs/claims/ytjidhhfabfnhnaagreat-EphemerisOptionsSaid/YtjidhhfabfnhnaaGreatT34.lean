/- The law EphemerisOptions of the ephemeris layer: for every input the call returns true and each argument reads afterwards as it read before: an option that stands by what is known before is affected exactly if its orbit is not one and the same in its exposure afterwards, its strip has changed, or a slot is not certain any more; without an update of its satellite in between, it is not. No condition. -/
import Derived.Test.YtjidhhfabfnhnaaGreatT25
import Derived.Test.YtjidhhfabfnhnaaGreatRows
import Derived.ProofKit
import Derived.OpenShut
import Derived.ChangeOld
import Derived.Below
import Derived.Deep.Slices
import Derived.Test.YtjidhhfabfnhnaaGreatT27
import Derived.Test.YtjidhhfabfnhnaaGreatT33
namespace Go.Proofs.YtjidhhfabfnhnaaGreat
open Go.ChangeShapes Go.WideShapes Go.ChangeAt Go.RowKit Go.Deep
theorem ownKn:ownKnob Tryz.prog.godebug=none:=by kernel_rfl
theorem laidOut:laidOutB Tryz.prog=true:=by kernel_rfl
theorem dY {n:Int} (h:(Lit.int .i64 n).wf=true):dG n:=by
 simpa [dG,Lit.wf,IntKind.min,IntKind.max,IntKind.signed,IntKind.bits]using h
section
variable {H:Type} {enc:TypeId×Value→H} {W:World} {base:Nat} {spare:Nat→Bool} {held:Bool}
set_option maxRecDepth 100000 in
theorem Gm {cs:List Value} {n:Nat} {x:DataW H×List MemPlace} (h:DataW.trod enc Tryz.prog W base spare held n 151 cs=some x):∃q:A4,q.ok∧cs=jX q:=by
 obtain⟨xs,m,_,_,hlen,hxl,hg⟩:=DataW.trod_array Tryz.underlying151 h;have hc4:Tryz.prog.cellsOf 151=4:=by kernel_rfl
 have hc1:Tryz.prog.cellsOf 3=1:=by kernel_rfl
 rw[hc4]at hlen
 match cs,hlen with
 |[c0,c1,c2,c3],_ =>
  have g0:=hg 0 (by omega);have g1:=hg 1 (by omega);have g2:=hg 2 (by omega);have g3:=hg 3 (by omega);rw[hc1]at g0 g1 g2 g3
  match xs,hxl with
  |[y0,y1,y2,y3],_ =>
   simp at g0 g1 g2 g3;obtain⟨a0,e0,_,w0⟩:=DataW.trod_int Tryz.underlying3 g0;obtain⟨a1,e1,_,w1⟩:=DataW.trod_int Tryz.underlying3 g1;obtain⟨a2,e2,_,w2⟩:=DataW.trod_int Tryz.underlying3 g2;obtain⟨a3,e3,_,w3⟩:=DataW.trod_int Tryz.underlying3 g3;simp at e0 e1 e2 e3;subst e0 e1 e2 e3;exact⟨⟨a0,a1,a2,a3⟩,⟨dY w0,dY w1,dY w2,dY w3⟩,rfl⟩
set_option maxRecDepth 100000 in
theorem Ym {cs:List Value} {n:Nat} {x:DataW H×List MemPlace} (h:DataW.trod enc Tryz.prog W base spare held n 153 cs=some x):∃q:A7,q.ok∧cs=vK q:=by
 obtain⟨xs,m,_,_,hlen,hxl,hg⟩:=DataW.trod_array Tryz.underlying153 h;have hc4:Tryz.prog.cellsOf 153=7:=by kernel_rfl
 have hc1:Tryz.prog.cellsOf 3=1:=by kernel_rfl
 rw[hc4]at hlen
 match cs,hlen with
 |[c0,c1,c2,c3,c4,c5,c6],_ =>
  have g0:=hg 0 (by omega);have g1:=hg 1 (by omega);have g2:=hg 2 (by omega);have g3:=hg 3 (by omega);have g4:=hg 4 (by omega);have g5:=hg 5 (by omega);have g6:=hg 6 (by omega);rw[hc1]at g0 g1 g2 g3 g4 g5 g6
  match xs,hxl with
  |[y0,y1,y2,y3,y4,y5,y6],_ =>
   simp at g0 g1 g2 g3 g4 g5 g6;obtain⟨a0,e0,_,w0⟩:=DataW.trod_int Tryz.underlying3 g0;obtain⟨a1,e1,_,w1⟩:=DataW.trod_int Tryz.underlying3 g1;obtain⟨a2,e2,_,w2⟩:=DataW.trod_int Tryz.underlying3 g2;obtain⟨a3,e3,_,w3⟩:=DataW.trod_int Tryz.underlying3 g3;obtain⟨a4,e4,_,w4⟩:=DataW.trod_int Tryz.underlying3 g4;obtain⟨a5,e5,_,w5⟩:=DataW.trod_int Tryz.underlying3 g5;obtain⟨a6,e6,_,w6⟩:=DataW.trod_int Tryz.underlying3 g6;simp at e0 e1 e2 e3 e4 e5 e6;subst e0 e1 e2 e3 e4 e5 e6;exact⟨⟨a0,a1,a2,a3,a4,a5,a6⟩,⟨dY w0,dY w1,dY w2,dY w3,dY w4,dY w5,dY w6⟩,rfl⟩
theorem Yn {α:Type} {P:Nat→α→Prop} (n:Nat) (h:∀i,i<n→∃x,P i x):∃l:List α,l.length=n∧∀i x,l[i]?=some x→P i x:=by
 induction n with
 |zero=>exact⟨[],rfl,fun i x hx=>by simp at hx⟩
 |succ n ih =>
  obtain⟨l,hl,hp⟩:=ih fun i hi=>h i (by omega);obtain⟨x,hx⟩:=h n (by omega);refine⟨l++[x],by simp[hl],fun i y hy=>?_⟩;rw[List.getElem?_append]at hy
  split at hy
  ·exact hp i y hy
  ·rename_i hi
   have hi0:i-l.length=0:=by
    rcases Nat.eq_zero_or_pos (i-l.length)with e | e
    ·exact e
    ·rw[List.getElem?_eq_none (by simp;omega)]at hy;cases hy
   rw[hi0]at hy;simp at hy;subst hy;have:i=n:=by omega
   subst this;exact hx
theorem pX {α:Type} {cells:α→List Value} {s:Nat} {t te:TypeId} {ok:α→Prop} (hu:Tryz.prog.underlying t=some (.slice te)) (hcs:Tryz.prog.cellsOf te=s) (hlen:∀q,(cells q).length=s) (h0:0<s)
  (hop:∀(m:Nat) (cs:List Value) (x:DataW H×List MemPlace),DataW.trod enc Tryz.prog W base spare held m te cs=some x→∃q,ok q∧cs=cells q)
  {fuel:Nat} {v:Value} {z:DataW H×List MemPlace} (hf:DataW.trod enc Tryz.prog W base spare held fuel t [v]=some z):∃A n c,v=.slice A n c∧∃xs,RA cells s W W.heap.size A n c xs∧(A=none→c=0)∧∀x∈xs,ok x:=by
 rcases open_slice hu hf with ⟨hcs,_⟩ | ⟨a,len,cap,m,n',D,Pl,hcs2,hb,hl,hm,hmm,hx,hi⟩
 ·obtain rfl:v=.slice none 0 0:=by simpa using hcs
  exact⟨none,0,0,rfl,[],⟨Reads.none_,rfl,Nat.le_refl _,Nat.zero_le _,Nat.zero_le _⟩,fun _=>rfl,fun z hz=>by cases hz⟩
 ·obtain rfl:v=.slice (some a) len cap:=by simpa using hcs2
  have hlm:len≤m:=by rw[hmm];split<;>omega
  obtain⟨l,hll,hp⟩:=Yn (P:=fun i (q:α)=>ok q∧∀j,j<s→W.cell? (a.add (i*s+j))=(cells q)[j]?) len (fun i hin=>by
   obtain⟨cs',h1,h2⟩:=hi i (by omega);rw[hcs]at h1;obtain⟨q,hok,rfl⟩:=hop _ _ _ h2;obtain⟨_,_,hat⟩:=World.cells?_some h1;exact⟨q,hok,fun j hj=>by rw[←JF];exact hat j hj⟩)
  refine⟨some a,len,cap,rfl,l,⟨⟨by rw[rJ hlen,hll],fun hn=>?_⟩,hll,hl,hm,Nat.le_trans hl (by unfold maxLen at hm;exact hm)⟩,fun e=>(by cases e),fun x hx=>?_⟩
  ·have hn:0<len:=hn;have hz:=(hp 0 l[0] (List.getElem?_eq_getElem (by omega))).2 0 h0;rw[List.getElem?_eq_getElem (by rw[hlen];exact h0)]at hz;obtain⟨b,o,sp⟩:=a;have hsp:sp=none:=by simpa [Addr.add]using World.cell?_spot hz
   subst hsp;have hlt:=World.block_lt_of_cell? W _ hz;refine⟨b,o,rfl,by simpa [Addr.add]using hlt,fun j u hu=>?_⟩;have hj:j<l.length*s:=by
    rcases Nat.lt_or_ge j (l.length*s)with e | e
    ·exact e
    ·rw[List.getElem?_eq_none (by rw[rJ hlen];exact e)]at hu;cases hu
   have hdm:=Nat.div_add_mod j s;have hmd:=Nat.mod_lt j h0;have hjd:j / s<l.length:=by rw[Nat.div_lt_iff_lt_mul h0];exact hj
   have hcell:=(hp (j / s) l[j / s] (List.getElem?_eq_getElem hjd)).2 (j % s) hmd;have hg:=Nk hlen l (j / s) hjd (j % s) hmd;rw[Nat.mul_comm (j / s) s,hdm]at hg hcell;rw[Addr.add_lit]at hcell;rw[hcell,←hg,hu]
  ·obtain⟨i,hil,rfl⟩:=List.mem_iff_getElem.1 hx;exact (hp i _ (List.getElem?_eq_getElem hil)).1
theorem Jv {n:Nat} {cs:List Value} {x:DataW H×List MemPlace} (h:DataW.trod enc Tryz.prog W base spare held n 3 cs=some x):∃q:Int,dG q∧cs=bW q:=by
 obtain⟨a,rfl,_,wa⟩:=DataW.trod_int Tryz.underlying3 h;exact⟨a,dY wa,rfl⟩
set_option maxRecDepth 100000 in
theorem Ql {v:Value} {d:DataW H} {p:List MemPlace} {r:Reach} {b0:Nat} (hv:Value.okWide Tryz.prog W r b0 25 v) (h:DataW.Trod enc Tryz.prog W base spare held 25 v d p):∃c:D_,v=Uh c∧Pq W c:=by
 obtain⟨cs,rfl,hsz⟩:=okWide_struct Tryz.underlying25 hv;obtain⟨fuel,hf⟩:=h;obtain⟨xs,m,_,_,hlen,hxl,hg⟩:=DataW.trod_struct Tryz.underlying25 hf;obtain⟨cs⟩:=cs;simp only[Value.cells]at hlen hg;have hc6:Tryz.prog.cellsOf 25=6:=by kernel_rfl
 have hc7:Tryz.prog.cellsOf 22=1:=by kernel_rfl
 have hc4:Tryz.prog.cellsOf 23=1:=by kernel_rfl
 have hci:Tryz.prog.cellsOf 3=1:=by kernel_rfl
 rw[hc6]at hlen
 match cs,hlen with
 |[c0,c1,c2,c3,c4,c5],_ =>
  have g0:DataW.trod enc Tryz.prog W base spare held m 22 (([c0,c1,c2,c3,c4,c5].drop 0).take (Tryz.prog.cellsOf 22))=xs[0]?:=hg 0 _ rfl;have g1:DataW.trod enc Tryz.prog W base spare held m 23 (([c0,c1,c2,c3,c4,c5].drop 1).take (Tryz.prog.cellsOf 23))=xs[1]?:=hg 1 _ rfl;have g2:DataW.trod enc Tryz.prog W base spare held m 23 (([c0,c1,c2,c3,c4,c5].drop 2).take (Tryz.prog.cellsOf 23))=xs[2]?:=hg 2 _ rfl;have g3:DataW.trod enc Tryz.prog W base spare held m 23 (([c0,c1,c2,c3,c4,c5].drop 3).take (Tryz.prog.cellsOf 23))=xs[3]?:=hg 3 _ rfl;have g4:DataW.trod enc Tryz.prog W base spare held m 3 (([c0,c1,c2,c3,c4,c5].drop 4).take (Tryz.prog.cellsOf 3))=xs[4]?:=hg 4 _ rfl;have g5:DataW.trod enc Tryz.prog W base spare held m 3 (([c0,c1,c2,c3,c4,c5].drop 5).take (Tryz.prog.cellsOf 3))=xs[5]?:=hg 5 _ rfl;rw[hc7]at g0;rw[hc4]at g1 g2 g3;rw[hci]at g4 g5
  match xs,hxl with
  |[y0,y1,y2,y3,y4,y5],_ =>
   simp at g0 g1 g2 g3 g4 g5;obtain⟨xa,xn,xc,rfl,x,x1,_,x3⟩:=pX (cells:=vK) (s:=7) Tryz.underlying22 (by kernel_rfl) (fun _=>rfl) (by decide) (fun _ _ _ h=>Ym h) g0;obtain⟨ya,yn,yc,rfl,y,y1,_,y3⟩:=pX (cells:=jX) (s:=4) Tryz.underlying23 (by kernel_rfl) (fun _=>rfl) (by decide) (fun _ _ _ h=>Gm h) g1;obtain⟨za,zn,zc,rfl,z,z1,_,z3⟩:=pX (cells:=jX) (s:=4) Tryz.underlying23 (by kernel_rfl) (fun _=>rfl) (by decide) (fun _ _ _ h=>Gm h) g2;obtain⟨ua,un,uc,rfl,u,u1,_,u3⟩:=pX (cells:=jX) (s:=4) Tryz.underlying23 (by kernel_rfl) (fun _=>rfl) (by decide) (fun _ _ _ h=>Gm h) g3;obtain⟨fr,hfr,hf2⟩:=Jv g4;obtain⟨lo,hlo,hl2⟩:=Jv g5;obtain rfl:c4=.int .i64 fr:=by simpa [bW]using hf2
   obtain rfl:c5=.int .i64 lo:=by simpa [bW]using hl2
   exact⟨⟨x,y,z,u,fr,lo,xa,xn,xc,ya,yn,yc,za,zn,zc,ua,un,uc⟩,rfl,⟨x1,y1,z1,u1,x3,y3,z3,u3,hfr,hlo⟩⟩
end
end Go.Proofs.YtjidhhfabfnhnaaGreat
namespace Go.Proofs.YtjidhhfabfnhnaaGreat
open Go.ChangeShapes Go.WideShapes Go.ChangeAt Go.RowKit Go.Deep
section
variable {H:Type} {enc:TypeId×Value→H} {W:World} {base:Nat} {spare:Nat→Bool} {held:Bool}
set_option maxRecDepth 100000 in
theorem Yo {cs:List Value} {n:Nat} {x:DataW H×List MemPlace} (h:DataW.trod enc Tryz.prog W base spare held n 155 cs=some x):∃q:A5,q.ok∧cs=qJ q:=by
 obtain⟨xs,m,_,_,hlen,hxl,hg⟩:=DataW.trod_array Tryz.underlying155 h;have hc4:Tryz.prog.cellsOf 155=5:=by kernel_rfl
 have hc1:Tryz.prog.cellsOf 3=1:=by kernel_rfl
 rw[hc4]at hlen
 match cs,hlen with
 |[c0,c1,c2,c3,c4],_ =>
  have g0:=hg 0 (by omega);have g1:=hg 1 (by omega);have g2:=hg 2 (by omega);have g3:=hg 3 (by omega);have g4:=hg 4 (by omega);rw[hc1]at g0 g1 g2 g3 g4
  match xs,hxl with
  |[y0,y1,y2,y3,y4],_ =>
   simp at g0 g1 g2 g3 g4;obtain⟨a0,e0,_,w0⟩:=DataW.trod_int Tryz.underlying3 g0;obtain⟨a1,e1,_,w1⟩:=DataW.trod_int Tryz.underlying3 g1;obtain⟨a2,e2,_,w2⟩:=DataW.trod_int Tryz.underlying3 g2;obtain⟨a3,e3,_,w3⟩:=DataW.trod_int Tryz.underlying3 g3;obtain⟨a4,e4,_,w4⟩:=DataW.trod_int Tryz.underlying3 g4;simp at e0 e1 e2 e3 e4;subst e0 e1 e2 e3 e4;exact⟨⟨a0,a1,a2,a3,a4⟩,⟨dY w0,dY w1,dY w2,dY w3,dY w4⟩,rfl⟩
theorem Vf {A:Option Addr} {n c:Nat} {d:DataW H} {p:List MemPlace} (h:DataW.Trod enc Tryz.prog W base spare held 26 (.slice A n c) d p):∃xs,RA qJ 5 W W.heap.size A n c xs∧∀x∈xs,A5.ok x:=by
 obtain⟨fuel,hf⟩:=h;obtain⟨A',n',c',e,x,x1,_,x3⟩:=pX (cells:=qJ) (s:=5) Tryz.underlying26 (by kernel_rfl) (fun _=>rfl) (by decide) (fun _ _ _ h=>Yo h) hf;cases e;exact⟨x,x1,x3⟩
end
end Go.Proofs.YtjidhhfabfnhnaaGreat
namespace Go.Proofs.YtjidhhfabfnhnaaGreat
open Go.ChangeShapes Go.WideShapes Go.ChangeAt Go.RowKit Go.Deep
set_option linter.unusedVariables false
set_option maxRecDepth 100000 in
theorem pY (os:Os) (started:os.Started) (H:Type) (enc:TypeId×Value→H) :
  ReturnsInHanded {} Tryz.checked os 3 .any (Rows.ephemerisOptionsSpec.pre6 enc Tryz.prog Tryz.f3 Rows.ephemerisOptionsRow.domain false) (Rows.ephemerisOptionsSpec.post enc Tryz.prog Tryz.f3 false true false false):=by
 refine returnsInHanded_of_change (C:=Tryz.checked) ownKn started (by kernel_rfl) Tryz.func3
  (ChangeSpec.witness6 (enc:=enc) (C:=Tryz.checked) false ⟨#[],#[.agg #[.slice none 0 0,.slice none 0 0,.slice none 0 0,.slice none 0 0,.int .i64 0,.int .i64 0],.slice none 0 0,.int .i64 0],[]⟩ 8 (by kernel_rfl) (by kernel_rfl) (by kernel_rfl) (by kernel_rfl)) ?_
 intro W base args ds gs before hval0 hW hcnd _;have hval:∀(j:Nat) t v,Tryz.f3.params[j]?=some t→args[j]?=some v→Value.okWide Tryz.prog W .any base t v:=hval0;have hW':=hW;obtain⟨p,q,hA0,hV,rfl,hfz,hnd⟩:=hW;have hA:DataW.TrodAll enc Tryz.prog W 0 (fun _=>true) true Tryz.f3.params.toList args.toList ds p:=hA0;rw[Tryz.params3]at hA hval;obtain⟨v0,vs0,d0,ds0,p0,q0,hargs,rfl,rfl,h0,r0⟩:=trodAll_cons hA;obtain⟨v1,vs1,d1,ds1,p1,q1,rfl,rfl,rfl,h1,r1⟩:=trodAll_cons r0;obtain⟨v2,vs2,d2,ds2,p2,q2,rfl,rfl,rfl,h2,r2⟩:=trodAll_cons r1;obtain⟨rfl,rfl,rfl⟩:=trodAll_nil r2;obtain rfl:args=#[v0,v1,v2]:=by cases args;simp_all
 obtain⟨rfl,rfl⟩:=trodVars_none hV;have k0:=h0;have lt0:∀x∈p0,x.block<W.heap.size:=by obtain⟨m,hm⟩:=k0;exact DataW.trod_lt m _ _ _ hm
 obtain⟨c0,rfl,o0⟩:=Ql (hval 0 25 v0 rfl rfl) h0;have k1:=h1;have lt1:∀x∈p1,x.block<W.heap.size:=by obtain⟨m,hm⟩:=k1;exact DataW.trod_lt m _ _ _ hm
 obtain⟨a1,len1,cap1,rfl⟩:=okWide_slice Tryz.underlying26 (hval 1 26 v1 rfl rfl);obtain⟨z1,g1,o1⟩:=Vf h1;obtain⟨a2,rfl,rfl,rfl,w2⟩:=open_int Tryz.underlying3 (hval 2 3 v2 rfl rfl) h2;clear hA0 hval0;refine (Gl c0 z1 a1 len1 cap1 a2 W o0 g1 o1 (dY w2)).mono fun e W' ⟨he,bel⟩=>?_;subst he;exact⟨_,rfl,_,_,_,[],_,[],hW',trodAll_mk1 (shut_bool Tryz.underlying4 _),(trodAll_cons_mk (Below.trod laidOut (by kernel_rfl) (of_decide_eq_true (by kernel_rfl)) k0 bel lt0) (trodAll_cons_mk (Below.trod laidOut (by kernel_rfl) (of_decide_eq_true (by kernel_rfl)) k1 bel lt1) (trodAll_cons_mk (shut_int Tryz.underlying3 w2) trodAll_mk0))),rfl,bel.frame _,fun h=>by cases h⟩
theorem rD:Rows.ephemerisOptionsRow.holds Tryz.pinned (OpenSpec.ofChange Rows.ephemerisOptionsSpec) :=
 OpenClaim.holds_of_wide 3 Tryz.f3 rfl rfl rfl rfl rfl rfl rfl ⟨rfl,rfl,rfl,rfl,rfl⟩ rfl rfl rfl rfl rfl (by kernel_rfl) Tryz.func3 (by kernel_rfl)
  (of_decide_eq_true (by kernel_rfl)) (by unfold Func.isWrapper;first | (rw[if_pos (by decide +kernel)];kernel_rfl) | (rw[if_neg (by decide +kernel)];exact⟨rfl,rfl⟩))
  (fun os started H enc _=>pY os started H enc)
theorem ephemerisOptions_proved:Rows.EphemerisOptionsSaid:=rD
end Go.Proofs.YtjidhhfabfnhnaaGreat
