/- The law EphemerisMatchesReference of the ephemeris layer: for every input the call returns true and each argument reads afterwards as it read before: Valid, Orbit, Stretches, Passes and Changes agree with the reference implementation. No condition. -/
import Derived.Test.YtjidhhfabfnhnaaGreatN25
import Derived.Test.YtjidhhfabfnhnaaGreatRows
import Derived.ProofKit
import Derived.OpenShut
import Derived.ChangeOld
import Derived.Below
import Derived.Deep.Slices
import Derived.Test.YtjidhhfabfnhnaaGreatN32
namespace Go.Proofs.YtjidhhfabfnhnaaGreat
open Go.ChangeShapes Go.WideShapes Go.ChangeAt Go.RowKit Go.Deep
theorem ownKn:ownKnob Tryz.prog.godebug=none:=by kernel_rfl
theorem laidOut:laidOutB Tryz.prog=true:=by kernel_rfl
theorem eH {n:Int} (h:(Lit.int .i64 n).wf=true):dF n:=by
 simpa [dF,Lit.wf,IntKind.min,IntKind.max,IntKind.signed,IntKind.bits]using h
section
variable {H:Type} {enc:TypeId×Value→H} {W:World} {base:Nat} {spare:Nat→Bool} {held:Bool}
set_option maxRecDepth 100000 in
theorem D5 {cs:List Value} {n:Nat} {x:DataW H×List MemPlace} (h:DataW.trod enc Tryz.prog W base spare held n 151 cs=some x):∃q:A4,q.ok∧cs=jQ q:=by
 obtain⟨xs,m,_,_,hlen,hxl,hg⟩:=DataW.trod_array Tryz.underlying151 h;have hc4:Tryz.prog.cellsOf 151=4:=by kernel_rfl
 have hc1:Tryz.prog.cellsOf 3=1:=by kernel_rfl
 rw[hc4]at hlen
 match cs,hlen with
 |[c0,c1,c2,c3],_ =>
  have g0:=hg 0 (by omega);have g1:=hg 1 (by omega);have g2:=hg 2 (by omega);have g3:=hg 3 (by omega);rw[hc1]at g0 g1 g2 g3
  match xs,hxl with
  |[y0,y1,y2,y3],_ =>
   simp at g0 g1 g2 g3;obtain⟨a0,e0,_,w0⟩:=DataW.trod_int Tryz.underlying3 g0;obtain⟨a1,e1,_,w1⟩:=DataW.trod_int Tryz.underlying3 g1;obtain⟨a2,e2,_,w2⟩:=DataW.trod_int Tryz.underlying3 g2;obtain⟨a3,e3,_,w3⟩:=DataW.trod_int Tryz.underlying3 g3;simp at e0 e1 e2 e3;subst e0 e1 e2 e3;exact⟨⟨a0,a1,a2,a3⟩,⟨eH w0,eH w1,eH w2,eH w3⟩,rfl⟩
set_option maxRecDepth 100000 in
theorem U7 {cs:List Value} {n:Nat} {x:DataW H×List MemPlace} (h:DataW.trod enc Tryz.prog W base spare held n 153 cs=some x):∃q:A7,q.ok∧cs=tJ q:=by
 obtain⟨xs,m,_,_,hlen,hxl,hg⟩:=DataW.trod_array Tryz.underlying153 h;have hc4:Tryz.prog.cellsOf 153=7:=by kernel_rfl
 have hc1:Tryz.prog.cellsOf 3=1:=by kernel_rfl
 rw[hc4]at hlen
 match cs,hlen with
 |[c0,c1,c2,c3,c4,c5,c6],_ =>
  have g0:=hg 0 (by omega);have g1:=hg 1 (by omega);have g2:=hg 2 (by omega);have g3:=hg 3 (by omega);have g4:=hg 4 (by omega);have g5:=hg 5 (by omega);have g6:=hg 6 (by omega);rw[hc1]at g0 g1 g2 g3 g4 g5 g6
  match xs,hxl with
  |[y0,y1,y2,y3,y4,y5,y6],_ =>
   simp at g0 g1 g2 g3 g4 g5 g6;obtain⟨a0,e0,_,w0⟩:=DataW.trod_int Tryz.underlying3 g0;obtain⟨a1,e1,_,w1⟩:=DataW.trod_int Tryz.underlying3 g1;obtain⟨a2,e2,_,w2⟩:=DataW.trod_int Tryz.underlying3 g2;obtain⟨a3,e3,_,w3⟩:=DataW.trod_int Tryz.underlying3 g3;obtain⟨a4,e4,_,w4⟩:=DataW.trod_int Tryz.underlying3 g4;obtain⟨a5,e5,_,w5⟩:=DataW.trod_int Tryz.underlying3 g5;obtain⟨a6,e6,_,w6⟩:=DataW.trod_int Tryz.underlying3 g6;simp at e0 e1 e2 e3 e4 e5 e6;subst e0 e1 e2 e3 e4 e5 e6;exact⟨⟨a0,a1,a2,a3,a4,a5,a6⟩,⟨eH w0,eH w1,eH w2,eH w3,eH w4,eH w5,eH w6⟩,rfl⟩
theorem U8 {α:Type} {P:Nat→α→Prop} (n:Nat) (h:∀i,i<n→∃x,P i x):∃l:List α,l.length=n∧∀i x,l[i]?=some x→P i x:=by
 induction n with
 |zero=>exact⟨[],rfl,fun i x hx=>by simp at hx⟩
 |succ n ih =>
  obtain⟨l,hl,hp⟩:=ih fun i hi=>h i (by omega);obtain⟨x,hx⟩:=h n (by omega);refine⟨l++[x],by simp[hl],fun i y hy=>?_⟩;rw[List.getElem?_append]at hy
  split at hy
  ·exact hp i y hy
  ·rename_i hi
   have hi0:i-l.length=0:=by
    rcases Nat.eq_zero_or_pos (i-l.length)with e | e
    ·exact e
    ·rw[List.getElem?_eq_none (by simp;omega)]at hy;cases hy
   rw[hi0]at hy;simp at hy;subst hy;have:i=n:=by omega
   subst this;exact hx
theorem rJ {α:Type} {cells:α→List Value} {s:Nat} {t te:TypeId} {ok:α→Prop} (hu:Tryz.prog.underlying t=some (.slice te)) (hcs:Tryz.prog.cellsOf te=s) (hlen:∀q,(cells q).length=s) (h0:0<s)
  (hop:∀(m:Nat) (cs:List Value) (x:DataW H×List MemPlace),DataW.trod enc Tryz.prog W base spare held m te cs=some x→∃q,ok q∧cs=cells q)
  {fuel:Nat} {v:Value} {z:DataW H×List MemPlace} (hf:DataW.trod enc Tryz.prog W base spare held fuel t [v]=some z):∃A n c,v=.slice A n c∧∃xs,RA cells s W W.heap.size A n c xs∧(A=none→c=0)∧∀x∈xs,ok x:=by
 rcases open_slice hu hf with ⟨hcs,_⟩ | ⟨a,len,cap,m,n',D,Pl,hcs2,hb,hl,hm,hmm,hx,hi⟩
 ·obtain rfl:v=.slice none 0 0:=by simpa using hcs
  exact⟨none,0,0,rfl,[],⟨Reads.none_,rfl,Nat.le_refl _,Nat.zero_le _,Nat.zero_le _⟩,fun _=>rfl,fun z hz=>by cases hz⟩
 ·obtain rfl:v=.slice (some a) len cap:=by simpa using hcs2
  have hlm:len≤m:=by rw[hmm];split<;>omega
  obtain⟨l,hll,hp⟩:=U8 (P:=fun i (q:α)=>ok q∧∀j,j<s→W.cell? (a.add (i*s+j))=(cells q)[j]?) len (fun i hin=>by
   obtain⟨cs',h1,h2⟩:=hi i (by omega);rw[hcs]at h1;obtain⟨q,hok,rfl⟩:=hop _ _ _ h2;obtain⟨_,_,hat⟩:=World.cells?_some h1;exact⟨q,hok,fun j hj=>by rw[←GI];exact hat j hj⟩)
  refine⟨some a,len,cap,rfl,l,⟨⟨by rw[qC hlen,hll],fun hn=>?_⟩,hll,hl,hm,Nat.le_trans hl (by unfold maxLen at hm;exact hm)⟩,fun e=>(by cases e),fun x hx=>?_⟩
  ·have hn:0<len:=hn;have hz:=(hp 0 l[0] (List.getElem?_eq_getElem (by omega))).2 0 h0;rw[List.getElem?_eq_getElem (by rw[hlen];exact h0)]at hz;obtain⟨b,o,sp⟩:=a;have hsp:sp=none:=by simpa [Addr.add]using World.cell?_spot hz
   subst hsp;have hlt:=World.block_lt_of_cell? W _ hz;refine⟨b,o,rfl,by simpa [Addr.add]using hlt,fun j u hu=>?_⟩;have hj:j<l.length*s:=by
    rcases Nat.lt_or_ge j (l.length*s)with e | e
    ·exact e
    ·rw[List.getElem?_eq_none (by rw[qC hlen];exact e)]at hu;cases hu
   have hdm:=Nat.div_add_mod j s;have hmd:=Nat.mod_lt j h0;have hjd:j / s<l.length:=by rw[Nat.div_lt_iff_lt_mul h0];exact hj
   have hcell:=(hp (j / s) l[j / s] (List.getElem?_eq_getElem hjd)).2 (j % s) hmd;have hg:=JD hlen l (j / s) hjd (j % s) hmd;rw[Nat.mul_comm (j / s) s,hdm]at hg hcell;rw[Addr.add_lit]at hcell;rw[hcell,←hg,hu]
  ·obtain⟨i,hil,rfl⟩:=List.mem_iff_getElem.1 hx;exact (hp i _ (List.getElem?_eq_getElem hil)).1
theorem Gv {n:Nat} {cs:List Value} {x:DataW H×List MemPlace} (h:DataW.trod enc Tryz.prog W base spare held n 3 cs=some x):∃q:Int,dF q∧cs=bZ q:=by
 obtain⟨a,rfl,_,wa⟩:=DataW.trod_int Tryz.underlying3 h;exact⟨a,eH wa,rfl⟩
set_option maxRecDepth 100000 in
theorem NG {v:Value} {d:DataW H} {p:List MemPlace} {r:Reach} {b0:Nat} (hv:Value.okWide Tryz.prog W r b0 25 v) (h:DataW.Trod enc Tryz.prog W base spare held 25 v d p):∃c:Gy,v=QH c∧Nb W c:=by
 obtain⟨cs,rfl,hsz⟩:=okWide_struct Tryz.underlying25 hv;obtain⟨fuel,hf⟩:=h;obtain⟨xs,m,_,_,hlen,hxl,hg⟩:=DataW.trod_struct Tryz.underlying25 hf;obtain⟨cs⟩:=cs;simp only[Value.cells]at hlen hg;have hc6:Tryz.prog.cellsOf 25=6:=by kernel_rfl
 have hc7:Tryz.prog.cellsOf 22=1:=by kernel_rfl
 have hc4:Tryz.prog.cellsOf 23=1:=by kernel_rfl
 have hci:Tryz.prog.cellsOf 3=1:=by kernel_rfl
 rw[hc6]at hlen
 match cs,hlen with
 |[c0,c1,c2,c3,c4,c5],_ =>
  have g0:DataW.trod enc Tryz.prog W base spare held m 22 (([c0,c1,c2,c3,c4,c5].drop 0).take (Tryz.prog.cellsOf 22))=xs[0]?:=hg 0 _ rfl;have g1:DataW.trod enc Tryz.prog W base spare held m 23 (([c0,c1,c2,c3,c4,c5].drop 1).take (Tryz.prog.cellsOf 23))=xs[1]?:=hg 1 _ rfl;have g2:DataW.trod enc Tryz.prog W base spare held m 23 (([c0,c1,c2,c3,c4,c5].drop 2).take (Tryz.prog.cellsOf 23))=xs[2]?:=hg 2 _ rfl;have g3:DataW.trod enc Tryz.prog W base spare held m 23 (([c0,c1,c2,c3,c4,c5].drop 3).take (Tryz.prog.cellsOf 23))=xs[3]?:=hg 3 _ rfl;have g4:DataW.trod enc Tryz.prog W base spare held m 3 (([c0,c1,c2,c3,c4,c5].drop 4).take (Tryz.prog.cellsOf 3))=xs[4]?:=hg 4 _ rfl;have g5:DataW.trod enc Tryz.prog W base spare held m 3 (([c0,c1,c2,c3,c4,c5].drop 5).take (Tryz.prog.cellsOf 3))=xs[5]?:=hg 5 _ rfl;rw[hc7]at g0;rw[hc4]at g1 g2 g3;rw[hci]at g4 g5
  match xs,hxl with
  |[y0,y1,y2,y3,y4,y5],_ =>
   simp at g0 g1 g2 g3 g4 g5;obtain⟨xa,xn,xc,rfl,x,x1,_,x3⟩:=rJ (cells:=tJ) (s:=7) Tryz.underlying22 (by kernel_rfl) (fun _=>rfl) (by decide) (fun _ _ _ h=>U7 h) g0;obtain⟨ya,yn,yc,rfl,y,y1,_,y3⟩:=rJ (cells:=jQ) (s:=4) Tryz.underlying23 (by kernel_rfl) (fun _=>rfl) (by decide) (fun _ _ _ h=>D5 h) g1;obtain⟨za,zn,zc,rfl,z,z1,_,z3⟩:=rJ (cells:=jQ) (s:=4) Tryz.underlying23 (by kernel_rfl) (fun _=>rfl) (by decide) (fun _ _ _ h=>D5 h) g2;obtain⟨ua,un,uc,rfl,u,u1,_,u3⟩:=rJ (cells:=jQ) (s:=4) Tryz.underlying23 (by kernel_rfl) (fun _=>rfl) (by decide) (fun _ _ _ h=>D5 h) g3;obtain⟨fr,hfr,hf2⟩:=Gv g4;obtain⟨lo,hlo,hl2⟩:=Gv g5;obtain rfl:c4=.int .i64 fr:=by simpa [bZ]using hf2
   obtain rfl:c5=.int .i64 lo:=by simpa [bZ]using hl2
   exact⟨⟨x,y,z,u,fr,lo,xa,xn,xc,ya,yn,yc,za,zn,zc,ua,un,uc⟩,rfl,⟨x1,y1,z1,u1,x3,y3,z3,u3,hfr,hlo⟩⟩
end
end Go.Proofs.YtjidhhfabfnhnaaGreat
namespace Go.Proofs.YtjidhhfabfnhnaaGreat
open Go.ChangeShapes Go.WideShapes Go.ChangeAt Go.RowKit Go.Deep
section
variable {H:Type} {enc:TypeId×Value→H} {W:World} {base:Nat} {spare:Nat→Bool} {held:Bool}
def pU (enc:TypeId×Value→H) (W:World) (base:Nat) (spare:Nat→Bool) (held:Bool) (t:TypeId):Prop:=∀(n:Nat) (cs:List Value) (x:DataW H×List MemPlace),DataW.trod enc Tryz.prog W base spare held n t cs=some x →
 cs.length=Tryz.prog.cellsOf t∧∀(j:Nat) (v:Value),cs[j]?=some v→∃a:Int,v=.int .i64 a∧dF a
theorem kQ:pU enc W base spare held 3:=by
 intro n cs x h;obtain⟨a,rfl,_,wa⟩:=DataW.trod_int Tryz.underlying3 h;refine⟨by kernel_rfl,fun j v hv=>?_⟩
 match j,hv with
 |0,hv=>exact⟨a,by simpa using hv.symm,eH wa⟩
 |j+1,hv=>simp at hv
theorem kW {t:TypeId} {fs:Array Field} (hs:Tryz.prog.underlying t=some (.struct fs)) (hf:∀(j:Nat) (f:Field),fs[j]?=some f→pU enc W base spare held f.type)
  (hc:((List.range (Tryz.prog.cellsOf t)).all fun i=>fs.toList.any fun f=>decide (f.offset≤i)&&decide (i<f.offset+Tryz.prog.cellsOf f.type))=true):pU enc W base spare held t:=by
 intro n cs x h;obtain⟨xs,m,_,_,hlen,hxl,hg⟩:=DataW.trod_struct hs h;refine⟨hlen,fun j v hv=>?_⟩;have hj:j<cs.length:=by
  rcases Nat.lt_or_ge j cs.length with e | e
  ·exact e
  ·rw[List.getElem?_eq_none e]at hv;cases hv
 rw[List.all_eq_true]at hc;have h1:=hc j (by rw[List.mem_range,←hlen];exact hj);rw[List.any_eq_true]at h1;obtain⟨f,hfm,h2⟩:=h1;rw[Bool.and_eq_true,decide_eq_true_eq,decide_eq_true_eq]at h2;obtain⟨k,hk,rfl⟩:=List.mem_iff_getElem.1 hfm;have hk2:fs[k]?=some fs.toList[k]:=by rw[←Array.getElem?_toList,List.getElem?_eq_getElem hk]
 have h3:=hg k _ hk2;have hkx:k<xs.length:=by rw[hxl];simpa using hk
 rw[List.getElem?_eq_getElem hkx]at h3;refine (hf k _ hk2 _ _ _ h3).2 (j-fs.toList[k].offset) v ?_;rw[List.getElem?_take,if_pos (by omega),List.getElem?_drop,show fs.toList[k].offset+(j-fs.toList[k].offset)=j by omega];exact hv
theorem pU.ints {t:TypeId} (h:pU enc W base spare held t) {n:Nat} {cs:List Value} {x:DataW H×List MemPlace} (hx:DataW.trod enc Tryz.prog W base spare held n t cs=some x):∃zs:List Int,zs.length=Tryz.prog.cellsOf t∧cs=zs.map (Value.int .i64)∧∀z∈zs,dF z:=by
 obtain⟨hl,hg⟩:=h n cs x hx;rw[←hl];clear hl hx
 induction cs with
 |nil=>exact⟨[],rfl,rfl,by simp⟩
 |cons c r ih =>
  obtain⟨zs,h1,h2,h3⟩:=ih (fun j v hv=>hg (j+1) v (by simpa using hv));obtain⟨a,h4,h5⟩:=hg 0 c rfl;exact⟨a::zs,by simp[h1],by simp[h2,h4],by intro z hz;rcases List.mem_cons.1 hz with rfl | hz;exact h5;exact h3 z hz⟩
theorem rM {fs:Array Field} {P:TypeId→Prop} {t1 t2:TypeId} (h:(fs.toList.all fun f=>f.type==t1||f.type==t2)=true) (h1:P t1) (h2:P t2) (j:Nat) (f:Field) (hj:fs[j]?=some f):P f.type:=by
 rw[List.all_eq_true]at h;have hm:f∈fs.toList:=by rw[←Array.getElem?_toList]at hj;exact List.mem_of_getElem? hj
 have:=h f hm;rw[Bool.or_eq_true,beq_iff_eq,beq_iff_eq]at this;rcases this with e | e
 ·rw[e];exact h1
 ·rw[e];exact h2
theorem uF:pU enc W base spare held 51:=kW Tryz.underlying51 (rM (t1:=3) (t2:=3) (by kernel_rfl) kQ kQ) (by kernel_rfl)
theorem Jv:pU enc W base spare held 32:=kW Tryz.underlying32 (rM (t1:=3) (t2:=3) (by kernel_rfl) kQ kQ) (by kernel_rfl)
theorem Jw:pU enc W base spare held 53:=kW Tryz.underlying53 (rM (t1:=3) (t2:=51) (by kernel_rfl) kQ uF) (by kernel_rfl)
theorem Jy:pU enc W base spare held 66:=kW Tryz.underlying66 (rM (t1:=3) (t2:=51) (by kernel_rfl) kQ uF) (by kernel_rfl)
set_option maxRecDepth 100000 in
theorem NH {v:Value} {d:DataW H} {p:List MemPlace} {r:Reach} {b0:Nat} (hv:Value.okWide Tryz.prog W r b0 32 v) (h:DataW.Trod enc Tryz.prog W base spare held 32 v d p):∃q:jA,v=.agg (xM q).toArray:=by
 obtain⟨cs,rfl,hsz⟩:=okWide_struct Tryz.underlying32 hv;obtain⟨fuel,hf⟩:=h;obtain⟨zs,hl,hz,hw⟩:=Jv.ints hf;have hk:Tryz.prog.cellsOf 32=2:=by kernel_rfl
 rw[hk]at hl;obtain⟨cs⟩:=cs;simp only[Value.cells]at hz
 match zs,hl with
 |[a0,a1],_=>exact⟨⟨a0,a1⟩,by rw[hz];rfl⟩
set_option maxRecDepth 100000 in
theorem NI {v:Value} {d:DataW H} {p:List MemPlace} {r:Reach} {b0:Nat} (hv:Value.okWide Tryz.prog W r b0 53 v) (h:DataW.Trod enc Tryz.prog W base spare held 53 v d p):∃q:St,v=.agg (aC q).toArray:=by
 obtain⟨cs,rfl,hsz⟩:=okWide_struct Tryz.underlying53 hv;obtain⟨fuel,hf⟩:=h;obtain⟨zs,hl,hz,hw⟩:=Jw.ints hf;have hk:Tryz.prog.cellsOf 53=21:=by kernel_rfl
 rw[hk]at hl;obtain⟨cs⟩:=cs;simp only[Value.cells]at hz
 match zs,hl with
 |[a0,a1,a2,a3,a4,a5,a6,a7,a8,a9,a10,a11,a12,a13,a14,a15,a16,a17,a18,a19,a20],_=>exact⟨⟨a0,a1,⟨a2,a3,a4,a5,a6,a7,a8⟩,a9,a10,a11,a12,a13,a14,a15,a16,a17,a18,a19,a20⟩,by rw[hz];rfl⟩
set_option maxRecDepth 100000 in
theorem NJ {v:Value} {d:DataW H} {p:List MemPlace} {r:Reach} {b0:Nat} (hv:Value.okWide Tryz.prog W r b0 66 v) (h:DataW.Trod enc Tryz.prog W base spare held 66 v d p):∃q:fE,v=.agg (aF q).toArray:=by
 obtain⟨cs,rfl,hsz⟩:=okWide_struct Tryz.underlying66 hv;obtain⟨fuel,hf⟩:=h;obtain⟨zs,hl,hz,hw⟩:=Jy.ints hf;have hk:Tryz.prog.cellsOf 66=10:=by kernel_rfl
 rw[hk]at hl;obtain⟨cs⟩:=cs;simp only[Value.cells]at hz
 match zs,hl with
 |[a0,a1,a2,a3,a4,a5,a6,a7,a8,a9],_=>exact⟨⟨a0,a1,a2,⟨a3,a4,a5,a6,a7,a8,a9⟩⟩,by rw[hz];rfl⟩
end
end Go.Proofs.YtjidhhfabfnhnaaGreat
namespace Go.Proofs.YtjidhhfabfnhnaaGreat
open Go.ChangeShapes Go.WideShapes Go.ChangeAt Go.RowKit Go.Deep
set_option linter.unusedVariables false
set_option maxRecDepth 100000 in
theorem jT (os:Os) (started:os.Started) (H:Type) (enc:TypeId×Value→H) :
  ReturnsInHanded {} Tryz.checked os 5 .any (Rows.ephemerisMatchesReferenceSpec.pre6 enc Tryz.prog Tryz.f5 Rows.ephemerisMatchesReferenceRow.domain false) (Rows.ephemerisMatchesReferenceSpec.post enc Tryz.prog Tryz.f5 false true false false):=by
 refine returnsInHanded_of_change (C:=Tryz.checked) ownKn started (by kernel_rfl) Tryz.func5
  (ChangeSpec.witness6 (enc:=enc) (C:=Tryz.checked) false ⟨#[],#[.agg #[.slice none 0 0,.slice none 0 0,.slice none 0 0,.slice none 0 0,.int .i64 0,.int .i64 0],.agg #[.int .i64 0,.int .i64 0,.int .i64 0,.int .i64 0,.int .i64 0,.int .i64 0,.int .i64 0,.int .i64 0,.int .i64 0,.int .i64 0],.agg #[.int .i64 0,.int .i64 0,.int .i64 0,.int .i64 0,.int .i64 0,.int .i64 0,.int .i64 0,.int .i64 0,.int .i64 0,.int .i64 0,.int .i64 0,.int .i64 0,.int .i64 0,.int .i64 0,.int .i64 0,.int .i64 0,.int .i64 0,.int .i64 0,.int .i64 0,.int .i64 0,.int .i64 0],.int .i64 0,.int .i64 0,.agg #[.int .i64 0,.int .i64 0],.int .i64 0,.int .i64 0],[]⟩ 8 (by kernel_rfl) (by kernel_rfl) (by kernel_rfl) (by kernel_rfl)) ?_
 intro W base args ds gs before hval0 hW hcnd _;have hval:∀(j:Nat) t v,Tryz.f5.params[j]?=some t→args[j]?=some v→Value.okWide Tryz.prog W .any base t v:=hval0;have hW':=hW;obtain⟨p,q,hA0,hV,rfl,hfz,hnd⟩:=hW;have hA:DataW.TrodAll enc Tryz.prog W 0 (fun _=>true) true Tryz.f5.params.toList args.toList ds p:=hA0;rw[Tryz.params5]at hA hval;obtain⟨v0,vs0,d0,ds0,p0,q0,hargs,rfl,rfl,h0,r0⟩:=trodAll_cons hA;obtain⟨v1,vs1,d1,ds1,p1,q1,rfl,rfl,rfl,h1,r1⟩:=trodAll_cons r0;obtain⟨v2,vs2,d2,ds2,p2,q2,rfl,rfl,rfl,h2,r2⟩:=trodAll_cons r1;obtain⟨v3,vs3,d3,ds3,p3,q3,rfl,rfl,rfl,h3,r3⟩:=trodAll_cons r2;obtain⟨v4,vs4,d4,ds4,p4,q4,rfl,rfl,rfl,h4,r4⟩:=trodAll_cons r3;obtain⟨v5,vs5,d5,ds5,p5,q5,rfl,rfl,rfl,h5,r5⟩:=trodAll_cons r4;obtain⟨v6,vs6,d6,ds6,p6,q6,rfl,rfl,rfl,h6,r6⟩:=trodAll_cons r5;obtain⟨v7,vs7,d7,ds7,p7,q7,rfl,rfl,rfl,h7,r7⟩:=trodAll_cons r6;obtain⟨rfl,rfl,rfl⟩:=trodAll_nil r7;obtain rfl:args=#[v0,v1,v2,v3,v4,v5,v6,v7]:=by cases args;simp_all
 obtain⟨rfl,rfl⟩:=trodVars_none hV;have k0:=h0;have lt0:∀x∈p0,x.block<W.heap.size:=by obtain⟨m,hm⟩:=k0;exact DataW.trod_lt m _ _ _ hm
 obtain⟨c0,rfl,o0⟩:=NG (hval 0 25 v0 rfl rfl) h0;have k1:=h1;have lt1:∀x∈p1,x.block<W.heap.size:=by obtain⟨m,hm⟩:=k1;exact DataW.trod_lt m _ _ _ hm
 obtain⟨c1,rfl⟩:=NJ (hval 1 66 v1 rfl rfl) h1;have k2:=h2;have lt2:∀x∈p2,x.block<W.heap.size:=by obtain⟨m,hm⟩:=k2;exact DataW.trod_lt m _ _ _ hm
 obtain⟨c2,rfl⟩:=NI (hval 2 53 v2 rfl rfl) h2;obtain⟨a3,rfl,rfl,rfl,w3⟩:=open_int Tryz.underlying3 (hval 3 3 v3 rfl rfl) h3;obtain⟨a4,rfl,rfl,rfl,w4⟩:=open_int Tryz.underlying3 (hval 4 3 v4 rfl rfl) h4;have k5:=h5;have lt5:∀x∈p5,x.block<W.heap.size:=by obtain⟨m,hm⟩:=k5;exact DataW.trod_lt m _ _ _ hm
 obtain⟨⟨a5,b5⟩,rfl⟩:=NH (hval 5 32 v5 rfl rfl) h5;obtain⟨a6,rfl,rfl,rfl,w6⟩:=open_int Tryz.underlying3 (hval 6 3 v6 rfl rfl) h6;obtain⟨a7,rfl,rfl,rfl,w7⟩:=open_int Tryz.underlying3 (hval 7 3 v7 rfl rfl) h7;clear hA0 hval0;refine (DZ c0 c1 c2 a3 a4 a5 b5 a6 a7 W o0 (eH w3) (eH w4) (eH w6) (eH w7)).mono fun e W' ⟨he,bel⟩=>?_;subst he;exact⟨_,rfl,_,_,_,[],_,[],hW',trodAll_mk1 (shut_bool Tryz.underlying4 _),(trodAll_cons_mk (Below.trod laidOut (by kernel_rfl) (of_decide_eq_true (by kernel_rfl)) k0 bel lt0) (trodAll_cons_mk (Below.trod laidOut (by kernel_rfl) (of_decide_eq_true (by kernel_rfl)) k1 bel lt1) (trodAll_cons_mk (Below.trod laidOut (by kernel_rfl) (of_decide_eq_true (by kernel_rfl)) k2 bel lt2) (trodAll_cons_mk (shut_int Tryz.underlying3 w3) (trodAll_cons_mk (shut_int Tryz.underlying3 w4) (trodAll_cons_mk (Below.trod laidOut (by kernel_rfl) (of_decide_eq_true (by kernel_rfl)) k5 bel lt5) (trodAll_cons_mk (shut_int Tryz.underlying3 w6) (trodAll_cons_mk (shut_int Tryz.underlying3 w7) trodAll_mk0)))))))),rfl,bel.frame _,fun h=>by cases h⟩
theorem kR:Rows.ephemerisMatchesReferenceRow.holds Tryz.pinned (OpenSpec.ofChange Rows.ephemerisMatchesReferenceSpec) :=
 OpenClaim.holds_of_wide 5 Tryz.f5 rfl rfl rfl rfl rfl rfl rfl ⟨rfl,rfl,rfl,rfl,rfl⟩ rfl rfl rfl rfl rfl (by kernel_rfl) Tryz.func5 (by kernel_rfl)
  (of_decide_eq_true (by kernel_rfl)) (by unfold Func.isWrapper;first | (rw[if_pos (by decide +kernel)];kernel_rfl) | (rw[if_neg (by decide +kernel)];exact⟨rfl,rfl⟩))
  (fun os started H enc _=>jT os started H enc)
theorem ephemerisMatchesReference_proved:Rows.EphemerisMatchesReferenceSaid:=kR
end Go.Proofs.YtjidhhfabfnhnaaGreat
