/- Regions by a table: the values that operations are known to yield stand in a list; an operation is then walked over a frame that holds them. -/
import Derived.Test.YtjidhhfabfnhnaaGreatProg
import Derived.WalkKit
import Derived.WalkSpells
import Derived.WalkLawsBesides
import Derived.Lib.Hide
import Derived.Deep.RegionHeld3
import Derived.Deep.QuietTactic
import Derived.BigQuiet
import Derived.Deep.AppendLies
import Derived.Deep.Draws
import Derived.Deep.LoopGhost
import Derived.Deep.DeepFit
import Derived.Deep.DeepCutAuto
import Derived.Deep.OwnRows
import Derived.Maps.AppendAt
import Derived.Laws.CopyOwn
import Derived.KernelRfl
import Derived.Orders
namespace Go.Proofs.YtjidhhfabfnhnaaGreat
theorem FR_ {α:Type} : (∀(xs:List α) (i:Nat),xs.toArray[i]?=xs[i]?)∧(∀(a:α) (l:List α),(a::l)[0]?=some a)∧(∀(a:α) (l:List α) (i:Nat),(a::l)[i+1]?=l[i]?)∧(∀(xs:List α) (i:Nat) (a:α),xs.toArray.setIfInBounds i a=(xs.set i a).toArray)∧(∀(a b:α) (l:List α),(a::l).set 0 b=b::l)∧(∀(a b:α) (l:List α) (i:Nat),(a::l).set (i+1) b=a::l.set i b)∧(∀(β:Type) (a:α) (f:α→Option β),(some a).bind f=f a):=by
 refine⟨fun _ _=>?_,fun _ _=>?_,fun _ _ _=>?_,fun _ _ _=>?_,fun _ _ _=>?_,fun _ _ _ _=>?_,fun _ _ _=>rfl⟩<;>simp
open Go.RowKit
theorem JF (a:Addr) (i j:Nat):(a.add i).add j=a.add (i+j):=by
 unfold Addr.add;by_cases hi:i=0<;>by_cases hj:j=0<;>simp[hi,hj,Nat.add_assoc]
def Reads (w:World) (B size:Nat) (A:Option Addr) (n:Nat) (xs:List Value):Prop :=
 xs.length=n*size∧(0<n→∃b o,A=some ⟨b,o,none⟩∧b<B∧∀j u,xs[j]?=some u→w.cell? ⟨b,o+j,none⟩=some u)
section
variable {w w':World} {B B' size n:Nat} {A:Option Addr} {xs:List Value}
theorem Reads.none_:Reads w B size A 0 []:=⟨by simp,fun h=>absurd h (by omega)⟩
theorem Reads.at_ {k:Nat} (h:Reads w B 1 A n xs) (hk:k<n):∃b o u,A=some ⟨b,o,none⟩∧b<B∧xs[k]?=some u∧w.cell? ⟨b,o+k,none⟩=some u:=by
 obtain⟨b,o,e,hb,hc⟩:=h.2 (by omega);have hl:k<xs.length:=by have:=h.1;omega
 exact⟨b,o,xs[k],e,hb,List.getElem?_eq_getElem hl,hc k _ (List.getElem?_eq_getElem hl)⟩
theorem Reads.keep (h:Reads w B size A n xs) (hk:∀p:Addr,p.block<B→w'.cell? p=w.cell? p):Reads w' B size A n xs :=
 ⟨h.1,fun hn=>by
  obtain⟨b,o,e,hb,hc⟩:=h.2 hn;exact⟨b,o,e,hb,fun j u hu=>(hk _ hb).trans (hc j u hu)⟩⟩
theorem Reads.more (h:Reads w B size A n xs) (hB:B≤B'):Reads w B' size A n xs :=
 ⟨h.1,fun hn=>by
  obtain⟨b,o,e,hb,hc⟩:=h.2 hn;exact⟨b,o,e,by omega,hc⟩⟩
theorem Reads.below (h:Reads w B size A n xs) (hb:Below B w w'):Reads w' B size A n xs:=h.keep fun _ hp=>hb.cell hp
theorem Reads.drew (h:Reads w B size A n xs):Reads w.drew B size A n xs:=h
theorem Reads.drewN (h:Reads w B size A n xs) (k:Nat):Reads (w.drewN k) B size A n xs:=h
theorem Reads.alloc (h:Reads w B size A n xs) (hB:B≤w.heap.size) (o:Obj):Reads (w.alloc o) B size A n xs:=h.keep fun p hp=>World.cell?_alloc_lt w o p (by omega)
theorem Reads.setCell (h:Reads w B size A n xs) {p:Addr} (hB:B≤p.block) (u:Value):Reads (w.setCell p u) B size A n xs :=
 h.keep fun q hq=>World.cell?_setCell_other w p q u (fun e=>by subst e;omega)
theorem Reads.grown (h:Reads w B size A n xs) {row:Option Nat} (hg:w.grownBy w' row) (hB:B≤w.heap.size) (hr:∀g,row=some g→B≤g):Reads w' B size A n xs :=
 h.keep fun p hp=>World.cell?_of_block (hg.block p.block (by omega) (fun e=>by have:=hr _ e.symm;omega))
theorem Reads.cut (h:Reads w B size A n xs) {k cap:Nat} (hk:k≤n) (hc:n≤cap) :
  Reads w B size (if cap=k then A else A.map (·.add (k*size))) (n-k) (xs.drop (k*size)):=by
 refine⟨by rw[List.length_drop,h.1,Nat.sub_mul],fun hn=>?_⟩;obtain⟨b,o,rfl,hb,hcell⟩:=h.2 (by omega);rw[if_neg (by omega)];refine⟨b,o+k*size,by simp[Addr.add_lit],hb,fun j u hu=>?_⟩;rw[Nat.add_assoc];exact hcell _ u (by rw[←hu,List.getElem?_drop])
theorem Reads.upto (h:Reads w B size A n xs) {k:Nat} (hk:k≤n):Reads w B size A k (xs.take (k*size)):=by
 refine⟨by rw[List.length_take,h.1];have:=Nat.mul_le_mul_right size hk;omega,fun hn=>?_⟩;obtain⟨b,o,rfl,hb,hcell⟩:=h.2 (by omega);refine⟨b,o,rfl,hb,fun j u hu=>?_⟩;rw[List.getElem?_take]at hu
 split at hu
 ·exact hcell j u hu
 ·cases hu
theorem Reads.d_ {base:Nat} {e:TypeId} {c:Nat} (h:w.ownsRow base e size (.slice A n c) n xs):Reads w w.heap.size size A n xs:=by
 refine⟨h.1,fun hn=>?_⟩;obtain⟨g,cap,hv,_,hlt⟩:=h.form hn;have hA:A=some ⟨g,0,none⟩:=by injection hv
 subst hA;exact⟨_,_,rfl,hlt,fun j u hu=>by have:=h.cells (g:=g) rfl j u hu;rwa[Addr.add_lit]at this⟩
end
def aG (w:World) (g:Nat) (t:TypeId) (cs:Array Value):Prop:=w.heap[g]?=some (.cells cs t (0,0))
section
variable {w w':World} {g:Nat} {t:TypeId} {cs:Array Value}
theorem aG.lt (h:aG w g t cs):g<w.heap.size:=by
 rcases Nat.lt_or_ge g w.heap.size with hlt | hge
 ·exact hlt
 ·unfold aG at h;rw[Array.getElem?_eq_none hge]at h;cases h
theorem aG.cell (h:aG w g t cs) (i:Nat):w.cell? ⟨g,i,none⟩=cs[i]?:=cell_of_row w g i cs t (0,0) h
theorem aG.frozen (h:aG w g t cs) (i:Nat):w.frozen? ⟨g,i,none⟩=false:=by
 unfold aG at h;simp[World.frozen?,h]
theorem aG.new (w:World) (t:TypeId) (cs:Array Value):aG (w.alloc (.cells cs t)) w.heap.size t cs:=heap_alloc_new w _
theorem aG.drew (h:aG w g t cs):aG w.drew g t cs:=h
theorem aG.drewN (h:aG w g t cs) (n:Nat):aG (w.drewN n) g t cs:=h
theorem aG.alloc (h:aG w g t cs) (o:Obj):aG (w.alloc o) g t cs:=(Below.heap_alloc w o g h.lt).trans h
theorem aG.cZ (h:aG w g t cs) (i:Nat) (u:Value):aG (w.setCell ⟨g,i,none⟩ u) g t (cs.setIfInBounds i u):=by
 unfold aG at h⊢;simp[World.setCell,Array.getElem?_modify,h]
theorem aG.far (h:aG w g t cs) {p:Addr} (hp:g≠p.block) (u:Value):aG (w.setCell p u) g t cs:=(Below.heap_setCell w p u g hp).trans h
theorem aG.below {B:Nat} (h:aG w g t cs) (hb:Below B w w') (hg:g<B):aG w' g t cs:=(hb.block g hg).trans h
theorem aG.grown {row:Option Nat} (h:aG w g t cs) (hb:w.grownBy w' row) (hg:some g≠row):aG w' g t cs:=(hb.block g h.lt hg).trans h
theorem aG.Cc {g':Nat} {t':TypeId} {cs':Array Value} (h:aG w g t cs) (h':aG w g' t' cs') (hne:t≠t'):g≠g':=by
 rintro rfl;unfold aG at h h';rw[h]at h';injection h' with h';injection h' with _ ht;exact hne ht
theorem bQ {base:Nat} {e:TypeId} {size n:Nat} {v:Value} {xs:List Value} (h:w.ownsRow base e size v n xs) (hg:aG w g t cs) (hne:e≠t):v.ownBlock≠some g:=by
 rcases h.2 with ⟨rfl,_⟩ | ⟨g',cap,cur,rfl,_,hh,_⟩
 ·simp[Value.ownBlock]
 ·intro he;have:g'=g:=by simpa [Value.ownBlock]using he
  subst this;exact aG.Cc (t:=e) hh hg hne rfl
end
section
variable {P:Program} (w:World)
theorem uZ (base:Nat) (t ty e:TypeId) (i:TypeInfo) (size:Nat) (ht:P.underlying t=some (.slice e)) (hi:P.info? e=some i)
  (v:Value) (n:Nat) (xs:List Value) (hown:w.ownsRow base e size v n xs) (c:Nat):(Builtin.append_ #[t,t] ty #[v,.slice none 0 c]).run P w=.ok v w:=by
 rcases hown.2 with ⟨rfl,rfl⟩ | ⟨g,cap,cur,rfl,_,_,hnc,_⟩
 ·simp[Builtin.append_,run_underlying ht,sizeOf,typeInfo,hi,Builtin.lenOf,Builtin.firstCells]
 ·simp[Builtin.append_,run_underlying ht,sizeOf,typeInfo,hi,Builtin.lenOf,Builtin.firstCells,hnc,storeCells]
theorem zB (base:Nat) (t ty e:TypeId) (i:TypeInfo) (z:Value) (size bytes:Nat) (ht:P.underlying t=some (.slice e)) (hi:P.info? e=some i) (hz:i.zero=some z)
  (hsize:i.size=size) (hby:i.bytes=bytes) (hzs:z.cells.size=size) (hsz:0<size)
  (v:Value) (n:Nat) (xs:List Value) (hown:w.ownsRow base e size v n xs)
  (B:Nat) (A:Option Addr) (m c:Nat) (news:List Value) (hr:Reads w B size A m news) (h1:∀u∈news,u.oneCell'=true)
  (h63:n+m≤maxLen) (hbytes:(n+m)*bytes≤140737488355328) (hbase:base≤w.heap.size) :
  ∃v' w',(Builtin.append_ #[t,t] ty #[v,.slice A m c]).run P w=.ok v' w'∧w'.ownsRow base e size v' (n+m) (xs++news)∧w.grownBy w' v.ownBlock ∧
   (v'.ownBlock=v.ownBlock∨v'.ownBlock=some w.heap.size):=by
 rcases A with _ | ad
 ·have hm:m=0:=by
   rcases Nat.eq_zero_or_pos m with h0 | h0
   ·exact h0
   ·obtain⟨_,_,h,_⟩:=hr.2 h0;cases h
  subst hm;have hn:news=[]:=List.eq_nil_of_length_eq_zero (by simpa using hr.1);subst hn;exact⟨v,w,uZ w base t ty e i size ht hi v n xs hown c,by simpa using hown,World.grownBy.refl w _,.inl rfl⟩
 ·have hcells:∀j u,news[j]?=some u→w.cell? (ad.add j)=some u:=by
   intro j u hu;rcases Nat.eq_zero_or_pos m with h0 | h0
   ·subst h0;have hn:news=[]:=List.eq_nil_of_length_eq_zero (by simpa using hr.1);subst hn;simp at hu
   ·obtain⟨b,o,h,_,hc⟩:=hr.2 h0;injection h with h;subst h;rw[Addr.add_lit];exact hc j u hu
  obtain⟨v',w',hrun,h2,h3,_,h5⟩:=run_append_own_at (P:=P) w base t ty e i z size bytes ht hi hz hsize hby hzs hsz v n xs hown ad m c news hr.1 hcells h1 h63 hbytes hbase;exact⟨v',w',hrun,h2,h3,h5⟩
theorem CJ {o:Oper} {a:Act} {K:Act→World→Prop} {Q:Exit→Act→World→Prop} (s x:Operand) (t:TypeId)
  (ho:o.op=.call { callee:=.builtin .append,args:=#[s,x],argTypes:=#[t,t] })
  (base:Nat) (e:TypeId) (i:TypeInfo) (z:Value) (size bytes:Nat) (ht:P.underlying t=some (.slice e)) (hi:P.info? e=some i) (hz:i.zero=some z)
  (hsize:i.size=size) (hby:i.bytes=bytes) (hzs:z.cells.size=size) (hsz:0<size)
  (v:Value) (n:Nat) (xs:List Value) (hs:a.eval s=v) (hown:w.ownsRow base e size v n xs)
  (B:Nat) (A:Option Addr) (m c:Nat) (news:List Value) (hx:a.eval x=.slice A m c) (hr:Reads w B size A m news) (h1:∀u∈news,u.oneCell'=true)
  (h63:n+m≤maxLen) (hbytes:(n+m)*bytes≤140737488355328) (hbase:base≤w.heap.size)
  (h:∀v' w',w'.ownsRow base e size v' (n+m) (xs++news)→w.grownBy w' v.ownBlock→(v'.ownBlock=v.ownBlock∨v'.ownBlock=some w.heap.size)→K (a.put o.dst v') w'):o.wp P a w K Q:=by
 obtain⟨v',w',hrun,h2,h3,h4⟩:=zB (P:=P) w base t o.type e i z size bytes ht hi hz hsize hby hzs hsz v n xs hown B A m c news hr h1 h63 hbytes hbase;unfold Oper.wp execOp;simp only[ho,resolve,invoke,builtin,Sem.run_bind,Sem.run_pure,Result.andThen_ok,List.map_toArray,List.map_cons,List.map_nil,hs,hx,hrun];exact h v' w' h2 h3 h4
theorem nN {ops:Array Oper} {rest:List Oper} {o:Oper} {a:Act} {Q:Exit→Act→World→Prop} (hgd:o.guard=none) (s x:Operand) (t:TypeId)
  (ho:o.op=.call { callee:=.builtin .append,args:=#[s,x],argTypes:=#[t,t] })
  (base:Nat) (e:TypeId) (i:TypeInfo) (z:Value) (size bytes:Nat) (ht:P.underlying t=some (.slice e)) (hi:P.info? e=some i) (hz:i.zero=some z)
  (hsize:i.size=size) (hby:i.bytes=bytes) (hzs:z.cells.size=size) (hsz:0<size)
  (v:Value) (n:Nat) (xs:List Value) (hs:a.eval s=v) (hown:w.ownsRow base e size v n xs)
  (B:Nat) (A:Option Addr) (m c:Nat) (news:List Value) (hx:a.eval x=.slice A m c) (hr:Reads w B size A m news) (h1:∀u∈news,u.oneCell'=true)
  (h63:n+m≤maxLen) (hbytes:(n+m)*bytes≤140737488355328) (hbase:base≤w.heap.size)
  (h:∀v' w',w'.ownsRow base e size v' (n+m) (xs++news)→w.grownBy w' v.ownBlock→(v'.ownBlock=v.ownBlock∨v'.ownBlock=some w.heap.size)→wpList P ops Q rest (a.put o.dst v') w'):wpList P ops Q (o::rest) a w :=
 wpList_plain hgd fun _ hK=>CJ w s x t ho base e i z size bytes ht hi hz hsize hby hzs hsz v n xs hs hown B A m c news hx hr h1 h63 hbytes hbase fun v' w' h2 h3 h4=>hK _ _ (h v' w' h2 h3 h4)
end
theorem below_drewN {B:Nat} {a w:World} (h:Below B a w) (n:Nat):Below B a (w.drewN n):=⟨h.os,h.tape,h.output,h.size,h.block⟩
theorem aj {a w:World} (h:Below a.heap.size a w) (o:Obj):Below a.heap.size a (w.alloc o):=h.alloc h.size o
theorem aA {a b c:World} (h:Below a.heap.size a b) (k:Below b.heap.size b c):Below a.heap.size a c:=h.trans (k.mono h.size)
end Go.Proofs.YtjidhhfabfnhnaaGreat
namespace Go.Proofs.YtjidhhfabfnhnaaGreat
open Go.RowKit
def Ext (w w':World):Prop:=Below w.heap.size w w'
theorem Ext.refl (w:World):Ext w w:=Below.refl _ _
theorem q_ {α β:Type} {a:α} {b:β} {w:World} : a=a∧Ext w w∧b=b:=⟨rfl,.refl _,rfl⟩
theorem Ext.trans {a b c:World} (h:Ext a b) (k:Ext b c):Ext a c:=aA h k
def bZ (o:Oper):List Nat:=(o.after.toList.filter (Region.binds .any ·)).map (·.on)
def au (ops:Array Oper) (i:Nat):Option Tmp:=(ops[i]?).bind (·.dst)
def gQ (o:Oper):Bool:=match o.op with | .select _ _=>false | .defer _=>false | _=>true
def lQ (ops:Array Oper) (i:Nat):List Nat:=match ops[i]? with | some o=>bZ o | none=>[]
def iF (ops:Array Oper):Nat→List Nat→List Nat
 |0,S=>S
 |i+1,S=>if S.contains i then iF ops i ((lQ ops i).filter (fun d=>!S.contains d)++S) else iF ops i S
def zC (ops:Array Oper) (i d:Nat):Bool:=(iF ops i (lQ ops i)).contains d
def iG (ops:Array Oper) (m:Nat):Bool :=
 decide (m≤ops.size) &&
 (List.range m).all (fun i=>match ops[i]? with
  |none=>false
  |some o=>(bZ o).all (fun d=>decide (d<i)) &&
   (match o.dst with | none=>true | some d=>(List.range m).all (fun j=>j==i||au ops j != some d)) &&
   (o.looksAt ops).all (fun t=>(List.range m).all (fun j=>au ops j != some t||(bZ o).contains j))&&gQ o) &&
 (List.range (ops.size-m)).all (fun k=>match ops[m+k]? with
  |none=>false
  |some o=>(bZ o).any (fun d=>decide (m≤d))||(List.range m).all (fun j=>(iF ops m (bZ o)).contains j))
def Lf (ops:Array Oper) (a0:Act) (vals:Nat→Value):Nat→Act
 |0=>a0
 |i+1=>(Lf ops a0 vals i).put (au ops i) (vals i)
def Qo (a0:Act) (R:Value→World→Prop) (o:Oper) (w:World) (e:Exit) (a':Act) (w':World):Prop :=
 match e with
 |.normal=>a'.defers=a0.defers∧Ext w w'∧R (match o.dst with | some t=>a'.tmps.getD t undef | none=>undef) w'
 |_=>False
section
variable {P:Program} {ops:Array Oper} {Q:Exit→Act→World→Prop} {a0:Act} {w0:World} {R:Nat→(Nat→Value)→Value→World→Prop} {m:Nat}
def M_ (P:Program) (ops:Array Oper) (a0:Act) (w0:World) (R:Nat→(Nat→Value)→Value→World→Prop) (i:Nat) (o:Oper):Prop :=
 ∀(vals:Nat→Value) (w:World),Ext w0 w→(∀d∈bZ o,R d vals (vals d) w)→(∀d,zC ops i d=true→R d vals (vals d) w)→wpList P ops (Qo a0 (R i vals) o w) [o] (Lf ops a0 vals i) w
structure Inv (ops:Array Oper) (a0:Act) (w0:World) (R:Nat→(Nat→Value)→Value→World→Prop) (m:Nat) (listed:Array Bool) (vals:Nat→Value) (a:Act) (w:World):Prop where
 ext:Ext w0 w
 size:listed.size=ops.size
 tail:∀i,m≤i→listed.getD i false=false
 closed:∀i,i<m→listed.getD i false=true→∀d∈lQ ops i,listed.getD d false=true
 facts:∀i,i<m→listed.getD i false=true→R i vals (vals i) w
 defers:a.defers=a0.defers
 oJ:a.tmps.size=a0.tmps.size
 outer:∀t,(∀i,i<m→listed.getD i false=true→au ops i≠some t)→a.tmps[t]?=a0.tmps[t]?
 inner:∀i t,i<m→listed.getD i false=true→au ops i=some t→t<a0.tmps.size→a.tmps[t]?=some (vals i)
theorem dV (vals:Nat→Value) (i:Nat):(Lf ops a0 vals i).tmps.size=a0.tmps.size:=by
 induction i with
 |zero=>rfl
 |succ i ih =>
  unfold Lf;cases h:au ops i<;>simp[Act.put,ih]
theorem fD (vals:Nat→Value) (i:Nat):(Lf ops a0 vals i).defers=a0.defers:=by
 induction i with
 |zero=>rfl
 |succ i ih =>
  unfold Lf;cases h:au ops i<;>simp[Act.put,ih]
theorem gy (a:Act) (d:Option Tmp) (v:Value) (t:Nat):(a.put d v).tmps[t]?=if d=some t then (if t<a.tmps.size then some v else none) else a.tmps[t]?:=by
 cases d with
 |none=>simp[Act.put]
 |some d =>
  simp only[Act.put,Array.getElem?_setIfInBounds,Option.some.injEq];by_cases h:d=t
  ·subst h;simp
  ·simp[h]
theorem gX (vals:Nat→Value) (i t:Nat) (h:∀j,j<i→au ops j≠some t):(Lf ops a0 vals i).tmps[t]?=a0.tmps[t]?:=by
 induction i with
 |zero=>rfl
 |succ i ih =>
  unfold Lf;rw[gy,if_neg (h i (by omega))];exact ih fun j hj=>h j (by omega)
theorem gY (vals:Nat→Value) (i j t:Nat) (hj:j<i) (hd:au ops j=some t) (hdist:∀k,j<k→k<i→au ops k≠some t) (ht:t<a0.tmps.size):(Lf ops a0 vals i).tmps[t]?=some (vals j):=by
 induction i with
 |zero=>omega
 |succ i ih =>
  unfold Lf;rw[gy];by_cases h:j=i
  ·subst h;rw[if_pos hd,if_pos (by rw[dV];exact ht)]
  ·rw[if_neg (hdist i (by omega) (by omega))];exact ih (by omega) fun k h1 h2=>hdist k h1 (by omega)
theorem jw (hc:iG ops m=true) {i:Nat} (hi:i<m):∃o,ops[i]?=some o∧(∀d∈bZ o,d<i)∧(∀d,o.dst=some d→∀j,j<m→j≠i→au ops j≠some d) ∧
  (∀t∈o.looksAt ops,∀j,j<m→au ops j=some t→j∈bZ o)∧gQ o=true:=by
 unfold iG at hc;simp only[Bool.and_eq_true,List.all_eq_true,List.mem_range]at hc;have h:=hc.1.2 i hi;cases ho:ops[i]? with
 |none=>simp[ho]at h
 |some o =>
  simp only[ho,Bool.and_eq_true,List.all_eq_true,decide_eq_true_iff]at h;obtain⟨⟨⟨h1,h2⟩,h3⟩,h4⟩:=h;refine⟨o,rfl,h1,?_,?_,h4⟩
  ·intro d hd j hj hne;rw[hd]at h2;simp only[List.all_eq_true,List.mem_range]at h2;have:=h2 j hj;simp[hne]at this;exact this
  ·intro t ht j hj hd;have:=h3 t ht j (List.mem_range.2 hj);simp[hd]at this;exact this
theorem Gy (hc:iG ops m=true) {i:Nat} (hi:m≤i) (hn:i<ops.size):∃o,ops[i]?=some o∧((∃d∈bZ o,m≤d)∨∀j,j<m→j∈iF ops m (bZ o)):=by
 unfold iG at hc;simp only[Bool.and_eq_true,List.all_eq_true,List.mem_range]at hc;have h:=hc.2 (i-m) (by omega);rw[show m+(i-m)=i by omega]at h;cases ho:ops[i]? with
 |none=>simp[ho]at h
 |some o =>
  simp only[ho,Bool.or_eq_true,List.any_eq_true,List.all_eq_true,List.mem_range,decide_eq_true_eq]at h;rcases h with ⟨d,h1,h2⟩ | h
  ·exact⟨o,rfl,.inl ⟨d,h1,h2⟩⟩
  ·exact⟨o,rfl,.inr fun j hj=>by simpa using h j hj⟩
theorem mG (hc:iG ops m=true):m≤ops.size:=by
 unfold iG at hc;simp only[Bool.and_eq_true,decide_eq_true_iff]at hc;exact hc.1.1
theorem gB {listed:Array Bool} (hcl:∀i,i<m→listed.getD i false=true→∀d∈lQ ops i,listed.getD d false=true):∀(k:Nat) (S:List Nat),k≤m→(∀d∈S,listed.getD d false=true)→∀d∈iF ops k S,listed.getD d false=true:=by
 intro k
 induction k with
 |zero=>intro S _ h;exact h
 |succ k ih =>
  intro S hk h;unfold iF
  split
  ·rename_i hc
   refine ih _ (by omega) fun d hd=>?_;rcases List.mem_append.1 hd with hd | hd
   ·exact hcl k (by omega) (h k (by simpa using hc)) d (List.mem_filter.1 hd).1
   ·exact h d hd
  ·exact ih _ (by omega) h
theorem uJ {listed:Array Bool} {i:Nat} (h:i∈Region.ready .any ops listed):i<ops.size∧listed.getD i true=false∧∃o,ops[i]?=some o∧∀d∈bZ o,listed.getD d false=true:=by
 unfold Region.ready at h;simp only[List.mem_filter,List.mem_range,Bool.and_eq_true,Bool.not_eq_true']at h;obtain⟨h1,h2,h3⟩:=h;refine⟨h1,h2,ops[i],Array.getElem?_eq_getElem h1,?_⟩;rw[Array.getElem?_eq_getElem h1]at h3;simp only[Option.map_some,Option.getD_some,Array.all_eq_true']at h3;intro d hd;unfold bZ at hd;simp only[List.mem_map,List.mem_filter]at hd;obtain⟨e,⟨he,hb⟩,rfl⟩:=hd;have:=h3 e (by simpa using he);simpa [hb]using this
theorem zD {listed:Array Bool} {i:Nat} (h1:i<ops.size) (h2:listed.getD i true=false) {o:Oper} (ho:ops[i]?=some o) (h3:∀d∈bZ o,listed.getD d false=true):i∈Region.ready .any ops listed:=by
 unfold Region.ready;simp only[List.mem_filter,List.mem_range,Bool.and_eq_true,Bool.not_eq_true'];refine⟨h1,h2,?_⟩;rw[ho];simp only[Option.map_some,Option.getD_some,Array.all_eq_true'];intro e he;cases hb:Region.binds .any e
 ·simp
 ·have:=h3 e.on (by unfold bZ;simp only[List.mem_map,List.mem_filter];exact⟨e,⟨by simpa using he,hb⟩,rfl⟩);simp[this]
theorem agree (hc:iG ops m=true) {listed:Array Bool} {vals:Nat→Value} {a:Act} {w:World} (hI:Inv ops a0 w0 R m listed vals a w) {i:Nat} (hi:i<m) {o:Oper} (ho:ops[i]?=some o)
  (hd:∀d∈bZ o,listed.getD d false=true):∀t∈o.looksAt ops,a.tmps[t]?=(Lf ops a0 vals i).tmps[t]?:=by
 intro t ht;obtain⟨o',ho',h1,h2,h3,_⟩:=jw hc hi;rw[ho]at ho';injection ho' with ho';subst ho';by_cases hj:∃j,j<m∧au ops j=some t
 ·obtain⟨j,hjm,hjt⟩:=hj;have hjd:=h3 t ht j hjm hjt;have hji:=h1 j hjd;obtain⟨oj,hoj,_,Dp,_⟩:=jw hc hjm;have hdj:oj.dst=some t:=by simpa [au,hoj]using hjt
  rcases Nat.lt_or_ge t a0.tmps.size with hlt | hge
  ·rw[hI.inner j t hjm (hd j hjd) hjt hlt,gY vals i j t hji hjt (fun k hk1 hk2=>Dp t hdj k (by omega) (by omega)) hlt]
  ·rw[Array.getElem?_eq_none (by rw[hI.oJ];exact hge),Array.getElem?_eq_none (by rw[dV];exact hge)]
 ·have hj':∀j,j<m→au ops j≠some t:=fun j hjm hjt=>hj ⟨j,hjm,hjt⟩;rw[hI.outer t (fun j hjm _=>hj' j hjm),gX vals i t (fun j hji=>hj' j (by omega))]
theorem mJ {a b:Act} {o:Oper} (h:∀t∈o.looksAt ops,a.tmps[t]?=b.tmps[t]?):∀x∈o.op.operands,a.eval x=b.eval x:=by
 intro x hx;cases x with
 |tmp t =>
  have ht:t∈o.looksAt ops:=List.mem_append_left _ (List.mem_filterMap.2 ⟨.tmp t,by simpa using hx,rfl⟩);have:=h t ht;simp only[Act.eval,Array.getD_eq_getD_getElem?,this]
 |_=>rfl
theorem jS {a b:Act} {o:Oper} (h:∀t∈o.looksAt ops,a.tmps[t]?=b.tmps[t]?):Region.wanted o (yielded ops a.tmps)=Region.wanted o (yielded ops b.tmps):=by
 unfold Region.wanted;cases hg:o.guard with
 |none=>rfl
 |some gw =>
  obtain⟨g,want⟩:=gw;have hy:yielded ops a.tmps g=yielded ops b.tmps g:=by
   unfold yielded;cases ht:(ops[g]?).bind (·.dst)with
   |none=>rfl
   |some t =>
    have hm:t∈o.looksAt ops:=by simp[Oper.looksAt,hg,ht]
    simp only[Option.bind_some,h t hm]
  simp only[hy]
def rF (o:Oper) (a:Act):Value:=match o.dst with | some t=>a.tmps.getD t undef | none=>undef
theorem fM (a0:Act) (R:Value→World→Prop) (o:Oper) (w:World):¬LetsOut (Qo a0 R o w):=by
 rintro⟨_,_,h⟩;exact h
theorem yY {i:Nat} {o:Oper} {a b:Act} {w:World} {Ri:Value→World→Prop} (ht:gQ o=true) (hb:b.defers=a0.defers) (hab:∀t∈o.looksAt ops,a.tmps[t]?=b.tmps[t]?) (ho:ops[i]?=some o)
  {K:Act→World→Prop} (h:wpList P ops (Qo a0 Ri o w) [o] b w) (hK:∀v w',Ext w w'→Ri (rF o (b.put o.dst v)) w'→K (a.put o.dst v) w'):wpOp P ops Q i K a w:=by
 have hs:∀cs b,o.op≠.select cs b:=fun cs b e=>by simp[gQ,e]at ht
 have he:execOp a.eval o=execOp b.eval o:=execOp_congr o hs (mJ hab);have hw:=jS hab;unfold wpOp;simp only[ho];rw[hw];unfold wpList at h;cases hwb:Region.wanted o (yielded ops b.tmps)
 ·simp only[hwb,Bool.false_eq_true,if_false]at h⊢;unfold wpList at h;exact hK _ _ h.2.1 h.2.2
 ·simp only[hwb,if_true]at h⊢;rcases h with h | h
  ·refine .inl ?_;unfold Oper.wp at h⊢;rw[he];generalize (execOp b.eval o).run P w=r at h;cases r with
   |ok n w' =>
    cases n<;>simp only[Oper.upon]at h ⊢
    case value v=>unfold wpList at h;exact hK _ _ h.2.1 h.2.2
    case skip=>unfold wpList at h;exact hK _ _ h.2.1 h.2.2
    case defer d =>
     unfold wpList at h;have:=h.1;cases hd:o.dst<;>simp[Act.put,hd,hb]at this
    case enter f args =>
     refine Calls.mono h fun e w'' hq=>?_;cases e with
     |returned v=>unfold wpList at hq;exact hK _ _ hq.2.1 hq.2.2
     |panicked ch=>exact absurd hq (by simp[Qo])
     |outgrown=>exact absurd hq (fM _ _ _ _)
    case row row args =>
     exact Rows.mono h fun v w'' hq=>by unfold wpList at hq;exact hK _ _ hq.2.1 hq.2.2
    all_goals exact h
   |halt x w'=>cases x<;>simp only[Oper.upon]at h⊢<;> first | exact h.elim | exact absurd h (by simp[Qo])
  ·exact absurd h.2 (fM _ _ _ _)
def Gn (listed:Array Bool) (m:Nat):Nat:=((List.range m).filter (fun i=>!listed.getD i false)).length
theorem Gz (l:List Nat) (hl:l.Nodup) (p q:Nat→Bool) (i:Nat) (hi:i∈l) (hp:p i=true) (hq:q i=false) (he:∀j,j≠i→q j=p j):(l.filter q).length+1=(l.filter p).length:=by
 induction l with
 |nil=>cases hi
 |cons x r ih =>
  have hx:=List.nodup_cons.1 hl;by_cases hxi:x=i
  ·subst hxi;have hr:r.filter q=r.filter p:=List.filter_congr fun j hj=>he j (fun e=>hx.1 (e ▸ hj));simp[hp,hq,hr]
  ·have hir:i∈r:=by
    rcases List.mem_cons.1 hi with h | h
    ·exact absurd h.symm hxi
    ·exact h
   have:=ih hx.2 hir;cases hpx:p x<;>simp[he x hxi,hpx]<;>omega
theorem dK (listed:Array Bool) (i j:Nat) (hi:i<listed.size):(listed.setIfInBounds i true).getD j false=if j=i then true else listed.getD j false:=by
 simp only[Array.getD_eq_getD_getElem?,Array.getElem?_setIfInBounds];by_cases h:i=j
 ·subst h;simp[hi]
 ·have:¬j=i:=fun e=>h e.symm;simp[h,this]
theorem Ew (listed:Array Bool) (i:Nat) (hi:i<m) (hs:i<listed.size) (hu:listed.getD i false=false):Gn (listed.setIfInBounds i true) m+1=Gn listed m:=by
 unfold Gn;refine Gz _ List.nodup_range _ _ i (List.mem_range.2 hi) (by rw[hu];rfl) (by rw[dK listed i i hs];simp) fun j hj=>?_;rw[dK listed i j hs,if_neg hj]
theorem zF {listed:Array Bool} (h:Gn listed m=0):∀i,i<m→listed.getD i false=true:=by
 intro i hi;unfold Gn at h;have:=List.eq_nil_of_length_eq_zero h;rw[List.filter_eq_nil_iff]at this;simpa using this i (List.mem_range.2 hi)
theorem Ey {listed:Array Bool} (h:0<Gn listed m):∃i,i<m∧listed.getD i false=false∧∀j,j<i→listed.getD j false=true:=by
 have hex:∃i,i<m∧listed.getD i false=false:=by
  unfold Gn at h;obtain⟨i,hi⟩:=List.exists_mem_of_length_pos h;simp only[List.mem_filter,List.mem_range,Bool.not_eq_true']at hi;exact⟨i,hi⟩
 obtain⟨i,hi,hu⟩:=hex;clear h
 induction i using Nat.strongRecOn with
 |ind i ih =>
  by_cases hex:∃j,j<i∧listed.getD j false=false
  ·obtain⟨j,hj,hju⟩:=hex;exact ih j hj (by omega) hju
  ·refine⟨i,hi,hu,fun j hj=>?_⟩;cases hv:listed.getD j false
   ·exact absurd ⟨j,hj,hv⟩ hex
   ·rfl
def mM (n m:Nat):Array Bool:=(Array.range n).map (fun i=>decide (i<m))
theorem lW (hc:iG ops m=true) (hst:∀i vals v w w',i<m→R i vals v w→Ext w w'→R i vals v w') (hloc:∀i vals vals' v w,i<m→(∀d,zC ops i d=true→vals d=vals' d)→R i vals v w→R i vals' v w) (hob:∀i o,i<m→ops[i]?=some o→M_ P ops a0 w0 R i o)
  (hfin:∀(vals:Nat→Value) (w:World),Ext w0 w→(∀i,i<m→R i vals (vals i) w)→wpAny P .any ops Q (ops.size-m) (mM ops.size m) (Lf ops a0 vals m) w) :
  ∀(c:Nat) (listed:Array Bool) (vals:Nat→Value) (a:Act) (w:World),Gn listed m=c→Inv ops a0 w0 R m listed vals a w→wpAny P .any ops Q (ops.size-m+c) listed a w:=by
 intro c
 induction c with
 |zero =>
  intro listed vals a w hu hI;have hall:=zF hu;have hsz:=mG hc;have hlit:listed=mM ops.size m:=by
   apply Array.ext
   ·simp[mM,hI.size]
   ·intro i h1 h2;have hg:listed.getD i false=listed[i]:=by simp[Array.getD_eq_getD_getElem?,h1]
    rcases Nat.lt_or_ge i m with h | h
    ·have:=hall i h;rw[hg]at this;simp[mM,this,h]
    ·have:=hI.tail i h;rw[hg]at this;simp[mM,this,Nat.not_lt.2 h]
  have ha:a=Lf ops a0 vals m:=by
   have ht:a.tmps=(Lf ops a0 vals m).tmps:=by
    apply Array.ext_getElem?;intro t;by_cases hj:∃j,j<m∧au ops j=some t
    ·obtain⟨j,hjm,hjt⟩:=hj;obtain⟨oj,hoj,_,Dp,_⟩:=jw hc hjm;have hdj:oj.dst=some t:=by simpa [au,hoj]using hjt
     rcases Nat.lt_or_ge t a0.tmps.size with hlt | hge
     ·rw[hI.inner j t hjm (hall j hjm) hjt hlt,gY vals m j t hjm hjt (fun k hk1 hk2=>Dp t hdj k hk2 (by omega)) hlt]
     ·rw[Array.getElem?_eq_none (by rw[hI.oJ];exact hge),Array.getElem?_eq_none (by rw[dV];exact hge)]
    ·have hj':∀j,j<m→au ops j≠some t:=fun j hjm hjt=>hj ⟨j,hjm,hjt⟩;rw[hI.outer t (fun j hjm _=>hj' j hjm),gX vals m t (fun j hji=>hj' j hji)]
   have hd:a.defers=(Lf ops a0 vals m).defers:=by rw[fD,hI.defers]
   cases a;cases hL:Lf ops a0 vals m
   simp_all
  rw[hlit,ha];exact hfin vals w hI.ext fun i hi=>hI.facts i hi (hall i hi)
 |succ c ih =>
  intro listed vals a w hu hI;have hsz:=mG hc;have hgt:∀i,i<listed.size→listed.getD i true=listed.getD i false:=fun i hi=>by simp[Array.getD_eq_getD_getElem?,hi]
  obtain⟨i0,hi0,Ez,hall0⟩:=Ey (m:=m) (listed:=listed) (by omega);obtain⟨o0,ho0,hd0,_⟩:=jw hc hi0;have hr0:i0∈Region.ready .any ops listed:=zD (by omega) (by rw[hgt _ (by rw[hI.size];omega)];exact Ez) ho0 fun d hd=>hall0 d (hd0 d hd)
  show wpAny P .any ops Q ((ops.size-m+c)+1) listed a w
  unfold wpAny;refine⟨fun hnil=>absurd hr0 (by rw[hnil];simp),fun i hi=>?_⟩;obtain⟨hin,hiu,o,ho,hdl⟩:=uJ hi;have him:i<m:=by
   rcases Nat.lt_or_ge i m with h | h
   ·exact h
   ·obtain⟨o',ho',ht⟩:=Gy hc h hin;rw[ho]at ho';injection ho' with ho';subst ho';rcases ht with ⟨d,h1,h2⟩ | ht
    ·have:=hdl d h1;rw[hI.tail d h2]at this;cases this
    have:=gB hI.closed m _ (Nat.le_refl _) hdl i0 (ht i0 hi0);rw[Ez]at this;cases this
  obtain⟨o',ho',hdi,hdist,hlook,GH⟩:=jw hc him;rw[ho]at ho';injection ho' with ho';subst ho';have hiL:i<listed.size:=by rw[hI.size];exact hin
  have zG:listed.getD i false=false:=by rw[←hgt i hiL];exact hiu
  have zH:∀d,zC ops i d=true→listed.getD d false=true:=fun d hd=>by
   unfold zC at hd;refine gB hI.closed i _ (by omega) (fun d hd=>?_) d (by simpa using hd);exact hdl d (by simpa [lQ,ho]using hd)
  have QC:∀d,listed.getD d false=true→d<m:=fun d hd=>by
   rcases Nat.lt_or_ge d m with h | h
   ·exact h
   ·rw[hI.tail d h]at hd;cases hd
  refine yY GH (fD vals i) (agree hc hI him ho hdl) ho (hob i o him ho vals w hI.ext (fun d hd=>hI.facts d (by have:=hdi d hd;omega) (hdl d hd)) (fun d hd=>hI.facts d (QC d (zH d hd)) (zH d hd))) ?_;intro v w' hext hR;refine ih _ (fun j=>if j=i then rF o ((Lf ops a0 vals i).put o.dst v) else vals j) _ _ (by have:=Ew listed i him hiL zG;omega) ?_;have hdo:au ops i=o.dst:=by simp[au,ho]
  constructor
  ·exact hI.ext.trans hext
  ·simp[hI.size]
  ·intro j hj;rw[dK listed i j hiL,if_neg (by omega)];exact hI.tail j hj
  ·intro j hj hl d hd;rw[dK listed i d hiL];rw[dK listed i j hiL]at hl;by_cases hji:j=i
   ·subst hji;have:d∈bZ o:=by simpa [lQ,ho]using hd
    rw[hdl d this];simp
   ·rw[if_neg hji]at hl;rw[hI.closed j hj hl d hd];simp
  ·intro j hj hl;rw[dK listed i j hiL]at hl;by_cases hji:j=i
   ·subst hji;simp only[if_true];refine hloc j vals _ _ w' hj (fun d hd=>?_) hR;have hdj:d≠j:=fun e=>by
     have:=zH d hd;rw[e,zG]at this;cases this
    simp[hdj]
   ·rw[if_neg hji]at hl;simp only[hji,if_false];refine hloc j vals _ _ w' hj (fun d hd=>?_) (hst j vals _ w w' hj (hI.facts j hj hl) hext);have GI:listed.getD d false=true:=by
     unfold zC at hd;exact gB hI.closed j _ (by omega) (fun d hd=>hI.closed j hj hl d hd) d (by simpa using hd)
    have QD:d≠i:=fun e=>by
     rw[e,zG]at GI;cases GI
    simp[QD]
  ·cases hd:o.dst<;>simp[Act.put,hI.defers]
  ·cases hd:o.dst<;>simp[Act.put,hI.oJ]
  ·intro t ht;rw[gy,if_neg (by rw[←hdo];exact ht i him (by rw[dK listed i i hiL,if_pos rfl]))];refine hI.outer t fun j hj hl=>ht j hj ?_;rw[dK listed i j hiL]
   split
   ·rfl
   ·exact hl
  ·intro j t hj hl hdj htl;rw[gy];by_cases hji:j=i
   ·subst hji;rw[hdo]at hdj;rw[if_pos hdj,if_pos (by rw[hI.oJ];exact htl)];have h2:=gy (Lf ops a0 vals j) o.dst v t;rw[if_pos hdj,if_pos (by rw[dV];exact htl)]at h2;simp only[if_true,rF,hdj,Array.getD_eq_getD_getElem?];rw[hdj]at h2;rw[h2];rfl
   ·rw[dK listed i j hiL,if_neg hji]at hl;rw[if_neg (fun e=>hdist t e j hj hji hdj)];simp only[hji,if_false];exact hI.inner j t hj hl hdj htl
def uK (P:Program) (ops:Array Oper) (a0:Act) (w0:World) (R:Nat→(Nat→Value)→Value→World→Prop):Nat→List Oper→Prop
 |_,[]=>True
 |k,o::rest=>M_ P ops a0 w0 R k o∧uK P ops a0 w0 R (k+1) rest
theorem qh:∀(l:List Oper) (k:Nat),uK P ops a0 w0 R k l→∀j o,l[j]?=some o→M_ P ops a0 w0 R (k+j) o
 |[],_,_,_,_,h=>by simp at h
 |x::l,k,⟨h1,h2⟩,j,o,hj=>by
  cases j with
  |zero =>
   simp at hj;subst hj;exact h1
  |succ j =>
   have:=qh l (k+1) h2 j o (by simpa using hj);rwa[show k+1+j=k+(j+1) by omega]at this
theorem iw {id:Nat} {a:Act} {w:World} (m:Nat) (R:Nat→(Nat→Value)→Value→World→Prop) (hm:P.follows .mixedOrders=true) (hc:iG ops m=true) (hst:∀i vals v w w',i<m→R i vals v w→Ext w w'→R i vals v w') (hloc:∀i vals vals' v w,i<m→(∀d,zC ops i d=true→vals d=vals' d)→R i vals v w→R i vals' v w)
  (hob:uK P ops a w.drew R 0 (ops.toList.take m))
  (hfin:∀(vals:Nat→Value) (w':World),Ext w.drew w'→(∀i,i<m→R i vals (vals i) w')→wpAny P .any ops Q (ops.size-m) (mM ops.size m) (Lf ops a vals m) w'):(Code.region id ops true).wp P Q a w:=by
 refine wp_region_any hm ?_;have hsz:=mG hc;have QE:Gn (Array.replicate ops.size false) m=m:=by
  unfold Gn;rw[List.filter_eq_self.2 (fun i hi=>by simp[Array.getD_eq_getD_getElem?,Array.getElem?_replicate];split<;>rfl)];simp
 have h:=lW (P:=P) (Q:=Q) (a0:=a) (w0:=w.drew) hc hst hloc (fun i o hi ho=>by
  have:=qh (P:=P) (ops:=ops) (a0:=a) (w0:=w.drew) (R:=R) _ 0 hob i o (by rw[List.getElem?_take,if_pos hi];simpa using ho);simpa using this) hfin m (Array.replicate ops.size false) (fun _=>undef) a w.drew QE ?_
 ·rw[show ops.size-m+m=ops.size by omega]at h;exact h
 ·have hf:∀i,(Array.replicate ops.size false).getD i false=false:=fun i=>by simp[Array.getD_eq_getD_getElem?,Array.getElem?_replicate];split<;>rfl
  constructor
  ·exact Ext.refl _
  ·simp
  ·intro i _;exact hf i
  ·intro i _ h;rw[hf]at h;cases h
  ·intro i _ h;rw[hf]at h;cases h
  ·rfl
  ·rfl
  ·intro t _;rfl
  ·intro i t _ h;rw[hf]at h;cases h
theorem dO {listed:Array Bool} {a:Act} {w:World} (hr:Region.ready .any ops listed=[]) (h:Q .normal a w):wpAny P .any ops Q 0 listed a w:=⟨hr,h⟩
theorem eP {listed:Array Bool} {a:Act} {w:World} (i:Nat) (o:Oper) (hr:Region.ready .any ops listed=[i]) (hr':Region.ready .any ops (listed.setIfInBounds i true)=[]) (ho:ops[i]?=some o)
  (h:wpList P ops Q [o] a w):wpAny P .any ops Q 1 listed a w:=by
 refine⟨fun e=>(by rw[hr]at e;cases e),fun j hj=>?_⟩;rw[hr]at hj;obtain rfl:j=i:=by simpa using hj
 unfold wpOp;simp only[ho];unfold wpList at h
 split
 ·rename_i hw
  rw[if_pos hw]at h;rcases h with h | h
  ·exact .inl (Oper.wp_mono (fun a w q=>⟨hr',q⟩) h)
  ·exact .inr h
 ·rename_i hw
  rw[if_neg hw]at h;exact⟨hr',h⟩
theorem Og {o:Oper} {rest:List Oper} {i:Nat} {a:Act} {w:World} {K:Act→World→Prop} (ho:ops[i]?=some o) (h:wpList P ops Q (o::rest) a w) (hK:∀a w,wpList P ops Q rest a w→K a w):wpOp P ops Q i K a w:=by
 unfold wpOp;simp only[ho];unfold wpList at h
 split
 ·rename_i hw
  rw[if_pos hw]at h;rcases h with h | h
  ·exact .inl (Oper.wp_mono hK h)
  ·exact .inr h
 ·rename_i hw
  rw[if_neg hw]at h;exact hK _ _ h
theorem oK {listed:Array Bool} {a:Act} {w:World} (i:Nat) (o:Oper) (rest:List Oper) (n:Nat) (hr:Region.ready .any ops listed=[i]) (ho:ops[i]?=some o)
  (h:wpList P ops Q (o::rest) a w) (hk:∀a w,wpList P ops Q rest a w→wpAny P .any ops Q n (listed.setIfInBounds i true) a w):wpAny P .any ops Q (n+1) listed a w:=by
 refine⟨fun e=>(by rw[hr]at e;cases e),fun j hj=>?_⟩;rw[hr]at hj;obtain rfl:j=i:=by simpa using hj
 exact Og ho h hk
end
theorem bT {w w':World} {base:Nat} {e:TypeId} {size:Nat} {v:Value} {n:Nat} {xs:List Value} (h:w.ownsRow base e size v n xs) (hx:Ext w w'):w'.ownsRow base e size v n xs:=by
 refine⟨h.1,?_⟩;rcases h.2 with hn | ⟨g,cap,cur,rfl,hb,hgg,r⟩
 ·exact .inl hn
 ·exact .inr ⟨g,cap,cur,rfl,hb,(hx.block g (Array.getElem?_eq_some_iff.1 hgg).1).trans hgg,r⟩
theorem own_base {w:World} {base base':Nat} {e:TypeId} {size:Nat} {v:Value} {n:Nat} {xs:List Value} (h:w.ownsRow base e size v n xs) (hb:base'≤base):w.ownsRow base' e size v n xs:=by
 refine⟨h.1,?_⟩;rcases h.2 with hn | ⟨g,cap,cur,rfl,hg,r⟩
 ·exact .inl hn
 ·exact .inr ⟨g,cap,cur,rfl,by omega,r⟩
theorem aX {w:World} {base:Nat} {e:TypeId} {size:Nat} {v:Value} {n:Nat} {xs:List Value} (h:w.ownsRow base e size v n xs):∃A c,v=.slice A n c∧n≤c∧c≤maxLen:=by
 rcases h.2 with ⟨rfl,rfl⟩ | ⟨g,cap,cur,rfl,_,_,h1,h2,_⟩
 ·exact⟨none,0,rfl,Nat.le_refl _,Nat.zero_le _⟩
 ·exact⟨_,_,rfl,h1,h2⟩
theorem jH {w:World} {base:Nat} {e:TypeId} {size:Nat} {v:Value} {n:Nat} {xs:List Value} (h:w.ownsRow base e size v n xs) {p:Addr} (hne:v.ownBlock≠some p.block) (u:Value):(w.setCell p u).ownsRow base e size v n xs:=by
 refine⟨h.1,?_⟩;rcases h.2 with hn | ⟨g,cap,cur,rfl,hg,hh,r⟩
 ·exact .inl hn
 ·refine .inr ⟨g,cap,cur,rfl,hg,?_,r⟩;rw[Below.heap_setCell _ _ _ _ (fun e=>hne (by simp[Value.ownBlock,e]))];exact hh
theorem ah {W w1:World} (hx:Ext W w1) {p:Addr} {v:Value} (h:W.cell? p=some v):w1.cell? p=some v:=(Below.cell hx (World.block_lt_of_cell? W p h)).trans h
theorem Ext.aH {w w1:World} (h:Ext w.drew w1):Ext w w1:=⟨h.os,h.tape,h.output,h.size,h.block⟩
theorem aG.ext {w w':World} {g:Nat} {t:TypeId} {cs:Array Value} (h:aG w g t cs) (hx:Ext w w'):aG w' g t cs:=h.below hx h.lt
theorem Reads.ext {w w':World} {size n:Nat} {A:Option Addr} {xs:List Value} (h:Reads w w.heap.size size A n xs) (hx:Ext w w'):Reads w' w'.heap.size size A n xs:=(h.below hx).more hx.size
end Go.Proofs.YtjidhhfabfnhnaaGreat
namespace Go.Proofs.YtjidhhfabfnhnaaGreat
open Go.RowKit
inductive Rl where
 |w (r:Value→World→Prop)
 |v (r:(Nat→Value)→Value→World→Prop)
def Rl.is (r:Rl) (vals:Nat→Value) (v:Value) (w:World):Prop:=match r with
 |.w r=>r v w
 |.v r=>r vals v w
def iU (T:List (Option Value)) (i:Nat):Option Value:=T.getD i none
def jT:List (Nat×Rl)→Nat→Option Rl
 |[],_=>none
 |p::r,i=>if p.1==i then some p.2 else jT r i
def qW (T:List (Option Value)) (L:List (Nat×Rl)) (i:Nat) (vals:Nat→Value) (v:Value) (w:World):Prop:=match iU T i with
 |some u=>v=u
 |none=>match jT L i with
  |some r=>r.is vals v w
  |none=>True
def uY (T:List (Option Value)) (vals:Nat→Value) (j:Nat):Value:=(iU T j).getD (vals j)
def Rl.ok (ops:Array Oper) (i:Nat) (r:Rl):Prop:=match r with
 |.w r=>∀v w w',r v w→Ext w w'→r v w'
 |.v r=>(∀vals v w w',r vals v w→Ext w w'→r vals v w')∧∀vals vals' v w,(∀d,zC ops i d=true→vals d=vals' d)→r vals v w→r vals' v w
def rG (ops:Array Oper):List (Nat×Rl)→Prop
 |[]=>True
 |p::r=>p.2.ok ops p.1∧rG ops r
theorem jU {ops:Array Oper} {i:Nat} {r:Rl} : ∀ {L:List (Nat×Rl)},rG ops L→jT L i=some r→r.ok ops i
 |[],_,h=>by cases h
 |p::l,⟨h1,h2⟩,h=>by
  unfold jT at h
  split at h
  ·rename_i e
   have e:p.1=i:=by simpa using e
   injection h with h;subst e h;exact h1
  ·exact jU h2 h
section
variable {P:Program} {ops:Array Oper} {Q:Exit→Act→World→Prop} {a0:Act}
theorem lF {o:Oper} {a b:Act} {w w0:World} {Ri:Value→World→Prop} (ht:gQ o=true) (ha:a.defers=a0.defers) (hb:b.defers=a0.defers) (hsz:a.tmps.size=b.tmps.size) (hab:∀t∈o.looksAt ops,a.tmps[t]?=b.tmps[t]?)
  (h:wpList P ops (Qo a0 Ri o w0) [o] b w):wpList P ops (Qo a0 Ri o w0) [o] a w:=by
 have hs:∀cs b,o.op≠.select cs b:=fun cs b e=>by simp[gQ,e]at ht
 have he:execOp a.eval o=execOp b.eval o:=execOp_congr o hs (mJ hab);have hw:=jS hab;have key:∀v w',Qo a0 Ri o w0 .normal (b.put o.dst v) w'→Qo a0 Ri o w0 .normal (a.put o.dst v) w':=by
  rintro v w' ⟨h1,h2,h3⟩;refine⟨?_,h2,?_⟩
  ·cases hd:o.dst<;>simp[Act.put,ha]
  ·cases hd:o.dst with
   |none=>rw[hd]at h3;exact h3
   |some t =>
    rw[hd]at h3;have e1:=gy a (some t) v t;have e2:=gy b (some t) v t;simp only[Array.getD_eq_getD_getElem?,e2,if_true,←hsz]at h3;simp only[Array.getD_eq_getD_getElem?,e1,if_true];exact h3
 unfold wpList at h⊢;rw[hw];cases hwb:Region.wanted o (yielded ops b.tmps)
 ·simp only[hwb,Bool.false_eq_true,if_false]at h⊢;unfold wpList at h⊢;exact key _ _ h
 ·simp only[hwb,if_true]at h⊢;rcases h with h | h
  ·refine .inl ?_;unfold Oper.wp at h⊢;rw[he];generalize (execOp b.eval o).run P w=r at h;cases r with
   |ok n w' =>
    cases n<;>simp only[Oper.upon]at h ⊢
    case value v=>unfold wpList at h⊢;exact key _ _ h
    case skip=>unfold wpList at h⊢;exact key _ _ h
    case defer d =>
     unfold wpList at h;have:=h.1;cases hd:o.dst<;>simp[Act.put,hd,hb]at this
    case enter f args =>
     refine Calls.mono h fun e w'' hq=>?_;cases e with
     |returned v=>unfold wpList at hq⊢;exact key _ _ hq
     |panicked ch=>exact absurd hq (by simp[Qo])
     |outgrown=>exact absurd hq (fM _ _ _ _)
    case row row args =>
     exact Rows.mono h fun v w'' hq=>by unfold wpList at hq⊢;exact key _ _ hq
    all_goals first | exact h | exact h.elim
   |halt x w'=>cases x<;>simp only[Oper.upon]at h⊢<;> first | exact h.elim | exact absurd h (by simp[Qo])
  ·exact absurd h.2 (fM _ _ _ _)
def Na (P:Program) (ops:Array Oper) (a0:Act) (w0:World) (T:List (Option Value)) (L:List (Nat×Rl)) (k:Nat) (o:Oper):Prop:=match iU T k with
 |some u=>∀(vals:Nat→Value) (w:World),Ext w0 w→(∀d∈bZ o,iU T d=none→qW T L d vals (vals d) w)→wpList P ops (Qo a0 (fun v _=>v=u) o w) [o] (Lf ops a0 (uY T vals) k) w
 |none=>match jT L k with
  |some r=>∀(vals:Nat→Value) (w:World),Ext w0 w→(∀d∈bZ o,iU T d=none→qW T L d vals (vals d) w)→wpList P ops (Qo a0 (r.is vals) o w) [o] (Lf ops a0 (uY T vals) k) w
  |none=>∀(vals:Nat→Value) (w:World),Ext w0 w→(∀d∈bZ o,iU T d=none→qW T L d vals (vals d) w)→wpList P ops (Qo a0 (fun _ _=>True) o w) [o] (Lf ops a0 (uY T vals) k) w
def zI (P:Program) (ops:Array Oper) (a0:Act) (w0:World) (T:List (Option Value)) (L:List (Nat×Rl)):Nat→List Oper→Prop
 |_,[]=>True
 |k,o::rest=>Na P ops a0 w0 T L k o∧zI P ops a0 w0 T L (k+1) rest
theorem nP {w0:World} {T:List (Option Value)} {L:List (Nat×Rl)} : ∀(l:List Oper) (k:Nat),zI P ops a0 w0 T L k l→∀j o,l[j]?=some o→Na P ops a0 w0 T L (k+j) o
 |[],_,_,_,_,h=>by simp at h
 |x::l,k,⟨h1,h2⟩,j,o,hj=>by
  cases j with
  |zero =>
   simp at hj;subst hj;exact h1
  |succ j =>
   have:=nP l (k+1) h2 j o (by simpa using hj);rwa[show k+1+j=k+(j+1) by omega]at this
theorem nR:∀(l:List Oper) (k:Nat) {w0:World} {R:Nat→(Nat→Value)→Value→World→Prop},(∀j o,l[j]?=some o→M_ P ops a0 w0 R (k+j) o)→uK P ops a0 w0 R k l
 |[],_,_,_,_=>trivial
 |x::l,k,w0,R,h=>⟨h 0 x rfl,nR l (k+1) fun j o hj=>by have:=h (j+1) o (by simpa using hj);rwa[show k+(j+1)=k+1+j by omega]at this⟩
theorem u_ {w0:World} {T:List (Option Value)} {L:List (Nat×Rl)} {m k:Nat} {o:Oper} (hc:iG ops m=true) (hk:k<m) (ho:ops[k]?=some o) (h:Na P ops a0 w0 T L k o):M_ P ops a0 w0 (qW T L) k o:=by
 intro vals w hx hd _;obtain⟨o',ho',h1,h2,h3,h4⟩:=jw hc hk;rw[ho]at ho';injection ho' with ho';subst ho';have hv:∀d∈bZ o,uY T vals d=vals d:=fun d hm=>by
  have:=hd d hm;unfold qW at this;unfold uY;cases ht:iU T d with
  |none=>rfl
  |some u=>rw[ht]at this;exact this.symm
 have hab:∀t∈o.looksAt ops,(Lf ops a0 vals k).tmps[t]?=(Lf ops a0 (uY T vals) k).tmps[t]?:=by
  intro t ht;by_cases hj:∃j,j<m∧au ops j=some t
  ·obtain⟨j,hjm,hjt⟩:=hj;have hjd:=h3 t ht j hjm hjt;have hjk:=h1 j hjd;obtain⟨oj,hoj,_,Dp,_⟩:=jw hc hjm;have hdj:oj.dst=some t:=by simpa [au,hoj]using hjt
   rcases Nat.lt_or_ge t a0.tmps.size with hlt | hge
   ·rw[gY vals k j t hjk hjt (fun q hq1 hq2=>Dp t hdj q (by omega) (by omega)) hlt,gY (uY T vals) k j t hjk hjt (fun q hq1 hq2=>Dp t hdj q (by omega) (by omega)) hlt,hv j hjd]
   ·rw[Array.getElem?_eq_none (by rw[dV];exact hge),Array.getElem?_eq_none (by rw[dV];exact hge)]
  ·have hj':∀j,j<m→au ops j≠some t:=fun j hjm hjt=>hj ⟨j,hjm,hjt⟩;rw[gX vals k t (fun j hjk=>hj' j (by omega)),gX (uY T vals) k t (fun j hjk=>hj' j (by omega))]
 refine lF h4 (fD vals k) (fD (uY T vals) k) (by rw[dV,dV]) hab ?_;have hR:(qW T L k vals)=(match iU T k with | some u=>fun v _=>v=u | none=>match jT L k with | some r=>r.is vals | none=>fun _ _=>True):=by
  funext v w
  unfold qW;cases iU T k with
  |some u=>rfl
  |none=>cases jT L k<;>rfl
 rw[hR];have hd':∀d∈bZ o,iU T d=none→qW T L d vals (vals d) w:=fun d hm _=>hd d hm;unfold Na at h;cases ht:iU T k with
 |some u=>rw[ht]at h;exact h vals w hx hd'
 |none =>
  rw[ht]at h;cases hr:jT L k with
  |some r=>rw[hr]at h;exact h vals w hx hd'
  |none=>rw[hr]at h;exact h vals w hx hd'
theorem aF {id:Nat} {a:Act} {w:World} (m:Nat) (T:List (Option Value)) (L:List (Nat×Rl)) (hst:rG ops L) (hob:zI P ops a w.drew T L 0 (ops.toList.take m))
  (hfin:∀(vals:Nat→Value) (w':World),Ext w.drew w'→(∀i,i<m→qW T L i vals (vals i) w')→wpAny P .any ops Q (ops.size-m) (mM ops.size m) (Lf ops a vals m) w')
  (hm:P.follows .mixedOrders=true:=by kernel_rfl) (hc:iG ops m=true:=by kernel_rfl):(Code.region id ops true).wp P Q a w:=by
 refine iw m (qW T L) hm hc ?_ ?_ ?_ hfin
 ·intro i vals v w1 w2 _ hr hx;unfold qW at hr⊢;cases ht:iU T i with
  |some u=>rw[ht]at hr;exact hr
  |none =>
   rw[ht]at hr;cases hl:jT L i with
   |none=>trivial
   |some r =>
    rw[hl]at hr;have:=jU hst hl;cases r with
    |w r=>exact this v w1 w2 hr hx
    |v r=>exact this.1 vals v w1 w2 hr hx
 ·intro i vals vals' v w1 _ hv hr;unfold qW at hr⊢;cases ht:iU T i with
  |some u=>rw[ht]at hr;exact hr
  |none =>
   rw[ht]at hr;cases hl:jT L i with
   |none=>trivial
   |some r =>
    rw[hl]at hr;have:=jU hst hl;cases r with
    |w r=>exact hr
    |v r=>exact this.2 vals vals' v w1 hv hr
 ·refine nR _ 0 fun j o hj=>?_;have hjm:j<m:=by
   have:=(List.getElem?_eq_some_iff.1 hj).1;simp at this;omega
  have hjo:ops[j]?=some o:=by rw[List.getElem?_take,if_pos hjm]at hj;simpa using hj
  rw[Nat.zero_add];have:=nP _ 0 hob j o hj;rw[Nat.zero_add]at this;exact u_ hc hjm hjo this
end
theorem bG:(∀(T:List (Option Value)) (vals:Nat→Value) (j:Nat),uY T vals j=(T.getD j none).getD (vals j))∧(∀(a d:Option Value) (l:List (Option Value)),(a::l).getD 0 d=a)∧(∀(a d:Option Value) (l:List (Option Value)) (n:Nat),(a::l).getD (n+1) d=l.getD n d)∧(∀a b:Value,(some a).getD b=a)∧(∀b:Value,(none:Option Value).getD b=b):=⟨fun _ _ _=>rfl,fun _ _ _=>rfl,fun _ _ _ _=>rfl,fun _ _=>rfl,fun _=>rfl⟩
theorem bH {α:Type} : (∀(xs:List α) (i:Nat),xs.toArray[i]?=xs[i]?)∧(∀(a:α) (l:List α),(a::l)[0]?=some a)∧(∀(a:α) (l:List α) (i:Nat),(a::l)[i+1]?=l[i]?)∧(∀(xs:List α) (i:Nat) (a:α),xs.toArray.setIfInBounds i a=(xs.set i a).toArray)∧(∀(a b:α) (l:List α),(a::l).set 0 b=b::l)∧(∀(a b:α) (l:List α) (i:Nat),(a::l).set (i+1) b=a::l.set i b)∧(∀(β:Type) (a:α) (f:α→Option β),(some a).bind f=f a):=by
 refine⟨fun _ _=>?_,fun _ _=>?_,fun _ _ _=>?_,fun _ _ _=>?_,fun _ _ _=>?_,fun _ _ _ _=>?_,fun _ _ _=>rfl⟩<;>simp
theorem iq {α β:Type} {a:α} {b:β} {w:World} : a=a∧Ext w w∧b=b:=⟨rfl,.refl _,rfl⟩
end Go.Proofs.YtjidhhfabfnhnaaGreat
