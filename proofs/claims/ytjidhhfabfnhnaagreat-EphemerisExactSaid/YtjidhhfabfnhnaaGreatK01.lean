/- Spells: plain lemmas; what a round of a range over spells keeps. -/
import Derived.Test.YtjidhhfabfnhnaaGreatProg
import Derived.WalkKit
import Derived.WalkSpells
import Derived.WalkLawsBesides
import Derived.Lib.Hide
import Derived.Deep.RegionHeld3
import Derived.Deep.QuietTactic
import Derived.BigQuiet
import Derived.Deep.AppendLies
import Derived.Deep.Draws
import Derived.Deep.LoopGhost
import Derived.Deep.DeepFit
import Derived.Deep.DeepCutAuto
import Derived.Deep.OwnRows
import Derived.Maps.AppendAt
import Derived.Laws.CopyOwn
import Derived.KernelRfl
import Derived.Orders
import Derived.RangeFuncNested
import Derived.RangeFuncBound
import Derived.RangeFuncCalls
import Derived.RangeFuncLeaves
import Derived.Shelf.Abstract
import Derived.Shelf.RegionOpen
import Derived.OwnWalkIn
import Derived.TacticsInMore
import Derived.LoopNIn
import Derived.LoopIn
namespace Go.Proofs.YtjidhhfabfnhnaaGreat
theorem FR_ {α : Type} : (∀ (xs : List α) (i : Nat),xs.toArray[i]? = xs[i]?) ∧ (∀ (a : α) (l : List α),(a :: l)[0]? = some a) ∧ (∀ (a : α) (l : List α) (i : Nat),(a :: l)[i + 1]? = l[i]?) ∧ (∀ (xs : List α) (i : Nat) (a : α),xs.toArray.setIfInBounds i a = (xs.set i a).toArray) ∧ (∀ (a b : α) (l : List α),(a :: l).set 0 b = b :: l) ∧ (∀ (a b : α) (l : List α) (i : Nat),(a :: l).set (i + 1) b = a :: l.set i b) ∧ (∀ (β : Type) (a : α) (f : α → Option β),(some a).bind f = f a):=by
  refine ⟨fun _ _ => ?_,fun _ _ => ?_,fun _ _ _ => ?_,fun _ _ _ => ?_,fun _ _ _ => ?_,fun _ _ _ _ => ?_,fun _ _ _ => rfl⟩ <;> simp
open Go.RowKit
theorem add_of_add (a : Addr) (i j : Nat) : (a.add i).add j = a.add (i + j):=by
 unfold Addr.add
 by_cases hi : i = 0 <;> by_cases hj : j = 0 <;> simp [hi,hj,Nat.add_assoc]
def Reads (w : World) (B size : Nat) (A : Option Addr) (n : Nat) (xs : List Value) : Prop :=
 xs.length = n * size ∧ (0 < n → ∃ b o,A = some ⟨b,o,none⟩ ∧ b < B ∧ ∀ j u,xs[j]? = some u → w.cell? ⟨b,o + j,none⟩ = some u)
section
variable {w w' : World} {B B' size n : Nat} {A : Option Addr} {xs : List Value}
theorem Reads.none_ : Reads w B size A 0 []:=⟨by simp,fun h => absurd h (by omega)⟩
theorem Reads.at_ {k : Nat} (h : Reads w B 1 A n xs) (hk : k < n) : ∃ b o u,A = some ⟨b,o,none⟩ ∧ b < B ∧ xs[k]? = some u ∧ w.cell? ⟨b,o + k,none⟩ = some u:=by
 obtain ⟨b,o,e,hb,hc⟩:=h.2 (by omega)
 have hl : k < xs.length:=by have:=h.1; omega
 exact ⟨b,o,xs[k],e,hb,List.getElem?_eq_getElem hl,hc k _ (List.getElem?_eq_getElem hl)⟩
theorem Reads.keep (h : Reads w B size A n xs) (hk : ∀ p : Addr,p.block < B → w'.cell? p = w.cell? p) : Reads w' B size A n xs :=
 ⟨h.1,fun hn => by
  obtain ⟨b,o,e,hb,hc⟩:=h.2 hn
  exact ⟨b,o,e,hb,fun j u hu => (hk _ hb).trans (hc j u hu)⟩⟩
theorem Reads.more (h : Reads w B size A n xs) (hB : B ≤ B') : Reads w B' size A n xs :=
 ⟨h.1,fun hn => by
  obtain ⟨b,o,e,hb,hc⟩:=h.2 hn
  exact ⟨b,o,e,by omega,hc⟩⟩
theorem Reads.below (h : Reads w B size A n xs) (hb : Below B w w') : Reads w' B size A n xs:=h.keep fun _ hp => hb.cell hp
theorem Reads.drew (h : Reads w B size A n xs) : Reads w.drew B size A n xs:=h
theorem Reads.drewN (h : Reads w B size A n xs) (k : Nat) : Reads (w.drewN k) B size A n xs:=h
theorem Reads.alloc (h : Reads w B size A n xs) (hB : B ≤ w.heap.size) (o : Obj) : Reads (w.alloc o) B size A n xs:=h.keep fun p hp => World.cell?_alloc_lt w o p (by omega)
theorem Reads.setCell (h : Reads w B size A n xs) {p : Addr} (hB : B ≤ p.block) (u : Value) : Reads (w.setCell p u) B size A n xs :=
 h.keep fun q hq => World.cell?_setCell_other w p q u (fun e => by subst e; omega)
theorem Reads.grown (h : Reads w B size A n xs) {row : Option Nat} (hg : w.grownBy w' row) (hB : B ≤ w.heap.size) (hr : ∀ g,row = some g → B ≤ g) : Reads w' B size A n xs :=
 h.keep fun p hp => World.cell?_of_block (hg.block p.block (by omega) (fun e => by have:=hr _ e.symm; omega))
theorem Reads.cut (h : Reads w B size A n xs) {k cap : Nat} (hk : k ≤ n) (hc : n ≤ cap) :
  Reads w B size (if cap = k then A else A.map (·.add (k * size))) (n - k) (xs.drop (k * size)):=by
 refine ⟨by rw [List.length_drop,h.1,Nat.sub_mul],fun hn => ?_⟩
 obtain ⟨b,o,rfl,hb,hcell⟩:=h.2 (by omega)
 rw [if_neg (by omega)]
 refine ⟨b,o + k * size,by simp [Addr.add_lit],hb,fun j u hu => ?_⟩
 rw [Nat.add_assoc]
 exact hcell _ u (by rw [← hu,List.getElem?_drop])
theorem Reads.upto (h : Reads w B size A n xs) {k : Nat} (hk : k ≤ n) : Reads w B size A k (xs.take (k * size)):=by
 refine ⟨by rw [List.length_take,h.1]; have:=Nat.mul_le_mul_right size hk; omega,fun hn => ?_⟩
 obtain ⟨b,o,rfl,hb,hcell⟩:=h.2 (by omega)
 refine ⟨b,o,rfl,hb,fun j u hu => ?_⟩
 rw [List.getElem?_take] at hu
 split at hu
 ·exact hcell j u hu
 ·cases hu
theorem Reads.of_own {base : Nat} {e : TypeId} {c : Nat} (h : w.ownsRow base e size (.slice A n c) n xs) : Reads w w.heap.size size A n xs:=by
 refine ⟨h.1,fun hn => ?_⟩
 obtain ⟨g,cap,hv,_,hlt⟩:=h.form hn
 have hA : A = some ⟨g,0,none⟩:=by injection hv
 subst hA
 exact ⟨_,_,rfl,hlt,fun j u hu => by have:=h.cells (g:=g) rfl j u hu; rwa [Addr.add_lit] at this⟩
end
def Blk (w : World) (g : Nat) (t : TypeId) (cs : Array Value) : Prop:=w.heap[g]? = some (.cells cs t (0,0))
section
variable {w w' : World} {g : Nat} {t : TypeId} {cs : Array Value}
theorem Blk.lt (h : Blk w g t cs) : g < w.heap.size:=by
 rcases Nat.lt_or_ge g w.heap.size with hlt | hge
 ·exact hlt
 ·unfold Blk at h; rw [Array.getElem?_eq_none hge] at h; cases h
theorem Blk.cell (h : Blk w g t cs) (i : Nat) : w.cell? ⟨g,i,none⟩ = cs[i]?:=cell_of_row w g i cs t (0,0) h
theorem Blk.frozen (h : Blk w g t cs) (i : Nat) : w.frozen? ⟨g,i,none⟩ = false:=by
 unfold Blk at h
 simp [World.frozen?,h]
theorem Blk.new (w : World) (t : TypeId) (cs : Array Value) : Blk (w.alloc (.cells cs t)) w.heap.size t cs:=heap_alloc_new w _
theorem Blk.drew (h : Blk w g t cs) : Blk w.drew g t cs:=h
theorem Blk.drewN (h : Blk w g t cs) (n : Nat) : Blk (w.drewN n) g t cs:=h
theorem Blk.alloc (h : Blk w g t cs) (o : Obj) : Blk (w.alloc o) g t cs:=(Below.heap_alloc w o g h.lt).trans h
theorem Blk.set_ (h : Blk w g t cs) (i : Nat) (u : Value) : Blk (w.setCell ⟨g,i,none⟩ u) g t (cs.setIfInBounds i u):=by
 unfold Blk at h ⊢
 simp [World.setCell,Array.getElem?_modify,h]
theorem Blk.far (h : Blk w g t cs) {p : Addr} (hp : g ≠ p.block) (u : Value) : Blk (w.setCell p u) g t cs:=(Below.heap_setCell w p u g hp).trans h
theorem Blk.below {B : Nat} (h : Blk w g t cs) (hb : Below B w w') (hg : g < B) : Blk w' g t cs:=(hb.block g hg).trans h
theorem Blk.grown {row : Option Nat} (h : Blk w g t cs) (hb : w.grownBy w' row) (hg : some g ≠ row) : Blk w' g t cs:=(hb.block g h.lt hg).trans h
theorem Blk.ne_ {g' : Nat} {t' : TypeId} {cs' : Array Value} (h : Blk w g t cs) (h' : Blk w g' t' cs') (hne : t ≠ t') : g ≠ g':=by
 rintro rfl
 unfold Blk at h h'
 rw [h] at h'
 injection h' with h'
 injection h' with _ ht
 exact hne ht
theorem own_blk_ne {base : Nat} {e : TypeId} {size n : Nat} {v : Value} {xs : List Value} (h : w.ownsRow base e size v n xs) (hg : Blk w g t cs) (hne : e ≠ t) : v.ownBlock ≠ some g:=by
 rcases h.2 with ⟨rfl,_⟩ | ⟨g',cap,cur,rfl,_,hh,_⟩
 ·simp [Value.ownBlock]
 ·intro he
  have : g' = g:=by simpa [Value.ownBlock] using he
  subst this
  exact Blk.ne_ (t:=e) hh hg hne rfl
end
section
variable {P : Program} (w : World)
theorem run_append_of_nil (base : Nat) (t ty e : TypeId) (i : TypeInfo) (size : Nat) (ht : P.underlying t = some (.slice e)) (hi : P.info? e = some i)
  (v : Value) (n : Nat) (xs : List Value) (hown : w.ownsRow base e size v n xs) (c : Nat) : (Builtin.append_ #[t,t] ty #[v,.slice none 0 c]).run P w = .ok v w:=by
 rcases hown.2 with ⟨rfl,rfl⟩ | ⟨g,cap,cur,rfl,_,_,hnc,_⟩
 ·simp [Builtin.append_,run_underlying ht,sizeOf,typeInfo,hi,Builtin.lenOf,Builtin.firstCells]
 ·simp [Builtin.append_,run_underlying ht,sizeOf,typeInfo,hi,Builtin.lenOf,Builtin.firstCells,hnc,storeCells]
theorem run_append_any (base : Nat) (t ty e : TypeId) (i : TypeInfo) (z : Value) (size bytes : Nat) (ht : P.underlying t = some (.slice e)) (hi : P.info? e = some i) (hz : i.zero = some z)
  (hsize : i.size = size) (hby : i.bytes = bytes) (hzs : z.cells.size = size) (hsz : 0 < size)
  (v : Value) (n : Nat) (xs : List Value) (hown : w.ownsRow base e size v n xs)
  (B : Nat) (A : Option Addr) (m c : Nat) (news : List Value) (hr : Reads w B size A m news) (h1 : ∀ u ∈ news,u.oneCell' = true)
  (h63 : n + m ≤ maxLen) (hbytes : (n + m) * bytes ≤ 140737488355328) (hbase : base ≤ w.heap.size) :
  ∃ v' w',(Builtin.append_ #[t,t] ty #[v,.slice A m c]).run P w = .ok v' w' ∧ w'.ownsRow base e size v' (n + m) (xs ++ news) ∧ w.grownBy w' v.ownBlock ∧
   (v'.ownBlock = v.ownBlock ∨ v'.ownBlock = some w.heap.size):=by
 rcases A with _ | ad
 ·have hm : m = 0:=by
   rcases Nat.eq_zero_or_pos m with h0 | h0
   ·exact h0
   ·obtain ⟨_,_,h,_⟩:=hr.2 h0
    cases h
  subst hm
  have hn : news = []:=List.eq_nil_of_length_eq_zero (by simpa using hr.1)
  subst hn
  exact ⟨v,w,run_append_of_nil w base t ty e i size ht hi v n xs hown c,by simpa using hown,World.grownBy.refl w _,.inl rfl⟩
 ·have hcells : ∀ j u,news[j]? = some u → w.cell? (ad.add j) = some u:=by
   intro j u hu
   rcases Nat.eq_zero_or_pos m with h0 | h0
   ·subst h0
    have hn : news = []:=List.eq_nil_of_length_eq_zero (by simpa using hr.1)
    subst hn
    simp at hu
   ·obtain ⟨b,o,h,_,hc⟩:=hr.2 h0
    injection h with h
    subst h
    rw [Addr.add_lit]
    exact hc j u hu
  obtain ⟨v',w',hrun,h2,h3,_,h5⟩:=run_append_own_at (P:=P) w base t ty e i z size bytes ht hi hz hsize hby hzs hsz v n xs hown ad m c news hr.1 hcells h1 h63 hbytes hbase
  exact ⟨v',w',hrun,h2,h3,h5⟩
theorem wp_append_any {o : Oper} {a : Act} {K : Act → World → Prop} {Q : Exit → Act → World → Prop} (s x : Operand) (t : TypeId)
  (ho : o.op = .call { callee:=.builtin .append,args:=#[s,x],argTypes:=#[t,t] })
  (base : Nat) (e : TypeId) (i : TypeInfo) (z : Value) (size bytes : Nat) (ht : P.underlying t = some (.slice e)) (hi : P.info? e = some i) (hz : i.zero = some z)
  (hsize : i.size = size) (hby : i.bytes = bytes) (hzs : z.cells.size = size) (hsz : 0 < size)
  (v : Value) (n : Nat) (xs : List Value) (hs : a.eval s = v) (hown : w.ownsRow base e size v n xs)
  (B : Nat) (A : Option Addr) (m c : Nat) (news : List Value) (hx : a.eval x = .slice A m c) (hr : Reads w B size A m news) (h1 : ∀ u ∈ news,u.oneCell' = true)
  (h63 : n + m ≤ maxLen) (hbytes : (n + m) * bytes ≤ 140737488355328) (hbase : base ≤ w.heap.size)
  (h : ∀ v' w',w'.ownsRow base e size v' (n + m) (xs ++ news) → w.grownBy w' v.ownBlock → (v'.ownBlock = v.ownBlock ∨ v'.ownBlock = some w.heap.size) → K (a.put o.dst v') w') : o.wp P a w K Q:=by
 obtain ⟨v',w',hrun,h2,h3,h4⟩:=run_append_any (P:=P) w base t o.type e i z size bytes ht hi hz hsize hby hzs hsz v n xs hown B A m c news hr h1 h63 hbytes hbase
 unfold Oper.wp execOp
 simp only [ho,resolve,invoke,builtin,Sem.run_bind,Sem.run_pure,Result.andThen_ok,List.map_toArray,List.map_cons,List.map_nil,hs,hx,hrun]
 exact h v' w' h2 h3 h4
theorem wpList_append_any {ops : Array Oper} {rest : List Oper} {o : Oper} {a : Act} {Q : Exit → Act → World → Prop} (hgd : o.guard = none) (s x : Operand) (t : TypeId)
  (ho : o.op = .call { callee:=.builtin .append,args:=#[s,x],argTypes:=#[t,t] })
  (base : Nat) (e : TypeId) (i : TypeInfo) (z : Value) (size bytes : Nat) (ht : P.underlying t = some (.slice e)) (hi : P.info? e = some i) (hz : i.zero = some z)
  (hsize : i.size = size) (hby : i.bytes = bytes) (hzs : z.cells.size = size) (hsz : 0 < size)
  (v : Value) (n : Nat) (xs : List Value) (hs : a.eval s = v) (hown : w.ownsRow base e size v n xs)
  (B : Nat) (A : Option Addr) (m c : Nat) (news : List Value) (hx : a.eval x = .slice A m c) (hr : Reads w B size A m news) (h1 : ∀ u ∈ news,u.oneCell' = true)
  (h63 : n + m ≤ maxLen) (hbytes : (n + m) * bytes ≤ 140737488355328) (hbase : base ≤ w.heap.size)
  (h : ∀ v' w',w'.ownsRow base e size v' (n + m) (xs ++ news) → w.grownBy w' v.ownBlock → (v'.ownBlock = v.ownBlock ∨ v'.ownBlock = some w.heap.size) → wpList P ops Q rest (a.put o.dst v') w') : wpList P ops Q (o :: rest) a w :=
 wpList_plain hgd fun _ hK => wp_append_any w s x t ho base e i z size bytes ht hi hz hsize hby hzs hsz v n xs hs hown B A m c news hx hr h1 h63 hbytes hbase fun v' w' h2 h3 h4 => hK _ _ (h v' w' h2 h3 h4)
end
theorem below_drewN {B : Nat} {a w : World} (h : Below B a w) (n : Nat) : Below B a (w.drewN n):=⟨h.os,h.tape,h.output,h.size,h.block⟩
theorem bl_alloc {a w : World} (h : Below a.heap.size a w) (o : Obj) : Below a.heap.size a (w.alloc o):=h.alloc h.size o
theorem bl_then {a b c : World} (h : Below a.heap.size a b) (k : Below b.heap.size b c) : Below a.heap.size a c:=h.trans (k.mono h.size)
end Go.Proofs.YtjidhhfabfnhnaaGreat
namespace Go.Proofs.YtjidhhfabfnhnaaGreat
open Go.RowKit
def Ext (w w' : World) : Prop:=Below w.heap.size w w'
theorem Ext.refl (w : World) : Ext w w:=Below.refl _ _
theorem q_ {α β : Type} {a : α} {b : β} {w : World} : a = a ∧ Ext w w ∧ b = b:=⟨rfl,.refl _,rfl⟩
theorem Ext.trans {a b c : World} (h : Ext a b) (k : Ext b c) : Ext a c:=bl_then h k
def depsOf (o : Oper) : List Nat:=(o.after.toList.filter (Region.binds .any ·)).map (·.on)
def dstAt (ops : Array Oper) (i : Nat) : Option Tmp:=(ops[i]?).bind (·.dst)
def tameOp (o : Oper) : Bool:=match o.op with | .select _ _ => false | .defer _ => false | _ => true
def depsAt (ops : Array Oper) (i : Nat) : List Nat:=match ops[i]? with | some o => depsOf o | none => []
def closeDown (ops : Array Oper) : Nat → List Nat → List Nat
 | 0,S => S
 | i + 1,S => if S.contains i then closeDown ops i ((depsAt ops i).filter (fun d => !S.contains d) ++ S) else closeDown ops i S
def anc (ops : Array Oper) (i d : Nat) : Bool:=(closeDown ops i (depsAt ops i)).contains d
def regChk (ops : Array Oper) (m : Nat) : Bool :=
 decide (m ≤ ops.size) &&
 (List.range m).all (fun i => match ops[i]? with
  | none => false
  | some o => (depsOf o).all (fun d => decide (d < i)) &&
   (match o.dst with | none => true | some d => (List.range m).all (fun j => j == i || dstAt ops j != some d)) &&
   (o.looksAt ops).all (fun t => (List.range m).all (fun j => dstAt ops j != some t || (depsOf o).contains j)) && tameOp o) &&
 (List.range (ops.size - m)).all (fun k => match ops[m + k]? with
  | none => false
  | some o => (depsOf o).any (fun d => decide (m ≤ d)) || (List.range m).all (fun j => (closeDown ops m (depsOf o)).contains j))
def Lf (ops : Array Oper) (a0 : Act) (vals : Nat → Value) : Nat → Act
 | 0 => a0
 | i + 1 => (Lf ops a0 vals i).put (dstAt ops i) (vals i)
def Qo (a0 : Act) (R : Value → World → Prop) (o : Oper) (w : World) (e : Exit) (a' : Act) (w' : World) : Prop :=
 match e with
 | .normal => a'.defers = a0.defers ∧ Ext w w' ∧ R (match o.dst with | some t => a'.tmps.getD t undef | none => undef) w'
 | _ => False
section
variable {P : Program} {ops : Array Oper} {Q : Exit → Act → World → Prop} {a0 : Act} {w0 : World} {R : Nat → (Nat → Value) → Value → World → Prop} {m : Nat}
def Obl (P : Program) (ops : Array Oper) (a0 : Act) (w0 : World) (R : Nat → (Nat → Value) → Value → World → Prop) (i : Nat) (o : Oper) : Prop :=
 ∀ (vals : Nat → Value) (w : World),Ext w0 w → (∀ d ∈ depsOf o,R d vals (vals d) w) → (∀ d,anc ops i d = true → R d vals (vals d) w) → wpList P ops (Qo a0 (R i vals) o w) [o] (Lf ops a0 vals i) w
structure Inv (ops : Array Oper) (a0 : Act) (w0 : World) (R : Nat → (Nat → Value) → Value → World → Prop) (m : Nat) (listed : Array Bool) (vals : Nat → Value) (a : Act) (w : World) : Prop where
 ext : Ext w0 w
 size : listed.size = ops.size
 tail : ∀ i,m ≤ i → listed.getD i false = false
 closed : ∀ i,i < m → listed.getD i false = true → ∀ d ∈ depsAt ops i,listed.getD d false = true
 facts : ∀ i,i < m → listed.getD i false = true → R i vals (vals i) w
 defers : a.defers = a0.defers
 tsize : a.tmps.size = a0.tmps.size
 outer : ∀ t,(∀ i,i < m → listed.getD i false = true → dstAt ops i ≠ some t) → a.tmps[t]? = a0.tmps[t]?
 inner : ∀ i t,i < m → listed.getD i false = true → dstAt ops i = some t → t < a0.tmps.size → a.tmps[t]? = some (vals i)
theorem Lf_size (vals : Nat → Value) (i : Nat) : (Lf ops a0 vals i).tmps.size = a0.tmps.size:=by
 induction i with
 | zero => rfl
 | succ i ih =>
  unfold Lf
  cases h : dstAt ops i <;> simp [Act.put,ih]
theorem Lf_defers (vals : Nat → Value) (i : Nat) : (Lf ops a0 vals i).defers = a0.defers:=by
 induction i with
 | zero => rfl
 | succ i ih =>
  unfold Lf
  cases h : dstAt ops i <;> simp [Act.put,ih]
theorem put_get (a : Act) (d : Option Tmp) (v : Value) (t : Nat) : (a.put d v).tmps[t]? = if d = some t then (if t < a.tmps.size then some v else none) else a.tmps[t]?:=by
 cases d with
 | none => simp [Act.put]
 | some d =>
  simp only [Act.put,Array.getElem?_setIfInBounds,Option.some.injEq]
  by_cases h : d = t
  ·subst h; simp
  ·simp [h]
theorem Lf_outer (vals : Nat → Value) (i t : Nat) (h : ∀ j,j < i → dstAt ops j ≠ some t) : (Lf ops a0 vals i).tmps[t]? = a0.tmps[t]?:=by
 induction i with
 | zero => rfl
 | succ i ih =>
  unfold Lf
  rw [put_get,if_neg (h i (by omega))]
  exact ih fun j hj => h j (by omega)
theorem Lf_inner (vals : Nat → Value) (i j t : Nat) (hj : j < i) (hd : dstAt ops j = some t) (hdist : ∀ k,j < k → k < i → dstAt ops k ≠ some t) (ht : t < a0.tmps.size) : (Lf ops a0 vals i).tmps[t]? = some (vals j):=by
 induction i with
 | zero => omega
 | succ i ih =>
  unfold Lf
  rw [put_get]
  by_cases h : j = i
  ·subst h
   rw [if_pos hd,if_pos (by rw [Lf_size]; exact ht)]
  ·rw [if_neg (hdist i (by omega) (by omega))]
   exact ih (by omega) fun k h1 h2 => hdist k h1 (by omega)
theorem chk_op (hc : regChk ops m = true) {i : Nat} (hi : i < m) : ∃ o,ops[i]? = some o ∧ (∀ d ∈ depsOf o,d < i) ∧ (∀ d,o.dst = some d → ∀ j,j < m → j ≠ i → dstAt ops j ≠ some d) ∧
  (∀ t ∈ o.looksAt ops,∀ j,j < m → dstAt ops j = some t → j ∈ depsOf o) ∧ tameOp o = true:=by
 unfold regChk at hc
 simp only [Bool.and_eq_true,List.all_eq_true,List.mem_range] at hc
 have h:=hc.1.2 i hi
 cases ho : ops[i]? with
 | none => simp [ho] at h
 | some o =>
  simp only [ho,Bool.and_eq_true,List.all_eq_true,decide_eq_true_iff] at h
  obtain ⟨⟨⟨h1,h2⟩,h3⟩,h4⟩:=h
  refine ⟨o,rfl,h1,?_,?_,h4⟩
  ·intro d hd j hj hne
   rw [hd] at h2
   simp only [List.all_eq_true,List.mem_range] at h2
   have:=h2 j hj
   simp [hne] at this
   exact this
  ·intro t ht j hj hd
   have:=h3 t ht j (List.mem_range.2 hj)
   simp [hd] at this
   exact this
theorem chk_tail (hc : regChk ops m = true) {i : Nat} (hi : m ≤ i) (hn : i < ops.size) : ∃ o,ops[i]? = some o ∧ ((∃ d ∈ depsOf o,m ≤ d) ∨ ∀ j,j < m → j ∈ closeDown ops m (depsOf o)):=by
 unfold regChk at hc
 simp only [Bool.and_eq_true,List.all_eq_true,List.mem_range] at hc
 have h:=hc.2 (i - m) (by omega)
 rw [show m + (i - m) = i by omega] at h
 cases ho : ops[i]? with
 | none => simp [ho] at h
 | some o =>
  simp only [ho,Bool.or_eq_true,List.any_eq_true,List.all_eq_true,List.mem_range,decide_eq_true_eq] at h
  rcases h with ⟨d,h1,h2⟩ | h
  ·exact ⟨o,rfl,.inl ⟨d,h1,h2⟩⟩
  ·exact ⟨o,rfl,.inr fun j hj => by simpa using h j hj⟩
theorem chk_size (hc : regChk ops m = true) : m ≤ ops.size:=by
 unfold regChk at hc
 simp only [Bool.and_eq_true,decide_eq_true_iff] at hc
 exact hc.1.1
theorem close_listed {listed : Array Bool} (hcl : ∀ i,i < m → listed.getD i false = true → ∀ d ∈ depsAt ops i,listed.getD d false = true) : ∀ (k : Nat) (S : List Nat),k ≤ m → (∀ d ∈ S,listed.getD d false = true) → ∀ d ∈ closeDown ops k S,listed.getD d false = true:=by
 intro k
 induction k with
 | zero => intro S _ h; exact h
 | succ k ih =>
  intro S hk h
  unfold closeDown
  split
  ·rename_i hc
   refine ih _ (by omega) fun d hd => ?_
   rcases List.mem_append.1 hd with hd | hd
   ·exact hcl k (by omega) (h k (by simpa using hc)) d (List.mem_filter.1 hd).1
   ·exact h d hd
  ·exact ih _ (by omega) h
theorem ready_spec {listed : Array Bool} {i : Nat} (h : i ∈ Region.ready .any ops listed) : i < ops.size ∧ listed.getD i true = false ∧ ∃ o,ops[i]? = some o ∧ ∀ d ∈ depsOf o,listed.getD d false = true:=by
 unfold Region.ready at h
 simp only [List.mem_filter,List.mem_range,Bool.and_eq_true,Bool.not_eq_true'] at h
 obtain ⟨h1,h2,h3⟩:=h
 refine ⟨h1,h2,ops[i],Array.getElem?_eq_getElem h1,?_⟩
 rw [Array.getElem?_eq_getElem h1] at h3
 simp only [Option.map_some,Option.getD_some,Array.all_eq_true'] at h3
 intro d hd
 unfold depsOf at hd
 simp only [List.mem_map,List.mem_filter] at hd
 obtain ⟨e,⟨he,hb⟩,rfl⟩:=hd
 have:=h3 e (by simpa using he)
 simpa [hb] using this
theorem ready_of {listed : Array Bool} {i : Nat} (h1 : i < ops.size) (h2 : listed.getD i true = false) {o : Oper} (ho : ops[i]? = some o) (h3 : ∀ d ∈ depsOf o,listed.getD d false = true) : i ∈ Region.ready .any ops listed:=by
 unfold Region.ready
 simp only [List.mem_filter,List.mem_range,Bool.and_eq_true,Bool.not_eq_true']
 refine ⟨h1,h2,?_⟩
 rw [ho]
 simp only [Option.map_some,Option.getD_some,Array.all_eq_true']
 intro e he
 cases hb : Region.binds .any e
 ·simp
 ·have:=h3 e.on (by unfold depsOf; simp only [List.mem_map,List.mem_filter]; exact ⟨e,⟨by simpa using he,hb⟩,rfl⟩)
  simp [this]
theorem agree (hc : regChk ops m = true) {listed : Array Bool} {vals : Nat → Value} {a : Act} {w : World} (hI : Inv ops a0 w0 R m listed vals a w) {i : Nat} (hi : i < m) {o : Oper} (ho : ops[i]? = some o)
  (hd : ∀ d ∈ depsOf o,listed.getD d false = true) : ∀ t ∈ o.looksAt ops,a.tmps[t]? = (Lf ops a0 vals i).tmps[t]?:=by
 intro t ht
 obtain ⟨o',ho',h1,h2,h3,_⟩:=chk_op hc hi
 rw [ho] at ho'
 injection ho' with ho'
 subst ho'
 by_cases hj : ∃ j,j < m ∧ dstAt ops j = some t
 ·obtain ⟨j,hjm,hjt⟩:=hj
  have hjd:=h3 t ht j hjm hjt
  have hji:=h1 j hjd
  obtain ⟨oj,hoj,_,h2j,_⟩:=chk_op hc hjm
  have hdj : oj.dst = some t:=by simpa [dstAt,hoj] using hjt
  rcases Nat.lt_or_ge t a0.tmps.size with hlt | hge
  ·rw [hI.inner j t hjm (hd j hjd) hjt hlt,Lf_inner vals i j t hji hjt (fun k hk1 hk2 => h2j t hdj k (by omega) (by omega)) hlt]
  ·rw [Array.getElem?_eq_none (by rw [hI.tsize]; exact hge),Array.getElem?_eq_none (by rw [Lf_size]; exact hge)]
 ·have hj' : ∀ j,j < m → dstAt ops j ≠ some t:=fun j hjm hjt => hj ⟨j,hjm,hjt⟩
  rw [hI.outer t (fun j hjm _ => hj' j hjm),Lf_outer vals i t (fun j hji => hj' j (by omega))]
theorem eval_agree {a b : Act} {o : Oper} (h : ∀ t ∈ o.looksAt ops,a.tmps[t]? = b.tmps[t]?) : ∀ x ∈ o.op.operands,a.eval x = b.eval x:=by
 intro x hx
 cases x with
 | tmp t =>
  have ht : t ∈ o.looksAt ops:=List.mem_append_left _ (List.mem_filterMap.2 ⟨.tmp t,by simpa using hx,rfl⟩)
  have:=h t ht
  simp only [Act.eval,Array.getD_eq_getD_getElem?,this]
 | _ => rfl
theorem wanted_agree {a b : Act} {o : Oper} (h : ∀ t ∈ o.looksAt ops,a.tmps[t]? = b.tmps[t]?) : Region.wanted o (yielded ops a.tmps) = Region.wanted o (yielded ops b.tmps):=by
 unfold Region.wanted
 cases hg : o.guard with
 | none => rfl
 | some gw =>
  obtain ⟨g,want⟩:=gw
  have hy : yielded ops a.tmps g = yielded ops b.tmps g:=by
   unfold yielded
   cases ht : (ops[g]?).bind (·.dst) with
   | none => rfl
   | some t =>
    have hm : t ∈ o.looksAt ops:=by simp [Oper.looksAt,hg,ht]
    simp only [Option.bind_some,h t hm]
  simp only [hy]
def slotOf (o : Oper) (a : Act) : Value:=match o.dst with | some t => a.tmps.getD t undef | none => undef
theorem Qo_notOut (a0 : Act) (R : Value → World → Prop) (o : Oper) (w : World) : ¬ LetsOut (Qo a0 R o w):=by
 rintro ⟨_,_,h⟩
 exact h
theorem run_obl {i : Nat} {o : Oper} {a b : Act} {w : World} {Ri : Value → World → Prop} (ht : tameOp o = true) (hb : b.defers = a0.defers) (hab : ∀ t ∈ o.looksAt ops,a.tmps[t]? = b.tmps[t]?) (ho : ops[i]? = some o)
  {K : Act → World → Prop} (h : wpList P ops (Qo a0 Ri o w) [o] b w) (hK : ∀ v w',Ext w w' → Ri (slotOf o (b.put o.dst v)) w' → K (a.put o.dst v) w') : wpOp P ops Q i K a w:=by
 have hs : ∀ cs b,o.op ≠ .select cs b:=fun cs b e => by simp [tameOp,e] at ht
 have he : execOp a.eval o = execOp b.eval o:=execOp_congr o hs (eval_agree hab)
 have hw:=wanted_agree hab
 unfold wpOp
 simp only [ho]
 rw [hw]
 unfold wpList at h
 cases hwb : Region.wanted o (yielded ops b.tmps)
 ·simp only [hwb,Bool.false_eq_true,if_false] at h ⊢
  unfold wpList at h
  exact hK _ _ h.2.1 h.2.2
 ·simp only [hwb,if_true] at h ⊢
  rcases h with h | h
  ·refine .inl ?_
   unfold Oper.wp at h ⊢
   rw [he]
   generalize (execOp b.eval o).run P w = r at h
   cases r with
   | ok n w' =>
    cases n <;> simp only [Oper.upon] at h ⊢
    case value v => unfold wpList at h; exact hK _ _ h.2.1 h.2.2
    case skip => unfold wpList at h; exact hK _ _ h.2.1 h.2.2
    case defer d =>
     unfold wpList at h
     have:=h.1
     cases hd : o.dst <;> simp [Act.put,hd,hb] at this
    case enter f args =>
     refine Calls.mono h fun e w'' hq => ?_
     cases e with
     | returned v => unfold wpList at hq; exact hK _ _ hq.2.1 hq.2.2
     | panicked ch => exact absurd hq (by simp [Qo])
     | outgrown => exact absurd hq (Qo_notOut _ _ _ _)
    case row row args =>
     exact Rows.mono h fun v w'' hq => by unfold wpList at hq; exact hK _ _ hq.2.1 hq.2.2
    all_goals exact h
   | halt x w' => cases x <;> simp only [Oper.upon] at h ⊢ <;> first | exact h.elim | exact absurd h (by simp [Qo])
  ·exact absurd h.2 (Qo_notOut _ _ _ _)
def unl (listed : Array Bool) (m : Nat) : Nat:=((List.range m).filter (fun i => !listed.getD i false)).length
theorem filter_less (l : List Nat) (hl : l.Nodup) (p q : Nat → Bool) (i : Nat) (hi : i ∈ l) (hp : p i = true) (hq : q i = false) (he : ∀ j,j ≠ i → q j = p j) : (l.filter q).length + 1 = (l.filter p).length:=by
 induction l with
 | nil => cases hi
 | cons x r ih =>
  have hx:=List.nodup_cons.1 hl
  by_cases hxi : x = i
  ·subst hxi
   have hr : r.filter q = r.filter p:=List.filter_congr fun j hj => he j (fun e => hx.1 (e ▸ hj))
   simp [hp,hq,hr]
  ·have hir : i ∈ r:=by
    rcases List.mem_cons.1 hi with h | h
    ·exact absurd h.symm hxi
    ·exact h
   have:=ih hx.2 hir
   cases hpx : p x <;> simp [he x hxi,hpx] <;> omega
theorem getD_set (listed : Array Bool) (i j : Nat) (hi : i < listed.size) : (listed.setIfInBounds i true).getD j false = if j = i then true else listed.getD j false:=by
 simp only [Array.getD_eq_getD_getElem?,Array.getElem?_setIfInBounds]
 by_cases h : i = j
 ·subst h; simp [hi]
 ·have : ¬ j = i:=fun e => h e.symm
  simp [h,this]
theorem unl_set (listed : Array Bool) (i : Nat) (hi : i < m) (hs : i < listed.size) (hu : listed.getD i false = false) : unl (listed.setIfInBounds i true) m + 1 = unl listed m:=by
 unfold unl
 refine filter_less _ List.nodup_range _ _ i (List.mem_range.2 hi) (by rw [hu]; rfl) (by rw [getD_set listed i i hs]; simp) fun j hj => ?_
 rw [getD_set listed i j hs,if_neg hj]
theorem unl_zero {listed : Array Bool} (h : unl listed m = 0) : ∀ i,i < m → listed.getD i false = true:=by
 intro i hi
 unfold unl at h
 have:=List.eq_nil_of_length_eq_zero h
 rw [List.filter_eq_nil_iff] at this
 simpa using this i (List.mem_range.2 hi)
theorem unl_pos {listed : Array Bool} (h : 0 < unl listed m) : ∃ i,i < m ∧ listed.getD i false = false ∧ ∀ j,j < i → listed.getD j false = true:=by
 have hex : ∃ i,i < m ∧ listed.getD i false = false:=by
  unfold unl at h
  obtain ⟨i,hi⟩:=List.exists_mem_of_length_pos h
  simp only [List.mem_filter,List.mem_range,Bool.not_eq_true'] at hi
  exact ⟨i,hi⟩
 obtain ⟨i,hi,hu⟩:=hex
 clear h
 induction i using Nat.strongRecOn with
 | ind i ih =>
  by_cases hex : ∃ j,j < i ∧ listed.getD j false = false
  ·obtain ⟨j,hj,hju⟩:=hex
   exact ih j hj (by omega) hju
  ·refine ⟨i,hi,hu,fun j hj => ?_⟩
   cases hv : listed.getD j false
   ·exact absurd ⟨j,hj,hv⟩ hex
   ·rfl
def litL (n m : Nat) : Array Bool:=(Array.range n).map (fun i => decide (i < m))
theorem wpAny_of_obl (hc : regChk ops m = true) (hst : ∀ i vals v w w',i < m → R i vals v w → Ext w w' → R i vals v w') (hloc : ∀ i vals vals' v w,i < m → (∀ d,anc ops i d = true → vals d = vals' d) → R i vals v w → R i vals' v w) (hob : ∀ i o,i < m → ops[i]? = some o → Obl P ops a0 w0 R i o)
  (hfin : ∀ (vals : Nat → Value) (w : World),Ext w0 w → (∀ i,i < m → R i vals (vals i) w) → wpAny P .any ops Q (ops.size - m) (litL ops.size m) (Lf ops a0 vals m) w) :
  ∀ (c : Nat) (listed : Array Bool) (vals : Nat → Value) (a : Act) (w : World),unl listed m = c → Inv ops a0 w0 R m listed vals a w → wpAny P .any ops Q (ops.size - m + c) listed a w:=by
 intro c
 induction c with
 | zero =>
  intro listed vals a w hu hI
  have hall:=unl_zero hu
  have hsz:=chk_size hc
  have hlit : listed = litL ops.size m:=by
   apply Array.ext
   ·simp [litL,hI.size]
   ·intro i h1 h2
    have hg : listed.getD i false = listed[i]:=by simp [Array.getD_eq_getD_getElem?,h1]
    rcases Nat.lt_or_ge i m with h | h
    ·have:=hall i h
     rw [hg] at this
     simp [litL,this,h]
    ·have:=hI.tail i h
     rw [hg] at this
     simp [litL,this,Nat.not_lt.2 h]
  have ha : a = Lf ops a0 vals m:=by
   have ht : a.tmps = (Lf ops a0 vals m).tmps:=by
    apply Array.ext_getElem?
    intro t
    by_cases hj : ∃ j,j < m ∧ dstAt ops j = some t
    ·obtain ⟨j,hjm,hjt⟩:=hj
     obtain ⟨oj,hoj,_,h2j,_⟩:=chk_op hc hjm
     have hdj : oj.dst = some t:=by simpa [dstAt,hoj] using hjt
     rcases Nat.lt_or_ge t a0.tmps.size with hlt | hge
     ·rw [hI.inner j t hjm (hall j hjm) hjt hlt,Lf_inner vals m j t hjm hjt (fun k hk1 hk2 => h2j t hdj k hk2 (by omega)) hlt]
     ·rw [Array.getElem?_eq_none (by rw [hI.tsize]; exact hge),Array.getElem?_eq_none (by rw [Lf_size]; exact hge)]
    ·have hj' : ∀ j,j < m → dstAt ops j ≠ some t:=fun j hjm hjt => hj ⟨j,hjm,hjt⟩
     rw [hI.outer t (fun j hjm _ => hj' j hjm),Lf_outer vals m t (fun j hji => hj' j hji)]
   have hd : a.defers = (Lf ops a0 vals m).defers:=by rw [Lf_defers,hI.defers]
   cases a
   cases hL : Lf ops a0 vals m
   simp_all
  rw [hlit,ha]
  exact hfin vals w hI.ext fun i hi => hI.facts i hi (hall i hi)
 | succ c ih =>
  intro listed vals a w hu hI
  have hsz:=chk_size hc
  have hgt : ∀ i,i < listed.size → listed.getD i true = listed.getD i false:=fun i hi => by simp [Array.getD_eq_getD_getElem?,hi]
  obtain ⟨i0,hi0,hun0,hall0⟩:=unl_pos (m:=m) (listed:=listed) (by omega)
  obtain ⟨o0,ho0,hd0,_⟩:=chk_op hc hi0
  have hr0 : i0 ∈ Region.ready .any ops listed:=ready_of (by omega) (by rw [hgt _ (by rw [hI.size]; omega)]; exact hun0) ho0 fun d hd => hall0 d (hd0 d hd)
  show wpAny P .any ops Q ((ops.size - m + c) + 1) listed a w
  unfold wpAny
  refine ⟨fun hnil => absurd hr0 (by rw [hnil]; simp),fun i hi => ?_⟩
  obtain ⟨hin,hiu,o,ho,hdl⟩:=ready_spec hi
  have him : i < m:=by
   rcases Nat.lt_or_ge i m with h | h
   ·exact h
   ·obtain ⟨o',ho',ht⟩:=chk_tail hc h hin
    rw [ho] at ho'
    injection ho' with ho'
    subst ho'
    rcases ht with ⟨d,h1,h2⟩ | ht
    ·have:=hdl d h1
     rw [hI.tail d h2] at this
     cases this
    have:=close_listed hI.closed m _ (Nat.le_refl _) hdl i0 (ht i0 hi0)
    rw [hun0] at this
    cases this
  obtain ⟨o',ho',hdi,hdist,hlook,htame⟩:=chk_op hc him
  rw [ho] at ho'
  injection ho' with ho'
  subst ho'
  have hiL : i < listed.size:=by rw [hI.size]; exact hin
  have hiu' : listed.getD i false = false:=by rw [← hgt i hiL]; exact hiu
  have hanc : ∀ d,anc ops i d = true → listed.getD d false = true:=fun d hd => by
   unfold anc at hd
   refine close_listed hI.closed i _ (by omega) (fun d hd => ?_) d (by simpa using hd)
   exact hdl d (by simpa [depsAt,ho] using hd)
  have hltm : ∀ d,listed.getD d false = true → d < m:=fun d hd => by
   rcases Nat.lt_or_ge d m with h | h
   ·exact h
   ·rw [hI.tail d h] at hd; cases hd
  refine run_obl htame (Lf_defers vals i) (agree hc hI him ho hdl) ho (hob i o him ho vals w hI.ext (fun d hd => hI.facts d (by have:=hdi d hd; omega) (hdl d hd)) (fun d hd => hI.facts d (hltm d (hanc d hd)) (hanc d hd))) ?_
  intro v w' hext hR
  refine ih _ (fun j => if j = i then slotOf o ((Lf ops a0 vals i).put o.dst v) else vals j) _ _ (by have:=unl_set listed i him hiL hiu'; omega) ?_
  have hdo : dstAt ops i = o.dst:=by simp [dstAt,ho]
  constructor
  ·exact hI.ext.trans hext
  ·simp [hI.size]
  ·intro j hj
   rw [getD_set listed i j hiL,if_neg (by omega)]
   exact hI.tail j hj
  ·intro j hj hl d hd
   rw [getD_set listed i d hiL]
   rw [getD_set listed i j hiL] at hl
   by_cases hji : j = i
   ·subst hji
    have : d ∈ depsOf o:=by simpa [depsAt,ho] using hd
    rw [hdl d this]
    simp
   ·rw [if_neg hji] at hl
    rw [hI.closed j hj hl d hd]
    simp
  ·intro j hj hl
   rw [getD_set listed i j hiL] at hl
   by_cases hji : j = i
   ·subst hji
    simp only [if_true]
    refine hloc j vals _ _ w' hj (fun d hd => ?_) hR
    have hdj : d ≠ j:=fun e => by
     have:=hanc d hd
     rw [e,hiu'] at this
     cases this
    simp [hdj]
   ·rw [if_neg hji] at hl
    simp only [hji,if_false]
    refine hloc j vals _ _ w' hj (fun d hd => ?_) (hst j vals _ w w' hj (hI.facts j hj hl) hext)
    have hdl' : listed.getD d false = true:=by
     unfold anc at hd
     exact close_listed hI.closed j _ (by omega) (fun d hd => hI.closed j hj hl d hd) d (by simpa using hd)
    have hdi' : d ≠ i:=fun e => by
     rw [e,hiu'] at hdl'
     cases hdl'
    simp [hdi']
  ·cases hd : o.dst <;> simp [Act.put,hI.defers]
  ·cases hd : o.dst <;> simp [Act.put,hI.tsize]
  ·intro t ht
   rw [put_get,if_neg (by rw [← hdo]; exact ht i him (by rw [getD_set listed i i hiL,if_pos rfl]))]
   refine hI.outer t fun j hj hl => ht j hj ?_
   rw [getD_set listed i j hiL]
   split
   ·rfl
   ·exact hl
  ·intro j t hj hl hdj htl
   rw [put_get]
   by_cases hji : j = i
   ·subst hji
    rw [hdo] at hdj
    rw [if_pos hdj,if_pos (by rw [hI.tsize]; exact htl)]
    have h2:=put_get (Lf ops a0 vals j) o.dst v t
    rw [if_pos hdj,if_pos (by rw [Lf_size]; exact htl)] at h2
    simp only [if_true,slotOf,hdj,Array.getD_eq_getD_getElem?]
    rw [hdj] at h2
    rw [h2]
    rfl
   ·rw [getD_set listed i j hiL,if_neg hji] at hl
    rw [if_neg (fun e => hdist t e j hj hji hdj)]
    simp only [hji,if_false]
    exact hI.inner j t hj hl hdj htl
def Obls (P : Program) (ops : Array Oper) (a0 : Act) (w0 : World) (R : Nat → (Nat → Value) → Value → World → Prop) : Nat → List Oper → Prop
 | _,[] => True
 | k,o :: rest => Obl P ops a0 w0 R k o ∧ Obls P ops a0 w0 R (k + 1) rest
theorem obls_at : ∀ (l : List Oper) (k : Nat),Obls P ops a0 w0 R k l → ∀ j o,l[j]? = some o → Obl P ops a0 w0 R (k + j) o
 | [],_,_,_,_,h => by simp at h
 | x :: l,k,⟨h1,h2⟩,j,o,hj => by
  cases j with
  | zero =>
   simp at hj
   subst hj
   exact h1
  | succ j =>
   have:=obls_at l (k + 1) h2 j o (by simpa using hj)
   rwa [show k + 1 + j = k + (j + 1) by omega] at this
theorem wp_region_obl {id : Nat} {a : Act} {w : World} (m : Nat) (R : Nat → (Nat → Value) → Value → World → Prop) (hm : P.follows .mixedOrders = true) (hc : regChk ops m = true) (hst : ∀ i vals v w w',i < m → R i vals v w → Ext w w' → R i vals v w') (hloc : ∀ i vals vals' v w,i < m → (∀ d,anc ops i d = true → vals d = vals' d) → R i vals v w → R i vals' v w)
  (hob : Obls P ops a w.drew R 0 (ops.toList.take m))
  (hfin : ∀ (vals : Nat → Value) (w' : World),Ext w.drew w' → (∀ i,i < m → R i vals (vals i) w') → wpAny P .any ops Q (ops.size - m) (litL ops.size m) (Lf ops a vals m) w') : (Code.region id ops true).wp P Q a w:=by
 refine wp_region_any hm ?_
 have hsz:=chk_size hc
 have hunl : unl (Array.replicate ops.size false) m = m:=by
  unfold unl
  rw [List.filter_eq_self.2 (fun i hi => by simp [Array.getD_eq_getD_getElem?,Array.getElem?_replicate]; split <;> rfl)]
  simp
 have h:=wpAny_of_obl (P:=P) (Q:=Q) (a0:=a) (w0:=w.drew) hc hst hloc (fun i o hi ho => by
  have:=obls_at (P:=P) (ops:=ops) (a0:=a) (w0:=w.drew) (R:=R) _ 0 hob i o (by rw [List.getElem?_take,if_pos hi]; simpa using ho)
  simpa using this) hfin m (Array.replicate ops.size false) (fun _ => undef) a w.drew hunl ?_
 ·rw [show ops.size - m + m = ops.size by omega] at h
  exact h
 ·have hf : ∀ i,(Array.replicate ops.size false).getD i false = false:=fun i => by simp [Array.getD_eq_getD_getElem?,Array.getElem?_replicate]; split <;> rfl
  constructor
  ·exact Ext.refl _
  ·simp
  ·intro i _; exact hf i
  ·intro i _ h; rw [hf] at h; cases h
  ·intro i _ h; rw [hf] at h; cases h
  ·rfl
  ·rfl
  ·intro t _; rfl
  ·intro i t _ h; rw [hf] at h; cases h
theorem tail0 {listed : Array Bool} {a : Act} {w : World} (hr : Region.ready .any ops listed = []) (h : Q .normal a w) : wpAny P .any ops Q 0 listed a w:=⟨hr,h⟩
theorem tail1 {listed : Array Bool} {a : Act} {w : World} (i : Nat) (o : Oper) (hr : Region.ready .any ops listed = [i]) (hr' : Region.ready .any ops (listed.setIfInBounds i true) = []) (ho : ops[i]? = some o)
  (h : wpList P ops Q [o] a w) : wpAny P .any ops Q 1 listed a w:=by
 refine ⟨fun e => (by rw [hr] at e; cases e),fun j hj => ?_⟩
 rw [hr] at hj
 obtain rfl : j = i:=by simpa using hj
 unfold wpOp
 simp only [ho]
 unfold wpList at h
 split
 ·rename_i hw
  rw [if_pos hw] at h
  rcases h with h | h
  ·exact .inl (Oper.wp_mono (fun a w q => ⟨hr',q⟩) h)
  ·exact .inr h
 ·rename_i hw
  rw [if_neg hw] at h
  exact ⟨hr',h⟩
theorem wpList_op {o : Oper} {rest : List Oper} {i : Nat} {a : Act} {w : World} {K : Act → World → Prop} (ho : ops[i]? = some o) (h : wpList P ops Q (o :: rest) a w) (hK : ∀ a w,wpList P ops Q rest a w → K a w) : wpOp P ops Q i K a w:=by
 unfold wpOp
 simp only [ho]
 unfold wpList at h
 split
 ·rename_i hw
  rw [if_pos hw] at h
  rcases h with h | h
  ·exact .inl (Oper.wp_mono hK h)
  ·exact .inr h
 ·rename_i hw
  rw [if_neg hw] at h
  exact hK _ _ h
theorem tailF {listed : Array Bool} {a : Act} {w : World} (i : Nat) (o : Oper) (rest : List Oper) (n : Nat) (hr : Region.ready .any ops listed = [i]) (ho : ops[i]? = some o)
  (h : wpList P ops Q (o :: rest) a w) (hk : ∀ a w,wpList P ops Q rest a w → wpAny P .any ops Q n (listed.setIfInBounds i true) a w) : wpAny P .any ops Q (n + 1) listed a w:=by
 refine ⟨fun e => (by rw [hr] at e; cases e),fun j hj => ?_⟩
 rw [hr] at hj
 obtain rfl : j = i:=by simpa using hj
 exact wpList_op ho h hk
end
theorem own_ext {w w' : World} {base : Nat} {e : TypeId} {size : Nat} {v : Value} {n : Nat} {xs : List Value} (h : w.ownsRow base e size v n xs) (hx : Ext w w') : w'.ownsRow base e size v n xs:=by
 refine ⟨h.1,?_⟩
 rcases h.2 with hn | ⟨g,cap,cur,rfl,hb,hgg,r⟩
 ·exact .inl hn
 ·exact .inr ⟨g,cap,cur,rfl,hb,(hx.block g (Array.getElem?_eq_some_iff.1 hgg).1).trans hgg,r⟩
theorem own_base {w : World} {base base' : Nat} {e : TypeId} {size : Nat} {v : Value} {n : Nat} {xs : List Value} (h : w.ownsRow base e size v n xs) (hb : base' ≤ base) : w.ownsRow base' e size v n xs:=by
 refine ⟨h.1,?_⟩
 rcases h.2 with hn | ⟨g,cap,cur,rfl,hg,r⟩
 ·exact .inl hn
 ·exact .inr ⟨g,cap,cur,rfl,by omega,r⟩
theorem own_slice {w : World} {base : Nat} {e : TypeId} {size : Nat} {v : Value} {n : Nat} {xs : List Value} (h : w.ownsRow base e size v n xs) : ∃ A c,v = .slice A n c ∧ n ≤ c ∧ c ≤ maxLen:=by
 rcases h.2 with ⟨rfl,rfl⟩ | ⟨g,cap,cur,rfl,_,_,h1,h2,_⟩
 ·exact ⟨none,0,rfl,Nat.le_refl _,Nat.zero_le _⟩
 ·exact ⟨_,_,rfl,h1,h2⟩
theorem own_set {w : World} {base : Nat} {e : TypeId} {size : Nat} {v : Value} {n : Nat} {xs : List Value} (h : w.ownsRow base e size v n xs) {p : Addr} (hne : v.ownBlock ≠ some p.block) (u : Value) : (w.setCell p u).ownsRow base e size v n xs:=by
 refine ⟨h.1,?_⟩
 rcases h.2 with hn | ⟨g,cap,cur,rfl,hg,hh,r⟩
 ·exact .inl hn
 ·refine .inr ⟨g,cap,cur,rfl,hg,?_,r⟩
  rw [Below.heap_setCell _ _ _ _ (fun e => hne (by simp [Value.ownBlock,e]))]
  exact hh
theorem ext_cell {W w1 : World} (hx : Ext W w1) {p : Addr} {v : Value} (h : W.cell? p = some v) : w1.cell? p = some v:=(Below.cell hx (World.block_lt_of_cell? W p h)).trans h
theorem Ext.undrew {w w1 : World} (h : Ext w.drew w1) : Ext w w1:=⟨h.os,h.tape,h.output,h.size,h.block⟩
theorem Blk.ext {w w' : World} {g : Nat} {t : TypeId} {cs : Array Value} (h : Blk w g t cs) (hx : Ext w w') : Blk w' g t cs:=h.below hx h.lt
theorem Reads.ext {w w' : World} {size n : Nat} {A : Option Addr} {xs : List Value} (h : Reads w w.heap.size size A n xs) (hx : Ext w w') : Reads w' w'.heap.size size A n xs:=(h.below hx).more hx.size
end Go.Proofs.YtjidhhfabfnhnaaGreat
namespace Go.Proofs.YtjidhhfabfnhnaaGreat
open Go.RowKit
section
variable {P : Program} {ops : Array Oper} {Q : Exit → Act → World → Prop} {a0 : Act} {w0 : World} {R : Nat → (Nat → Value) → Value → World → Prop} {own : Nat → Value → Option Nat} {m : Nat}
def Obl2 (P : Program) (ops : Array Oper) (a0 : Act) (w0 : World) (R : Nat → (Nat → Value) → Value → World → Prop) (own : Nat → Value → Option Nat) (i : Nat) (o : Oper) : Prop :=
 ∀ (vals : Nat → Value) (w : World),Ext w0 w → (∀ d ∈ depsOf o,R d vals (vals d) w) → (∀ d,anc ops i d = true → R d vals (vals d) w) → wpList P ops (Qo a0 (fun v w' => R i vals v w' ∧ ∀ k,own i v = some k → w.heap.size ≤ k) o w) [o] (Lf ops a0 vals i) w
def Apart (m : Nat) (own : Nat → Value → Option Nat) (vals : Nat → Value) : Prop:=∀ i j,i < m → j < m → i ≠ j → ∀ k,own i (vals i) = some k → own j (vals j) ≠ some k
def ApartL (m : Nat) (own : Nat → Value → Option Nat) (listed : Array Bool) (vals : Nat → Value) : Prop:=∀ i j,i < m → j < m → i ≠ j → listed.getD i false = true → listed.getD j false = true → ∀ k,own i (vals i) = some k → own j (vals j) ≠ some k
def Obls2 (P : Program) (ops : Array Oper) (a0 : Act) (w0 : World) (R : Nat → (Nat → Value) → Value → World → Prop) (own : Nat → Value → Option Nat) : Nat → List Oper → Prop
 | _,[] => True
 | k,o :: rest => Obl2 P ops a0 w0 R own k o ∧ Obls2 P ops a0 w0 R own (k + 1) rest
end
end Go.Proofs.YtjidhhfabfnhnaaGreat
namespace Go.Proofs.YtjidhhfabfnhnaaGreat
open Go.RowKit
def regM (ops : Array Oper) (m : Nat) : Bool :=
 decide (m ≤ ops.size) &&
 (List.range m).all (fun i => match ops[i]? with
  | none => false
  | some o => (depsOf o).all (fun d => decide (d < i)) &&
   (match o.dst with | none => true | some d => (List.range m).all (fun j => j == i || dstAt ops j != some d)) &&
   (o.looksAt ops).all (fun t => (List.range m).all (fun j => dstAt ops j != some t || (depsOf o).contains j)) && tameOp o)
def storeOp (o : Oper) : Bool:=match o.op with | .store .. => true | _ => false
def lateOp (o : Oper) : Bool:=(match o.op with | .extract (.tmp _) _ => true | _ => false) && o.guard.isNone
def regChk4 (ops : Array Oper) (m l : Nat) : Bool :=
 regM ops m && decide (l < m) && decide (m < ops.size) &&
 (match ops[l]? with | none => false | some o => lateOp o) &&
 (match ops[m]? with
  | none => false
  | some o => storeOp o && (o.looksAt ops).all (fun t => dstAt ops l != some t) && (o.dst.isNone || dstAt ops m != dstAt ops l) && (List.range m).all (fun j => j == l || (closeDown ops m (depsOf o)).contains j)) &&
 (match ops[l]? with | none => false | some o => (o.looksAt ops).all (fun t => dstAt ops m != some t)) &&
 (List.range (ops.size - m)).all (fun k => k == 0 || (match ops[m + k]? with
  | none => false
  | some o => (List.range m).all (fun j => (closeDown ops m (depsOf o)).contains j)))
def Qn (K : Act → World → Prop) (e : Exit) (a : Act) (w : World) : Prop:=match e with | .normal => K a w | _ => False
theorem Qn_of {K : Act → World → Prop} {a : Act} {w : World} (h : K a w) : Qn K .normal a w:=h
theorem Qn_notOut (K : Act → World → Prop) : ¬ LetsOut (Qn K):=by
 rintro ⟨_,_,h⟩
 exact h
section
variable {P : Program} {ops : Array Oper} {Q : Exit → Act → World → Prop} {a0 : Act} {w0 : World} {R : Nat → (Nat → Value) → Value → World → Prop} {own : Nat → Value → Option Nat} {m l : Nat}
theorem chk_op4 (hc : regM ops m = true) {i : Nat} (hi : i < m) : ∃ o,ops[i]? = some o ∧ (∀ d ∈ depsOf o,d < i) ∧ (∀ d,o.dst = some d → ∀ j,j < m → j ≠ i → dstAt ops j ≠ some d) ∧
  (∀ t ∈ o.looksAt ops,∀ j,j < m → dstAt ops j = some t → j ∈ depsOf o) ∧ tameOp o = true:=by
 unfold regM at hc
 simp only [Bool.and_eq_true,List.all_eq_true,List.mem_range] at hc
 have h:=hc.2 i hi
 cases ho : ops[i]? with
 | none => simp [ho] at h
 | some o =>
  simp only [ho,Bool.and_eq_true,List.all_eq_true,decide_eq_true_iff] at h
  obtain ⟨⟨⟨h1,h2⟩,h3⟩,h4⟩:=h
  refine ⟨o,rfl,h1,?_,?_,h4⟩
  ·intro d hd j hj hne
   rw [hd] at h2
   simp only [List.all_eq_true,List.mem_range] at h2
   have:=h2 j hj
   simp [hne] at this
   exact this
  ·intro t ht j hj hd
   have:=h3 t ht j (List.mem_range.2 hj)
   simp [hd] at this
   exact this
theorem agree4 (hc : regM ops m = true) {listed : Array Bool} {vals : Nat → Value} {a : Act} {w : World} (hI : Inv ops a0 w0 R m listed vals a w) {i : Nat} (hi : i < m) {o : Oper} (ho : ops[i]? = some o)
  (hd : ∀ d ∈ depsOf o,listed.getD d false = true) : ∀ t ∈ o.looksAt ops,a.tmps[t]? = (Lf ops a0 vals i).tmps[t]?:=by
 intro t ht
 obtain ⟨o',ho',h1,h2,h3,_⟩:=chk_op4 hc hi
 rw [ho] at ho'
 injection ho' with ho'
 subst ho'
 by_cases hj : ∃ j,j < m ∧ dstAt ops j = some t
 ·obtain ⟨j,hjm,hjt⟩:=hj
  have hjd:=h3 t ht j hjm hjt
  have hji:=h1 j hjd
  obtain ⟨oj,hoj,_,h2j,_⟩:=chk_op4 hc hjm
  have hdj : oj.dst = some t:=by simpa [dstAt,hoj] using hjt
  rcases Nat.lt_or_ge t a0.tmps.size with hlt | hge
  ·rw [hI.inner j t hjm (hd j hjd) hjt hlt,Lf_inner vals i j t hji hjt (fun k hk1 hk2 => h2j t hdj k (by omega) (by omega)) hlt]
  ·rw [Array.getElem?_eq_none (by rw [hI.tsize]; exact hge),Array.getElem?_eq_none (by rw [Lf_size]; exact hge)]
 ·have hj' : ∀ j,j < m → dstAt ops j ≠ some t:=fun j hjm hjt => hj ⟨j,hjm,hjt⟩
  rw [hI.outer t (fun j hjm _ => hj' j hjm),Lf_outer vals i t (fun j hji => hj' j (by omega))]
end
end Go.Proofs.YtjidhhfabfnhnaaGreat
namespace Go.Proofs.YtjidhhfabfnhnaaGreat
def inB (n lo hi : Int) : Bool:=decide (lo ≤ n ∧ n ≤ hi)
theorem inB_iff {n lo hi : Int} : inB n lo hi = true ↔ lo ≤ n ∧ n ≤ hi:=by simp [inB]
def cmpI (a b : Int) : Int:=if a < b then -1 else if b < a then 1 else 0
structure Orb where
 period : Int
 phase : Int
 low : Int
 high : Int
 node : Int
 turn : Int
 slack : Int
structure Cel where
 x : Int
 y : Int
structure Spl where
 fr : Int
 tt : Int
structure Stn where
 id : Int
 cell : Cel
 reach : Int
 antennas : Int
 skew : Int
structure St where
 id : Int
 owner : Int
 orbit : Orb
 wide : Int
 store : Int
 charge : Int
 sunny : Int
 idle : Int
 shoot : Int
 send : Int
 warm : Int
 cool : Int
 hot : Int
 slew : Int
 rate : Int
structure Pas where
 sat : Int
 station : Int
 sure : Spl
 can : Spl
instance : DecidableEq Spl:=fun a b => decidable_of_iff (a.fr = b.fr ∧ a.tt = b.tt) (by cases a; cases b; simp)
instance : DecidableEq Pas:=fun a b => decidable_of_iff (a.sat = b.sat ∧ a.station = b.station ∧ a.sure = b.sure ∧ a.can = b.can) (by cases a; cases b; simp)
def orbOK (o : Orb) : Bool:=inB o.period 20 2000 && (o.period % 2 == 0) && inB o.phase 0 (o.period - 1) && inB o.low 0 23999 && inB o.high 0 23999 && decide (o.low < o.high) && inB o.node 0 47999 && inB o.turn (-2000) 2000 && inB o.slack 0 10
def rowP (o : Orb) (t : Int) : Int:=o.low + (o.high - o.low) * 2 * min ((t + o.phase) % o.period) (o.period - (t + o.phase) % o.period) / o.period
def colP (o : Orb) (t : Int) : Int:=(o.node + o.turn * t) % 48000
def atP (o : Orb) (t late : Int) : Option Cel:=if (inB t 0 1000000 && inB late (-10) 10 && orbOK o) = true then some ⟨colP o (t - late) / 1000,rowP o (t - late) / 1000⟩ else none
def celOK (c : Cel) : Bool:=inB c.x 0 47 && inB c.y 0 23
def absI (n : Int) : Int:=max n (-n)
def nearP (a b : Cel) : Int:=if (celOK a && celOK b) = true then max (absI (a.y - b.y)) (min (absI (a.x - b.x)) (48 - absI (a.x - b.x))) else -1
def stnOK (s : Stn) : Bool:=celOK s.cell && inB s.id 0 11 && inB s.reach 0 6 && inB s.antennas 1 8 && inB s.skew 0 30
def satOK (s : St) : Bool:=orbOK s.orbit && inB s.id 0 23 && inB s.owner 0 15 && inB s.wide 0 4 && inB s.store 1 1000000 && inB s.slew 0 60 && inB s.rate 1 1000 && inB s.charge 1 1000000 && inB s.sunny 0 10000 && inB s.idle 0 10000 && inB s.shoot 0 10000 && inB s.send 0 10000 && inB s.warm 0 10000 && inB s.cool 0 10000 && inB s.hot 1 1000000
def listOK {α : Type} (ok : α → Bool) (id : α → Int) : Option α → List α → Bool
 | _,[] => true
 | p,x :: r => ok x && (match p with | none => true | some y => decide (id y < id x)) && listOK ok id (some x) r
def satsOK (l : List St) : Bool:=decide (l.length ≤ 24) && listOK satOK (·.id) none l
def stnsOK (l : List Stn) : Bool:=decide (l.length ≤ 12) && listOK stnOK (·.id) none l
def spanOK (s : Spl) : Bool:=decide (0 ≤ s.fr ∧ s.fr < s.tt ∧ s.tt ≤ 1000001 ∧ s.tt - s.fr ≤ 4320)
def viewP (o : Orb) (s : Stn) (t late : Int) : Option Bool:=match atP o t late with
 | none => none
 | some c => if stnOK s = true then some (decide (nearP c s.cell ≤ s.reach)) else none
def spellsP (is : Int → Bool) (t : Int) : Nat → List Spl
 | 0 => []
 | n + 1 => if is t then (match spellsP is (t + 1) n with
   | [] => [⟨t,t + 1⟩]
   | s :: r => if s.fr = t + 1 then ⟨t,s.tt⟩ :: r else ⟨t,t + 1⟩ :: s :: r)
  else spellsP is (t + 1) n
def contactsP (o : Orb) (s : Stn) (span : Spl) (late : Int) : Option (List Spl) :=
 if (orbOK o && stnOK s && spanOK span && inB late (-o.slack) o.slack) = true then some (spellsP (fun t => viewP o s t late == some true) span.fr (span.tt - span.fr).toNat) else none
def widerP (s : Spl) (by_ : Int) (span : Spl) : Spl :=
 let a:=max (s.fr - by_) span.fr
 let b:=min (s.tt + by_) span.tt
 if b ≤ a then ⟨0,0⟩ else ⟨a,b⟩
def splIn (a b : Spl) : Bool:=decide (b.fr ≤ a.fr ∧ a.fr < a.tt ∧ a.tt ≤ b.tt)
def pasOK (p : Pas) : Bool:=inB p.sat 0 23 && inB p.station 0 11 && decide (0 ≤ p.can.fr ∧ p.can.fr < p.can.tt ∧ p.can.tt ≤ 1000001) && (decide (p.sure = ⟨0,0⟩) || splIn p.sure p.can)
def orI (a b : Int) : Int:=if a ≠ 0 then a else b
def cmpPas (a b : Pas) : Int:=orI (cmpI a.can.fr b.can.fr) (orI (cmpI a.sat b.sat) (orI (cmpI a.station b.station) (orI (cmpI a.sure.fr b.sure.fr) (cmpI a.can.tt b.can.tt))))
def sendP (s : St) (p : Pas) : Int:=if (satOK s && pasOK p && decide (s.id = p.sat)) = true then (p.sure.tt - p.sure.fr) * s.rate else 0
end Go.Proofs.YtjidhhfabfnhnaaGreat
namespace Go.Proofs.YtjidhhfabfnhnaaGreat
open Go.RowKit
theorem spells_mem (is : Int → Bool) (n : Nat) : ∀ (t : Int) (s : Spl),s ∈ spellsP is t n → t ≤ s.fr:=by
 induction n with
 | zero => intro t s h; cases h
 | succ n ih =>
  intro t s h
  unfold spellsP at h
  split at h
  ·split at h
   ·rcases List.mem_cons.1 h with rfl | h
    ·exact Int.le_refl _
    ·cases h
   ·rename_i x r hx
    have hr : ∀ y ∈ r,t + 1 ≤ y.fr:=fun y hy => ih (t + 1) y (by rw [hx]; exact List.mem_cons_of_mem _ hy)
    have hx1:=ih (t + 1) x (by rw [hx]; exact List.mem_cons_self ..)
    split at h
    ·rcases List.mem_cons.1 h with rfl | h
     ·exact Int.le_refl _
     ·have:=hr _ h; omega
    ·rcases List.mem_cons.1 h with rfl | h
     ·exact Int.le_refl _
     ·rcases List.mem_cons.1 h with rfl | h
      ·omega
      ·have:=hr _ h; omega
  ·have:=ih (t + 1) s h; omega
theorem spells_skip {is : Int → Bool} {t : Int} (n : Nat) (h : is t = false) : spellsP is t (n + 1) = spellsP is (t + 1) n:=by
 rw [spellsP,h]; rfl
theorem spells_run (is : Int → Bool) (k : Nat) : ∀ (n : Nat) (t : Int),1 ≤ k → k ≤ n → (∀ i : Nat,i < k → is (t + i) = true) → (k = n ∨ is (t + k) = false) →
  spellsP is t n = ⟨t,t + k⟩ :: spellsP is (t + k) (n - k):=by
 induction k with
 | zero => intro n t h; omega
 | succ k ih =>
  intro n t _ hn hi hs
  obtain ⟨n,rfl⟩ : ∃ m,n = m + 1:=⟨n - 1,by omega⟩
  have h0:=hi 0 (by omega)
  rw [show t + ((0 : Nat) : Int) = t by omega] at h0
  rw [spellsP,h0,if_pos rfl]
  rcases Nat.eq_zero_or_pos k with rfl | hk
  ·have e1 : t + ((0 + 1 : Nat) : Int) = t + 1:=by omega
   rw [e1] at hs ⊢
   rw [show n + 1 - (0 + 1) = n by omega]
   have hne : ∀ y ∈ spellsP is (t + 1) n,y.fr ≠ t + 1:=by
    intro y hy
    rcases hs with hs | hs
    ·have : n = 0:=by omega
     subst this
     cases hy
    ·rcases n with _ | n
     ·cases hy
     ·rw [spells_skip n hs] at hy
      have:=spells_mem is n _ _ hy
      omega
   cases hL : spellsP is (t + 1) n with
   | nil => rfl
   | cons x r =>
    rw [hL] at hne
    dsimp only
    rw [if_neg (hne x (List.mem_cons_self ..))]
  ·have hrec:=ih n (t + 1) hk (by omega) (fun i hik => by have:=hi (i + 1) (by omega); rw [show t + 1 + (i : Int) = t + ((i + 1 : Nat) : Int) by omega]; exact this) (by
    rcases hs with hs | hs
    ·exact .inl (by omega)
    ·refine .inr ?_
     rw [show t + 1 + (k : Int) = t + ((k + 1 : Nat) : Int) by omega]; exact hs)
   rw [hrec,show t + 1 + (k : Int) = t + ((k + 1 : Nat) : Int) by omega,show n + 1 - (k + 1) = n - k by omega]
   simp
abbrev BSpl:={ s : Spl // -1000000 ≤ s.fr ∧ s.fr ≤ 10000000 ∧ -1000000 ≤ s.tt ∧ s.tt ≤ 10000000 }
structure KpS (ex : Nat → Prop) (B0 : Nat) (W W' : World) : Prop where
 size : W.heap.size ≤ W'.heap.size
 blk : ∀ k cs t,W.heap[k]? = some (.cells cs t (0,0)) → ¬ ex k → (k < B0 ∨ cs.size = 2) → W'.heap[k]? = W.heap[k]?
section
variable {ex : Nat → Prop} {B0 : Nat} {A B C : World}
theorem KpS.refl (W : World) : KpS ex B0 W W:=⟨Nat.le_refl _,fun _ _ _ _ _ _ => rfl⟩
theorem KpS.trans (h : KpS ex B0 A B) (k : KpS ex B0 B C) : KpS ex B0 A C :=
 ⟨Nat.le_trans h.size k.size,fun i cs t hi hx hz => by
  have h1:=h.blk i cs t hi hx hz
  have h2:=k.blk i cs t (h1.trans hi) hx hz
  exact h2.trans h1⟩
theorem KpS.ext (h : Ext A B) : KpS ex B0 A B:=⟨h.size,fun k _ _ hk _ _ => h.block k (Array.getElem?_eq_some_iff.1 hk).1⟩
theorem KpS.putObj (W : World) (l : Nat) (o o' : Obj) (h : W.heap[l]? = some o) (ho : o.isCells = false) : KpS ex B0 W (W.putObj l o') :=
 ⟨by simp,fun k cs t hk _ _ => World.putObj_heap_other (fun e => by subst e; rw [hk] at h; injection h with h; subst h; cases ho)⟩
theorem KpS.blk_ {g : Nat} {t : TypeId} {cs : Array Value} (h : KpS ex B0 A B) (hb : Blk A g t cs) (hx : ¬ ex g) (hz : g < B0 ∨ cs.size = 2) : Blk B g t cs:=(h.blk g cs t hb hx hz).trans hb
end
theorem ext_grown {A B : World} (h : Ext A B) : A.grownBy B none:=⟨h.os,h.tape,h.output,h.size,fun k hk _ => h.block k hk⟩
end Go.Proofs.YtjidhhfabfnhnaaGreat
