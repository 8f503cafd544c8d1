/- Lists of structs in memory: a slice whose elements are so many cells each. -/
import Derived.Test.YtmlabgmigakcbaaProg
import Derived.WalkKit
import Derived.WalkSpells
import Derived.WalkLawsBesides
import Derived.Lib.Hide
import Derived.Deep.RegionHeld3
import Derived.Deep.QuietTactic
import Derived.BigQuiet
import Derived.Deep.AppendLies
import Derived.Deep.Draws
import Derived.Deep.LoopGhost
import Derived.Deep.DeepFit
import Derived.Deep.DeepCutAuto
import Derived.Deep.OwnRows
import Derived.Maps.AppendAt
import Derived.Laws.CopyOwn
import Derived.KernelRfl
import Derived.BigRegion
namespace Go.Proofs.Ytmlabgmigakcbaa
def inB (n lo hi : Int) : Bool := decide (lo ≤ n ∧ n ≤ hi)
theorem inB_iff {n lo hi : Int} : inB n lo hi = true ↔ lo ≤ n ∧ n ≤ hi := by simp [inB]
def cmpI (a b : Int) : Int := if a < b then -1 else if b < a then 1 else 0
structure Orb where
 period : Int
 phase : Int
 low : Int
 high : Int
 node : Int
 turn : Int
 slack : Int
structure Cel where
 x : Int
 y : Int
structure Spl where
 fr : Int
 tt : Int
structure Stn where
 id : Int
 cell : Cel
 reach : Int
 antennas : Int
 skew : Int
structure St where
 id : Int
 owner : Int
 orbit : Orb
 wide : Int
 store : Int
 charge : Int
 sunny : Int
 idle : Int
 shoot : Int
 send : Int
 warm : Int
 cool : Int
 hot : Int
 slew : Int
 rate : Int
structure Pas where
 sat : Int
 station : Int
 sure : Spl
 can : Spl
instance : DecidableEq Spl := fun a b => decidable_of_iff (a.fr = b.fr ∧ a.tt = b.tt) (by cases a; cases b; simp)
instance : DecidableEq Pas := fun a b => decidable_of_iff (a.sat = b.sat ∧ a.station = b.station ∧ a.sure = b.sure ∧ a.can = b.can) (by cases a; cases b; simp)
def orbOK (o : Orb) : Bool := inB o.period 20 2000 && (o.period % 2 == 0) && inB o.phase 0 (o.period - 1) && inB o.low 0 23999 && inB o.high 0 23999 && decide (o.low < o.high) && inB o.node 0 47999 && inB o.turn (-2000) 2000 && inB o.slack 0 10
def rowP (o : Orb) (t : Int) : Int := o.low + (o.high - o.low) * 2 * min ((t + o.phase) % o.period) (o.period - (t + o.phase) % o.period) / o.period
def colP (o : Orb) (t : Int) : Int := (o.node + o.turn * t) % 48000
def atP (o : Orb) (t late : Int) : Option Cel := if (inB t 0 1000000 && inB late (-10) 10 && orbOK o) = true then some ⟨colP o (t - late) / 1000, rowP o (t - late) / 1000⟩ else none
def celOK (c : Cel) : Bool := inB c.x 0 47 && inB c.y 0 23
def absI (n : Int) : Int := max n (-n)
def nearP (a b : Cel) : Int := if (celOK a && celOK b) = true then max (absI (a.y - b.y)) (min (absI (a.x - b.x)) (48 - absI (a.x - b.x))) else -1
def stnOK (s : Stn) : Bool := celOK s.cell && inB s.id 0 11 && inB s.reach 0 6 && inB s.antennas 1 8 && inB s.skew 0 30
def satOK (s : St) : Bool := orbOK s.orbit && inB s.id 0 23 && inB s.owner 0 15 && inB s.wide 0 4 && inB s.store 1 1000000 && inB s.slew 0 60 && inB s.rate 1 1000 && inB s.charge 1 1000000 && inB s.sunny 0 10000 && inB s.idle 0 10000 && inB s.shoot 0 10000 && inB s.send 0 10000 && inB s.warm 0 10000 && inB s.cool 0 10000 && inB s.hot 1 1000000
def listOK {α : Type} (ok : α → Bool) (id : α → Int) : Option α → List α → Bool
 | _, [] => true
 | p, x :: r => ok x && (match p with | none => true | some y => decide (id y < id x)) && listOK ok id (some x) r
def satsOK (l : List St) : Bool := decide (l.length ≤ 24) && listOK satOK (·.id) none l
def stnsOK (l : List Stn) : Bool := decide (l.length ≤ 12) && listOK stnOK (·.id) none l
def spanOK (s : Spl) : Bool := decide (0 ≤ s.fr ∧ s.fr < s.tt ∧ s.tt ≤ 1000001 ∧ s.tt - s.fr ≤ 4320)
def viewP (o : Orb) (s : Stn) (t late : Int) : Option Bool := match atP o t late with
 | none => none
 | some c => if stnOK s = true then some (decide (nearP c s.cell ≤ s.reach)) else none
def spellsP (is : Int → Bool) (t : Int) : Nat → List Spl
 | 0 => []
 | n + 1 => if is t then (match spellsP is (t + 1) n with
   | [] => [⟨t, t + 1⟩]
   | s :: r => if s.fr = t + 1 then ⟨t, s.tt⟩ :: r else ⟨t, t + 1⟩ :: s :: r)
  else spellsP is (t + 1) n
def contactsP (o : Orb) (s : Stn) (span : Spl) (late : Int) : Option (List Spl) :=
 if (orbOK o && stnOK s && spanOK span && inB late (-o.slack) o.slack) = true then some (spellsP (fun t => viewP o s t late == some true) span.fr (span.tt - span.fr).toNat) else none
def widerP (s : Spl) (by_ : Int) (span : Spl) : Spl :=
 let a := max (s.fr - by_) span.fr
 let b := min (s.tt + by_) span.tt
 if b ≤ a then ⟨0, 0⟩ else ⟨a, b⟩
def splIn (a b : Spl) : Bool := decide (b.fr ≤ a.fr ∧ a.fr < a.tt ∧ a.tt ≤ b.tt)
def pasOK (p : Pas) : Bool := inB p.sat 0 23 && inB p.station 0 11 && decide (0 ≤ p.can.fr ∧ p.can.fr < p.can.tt ∧ p.can.tt ≤ 1000001) && (decide (p.sure = ⟨0, 0⟩) || splIn p.sure p.can)
def orI (a b : Int) : Int := if a ≠ 0 then a else b
def cmpPas (a b : Pas) : Int := orI (cmpI a.can.fr b.can.fr) (orI (cmpI a.sat b.sat) (orI (cmpI a.station b.station) (orI (cmpI a.sure.fr b.sure.fr) (cmpI a.can.tt b.can.tt))))
def sendP (s : St) (p : Pas) : Int := if (satOK s && pasOK p && decide (s.id = p.sat)) = true then (p.sure.tt - p.sure.fr) * s.rate else 0
end Go.Proofs.Ytmlabgmigakcbaa
namespace Go.Proofs.Ytmlabgmigakcbaa
structure Slt where
 p : Int
 fr : Int
 tt : Int
structure Rcp where
 sn : Int
 im : Int
 at_ : Int
structure Nte where
 im : Int
 slot : Int
 is_ : Bool
structure Dsc where
 kind : Int
 im : Int
 ix : Int
def skewF (l : List Stn) : Int → Option Int := l.foldl (fun f s => fun k => if k = s.id then some s.skew else f k) (fun _ => none)
def skewL (f : Int → Option Int) (l : List Stn) : Int → Option Int := l.foldl (fun f s => fun k => if k = s.id then some s.skew else f k) f
theorem skewL_cons (f : Int → Option Int) (s : Stn) (l : List Stn) : skewL f (s :: l) = skewL (fun k => if k = s.id then some s.skew else f k) l := rfl
def slotsOK (ps : List Pas) : Int → List Slt → Bool
 | _, [] => true
 | e, s :: r => inB s.p 0 ((ps.length : Int) - 1) && (match ps[s.p.toNat]? with | none => false | some p => decide (max e p.sure.fr ≤ s.fr) && decide (s.fr < s.tt) && decide (s.tt ≤ p.sure.tt)) && slotsOK ps s.tt r
def lossOK (ps : List Pas) (l : List Slt) : Bool := decide (1 ≤ l.length ∧ l.length ≤ 6) && slotsOK ps 0 l
theorem slotsOK_cons (ps : List Pas) (e : Int) (s : Slt) (r : List Slt) : slotsOK ps e (s :: r) = (inB s.p 0 ((ps.length : Int) - 1) && (match ps[s.p.toNat]? with | none => false | some p => decide (max e p.sure.fr ≤ s.fr) && decide (s.fr < s.tt) && decide (s.tt ≤ p.sure.tt)) && slotsOK ps s.tt r) := by rw [slotsOK]
end Go.Proofs.Ytmlabgmigakcbaa
namespace Go.Proofs.Ytmlabgmigakcbaa
open Go.RowKit
theorem block_of_add (a : Addr) (n : Nat) : (a.add n).block = a.block := by unfold Addr.add; split <;> rfl
theorem add_of_add (a : Addr) (i j : Nat) : (a.add i).add j = a.add (i + j) := by
 unfold Addr.add
 by_cases hi : i = 0 <;> by_cases hj : j = 0 <;> simp [hi, hj, Nat.add_assoc]
def Reads (w : World) (B size : Nat) (A : Option Addr) (n : Nat) (xs : List Value) : Prop :=
 xs.length = n * size ∧ (0 < n → ∃ b o, A = some ⟨b, o, none⟩ ∧ b < B ∧ ∀ j u, xs[j]? = some u → w.cell? ⟨b, o + j, none⟩ = some u)
section
variable {w w' : World} {B B' size n : Nat} {A : Option Addr} {xs : List Value}
theorem Reads.none_ : Reads w B size A 0 [] := ⟨by simp, fun h => absurd h (by omega)⟩
theorem Reads.at_ {k : Nat} (h : Reads w B 1 A n xs) (hk : k < n) : ∃ b o u, A = some ⟨b, o, none⟩ ∧ b < B ∧ xs[k]? = some u ∧ w.cell? ⟨b, o + k, none⟩ = some u := by
 obtain ⟨b, o, e, hb, hc⟩ := h.2 (by omega)
 have hl : k < xs.length := by have := h.1; omega
 exact ⟨b, o, xs[k], e, hb, List.getElem?_eq_getElem hl, hc k _ (List.getElem?_eq_getElem hl)⟩
theorem Reads.keep (h : Reads w B size A n xs) (hk : ∀ p : Addr, p.block < B → w'.cell? p = w.cell? p) : Reads w' B size A n xs :=
 ⟨h.1, fun hn => by
  obtain ⟨b, o, e, hb, hc⟩ := h.2 hn
  exact ⟨b, o, e, hb, fun j u hu => (hk _ hb).trans (hc j u hu)⟩⟩
theorem Reads.more (h : Reads w B size A n xs) (hB : B ≤ B') : Reads w B' size A n xs :=
 ⟨h.1, fun hn => by
  obtain ⟨b, o, e, hb, hc⟩ := h.2 hn
  exact ⟨b, o, e, by omega, hc⟩⟩
theorem Reads.below (h : Reads w B size A n xs) (hb : Below B w w') : Reads w' B size A n xs := h.keep fun _ hp => hb.cell hp
theorem Reads.drew (h : Reads w B size A n xs) : Reads w.drew B size A n xs := h
theorem Reads.drewN (h : Reads w B size A n xs) (k : Nat) : Reads (w.drewN k) B size A n xs := h
theorem Reads.alloc (h : Reads w B size A n xs) (hB : B ≤ w.heap.size) (o : Obj) : Reads (w.alloc o) B size A n xs := h.keep fun p hp => World.cell?_alloc_lt w o p (by omega)
theorem Reads.setCell (h : Reads w B size A n xs) {p : Addr} (hB : B ≤ p.block) (u : Value) : Reads (w.setCell p u) B size A n xs :=
 h.keep fun q hq => World.cell?_setCell_other w p q u (fun e => by subst e; omega)
theorem Reads.grown (h : Reads w B size A n xs) {row : Option Nat} (hg : w.grownBy w' row) (hB : B ≤ w.heap.size) (hr : ∀ g, row = some g → B ≤ g) : Reads w' B size A n xs :=
 h.keep fun p hp => World.cell?_of_block (hg.block p.block (by omega) (fun e => by have := hr _ e.symm; omega))
theorem Reads.cut (h : Reads w B size A n xs) {k cap : Nat} (hk : k ≤ n) (hc : n ≤ cap) :
  Reads w B size (if cap = k then A else A.map (·.add (k * size))) (n - k) (xs.drop (k * size)) := by
 refine ⟨by rw [List.length_drop, h.1, Nat.sub_mul], fun hn => ?_⟩
 obtain ⟨b, o, rfl, hb, hcell⟩ := h.2 (by omega)
 rw [if_neg (by omega)]
 refine ⟨b, o + k * size, by simp [Addr.add_lit], hb, fun j u hu => ?_⟩
 rw [Nat.add_assoc]
 exact hcell _ u (by rw [← hu, List.getElem?_drop])
theorem Reads.upto (h : Reads w B size A n xs) {k : Nat} (hk : k ≤ n) : Reads w B size A k (xs.take (k * size)) := by
 refine ⟨by rw [List.length_take, h.1]; have := Nat.mul_le_mul_right size hk; omega, fun hn => ?_⟩
 obtain ⟨b, o, rfl, hb, hcell⟩ := h.2 (by omega)
 refine ⟨b, o, rfl, hb, fun j u hu => ?_⟩
 rw [List.getElem?_take] at hu
 split at hu
 ·exact hcell j u hu
 ·cases hu
theorem Reads.of_own {base : Nat} {e : TypeId} {c : Nat} (h : w.ownsRow base e size (.slice A n c) n xs) : Reads w w.heap.size size A n xs := by
 refine ⟨h.1, fun hn => ?_⟩
 obtain ⟨g, cap, hv, _, hlt⟩ := h.form hn
 have hA : A = some ⟨g, 0, none⟩ := by injection hv
 subst hA
 exact ⟨_, _, rfl, hlt, fun j u hu => by have := h.cells (g := g) rfl j u hu; rwa [Addr.add_lit] at this⟩
end
def Blk (w : World) (g : Nat) (t : TypeId) (cs : Array Value) : Prop := w.heap[g]? = some (.cells cs t (0, 0))
section
variable {w w' : World} {g : Nat} {t : TypeId} {cs : Array Value}
theorem Blk.lt (h : Blk w g t cs) : g < w.heap.size := by
 rcases Nat.lt_or_ge g w.heap.size with hlt | hge
 ·exact hlt
 ·unfold Blk at h; rw [Array.getElem?_eq_none hge] at h; cases h
theorem Blk.cell (h : Blk w g t cs) (i : Nat) : w.cell? ⟨g, i, none⟩ = cs[i]? := cell_of_row w g i cs t (0, 0) h
theorem Blk.frozen (h : Blk w g t cs) (i : Nat) : w.frozen? ⟨g, i, none⟩ = false := by
 unfold Blk at h
 simp [World.frozen?, h]
theorem Blk.new (w : World) (t : TypeId) (cs : Array Value) : Blk (w.alloc (.cells cs t)) w.heap.size t cs := heap_alloc_new w _
theorem Blk.drew (h : Blk w g t cs) : Blk w.drew g t cs := h
theorem Blk.drewN (h : Blk w g t cs) (n : Nat) : Blk (w.drewN n) g t cs := h
theorem Blk.alloc (h : Blk w g t cs) (o : Obj) : Blk (w.alloc o) g t cs := (Below.heap_alloc w o g h.lt).trans h
theorem Blk.set_ (h : Blk w g t cs) (i : Nat) (u : Value) : Blk (w.setCell ⟨g, i, none⟩ u) g t (cs.setIfInBounds i u) := by
 unfold Blk at h ⊢
 simp [World.setCell, Array.getElem?_modify, h]
theorem Blk.far (h : Blk w g t cs) {p : Addr} (hp : g ≠ p.block) (u : Value) : Blk (w.setCell p u) g t cs := (Below.heap_setCell w p u g hp).trans h
theorem Blk.below {B : Nat} (h : Blk w g t cs) (hb : Below B w w') (hg : g < B) : Blk w' g t cs := (hb.block g hg).trans h
theorem Blk.grown {row : Option Nat} (h : Blk w g t cs) (hb : w.grownBy w' row) (hg : some g ≠ row) : Blk w' g t cs := (hb.block g h.lt hg).trans h
theorem Blk.ne_ {g' : Nat} {t' : TypeId} {cs' : Array Value} (h : Blk w g t cs) (h' : Blk w g' t' cs') (hne : t ≠ t') : g ≠ g' := by
 rintro rfl
 unfold Blk at h h'
 rw [h] at h'
 injection h' with h'
 injection h' with _ ht
 exact hne ht
theorem own_blk_ne {base : Nat} {e : TypeId} {size n : Nat} {v : Value} {xs : List Value} (h : w.ownsRow base e size v n xs) (hg : Blk w g t cs) (hne : e ≠ t) : v.ownBlock ≠ some g := by
 rcases h.2 with ⟨rfl, _⟩ | ⟨g', cap, cur, rfl, _, hh, _⟩
 ·simp [Value.ownBlock]
 ·intro he
  have : g' = g := by simpa [Value.ownBlock] using he
  subst this
  exact Blk.ne_ (t := e) hh hg hne rfl
end
section
variable {P : Program} (w : World)
theorem run_append_of_nil (base : Nat) (t ty e : TypeId) (i : TypeInfo) (size : Nat) (ht : P.underlying t = some (.slice e)) (hi : P.info? e = some i)
  (v : Value) (n : Nat) (xs : List Value) (hown : w.ownsRow base e size v n xs) (c : Nat) : (Builtin.append_ #[t, t] ty #[v, .slice none 0 c]).run P w = .ok v w := by
 rcases hown.2 with ⟨rfl, rfl⟩ | ⟨g, cap, cur, rfl, _, _, hnc, _⟩
 ·simp [Builtin.append_, run_underlying ht, sizeOf, typeInfo, hi, Builtin.lenOf, Builtin.firstCells]
 ·simp [Builtin.append_, run_underlying ht, sizeOf, typeInfo, hi, Builtin.lenOf, Builtin.firstCells, hnc, storeCells]
theorem run_append_any (base : Nat) (t ty e : TypeId) (i : TypeInfo) (z : Value) (size bytes : Nat) (ht : P.underlying t = some (.slice e)) (hi : P.info? e = some i) (hz : i.zero = some z)
  (hsize : i.size = size) (hby : i.bytes = bytes) (hzs : z.cells.size = size) (hsz : 0 < size)
  (v : Value) (n : Nat) (xs : List Value) (hown : w.ownsRow base e size v n xs)
  (B : Nat) (A : Option Addr) (m c : Nat) (news : List Value) (hr : Reads w B size A m news) (h1 : ∀ u ∈ news, u.oneCell' = true)
  (h63 : n + m ≤ maxLen) (hbytes : (n + m) * bytes ≤ 140737488355328) (hbase : base ≤ w.heap.size) :
  ∃ v' w', (Builtin.append_ #[t, t] ty #[v, .slice A m c]).run P w = .ok v' w' ∧ w'.ownsRow base e size v' (n + m) (xs ++ news) ∧ w.grownBy w' v.ownBlock ∧
   (v'.ownBlock = v.ownBlock ∨ v'.ownBlock = some w.heap.size) := by
 rcases A with _ | ad
 ·have hm : m = 0 := by
   rcases Nat.eq_zero_or_pos m with h0 | h0
   ·exact h0
   ·obtain ⟨_, _, h, _⟩ := hr.2 h0
    cases h
  subst hm
  have hn : news = [] := List.eq_nil_of_length_eq_zero (by simpa using hr.1)
  subst hn
  exact ⟨v, w, run_append_of_nil w base t ty e i size ht hi v n xs hown c, by simpa using hown, World.grownBy.refl w _, .inl rfl⟩
 ·have hcells : ∀ j u, news[j]? = some u → w.cell? (ad.add j) = some u := by
   intro j u hu
   rcases Nat.eq_zero_or_pos m with h0 | h0
   ·subst h0
    have hn : news = [] := List.eq_nil_of_length_eq_zero (by simpa using hr.1)
    subst hn
    simp at hu
   ·obtain ⟨b, o, h, _, hc⟩ := hr.2 h0
    injection h with h
    subst h
    rw [Addr.add_lit]
    exact hc j u hu
  obtain ⟨v', w', hrun, h2, h3, _, h5⟩ := run_append_own_at (P := P) w base t ty e i z size bytes ht hi hz hsize hby hzs hsz v n xs hown ad m c news hr.1 hcells h1 h63 hbytes hbase
  exact ⟨v', w', hrun, h2, h3, h5⟩
theorem wp_append_any {o : Oper} {a : Act} {K : Act → World → Prop} {Q : Exit → Act → World → Prop} (s x : Operand) (t : TypeId)
  (ho : o.op = .call { callee := .builtin .append, args := #[s, x], argTypes := #[t, t] })
  (base : Nat) (e : TypeId) (i : TypeInfo) (z : Value) (size bytes : Nat) (ht : P.underlying t = some (.slice e)) (hi : P.info? e = some i) (hz : i.zero = some z)
  (hsize : i.size = size) (hby : i.bytes = bytes) (hzs : z.cells.size = size) (hsz : 0 < size)
  (v : Value) (n : Nat) (xs : List Value) (hs : a.eval s = v) (hown : w.ownsRow base e size v n xs)
  (B : Nat) (A : Option Addr) (m c : Nat) (news : List Value) (hx : a.eval x = .slice A m c) (hr : Reads w B size A m news) (h1 : ∀ u ∈ news, u.oneCell' = true)
  (h63 : n + m ≤ maxLen) (hbytes : (n + m) * bytes ≤ 140737488355328) (hbase : base ≤ w.heap.size)
  (h : ∀ v' w', w'.ownsRow base e size v' (n + m) (xs ++ news) → w.grownBy w' v.ownBlock → (v'.ownBlock = v.ownBlock ∨ v'.ownBlock = some w.heap.size) → K (a.put o.dst v') w') : o.wp P a w K Q := by
 obtain ⟨v', w', hrun, h2, h3, h4⟩ := run_append_any (P := P) w base t o.type e i z size bytes ht hi hz hsize hby hzs hsz v n xs hown B A m c news hr h1 h63 hbytes hbase
 unfold Oper.wp execOp
 simp only [ho, resolve, invoke, builtin, Sem.run_bind, Sem.run_pure, Result.andThen_ok, List.map_toArray, List.map_cons, List.map_nil, hs, hx, hrun]
 exact h v' w' h2 h3 h4
theorem wpList_append_any {ops : Array Oper} {rest : List Oper} {o : Oper} {a : Act} {Q : Exit → Act → World → Prop} (hgd : o.guard = none) (s x : Operand) (t : TypeId)
  (ho : o.op = .call { callee := .builtin .append, args := #[s, x], argTypes := #[t, t] })
  (base : Nat) (e : TypeId) (i : TypeInfo) (z : Value) (size bytes : Nat) (ht : P.underlying t = some (.slice e)) (hi : P.info? e = some i) (hz : i.zero = some z)
  (hsize : i.size = size) (hby : i.bytes = bytes) (hzs : z.cells.size = size) (hsz : 0 < size)
  (v : Value) (n : Nat) (xs : List Value) (hs : a.eval s = v) (hown : w.ownsRow base e size v n xs)
  (B : Nat) (A : Option Addr) (m c : Nat) (news : List Value) (hx : a.eval x = .slice A m c) (hr : Reads w B size A m news) (h1 : ∀ u ∈ news, u.oneCell' = true)
  (h63 : n + m ≤ maxLen) (hbytes : (n + m) * bytes ≤ 140737488355328) (hbase : base ≤ w.heap.size)
  (h : ∀ v' w', w'.ownsRow base e size v' (n + m) (xs ++ news) → w.grownBy w' v.ownBlock → (v'.ownBlock = v.ownBlock ∨ v'.ownBlock = some w.heap.size) → wpList P ops Q rest (a.put o.dst v') w') : wpList P ops Q (o :: rest) a w :=
 wpList_plain hgd fun _ hK => wp_append_any w s x t ho base e i z size bytes ht hi hz hsize hby hzs hsz v n xs hs hown B A m c news hx hr h1 h63 hbytes hbase fun v' w' h2 h3 h4 => hK _ _ (h v' w' h2 h3 h4)
theorem step_append_any {ops : Array Oper} {o : Oper} {a : Act} {K : Act → World → Prop} {Q : Exit → Act → World → Prop} {E : Prop} (hgd : o.guard = none) (s x : Operand) (t : TypeId)
  (ho : o.op = .call { callee := .builtin .append, args := #[s, x], argTypes := #[t, t] })
  (base : Nat) (e : TypeId) (i : TypeInfo) (z : Value) (size bytes : Nat) (ht : P.underlying t = some (.slice e)) (hi : P.info? e = some i) (hz : i.zero = some z)
  (hsize : i.size = size) (hby : i.bytes = bytes) (hzs : z.cells.size = size) (hsz : 0 < size)
  (v : Value) (n : Nat) (xs : List Value) (hs : a.eval s = v) (hown : w.ownsRow base e size v n xs)
  (B : Nat) (A : Option Addr) (m c : Nat) (news : List Value) (hx : a.eval x = .slice A m c) (hr : Reads w B size A m news) (h1 : ∀ u ∈ news, u.oneCell' = true)
  (h63 : n + m ≤ maxLen) (hbytes : (n + m) * bytes ≤ 140737488355328) (hbase : base ≤ w.heap.size)
  (h : ∀ v' w', w'.ownsRow base e size v' (n + m) (xs ++ news) → w.grownBy w' v.ownBlock → (v'.ownBlock = v.ownBlock ∨ v'.ownBlock = some w.heap.size) → K (a.put o.dst v') w') :
  if Region.wanted o (yielded ops a.tmps) = true then Oper.wp P o a w K Q else E := by
 have hw : Region.wanted o (yielded ops a.tmps) = true := by simp [Region.wanted, hgd]
 rw [if_pos hw]
 exact wp_append_any w s x t ho base e i z size bytes ht hi hz hsize hby hzs hsz v n xs hs hown B A m c news hx hr h1 h63 hbytes hbase h
end
theorem quiet_add {P : Program} {f : FuncId} {args : Array Value} {w : World} {a n : Nat} {v : Value}
  (h : Calls P f args (w.drewN (a + n)) fun e w' => e = .returned v ∧ ∃ m, w' = (w.drewN (a + n)).drewN m) :
  Calls P f args (w.drewN (a + n)) fun e w'' => e = .returned v ∧ ∃ m, w'' = w.drewN (a + m) :=
 h.mono fun _ _ ⟨he, m, hm⟩ => ⟨he, n + m, by rw [hm, World.drewN_drewN, Nat.add_assoc]⟩
theorem quiet_add_same {P : Program} {f : FuncId} {args : Array Value} {w : World} {a n : Nat} {v : Value}
  (h : Calls P f args (w.drewN (a + n)) fun e w' => e = .returned v ∧ w' = w.drewN (a + n)) :
  Calls P f args (w.drewN (a + n)) fun e w'' => e = .returned v ∧ ∃ m, w'' = w.drewN (a + m) :=
 h.mono fun _ _ ⟨he, hm⟩ => ⟨he, n, hm⟩
theorem quiet_add_left {P : Program} {f : FuncId} {args : Array Value} {w : World} {a n : Nat} {v : Value}
  (h : Calls P f args (w.drewN (a + n)) fun e w' => e = .returned v ∧ w.drewN (a + n) = w') :
  Calls P f args (w.drewN (a + n)) fun e w'' => e = .returned v ∧ ∃ m, w'' = w.drewN (a + m) :=
 h.mono fun _ _ ⟨he, hm⟩ => ⟨he, n, hm.symm⟩
theorem quiet_left {P : Program} {f : FuncId} {args : Array Value} {w : World} {n : Nat} {v : Value}
  (h : Calls P f args (w.drewN n) fun e w' => e = .returned v ∧ w.drewN n = w') : Calls P f args (w.drewN n) fun e w'' => e = .returned v ∧ ∃ m, w'' = w.drewN m :=
 h.mono fun _ _ ⟨he, hm⟩ => ⟨he, n, hm.symm⟩
theorem below_drewN {B : Nat} {a w : World} (h : Below B a w) (n : Nat) : Below B a (w.drewN n) := ⟨h.os, h.tape, h.output, h.size, h.block⟩
theorem rowIs_drewN {w : World} {b : Nat} {t : TypeId} {n : Nat} {f : Nat → Value} (h : w.rowIs b t n f) (k : Nat) : (w.drewN k).rowIs b t n f := h
theorem grown_trans {a b c : World} (h : Grown a b) (k : Grown b c) : Grown a c :=
 ⟨World.keptBut_trans h.1 k.1, fun x => (k.2.1 x).trans (h.2.1 x), Nat.le_trans h.2.2 k.2.2⟩
theorem only_drewN {a w : World} {row : Option Nat} (h : a.grownBy w row) (n : Nat) : a.grownBy (w.drewN n) row := ⟨h.os, h.tape, h.output, h.size, h.block⟩
theorem only_drew {a w : World} {row : Option Nat} (h : a.grownBy w row) : a.grownBy w.drew row := ⟨h.os, h.tape, h.output, h.size, h.block⟩
theorem only_alloc {a w : World} {row : Option Nat} (h : a.grownBy w row) (o : Obj) : a.grownBy (w.alloc o) row :=
 ⟨h.os, h.tape, h.output, Nat.le_trans h.size (by simp), fun i hi hne => (Below.heap_alloc w o i (Nat.lt_of_lt_of_le hi h.size)).trans (h.block i hi hne)⟩
theorem only_setCell {a w : World} {g : Nat} (h : a.grownBy w (some g)) {p : Addr} (hp : p.block = g ∨ a.heap.size ≤ p.block) (u : Value) : a.grownBy (w.setCell p u) (some g) :=
 ⟨h.os, h.tape, h.output, by simpa [World.setCell] using h.size, fun i hi hne => (Below.heap_setCell w p u i (by
  rintro rfl
  rcases hp with hp | hp
  ·exact hne (by rw [hp])
  ·omega)).trans (h.block i hi hne)⟩
theorem only_of_below {a w : World} (h : Below a.heap.size a w) (row : Option Nat) : a.grownBy w row := ⟨h.os, h.tape, h.output, h.size, fun i hi _ => h.block i hi⟩
theorem run_make_rowN {P : Program} (t e : TypeId) (i : TypeInfo) (z : Value) (ht : P.underlying t = some (.slice e)) (hi : P.info? e = some i) (hz : i.zero = some z)
  (kl kc : IntKind) (n c : Nat) (hnc : n ≤ c) (hbytes : i.bytes * c ≤ 281474976710656) (h63 : c ≤ 9223372036854775807) (w : World) :
  (Instr.makeSlice t (.int kl (n : Int)) (.int kc (c : Int))).run P w = .ok (.slice (some ⟨w.heap.size, 0, none⟩) n c) (w.alloc (.cells (madeCells z.cells (c * i.size)) e)) := by
 have hb : (i.bytes : Int) * (c : Int) ≤ 281474976710656 := by
  have h : ((i.bytes * c : Nat) : Int) ≤ 281474976710656 := by omega
  rwa [Int.natCast_mul] at h
 have hr := run_make (P := P) w t e i z ht hi hz kl kc n c (by omega) (by omega) hb (by omega)
 simp only [Int.toNat_natCast] at hr
 exact hr
theorem run_makeMap_hint {P : Program} (t k e : TypeId) (kd : IntKind) (n : Int) (ht : P.underlying t = some (.map k e)) (w : World) :
  (Instr.makeMap t (some (.int kd n))).run P w = .ok (.map (some w.heap.size)) (w.alloc (.map #[] 0)) := by
 simp [Instr.makeMap, run_underlying ht]; rfl
theorem bl_alloc {a w : World} (h : Below a.heap.size a w) (o : Obj) : Below a.heap.size a (w.alloc o) := h.alloc h.size o
theorem bl_then {a b c : World} (h : Below a.heap.size a b) (k : Below b.heap.size b c) : Below a.heap.size a c := h.trans (k.mono h.size)
end Go.Proofs.Ytmlabgmigakcbaa
namespace Go.Proofs.Ytmlabgmigakcbaa
open Go.RowKit
theorem isIn_any (n lo hi : Int) (w : World) :
  Calls Try.prog 100 #[.int .i64 n, .int .i64 lo, .int .i64 hi] w fun e w' => e = .returned (.bool (inB n lo hi)) ∧ w = w' := by
 by_cases h1 : lo ≤ n
 ·have e : inB n lo hi = decide (n ≤ hi) := by simp [inB, h1]
  rw [e]
  go_enter Try.func100, Try.ntmps100
  go_wp2
  go_ret
  exact ⟨by first | rfl | simp [*], rfl⟩
 ·have e : inB n lo hi = false := by simp [inB, h1]
  rw [e]
  go_enter Try.func100, Try.ntmps100
  go_wp2
  go_ret
  exact ⟨rfl, rfl⟩
theorem gin_any (n lo hi : Int) (w : World) :
  Calls Try.prog 101 #[.int .i64 n, .int .i64 lo, .int .i64 hi] w fun e w' => e = .returned (.bool (inB n lo hi)) ∧ w = w' := by
 by_cases h1 : lo ≤ n
 ·have e : inB n lo hi = decide (n ≤ hi) := by simp [inB, h1]
  rw [e]
  go_enter Try.func101, Try.ntmps101
  go_wp2
  go_ret
  exact ⟨by first | rfl | simp [*], rfl⟩
 ·have e : inB n lo hi = false := by simp [inB, h1]
  rw [e]
  go_enter Try.func101, Try.ntmps101
  go_wp2
  go_ret
  exact ⟨rfl, rfl⟩
theorem validCell_any (x y : Int) (w : World) :
  Calls Try.prog 92 #[.agg #[.int .i64 x, .int .i64 y]] w fun e w' => e = .returned (.bool (celOK ⟨x, y⟩)) ∧ Below w.heap.size w w' := by
 have hb : celOK ⟨x, y⟩ = (inB x 0 47 && inB y 0 23) := rfl
 rw [hb]
 clear hb
 generalize e0 : inB x 0 47 = b0
 generalize e1 : inB y 0 23 = b1
 have E0 := Lib.hid e0
 have E1 := Lib.hid e1
 clear e0 e1
 go_enter Try.func92, Try.ntmps92
 go_wp2_with (go_at_call 101; refine (gin_any _ _ _ _).mono ?_; rintro e w' ⟨rfl, rfl⟩; first | rw [E0.out] | rw [E1.out])
 all_goals
  go_ret
  exact ⟨by simp [*], (by repeat (first | exact Below.refl _ _ | assumption | refine Below.drew ?_ | refine below_drewN ?_ _ | refine bl_alloc ?_ _ | refine Below.setCell ?_ (by first | (simp; done) | omega | (simp; omega)) _ | refine bl_then ?_ (by assumption)))⟩
theorem Blk.new_at {g : Nat} (w : World) (t : TypeId) (cs : Array Value) (h : w.heap.size = g) : Blk (w.alloc (.cells cs t)) g t cs := by subst h; exact Blk.new w t cs
structure Bnd where
 n : Int
 lo : Int
 hi : Int
def bndCells (b : Bnd) : List Value := [.int .i64 b.n, .int .i64 b.lo, .int .i64 b.hi]
def bndOut (b : Bnd) : Bool := !inB b.n b.lo b.hi
def idxB (p : Bnd → Bool) : List Bnd → Int → Int
 | [], _ => -1
 | x :: r, k => if p x then k else idxB p r (k + 1)
theorem idxB_any (p : Bnd → Bool) (l : List Bnd) (k : Int) (hk : 0 ≤ k) : (0 ≤ idxB p l k) = (l.any p = true) := by
 induction l generalizing k with
 | nil => simp [idxB]
 | cons x r ih =>
  unfold idxB
  cases hx : p x
  ·simp [hx, ih (k + 1) (by omega)]
  ·simp [hx, hk]
theorem idxB_drop (p : Bnd → Bool) (l : List Bnd) (k : Nat) (h : k < l.length) : idxB p (l.drop k) k = if p l[k] then (k : Int) else idxB p (l.drop (k + 1)) (k + 1 : Nat) := by
 rw [List.drop_eq_getElem_cons h, idxB]
 split <;> simp
def BndR (w : World) (b : Nat) (l : List Bnd) : Prop := ∀ k (h : k < l.length), w.cell? ⟨b, k * 3, none⟩ = some (.int .i64 l[k].n) ∧ w.cell? ⟨b, k * 3 + 1, none⟩ = some (.int .i64 l[k].lo) ∧ w.cell? ⟨b, k * 3 + 2, none⟩ = some (.int .i64 l[k].hi)
theorem BndR.below {w w' : World} {b B : Nat} {l : List Bnd} (h : BndR w b l) (hb : Below B w w') (hB : b < B) : BndR w' b l := fun k hk => by
 obtain ⟨h1, h2, h3⟩ := h k hk
 exact ⟨(hb.cell (p := ⟨b, k * 3, none⟩) hB).trans h1, (hb.cell (p := ⟨b, k * 3 + 1, none⟩) hB).trans h2, (hb.cell (p := ⟨b, k * 3 + 2, none⟩) hB).trans h3⟩
theorem areIn1_any (x lo hi : Int) (w : World) :
  Calls Try.prog 99 #[.agg #[.int .i64 x, .int .i64 lo, .int .i64 hi]] w fun e w' => e = .returned (.bool (!inB x lo hi)) ∧ Below w.heap.size w w' := by
 go_enter Try.func99, Try.ntmps99
 go_wp2_with (go_at_call 100; refine (isIn_any _ _ _ _).mono ?_; rintro e w' ⟨rfl, rfl⟩)
 go_ret
 exact ⟨by simp, (by repeat (first | exact Below.refl _ _ | assumption | refine Below.drew ?_ | refine below_drewN ?_ _ | refine bl_alloc ?_ _ | refine Below.setCell ?_ (by first | (simp; done) | omega | (simp; omega)) _ | refine bl_then ?_ (by assumption)))⟩
theorem indexBnd (l : List Bnd) (b n c : Nat) (w : World) (hl : l.length = n) (h : BndR w b l) (hb : b < w.heap.size) (hn : n ≤ 1099511627776) :
  Calls Try.prog 103 #[.slice (some ⟨b, 0, none⟩) n c, .func (.func 99) #[] #[]] w
   fun e w' => e = .returned (.int .i64 (idxB bndOut l 0)) ∧ Below w.heap.size w w' := by
 have HL := Lib.hid hl
 have HB := Lib.hid h
 clear hl h
 go_enter Try.func103, Try.ntmps103
 go_wp2
 go_loopw [8] (fun i wr => ∃ k : Nat, k ≤ n ∧ i = .int .i64 k ∧ Hid (idxB bndOut l 0 = idxB bndOut (l.drop k) k) ∧ Below w.heap.size w wr) (fun i _ => n - (intOf i).toNat)
 case atStart => exact ⟨0, Nat.zero_le _, rfl, rfl, Below.refl _ _⟩
 case round =>
  obtain ⟨k, hk, rfl, H, hB⟩ := hrel
  by_cases hlt : k < n
  ·have hz : k < l.length := by rw [HL.out]; exact hlt
   obtain ⟨f0, f1, f2⟩ := (HB.out.below hB hb) k hz
   have hst := idxB_drop bndOut l k hz
   rw [← H.out] at hst
   have he : bndOut l[k] = !inB l[k].n l[k].lo l[k].hi := rfl
   rw [he] at hst
   have HF := Lib.hid (areIn1_any l[k].n l[k].lo l[k].hi)
   clear he
   generalize inB l[k].n l[k].lo l[k].hi = q at hst HF
   generalize l[k].n = x at f0 HF
   generalize l[k].lo = lo at f1 HF
   generalize l[k].hi = hi at f2 HF
   have HS := Lib.hid hst
   clear hst hz
   go_wp2_with fail
   refine (HF.out _).mono ?_
   rintro e w2 ⟨rfl, hb2⟩
   have hB2 : Below w.heap.size w w2 := bl_then hB hb2
   cases q
   ·go_wp2
    go_ret
    exact ⟨by rw [HS.out]; simp, hB2⟩
   ·go_wp2
    go_roundw
    case rel => exact ⟨k + 1, by omega, by go_num, HS.out.trans (by simp), hB2⟩
    case measure => simp [intOf]; omega
  ·go_wp2
   go_ret
   exact ⟨by rw [H.out, List.drop_of_length_le (by rw [HL.out]; omega)]; rfl, hB⟩
theorem containsBnd (l : List Bnd) (b n c : Nat) (w : World) (hl : l.length = n) (h : BndR w b l) (hb : b < w.heap.size) (hn : n ≤ 1099511627776) :
  Calls Try.prog 98 #[.slice (some ⟨b, 0, none⟩) n c, .func (.func 99) #[] #[]] w
   fun e w' => e = .returned (.bool (l.any bndOut)) ∧ Below w.heap.size w w' := by
 have hf := indexBnd l b n c w hl h hb hn
 have hbb : l.any bndOut = decide (0 ≤ idxB bndOut l 0) := by
  rw [Bool.eq_iff_iff, ← idxB_any _ _ 0 (by omega), decide_eq_true_iff]
 rw [hbb]
 generalize idxB bndOut l 0 = r at hf
 have HF := Lib.hid hf
 clear hf hbb h hl
 go_enter Try.func98, Try.ntmps98
 go_wp2_with (go_at_call 103; refine HF.out.mono ?_; rintro e w' ⟨rfl, hb'⟩)
 go_ret
 exact ⟨rfl, (by repeat (first | exact Below.refl _ _ | assumption | refine Below.drew ?_ | refine below_drewN ?_ _ | refine bl_alloc ?_ _ | refine Below.setCell ?_ (by first | (simp; done) | omega | (simp; omega)) _ | refine bl_then ?_ (by assumption)))⟩
theorem areIn_any (l : List Bnd) (b n c : Nat) (w : World) (hl : l.length = n) (h : BndR w b l) (hb : b < w.heap.size) (hn : n ≤ 1099511627776) :
  Calls Try.prog 91 #[.slice (some ⟨b, 0, none⟩) n c] w
   fun e w' => e = .returned (.bool (l.all fun x => inB x.n x.lo x.hi)) ∧ Below w.heap.size w w' := by
 have hf := containsBnd l b n c w hl h hb hn
 have hbb : (l.all fun x => inB x.n x.lo x.hi) = !(l.any bndOut) := by
  rw [List.any_eq_not_all_not, Bool.not_not]
  simp [bndOut]
 rw [hbb]
 generalize l.any bndOut = r at hf
 have HF := Lib.hid hf
 clear hf hbb h hl
 go_enter Try.func91, Try.ntmps91
 go_wp2_with (go_at_call 98; refine HF.out.mono ?_; rintro e w' ⟨rfl, hb'⟩)
 go_ret
 exact ⟨by simp, (by repeat (first | exact Below.refl _ _ | assumption | refine Below.drew ?_ | refine below_drewN ?_ _ | refine bl_alloc ?_ _ | refine Below.setCell ?_ (by first | (simp; done) | omega | (simp; omega)) _ | refine bl_then ?_ (by assumption)))⟩
theorem BndR.of_blk4 {w : World} {b : Nat} {t : TypeId} {b0 b1 b2 b3 : Bnd} (h : Blk w b t (bndCells b0 ++ bndCells b1 ++ bndCells b2 ++ bndCells b3).toArray) : BndR w b [b0, b1, b2, b3] := fun k hk => by
 have hk : k < 4 := hk
 match k, hk with
 | 0, _ => exact ⟨h.cell 0, h.cell 1, h.cell 2⟩
 | 1, _ => exact ⟨h.cell 3, h.cell 4, h.cell 5⟩
 | 2, _ => exact ⟨h.cell 6, h.cell 7, h.cell 8⟩
 | 3, _ => exact ⟨h.cell 9, h.cell 10, h.cell 11⟩
theorem station_valid (id x y re an sk : Int) (w : World) :
  Calls Try.prog 76 #[.agg #[.int .i64 id, .int .i64 x, .int .i64 y, .int .i64 re, .int .i64 an, .int .i64 sk]] w fun e w' => e = .returned (.bool (stnOK ⟨id, ⟨x, y⟩, re, an, sk⟩)) ∧ Below w.heap.size w w' := by
 have hs : stnOK ⟨id, ⟨x, y⟩, re, an, sk⟩ = (([⟨id, 0, 11⟩, ⟨re, 0, 6⟩, ⟨an, 1, 8⟩, ⟨sk, 0, 30⟩] : List Bnd).all (fun b => inB b.n b.lo b.hi) && celOK ⟨x, y⟩) := by
  simp only [stnOK, List.all_cons, List.all_nil, Bool.and_true]
  generalize inB id 0 11 = a
  generalize inB re 0 6 = b
  generalize inB an 1 8 = c
  generalize inB sk 0 30 = d
  generalize celOK ⟨x, y⟩ = e
  revert a b c d e
  decide
 rw [hs]
 clear hs
 generalize ha : ([⟨id, 0, 11⟩, ⟨re, 0, 6⟩, ⟨an, 1, 8⟩, ⟨sk, 0, 30⟩] : List Bnd).all (fun b => inB b.n b.lo b.hi) = a
 have HA := Lib.hid ha
 clear ha
 have V := validCell_any x y
 generalize celOK ⟨x, y⟩ = q at V ⊢
 have HV := Lib.hid V
 clear V
 go_enter Try.func76, Try.ntmps76
 go_wp2_with fail
 have K : Blk ((w.alloc (.cells #[.int .i64 id, .int .i64 x, .int .i64 y, .int .i64 re, .int .i64 an, .int .i64 sk] 122)).alloc (.cells #[.int .i64 id, .int .i64 0, .int .i64 11, .int .i64 re, .int .i64 0, .int .i64 6, .int .i64 an, .int .i64 1, .int .i64 8, .int .i64 sk, .int .i64 0, .int .i64 30] 149)) w.heap.size 122 #[.int .i64 id, .int .i64 x, .int .i64 y, .int .i64 re, .int .i64 an, .int .i64 sk] := (Blk.new _ _ _).alloc _
 have K2 : Blk ((w.alloc (.cells #[.int .i64 id, .int .i64 x, .int .i64 y, .int .i64 re, .int .i64 an, .int .i64 sk] 122)).alloc (.cells #[.int .i64 id, .int .i64 0, .int .i64 11, .int .i64 re, .int .i64 0, .int .i64 6, .int .i64 an, .int .i64 1, .int .i64 8, .int .i64 sk, .int .i64 0, .int .i64 30] 149)) (w.heap.size + 1) 149 #[.int .i64 id, .int .i64 0, .int .i64 11, .int .i64 re, .int .i64 0, .int .i64 6, .int .i64 an, .int .i64 1, .int .i64 8, .int .i64 sk, .int .i64 0, .int .i64 30] := by
  have k := Blk.new (w.alloc (.cells #[.int .i64 id, .int .i64 x, .int .i64 y, .int .i64 re, .int .i64 an, .int .i64 sk] 122)) 149 #[.int .i64 id, .int .i64 0, .int .i64 11, .int .i64 re, .int .i64 0, .int .i64 6, .int .i64 an, .int .i64 1, .int .i64 8, .int .i64 sk, .int .i64 0, .int .i64 30]
  rw [World.size_alloc] at k
  exact k
 have hb : Below w.heap.size w ((w.alloc (.cells #[.int .i64 id, .int .i64 x, .int .i64 y, .int .i64 re, .int .i64 an, .int .i64 sk] 122)).alloc (.cells #[.int .i64 id, .int .i64 0, .int .i64 11, .int .i64 re, .int .i64 0, .int .i64 6, .int .i64 an, .int .i64 1, .int .i64 8, .int .i64 sk, .int .i64 0, .int .i64 30] 149)) := (by repeat (first | exact Below.refl _ _ | assumption | refine Below.drew ?_ | refine below_drewN ?_ _ | refine bl_alloc ?_ _ | refine Below.setCell ?_ (by first | (simp; done) | omega | (simp; omega)) _ | refine bl_then ?_ (by assumption)))
 generalize (w.alloc (.cells #[.int .i64 id, .int .i64 x, .int .i64 y, .int .i64 re, .int .i64 an, .int .i64 sk] 122)).alloc (.cells #[.int .i64 id, .int .i64 0, .int .i64 11, .int .i64 re, .int .i64 0, .int .i64 6, .int .i64 an, .int .i64 1, .int .i64 8, .int .i64 sk, .int .i64 0, .int .i64 30] 149) = W at K K2 hb ⊢
 refine (areIn_any [⟨id, 0, 11⟩, ⟨re, 0, 6⟩, ⟨an, 1, 8⟩, ⟨sk, 0, 30⟩] (w.heap.size + 1) 4 4 W rfl (BndR.of_blk4 K2) K2.lt (by omega)).mono ?_
 rintro e W2 ⟨rfl, hb2⟩
 have K := K.below hb2 (by have := K.lt; omega)
 have hB2 : Below w.heap.size w W2 := hb.trans (Below.mono hb2 hb.size)
 clear K2 hb hb2
 have g1 : W2.cell? ⟨w.heap.size, 1, none⟩ = some (.int .i64 x) := K.cell 1
 have g2 : W2.cell? ⟨w.heap.size, 2, none⟩ = some (.int .i64 y) := K.cell 2
 clear K
 rw [HA.out]
 clear HA
 cases a
 ·go_wp2
  go_ret
  exact ⟨by simp, hB2⟩
 ·go_wp2_with fail
  refine (HV.out _).mono ?_
  rintro e W3 ⟨rfl, hb3⟩
  have hB3 : Below w.heap.size w W3 := bl_then hB2 hb3
  go_wp2
  go_ret
  exact ⟨by simp, hB3⟩
end Go.Proofs.Ytmlabgmigakcbaa
namespace Go.Proofs.Ytmlabgmigakcbaa
open Go.RowKit
section
variable {α : Type} {cells : α → List Value} {s : Nat}
theorem flat_len (hs : ∀ x, (cells x).length = s) (l : List α) : (l.flatMap cells).length = l.length * s := by
 induction l with
 | nil => simp
 | cons x r ih => rw [List.flatMap_cons, List.length_append, ih, hs, List.length_cons, Nat.succ_mul]; omega
theorem flat_at (hs : ∀ x, (cells x).length = s) (l : List α) (k : Nat) (h : k < l.length) (j : Nat) (hj : j < s) : (l.flatMap cells)[k * s + j]? = (cells l[k])[j]? := by
 induction l generalizing k with
 | nil => simp at h
 | cons x r ih =>
  rw [List.flatMap_cons]
  cases k with
  | zero => rw [Nat.zero_mul, Nat.zero_add, List.getElem?_append_left (by rw [hs]; exact hj)]; rfl
  | succ k =>
   rw [List.getElem?_append_right (by rw [hs, Nat.succ_mul]; omega), hs, show (k + 1) * s + j - s = k * s + j by rw [Nat.succ_mul]; omega]
   exact ih k (by simpa using h)
structure RA (cells : α → List Value) (s : Nat) (w : World) (B : Nat) (A : Option Addr) (n c : Nat) (l : List α) : Prop where
 rd : Reads w B s A n (l.flatMap cells)
 len : l.length = n
 cap : n ≤ c
 capM : c ≤ maxLen
 le : n ≤ 9223372036854775807
variable {w w' : World} {B B' n c : Nat} {A : Option Addr} {l : List α}
theorem RA.keep (h : RA cells s w B A n c l) (hk : ∀ p : Addr, p.block < B → w'.cell? p = w.cell? p) : RA cells s w' B A n c l := ⟨h.rd.keep hk, h.len, h.cap, h.capM, h.le⟩
theorem RA.below (h : RA cells s w B A n c l) (hb : Below B w w') : RA cells s w' B A n c l := ⟨h.rd.below hb, h.len, h.cap, h.capM, h.le⟩
theorem RA.more (h : RA cells s w B A n c l) (hb : B ≤ B') : RA cells s w B' A n c l := ⟨h.rd.more hb, h.len, h.cap, h.capM, h.le⟩
theorem RA.alloc (h : RA cells s w B A n c l) (hB : B ≤ w.heap.size) (o : Obj) : RA cells s (w.alloc o) B A n c l := ⟨h.rd.alloc hB o, h.len, h.cap, h.capM, h.le⟩
theorem RA.at_ (hs : ∀ x, (cells x).length = s) (h : RA cells s w B A n c l) {k : Nat} (hk : k < n) :
  ∃ (b o : Nat) (hz : k < l.length), A = some ⟨b, o, none⟩ ∧ b < B ∧ ∀ j, j < s → w.cell? ⟨b, o + k * s + j, none⟩ = (cells l[k])[j]? := by
 obtain ⟨b, o, e, hb, hc⟩ := h.rd.2 (by omega)
 have hz : k < l.length := by rw [h.len]; exact hk
 refine ⟨b, o, hz, e, hb, fun j hj => ?_⟩
 have hu : (cells l[k])[j]? = some ((cells l[k])[j]'(by rw [hs]; exact hj)) := List.getElem?_eq_getElem _
 rw [hu, Nat.add_assoc]
 exact hc _ _ (by rw [flat_at hs l k hz j hj]; exact hu)
end
def stnCells (x : Stn) : List Value := [.int .i64 x.id, .int .i64 x.cell.x, .int .i64 x.cell.y, .int .i64 x.reach, .int .i64 x.antennas, .int .i64 x.skew]
def satCells (x : St) : List Value := [.int .i64 x.id, .int .i64 x.owner, .int .i64 x.orbit.period, .int .i64 x.orbit.phase, .int .i64 x.orbit.low, .int .i64 x.orbit.high, .int .i64 x.orbit.node, .int .i64 x.orbit.turn, .int .i64 x.orbit.slack, .int .i64 x.wide, .int .i64 x.store, .int .i64 x.charge, .int .i64 x.sunny, .int .i64 x.idle, .int .i64 x.shoot, .int .i64 x.send, .int .i64 x.warm, .int .i64 x.cool, .int .i64 x.hot, .int .i64 x.slew, .int .i64 x.rate]
def pasCells (x : Pas) : List Value := [.int .i64 x.sat, .int .i64 x.station, .int .i64 x.sure.fr, .int .i64 x.sure.tt, .int .i64 x.can.fr, .int .i64 x.can.tt]
theorem stn_len (x : Stn) : (stnCells x).length = 6 := rfl
theorem sat_len (x : St) : (satCells x).length = 21 := rfl
theorem pas_len (x : Pas) : (pasCells x).length = 6 := rfl
def prevAt {α : Type} (l : List α) (k : Nat) : Option α := if k = 0 then none else l[k - 1]?
theorem listOK_step {α : Type} (ok : α → Bool) (id : α → Int) (l : List α) (k : Nat) (h : k < l.length) :
  listOK ok id (prevAt l k) (l.drop k) = (ok l[k] && (match prevAt l k with | none => true | some y => decide (id y < id l[k])) && listOK ok id (prevAt l (k + 1)) (l.drop (k + 1))) := by
 have hp : prevAt l (k + 1) = some l[k] := by simp [prevAt, h]
 rw [List.drop_eq_getElem_cons h, hp]
 cases prevAt l k <;> rfl
end Go.Proofs.Ytmlabgmigakcbaa
