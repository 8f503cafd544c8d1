/- Plain mathematics of orbits, cells, stations and satellites: no program in sight. -/
namespace Go.Proofs.Ytmlabgmigakcbaa

def inB (n lo hi : Int) : Bool := decide (lo ≤ n ∧ n ≤ hi)
theorem inB_iff {n lo hi : Int} : inB n lo hi = true ↔ lo ≤ n ∧ n ≤ hi := by simp [inB]
def cmpI (a b : Int) : Int := if a < b then -1 else if b < a then 1 else 0

structure Orb where
  period : Int
  phase : Int
  low : Int
  high : Int
  node : Int
  turn : Int
  slack : Int
structure Cel where
  x : Int
  y : Int
structure Spl where
  fr : Int
  tt : Int
structure Stn where
  id : Int
  cell : Cel
  reach : Int
  antennas : Int
  skew : Int
structure St where
  id : Int
  owner : Int
  orbit : Orb
  wide : Int
  store : Int
  charge : Int
  sunny : Int
  idle : Int
  shoot : Int
  send : Int
  warm : Int
  cool : Int
  hot : Int
  slew : Int
  rate : Int
structure Pas where
  sat : Int
  station : Int
  sure : Spl
  can : Spl
instance : DecidableEq Spl := fun a b => decidable_of_iff (a.fr = b.fr ∧ a.tt = b.tt) (by cases a; cases b; simp)
instance : DecidableEq Pas := fun a b => decidable_of_iff (a.sat = b.sat ∧ a.station = b.station ∧ a.sure = b.sure ∧ a.can = b.can) (by cases a; cases b; simp)

def orbOK (o : Orb) : Bool := inB o.period 20 2000 && (o.period % 2 == 0) && inB o.phase 0 (o.period - 1) && inB o.low 0 23999 && inB o.high 0 23999 && decide (o.low < o.high) && inB o.node 0 47999 && inB o.turn (-2000) 2000 && inB o.slack 0 10
def rowP (o : Orb) (t : Int) : Int := o.low + (o.high - o.low) * 2 * min ((t + o.phase) % o.period) (o.period - (t + o.phase) % o.period) / o.period
def colP (o : Orb) (t : Int) : Int := (o.node + o.turn * t) % 48000
def atP (o : Orb) (t late : Int) : Option Cel := if (inB t 0 1000000 && inB late (-10) 10 && orbOK o) = true then some ⟨colP o (t - late) / 1000, rowP o (t - late) / 1000⟩ else none
def celOK (c : Cel) : Bool := inB c.x 0 47 && inB c.y 0 23
def absI (n : Int) : Int := max n (-n)
def nearP (a b : Cel) : Int := if (celOK a && celOK b) = true then max (absI (a.y - b.y)) (min (absI (a.x - b.x)) (48 - absI (a.x - b.x))) else -1
def stnOK (s : Stn) : Bool := celOK s.cell && inB s.id 0 11 && inB s.reach 0 6 && inB s.antennas 1 8 && inB s.skew 0 30
def satOK (s : St) : Bool := orbOK s.orbit && inB s.id 0 23 && inB s.owner 0 15 && inB s.wide 0 4 && inB s.store 1 1000000 && inB s.slew 0 60 && inB s.rate 1 1000 && inB s.charge 1 1000000 && inB s.sunny 0 10000 && inB s.idle 0 10000 && inB s.shoot 0 10000 && inB s.send 0 10000 && inB s.warm 0 10000 && inB s.cool 0 10000 && inB s.hot 1 1000000
def listOK {α : Type} (ok : α → Bool) (id : α → Int) : Option α → List α → Bool
  | _, [] => true
  | p, x :: r => ok x && (match p with | none => true | some y => decide (id y < id x)) && listOK ok id (some x) r
def satsOK (l : List St) : Bool := decide (l.length ≤ 24) && listOK satOK (·.id) none l
def stnsOK (l : List Stn) : Bool := decide (l.length ≤ 12) && listOK stnOK (·.id) none l
def spanOK (s : Spl) : Bool := decide (0 ≤ s.fr ∧ s.fr < s.tt ∧ s.tt ≤ 1000001 ∧ s.tt - s.fr ≤ 4320)
def viewP (o : Orb) (s : Stn) (t late : Int) : Option Bool := match atP o t late with
  | none => none
  | some c => if stnOK s = true then some (decide (nearP c s.cell ≤ s.reach)) else none
/-- The maximal spells of minutes, from a minute on, for which a predicate holds. -/
def spellsP (is : Int → Bool) (t : Int) : Nat → List Spl
  | 0 => []
  | n + 1 => if is t then (match spellsP is (t + 1) n with
      | [] => [⟨t, t + 1⟩]
      | s :: r => if s.fr = t + 1 then ⟨t, s.tt⟩ :: r else ⟨t, t + 1⟩ :: s :: r)
    else spellsP is (t + 1) n
def contactsP (o : Orb) (s : Stn) (span : Spl) (late : Int) : Option (List Spl) :=
  if (orbOK o && stnOK s && spanOK span && inB late (-o.slack) o.slack) = true then some (spellsP (fun t => viewP o s t late == some true) span.fr (span.tt - span.fr).toNat) else none
def widerP (s : Spl) (by_ : Int) (span : Spl) : Spl :=
  let a := max (s.fr - by_) span.fr
  let b := min (s.tt + by_) span.tt
  if b ≤ a then ⟨0, 0⟩ else ⟨a, b⟩
def splIn (a b : Spl) : Bool := decide (b.fr ≤ a.fr ∧ a.fr < a.tt ∧ a.tt ≤ b.tt)
def pasOK (p : Pas) : Bool := inB p.sat 0 23 && inB p.station 0 11 && decide (0 ≤ p.can.fr ∧ p.can.fr < p.can.tt ∧ p.can.tt ≤ 1000001) && (decide (p.sure = ⟨0, 0⟩) || splIn p.sure p.can)
def orI (a b : Int) : Int := if a ≠ 0 then a else b
def cmpPas (a b : Pas) : Int := orI (cmpI a.can.fr b.can.fr) (orI (cmpI a.sat b.sat) (orI (cmpI a.station b.station) (orI (cmpI a.sure.fr b.sure.fr) (cmpI a.can.tt b.can.tt))))
def sendP (s : St) (p : Pas) : Int := if (satOK s && pasOK p && decide (s.id = p.sat)) = true then (p.sure.tt - p.sure.fr) * s.rate else 0

end Go.Proofs.Ytmlabgmigakcbaa
