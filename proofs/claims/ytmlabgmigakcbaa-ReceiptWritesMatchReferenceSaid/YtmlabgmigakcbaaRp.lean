/- Plain mathematics of receipts: options, receipts, notes; no program in sight. -/
import Derived.Test.YtmlabgmigakcbaaPc
namespace Go.Proofs.Ytmlabgmigakcbaa

structure Slt where
  p : Int
  fr : Int
  tt : Int
/-- A receipt. -/
structure Rcp where
  sn : Int
  im : Int
  at_ : Int
/-- A note. -/
structure Nte where
  im : Int
  slot : Int
  is_ : Bool
/-- A discord. -/
structure Dsc where
  kind : Int
  im : Int
  ix : Int

/-- How wrong the clocks can be. -/
def skewF (l : List Stn) : Int → Option Int := l.foldl (fun f s => fun k => if k = s.id then some s.skew else f k) (fun _ => none)
def skewL (f : Int → Option Int) (l : List Stn) : Int → Option Int := l.foldl (fun f s => fun k => if k = s.id then some s.skew else f k) f
theorem skewL_cons (f : Int → Option Int) (s : Stn) (l : List Stn) : skewL f (s :: l) = skewL (fun k => if k = s.id then some s.skew else f k) l := rfl
/-- Slots, one behind the other, each within the sure spell of its pass. -/
def slotsOK (ps : List Pas) : Int → List Slt → Bool
  | _, [] => true
  | e, s :: r => inB s.p 0 ((ps.length : Int) - 1) && (match ps[s.p.toNat]? with | none => false | some p => decide (max e p.sure.fr ≤ s.fr) && decide (s.fr < s.tt) && decide (s.tt ≤ p.sure.tt)) && slotsOK ps s.tt r
def lossOK (ps : List Pas) (l : List Slt) : Bool := decide (1 ≤ l.length ∧ l.length ≤ 6) && slotsOK ps 0 l
theorem slotsOK_cons (ps : List Pas) (e : Int) (s : Slt) (r : List Slt) : slotsOK ps e (s :: r) = (inB s.p 0 ((ps.length : Int) - 1) && (match ps[s.p.toNat]? with | none => false | some p => decide (max e p.sure.fr ≤ s.fr) && decide (s.fr < s.tt) && decide (s.tt ≤ p.sure.tt)) && slotsOK ps s.tt r) := by rw [slotsOK]
end Go.Proofs.Ytmlabgmigakcbaa
