/- Plain mathematics of pools: no program in sight. -/
namespace Go.Proofs.Ytpddnkefggaigaa

def inB (n lo hi : Int) : Bool := decide (lo ≤ n ∧ n ≤ hi)
theorem inB_iff {n lo hi : Int} : inB n lo hi = true ↔ lo ≤ n ∧ n ≤ hi := by simp [inB]
def cmpI (a b : Int) : Int := if a < b then -1 else if b < a then 1 else 0
def orI (a b : Int) : Int := if a ≠ 0 then a else b
def cmpL (a1 a2 b1 b2 : Int) : Int := orI (cmpI a1 b1) (cmpI a2 b2)

structure Loan where
  fr : Int
  to : Int
  units : Int

instance : DecidableEq Loan := fun a b => decidable_of_iff (a.fr = b.fr ∧ a.to = b.to ∧ a.units = b.units) (by cases a; cases b; simp)

structure Pool where
  has : List Int
  used : List Int
  loans : List Loan
  cents : List Int

def ownerB (n : Int) : Bool := inB n 0 15
def withinB (l : List Int) (lo hi : Int) : Bool := l.length == 16 && l.all (fun n => inB n lo hi)
def loanOK (x : Loan) : Bool := ownerB x.fr && ownerB x.to && x.fr != x.to && inB x.units 1 1000000
def lessB (a b : Loan) : Bool := decide (cmpL a.fr a.to b.fr b.to < 0)
def loansOK : Option Loan → List Loan → Bool
  | _, [] => true
  | p, x :: r => loanOK x && (match p with | none => true | some y => lessB y x) && loansOK (some x) r
def validB (p : Pool) : Bool :=
  withinB p.has 0 1000000 && withinB p.used 0 1000000 && withinB p.cents (-1000000000000) 1000000000000 && loansOK none p.loans && decide (p.cents.sum = 0)

end Go.Proofs.Ytpddnkefggaigaa
