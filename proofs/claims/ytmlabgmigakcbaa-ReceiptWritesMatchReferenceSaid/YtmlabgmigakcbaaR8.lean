/- Fates, plainly. -/
import Derived.Test.YtmlabgmigakcbaaR7
namespace Go.Proofs.Ytmlabgmigakcbaa

def recvP (q : Rcp → Nat) (id : Int) : Nat → Nat → List Dsc → List Rcp → Nat × List Dsc
  | _, left, ds, [] => (left, ds)
  | i, left, ds, r :: l =>
    if q r = 0 then recvP q id (i + 1) left ds l
    else if left = 0 then recvP q id (i + 1) (q r) ds l
    else if left &&& q r = 0 then recvP q id (i + 1) left (ds ++ [⟨2, id, i⟩]) l
    else recvP q id (i + 1) (left &&& q r) ds l
theorem recvP_cons (q : Rcp → Nat) (id : Int) (i left : Nat) (ds : List Dsc) (r : Rcp) (l : List Rcp) : recvP q id i left ds (r :: l) =
    if q r = 0 then recvP q id (i + 1) left ds l
    else if left = 0 then recvP q id (i + 1) (q r) ds l
    else if left &&& q r = 0 then recvP q id (i + 1) left (ds ++ [⟨2, id, i⟩]) l
    else recvP q id (i + 1) (left &&& q r) ds l := by rw [recvP]
def ttAt (sl : List Slt) (k : Nat) : Int := match sl[k]? with | some s => s.tt | none => 0
/-- What is left of a set once a note is known. -/
def nextP (is_ : Bool) (left slot : Nat) : Nat := if is_ then left &&& 2 ^ slot else clrB left slot
def noteP (now : Int) (sl : List Slt) (id : Int) : Nat → Nat → Nat → Bool → List Dsc → List Nte → Nat × List Dsc
  | _, left, _, _, ds, [] => (left, ds)
  | i, left, slot, done, ds, n :: l =>
    if n.im ≠ id then noteP now sl id (i + 1) left slot done ds l
    else if done = true ∨ n.slot ≠ slot ∨ sl.length ≤ slot ∨ now < ttAt sl slot then (left, ds ++ [⟨3, id, i⟩])
    else if nextP n.is_ left slot = 0 ∧ (left ≠ 0 ∨ n.is_ = true) then noteP now sl id (i + 1) left (slot + 1) n.is_ (ds ++ [⟨4, id, i⟩]) l
    else noteP now sl id (i + 1) (nextP n.is_ left slot) (slot + 1) n.is_ ds l
theorem noteP_cons (now : Int) (sl : List Slt) (id : Int) (i left slot : Nat) (done : Bool) (ds : List Dsc) (n : Nte) (l : List Nte) : noteP now sl id i left slot done ds (n :: l) =
    if n.im ≠ id then noteP now sl id (i + 1) left slot done ds l
    else if done = true ∨ n.slot ≠ slot ∨ sl.length ≤ slot ∨ now < ttAt sl slot then (left, ds ++ [⟨3, id, i⟩])
    else if nextP n.is_ left slot = 0 ∧ (left ≠ 0 ∨ n.is_ = true) then noteP now sl id (i + 1) left (slot + 1) n.is_ (ds ++ [⟨4, id, i⟩]) l
    else noteP now sl id (i + 1) (nextP n.is_ left slot) (slot + 1) n.is_ ds l := by rw [noteP]
/-- A fate, plainly. -/
structure FteP where
  im : Int
  st : Int
  l : List Nat
  fr : Int
  tt : Int
def openL (now : Int) (sl : List Slt) : List Nat := (List.range sl.length).filter (fun k => decide (now < ttAt sl k))
def endP (im st : Int) (sl : List Slt) (l : List Nat) : FteP := ⟨im, st, l, ttAt sl (l.headD 0), ttAt sl (l.getLastD 0)⟩
def fateE (now : Int) (sl : List Slt) (id : Int) (left : Nat) : FteP :=
  if left ≠ 0 then endP id 1 sl (setL left)
  else if openL now sl = [] then ⟨id, 3, [], 0, 0⟩
  else endP id 2 sl (openL now sl)
def fateP (q : Rcp → Nat) (now : Int) (sl : List Slt) (id : Int) (rs : List Rcp) (ns : List Nte) (ds : List Dsc) : FteP × List Dsc :=
  (fateE now sl id (noteP now sl id 0 (recvP q id 0 0 ds rs).1 0 false (recvP q id 0 0 ds rs).2 ns).1, (noteP now sl id 0 (recvP q id 0 0 ds rs).1 0 false (recvP q id 0 0 ds rs).2 ns).2)
theorem and_lt (a b : Nat) (h : a < 64) : a &&& b < 64 := Nat.lt_of_le_of_lt Nat.and_le_left h
theorem recvP_len (q : Rcp → Nat) (id : Int) : ∀ l i left ds, (recvP q id i left ds l).2.length ≤ ds.length + l.length
  | [], _, _, ds => by rw [recvP]; simp
  | r :: l, i, left, ds => by
    rw [recvP_cons]
    simp only [List.length_cons]
    split
    · have := recvP_len q id l (i + 1) left ds; omega
    · split
      · have := recvP_len q id l (i + 1) (q r) ds; omega
      · split
        · have := recvP_len q id l (i + 1) left (ds ++ [⟨2, id, i⟩]); simp at this; omega
        · have := recvP_len q id l (i + 1) (left &&& q r) ds; omega
end Go.Proofs.Ytmlabgmigakcbaa
