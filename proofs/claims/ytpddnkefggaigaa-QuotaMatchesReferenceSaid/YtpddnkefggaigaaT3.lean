/- Deeds of the reference: the plain side, and what the memory of the arguments is. -/
import Derived.Test.YtpddnkefggaigaaT1
import Derived.Test.YtpddnkefggaigaaT2
namespace Go.Proofs.Ytpddnkefggaigaa
open Go.RowKit

/-- Four numbers of an argument. -/
structure Quad where
  a : Int
  b : Int
  c : Int
  d : Int
def Quad.ok (x : Quad) : Prop := (-9223372036854775808 ≤ x.a ∧ x.a ≤ 9223372036854775807) ∧ (-9223372036854775808 ≤ x.b ∧ x.b ≤ 9223372036854775807) ∧ (-9223372036854775808 ≤ x.c ∧ x.c ≤ 9223372036854775807) ∧ (-9223372036854775808 ≤ x.d ∧ x.d ≤ 9223372036854775807)
def quadCells (x : Quad) : List Value := [I64 x.a, I64 x.b, I64 x.c, I64 x.d]
def RQ (w : World) (B : Nat) (s : Sl) (xs : List Quad) : Prop := Reads w B 4 s.A s.n (xs.flatMap quadCells) ∧ s.n ≤ s.c ∧ s.c ≤ maxLen ∧ s.n ≤ 9223372036854775807
def deedOf (x : Quad) : Deed := ⟨pickI x.a 5, pickI x.b 4, (pickI x.b 4 + 1 + pickI (x.b.tdiv 4) 3) % 4, 1 + pickI x.c 12, pickI x.d 500⟩
def deedsOf (xs : List Quad) : List Deed := (xs.take 16).map deedOf
def deedCells (d : Deed) : List Value := [I64 d.kind, I64 d.fr, I64 d.tt, I64 d.units, I64 d.cents]

end Go.Proofs.Ytpddnkefggaigaa
