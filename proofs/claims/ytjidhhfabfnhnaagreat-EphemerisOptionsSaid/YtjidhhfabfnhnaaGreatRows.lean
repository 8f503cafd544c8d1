/-
  No cell of these rows narrows 'for every input' (looked for: loops, veiled, ifaces, maps, wideKeys, modest, calm, conditions, laid).
  DERIVED. THE GIVEN ROWS OF THIS SEAT. 7 by the template 'for every input the law returns true; each argument reads behind the call as it read before'; 0 by the template 'total and deterministic' (their statements: YtjidhhfabfnhnaaGreatTotals.lean).
  GIVEN WITH THE SEED: the statements are not yours to turn. If you find one false, say at which input.
  Laid BY PROGRAM, IN A SANDBOX (cutbox-rows.mjs): the forced cells as the released guide's own fill.sh prints them over the translation 9e3e3304d0bce0c8… (all of the seat's roots in one cut). By AI agents, Wed Nov 11 2026. No macro, syntax, notation, axiom, sorry.
-/
import Derived.Test.YtjidhhfabfnhnaaGreatChecked
import GoSem.Claim
import GoSem.ClaimJoined
import GoSem.ClaimMapViews
import Derived.JoinedTies
import Derived.KernelRfl
namespace Go.Proofs.YtjidhhfabfnhnaaGreat
/- THE CELL 'sum', in the pinned program and in every row, IS THE sha256 OF THE DUMP (.gsa) THAT YtjidhhfabfnhnaaGreatProg.lean LOADS. Nothing in Lean hashes anything: it is a label: what it is worth is what the hold of that sum in a sandbox is worth. -/
noncomputable def Tryz.pinned : Pinned := { name := "ytjidhhfabfnhnaagreat", sum := "9e3e3304d0bce0c840960ab18789b06e9d51a459c91e1a0e8135738548a22a05", checked := Tryz.checked }
namespace Rows
def none {H : Type} : Left H := { results := [], args := [] }

/-- 'nadirlaw36.EphemerisOptions': WHATEVER THE INPUT: true; the input reads as it did. -/
def ephemerisOptionsSpec : ChangeSpec := { name := "ephemerisOptions", fn := fun _ => fun
  | [d1, d2, d3] => { results := [.lit (.bool true)], args := [d1, d2, d3] }
  | _ => none }
def ephemerisOptionsRow : OpenClaim := { program := "ytjidhhfabfnhnaagreat", sum := "9e3e3304d0bce0c840960ab18789b06e9d51a459c91e1a0e8135738548a22a05", func := "nadir/nadirlaw36.EphemerisOptions", spec := "ephemerisOptions", unfollowed := true, recurses := true, plainKeys := false, apart := false }
def EphemerisOptionsSaid : Prop := ephemerisOptionsRow.holds Tryz.pinned (OpenSpec.ofChange ephemerisOptionsSpec)

/-- ITS FALSE NEIGHBOUR: 'it returns false'. Refute it at one input. -/
def ephemerisOptionsWrong : ChangeSpec := { name := "ephemerisOptions", fn := fun _ => fun
  | [d1, d2, d3] => { results := [.lit (.bool false)], args := [d1, d2, d3] }
  | _ => none }
def EphemerisOptionsWrongFalsely : Prop := ephemerisOptionsRow.holds Tryz.pinned (OpenSpec.ofChange ephemerisOptionsWrong)

/-- 'nadirlaw36.EphemerisCertain': WHATEVER THE INPUT: true; the input reads as it did. -/
def ephemerisCertainSpec : ChangeSpec := { name := "ephemerisCertain", fn := fun _ => fun
  | [d1, d2, d3, d4, d5] => { results := [.lit (.bool true)], args := [d1, d2, d3, d4, d5] }
  | _ => none }
def ephemerisCertainRow : OpenClaim := { program := "ytjidhhfabfnhnaagreat", sum := "9e3e3304d0bce0c840960ab18789b06e9d51a459c91e1a0e8135738548a22a05", func := "nadir/nadirlaw36.EphemerisCertain", spec := "ephemerisCertain", unfollowed := true, recurses := true, plainKeys := false, apart := false }
def EphemerisCertainSaid : Prop := ephemerisCertainRow.holds Tryz.pinned (OpenSpec.ofChange ephemerisCertainSpec)

/-- ITS FALSE NEIGHBOUR: 'it returns false'. Refute it at one input. -/
def ephemerisCertainWrong : ChangeSpec := { name := "ephemerisCertain", fn := fun _ => fun
  | [d1, d2, d3, d4, d5] => { results := [.lit (.bool false)], args := [d1, d2, d3, d4, d5] }
  | _ => none }
def EphemerisCertainWrongFalsely : Prop := ephemerisCertainRow.holds Tryz.pinned (OpenSpec.ofChange ephemerisCertainWrong)

/-- 'nadirlaw36.EphemerisMatchesReference': WHATEVER THE INPUT: true; the input reads as it did. -/
def ephemerisMatchesReferenceSpec : ChangeSpec := { name := "ephemerisMatchesReference", fn := fun _ => fun
  | [d1, d2, d3, d4, d5, d6, d7, d8] => { results := [.lit (.bool true)], args := [d1, d2, d3, d4, d5, d6, d7, d8] }
  | _ => none }
def ephemerisMatchesReferenceRow : OpenClaim := { program := "ytjidhhfabfnhnaagreat", sum := "9e3e3304d0bce0c840960ab18789b06e9d51a459c91e1a0e8135738548a22a05", func := "nadir/nadirlaw36.EphemerisMatchesReference", spec := "ephemerisMatchesReference", unfollowed := true, recurses := true, plainKeys := false, apart := false }
def EphemerisMatchesReferenceSaid : Prop := ephemerisMatchesReferenceRow.holds Tryz.pinned (OpenSpec.ofChange ephemerisMatchesReferenceSpec)

/-- ITS FALSE NEIGHBOUR: 'it returns false'. Refute it at one input. -/
def ephemerisMatchesReferenceWrong : ChangeSpec := { name := "ephemerisMatchesReference", fn := fun _ => fun
  | [d1, d2, d3, d4, d5, d6, d7, d8] => { results := [.lit (.bool false)], args := [d1, d2, d3, d4, d5, d6, d7, d8] }
  | _ => none }
def EphemerisMatchesReferenceWrongFalsely : Prop := ephemerisMatchesReferenceRow.holds Tryz.pinned (OpenSpec.ofChange ephemerisMatchesReferenceWrong)

/-- 'nadirlaw36.EphemerisAffectedMatchesReference': WHATEVER THE INPUT: true; the input reads as it did. -/
def ephemerisAffectedMatchesReferenceSpec : ChangeSpec := { name := "ephemerisAffectedMatchesReference", fn := fun _ => fun
  | [d1, d2, d3, d4, d5, d6, d7] => { results := [.lit (.bool true)], args := [d1, d2, d3, d4, d5, d6, d7] }
  | _ => none }
def ephemerisAffectedMatchesReferenceRow : OpenClaim := { program := "ytjidhhfabfnhnaagreat", sum := "9e3e3304d0bce0c840960ab18789b06e9d51a459c91e1a0e8135738548a22a05", func := "nadir/nadirlaw36.EphemerisAffectedMatchesReference", spec := "ephemerisAffectedMatchesReference", unfollowed := true, recurses := true, plainKeys := false, apart := false }
def EphemerisAffectedMatchesReferenceSaid : Prop := ephemerisAffectedMatchesReferenceRow.holds Tryz.pinned (OpenSpec.ofChange ephemerisAffectedMatchesReferenceSpec)

/-- ITS FALSE NEIGHBOUR: 'it returns false'. Refute it at one input. -/
def ephemerisAffectedMatchesReferenceWrong : ChangeSpec := { name := "ephemerisAffectedMatchesReference", fn := fun _ => fun
  | [d1, d2, d3, d4, d5, d6, d7] => { results := [.lit (.bool false)], args := [d1, d2, d3, d4, d5, d6, d7] }
  | _ => none }
def EphemerisAffectedMatchesReferenceWrongFalsely : Prop := ephemerisAffectedMatchesReferenceRow.holds Tryz.pinned (OpenSpec.ofChange ephemerisAffectedMatchesReferenceWrong)

/-- 'nadirlaw36.EphemerisForEver': WHATEVER THE INPUT: true; the input reads as it did. -/
def ephemerisForEverSpec : ChangeSpec := { name := "ephemerisForEver", fn := fun _ => fun
  | [d1, d2, d3, d4] => { results := [.lit (.bool true)], args := [d1, d2, d3, d4] }
  | _ => none }
def ephemerisForEverRow : OpenClaim := { program := "ytjidhhfabfnhnaagreat", sum := "9e3e3304d0bce0c840960ab18789b06e9d51a459c91e1a0e8135738548a22a05", func := "nadir/nadirlaw36.EphemerisForEver", spec := "ephemerisForEver", unfollowed := true, recurses := true, plainKeys := false, apart := false }
def EphemerisForEverSaid : Prop := ephemerisForEverRow.holds Tryz.pinned (OpenSpec.ofChange ephemerisForEverSpec)

/-- ITS FALSE NEIGHBOUR: 'it returns false'. Refute it at one input. -/
def ephemerisForEverWrong : ChangeSpec := { name := "ephemerisForEver", fn := fun _ => fun
  | [d1, d2, d3, d4] => { results := [.lit (.bool false)], args := [d1, d2, d3, d4] }
  | _ => none }
def EphemerisForEverWrongFalsely : Prop := ephemerisForEverRow.holds Tryz.pinned (OpenSpec.ofChange ephemerisForEverWrong)

/-- 'nadirlaw36.EphemerisStretches': WHATEVER THE INPUT: true; the input reads as it did. -/
def ephemerisStretchesSpec : ChangeSpec := { name := "ephemerisStretches", fn := fun _ => fun
  | [d1, d2, d3] => { results := [.lit (.bool true)], args := [d1, d2, d3] }
  | _ => none }
def ephemerisStretchesRow : OpenClaim := { program := "ytjidhhfabfnhnaagreat", sum := "9e3e3304d0bce0c840960ab18789b06e9d51a459c91e1a0e8135738548a22a05", func := "nadir/nadirlaw36.EphemerisStretches", spec := "ephemerisStretches", unfollowed := true, recurses := true, plainKeys := false, apart := false }
def EphemerisStretchesSaid : Prop := ephemerisStretchesRow.holds Tryz.pinned (OpenSpec.ofChange ephemerisStretchesSpec)

/-- ITS FALSE NEIGHBOUR: 'it returns false'. Refute it at one input. -/
def ephemerisStretchesWrong : ChangeSpec := { name := "ephemerisStretches", fn := fun _ => fun
  | [d1, d2, d3] => { results := [.lit (.bool false)], args := [d1, d2, d3] }
  | _ => none }
def EphemerisStretchesWrongFalsely : Prop := ephemerisStretchesRow.holds Tryz.pinned (OpenSpec.ofChange ephemerisStretchesWrong)

/-- 'nadirlaw36.EphemerisExact': WHATEVER THE INPUT: true; the input reads as it did. -/
def ephemerisExactSpec : ChangeSpec := { name := "ephemerisExact", fn := fun _ => fun
  | [d1, d2, d3] => { results := [.lit (.bool true)], args := [d1, d2, d3] }
  | _ => none }
def ephemerisExactRow : OpenClaim := { program := "ytjidhhfabfnhnaagreat", sum := "9e3e3304d0bce0c840960ab18789b06e9d51a459c91e1a0e8135738548a22a05", func := "nadir/nadirlaw36.EphemerisExact", spec := "ephemerisExact", unfollowed := true, recurses := true, plainKeys := false, apart := false }
def EphemerisExactSaid : Prop := ephemerisExactRow.holds Tryz.pinned (OpenSpec.ofChange ephemerisExactSpec)

/-- ITS FALSE NEIGHBOUR: 'it returns false'. Refute it at one input. -/
def ephemerisExactWrong : ChangeSpec := { name := "ephemerisExact", fn := fun _ => fun
  | [d1, d2, d3] => { results := [.lit (.bool false)], args := [d1, d2, d3] }
  | _ => none }
def EphemerisExactWrongFalsely : Prop := ephemerisExactRow.holds Tryz.pinned (OpenSpec.ofChange ephemerisExactWrong)

/- THE SECOND FORM. 'bulk': how many values and letters a reading holds, each counted each time it is reached (what is shared counts as often as it is met; a slice's spare places count too). A statement '..UptoSaid' is the law's where the arguments, and the package variables that the reading takes, are together of bulk at most 1048576: NARROWER than '..Said'. Prove '..Said' where nothing that the law and all that it calls make is longer than what came in: it says more and counts as full. Else prove '..UptoSaid'. A law counts once. -/
mutual
def uptoBulk {H : Type} : DataW H → Nat
  | .lit (.string bytes) => bytes.length + 1
  | .lit _ => 1
  | .nil => 1
  | .ptr d => uptoBulk d + 1
  | .slice elems spare => uptoBulkAll elems + uptoBulkAll spare + 1
  | .agg parts => uptoBulkAll parts + 1
  | .iface _ d => uptoBulk d + 1
  | .map entries => uptoBulkEntries entries + 1
  | .held _ => 1
def uptoBulkAll {H : Type} : List (DataW H) → Nat
  | [] => 0
  | d :: r => uptoBulk d + uptoBulkAll r
def uptoBulkEntries {H : Type} : List (Lit × DataW H) → Nat
  | [] => 0
  | x :: r => uptoBulkEntry x + uptoBulkEntries r
def uptoBulkEntry {H : Type} : Lit × DataW H → Nat
  | (.string bytes, d) => bytes.length + uptoBulk d + 1
  | (_, d) => uptoBulk d + 1
 end
def uptoSmall : (H : Type) → List (DataW H) → Bool := fun _ ds => decide (uptoBulkAll ds ≤ 1048576)
def OpenSpec.upto (s : _root_.Go.ChangeSpec) : _root_.Go.OpenSpec := { _root_.Go.OpenSpec.ofChange s with cond := some uptoSmall }

/-- 'nadirlaw36.EphemerisOptions', WHERE WHAT IT READS IS OF BULK AT MOST 1048576: true; the input reads as it did. -/
def ephemerisOptionsUptoRow : OpenClaim := { program := "ytjidhhfabfnhnaagreat", sum := "9e3e3304d0bce0c840960ab18789b06e9d51a459c91e1a0e8135738548a22a05", func := "nadir/nadirlaw36.EphemerisOptions", spec := "ephemerisOptions", unfollowed := true, recurses := true, plainKeys := false, apart := false, narrowed := true }
def EphemerisOptionsUptoSaid : Prop := ephemerisOptionsUptoRow.holds Tryz.pinned (OpenSpec.upto ephemerisOptionsSpec)

/-- 'nadirlaw36.EphemerisCertain', WHERE WHAT IT READS IS OF BULK AT MOST 1048576: true; the input reads as it did. -/
def ephemerisCertainUptoRow : OpenClaim := { program := "ytjidhhfabfnhnaagreat", sum := "9e3e3304d0bce0c840960ab18789b06e9d51a459c91e1a0e8135738548a22a05", func := "nadir/nadirlaw36.EphemerisCertain", spec := "ephemerisCertain", unfollowed := true, recurses := true, plainKeys := false, apart := false, narrowed := true }
def EphemerisCertainUptoSaid : Prop := ephemerisCertainUptoRow.holds Tryz.pinned (OpenSpec.upto ephemerisCertainSpec)

/-- 'nadirlaw36.EphemerisMatchesReference', WHERE WHAT IT READS IS OF BULK AT MOST 1048576: true; the input reads as it did. -/
def ephemerisMatchesReferenceUptoRow : OpenClaim := { program := "ytjidhhfabfnhnaagreat", sum := "9e3e3304d0bce0c840960ab18789b06e9d51a459c91e1a0e8135738548a22a05", func := "nadir/nadirlaw36.EphemerisMatchesReference", spec := "ephemerisMatchesReference", unfollowed := true, recurses := true, plainKeys := false, apart := false, narrowed := true }
def EphemerisMatchesReferenceUptoSaid : Prop := ephemerisMatchesReferenceUptoRow.holds Tryz.pinned (OpenSpec.upto ephemerisMatchesReferenceSpec)

/-- 'nadirlaw36.EphemerisAffectedMatchesReference', WHERE WHAT IT READS IS OF BULK AT MOST 1048576: true; the input reads as it did. -/
def ephemerisAffectedMatchesReferenceUptoRow : OpenClaim := { program := "ytjidhhfabfnhnaagreat", sum := "9e3e3304d0bce0c840960ab18789b06e9d51a459c91e1a0e8135738548a22a05", func := "nadir/nadirlaw36.EphemerisAffectedMatchesReference", spec := "ephemerisAffectedMatchesReference", unfollowed := true, recurses := true, plainKeys := false, apart := false, narrowed := true }
def EphemerisAffectedMatchesReferenceUptoSaid : Prop := ephemerisAffectedMatchesReferenceUptoRow.holds Tryz.pinned (OpenSpec.upto ephemerisAffectedMatchesReferenceSpec)

/-- 'nadirlaw36.EphemerisForEver', WHERE WHAT IT READS IS OF BULK AT MOST 1048576: true; the input reads as it did. -/
def ephemerisForEverUptoRow : OpenClaim := { program := "ytjidhhfabfnhnaagreat", sum := "9e3e3304d0bce0c840960ab18789b06e9d51a459c91e1a0e8135738548a22a05", func := "nadir/nadirlaw36.EphemerisForEver", spec := "ephemerisForEver", unfollowed := true, recurses := true, plainKeys := false, apart := false, narrowed := true }
def EphemerisForEverUptoSaid : Prop := ephemerisForEverUptoRow.holds Tryz.pinned (OpenSpec.upto ephemerisForEverSpec)

/-- 'nadirlaw36.EphemerisStretches', WHERE WHAT IT READS IS OF BULK AT MOST 1048576: true; the input reads as it did. -/
def ephemerisStretchesUptoRow : OpenClaim := { program := "ytjidhhfabfnhnaagreat", sum := "9e3e3304d0bce0c840960ab18789b06e9d51a459c91e1a0e8135738548a22a05", func := "nadir/nadirlaw36.EphemerisStretches", spec := "ephemerisStretches", unfollowed := true, recurses := true, plainKeys := false, apart := false, narrowed := true }
def EphemerisStretchesUptoSaid : Prop := ephemerisStretchesUptoRow.holds Tryz.pinned (OpenSpec.upto ephemerisStretchesSpec)

/-- 'nadirlaw36.EphemerisExact', WHERE WHAT IT READS IS OF BULK AT MOST 1048576: true; the input reads as it did. -/
def ephemerisExactUptoRow : OpenClaim := { program := "ytjidhhfabfnhnaagreat", sum := "9e3e3304d0bce0c840960ab18789b06e9d51a459c91e1a0e8135738548a22a05", func := "nadir/nadirlaw36.EphemerisExact", spec := "ephemerisExact", unfollowed := true, recurses := true, plainKeys := false, apart := false, narrowed := true }
def EphemerisExactUptoSaid : Prop := ephemerisExactUptoRow.holds Tryz.pinned (OpenSpec.upto ephemerisExactSpec)

end Rows
end Go.Proofs.YtjidhhfabfnhnaaGreat
