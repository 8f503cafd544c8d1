/-
  No cell of these rows narrows 'for every input' (looked for: loops, veiled, ifaces, maps, wideKeys, modest, calm, conditions, laid).
  DERIVED. THE GIVEN ROWS OF THIS SEAT. 7 by the template 'for every input the law returns true; each argument reads behind the call as it read before'; 0 by the template 'total and deterministic' (their statements: YtgbfhkildbhhoaaTotals.lean).
  GIVEN WITH THE SEED: the statements are not yours to turn. If you find one false, say at which input.
  Laid BY PROGRAM, IN A SANDBOX (cutbox-rows.mjs): the forced cells as the released guide's own fill.sh prints them over the translation dcd498bf6afbe306… (all of the seat's roots in one cut). By AI agents, Wed Nov 11 2026. No macro, syntax, notation, axiom, sorry.
-/
import Derived.Test.YtgbfhkildbhhoaaChecked
import GoSem.Claim
import GoSem.ClaimJoined
import GoSem.ClaimMapViews
import Derived.JoinedTies
import Derived.KernelRfl
namespace Go.Proofs.Ytgbfhkildbhhoaa
/- THE CELL 'sum', in the pinned program and in every row, IS THE sha256 OF THE DUMP (.gsa) THAT YtgbfhkildbhhoaaProg.lean LOADS. Nothing in Lean hashes anything: it is a label: what it is worth is what the hold of that sum in a sandbox is worth. -/
noncomputable def Try.pinned : Pinned := { name := "ytgbfhkildbhhoaa", sum := "dcd498bf6afbe30648a5aa74656c3234546aaada5ddb33025026dbc8837ebc9d", checked := Try.checked }
namespace Rows
def none {H : Type} : Left H := { results := [], args := [] }

/-- 'nadirlaw17.AntennaMatchesReference': WHATEVER THE INPUT: true; the input reads as it did. -/
def antennaMatchesReferenceSpec : ChangeSpec := { name := "antennaMatchesReference", fn := fun _ => fun
  | [d1, d2, d3, d4, d5, d6, d7, d8, d9, d10, d11, d12] => { results := [.lit (.bool true)], args := [d1, d2, d3, d4, d5, d6, d7, d8, d9, d10, d11, d12] }
  | _ => none }
def antennaMatchesReferenceRow : OpenClaim := { program := "ytgbfhkildbhhoaa", sum := "dcd498bf6afbe30648a5aa74656c3234546aaada5ddb33025026dbc8837ebc9d", func := "nadir/nadirlaw17.AntennaMatchesReference", spec := "antennaMatchesReference", unfollowed := true, recurses := true, apart := false }
def AntennaMatchesReferenceSaid : Prop := antennaMatchesReferenceRow.holds Try.pinned (OpenSpec.ofChange antennaMatchesReferenceSpec)

/-- ITS FALSE NEIGHBOUR: 'it returns false'. Refute it at one input. -/
def antennaMatchesReferenceWrong : ChangeSpec := { name := "antennaMatchesReference", fn := fun _ => fun
  | [d1, d2, d3, d4, d5, d6, d7, d8, d9, d10, d11, d12] => { results := [.lit (.bool false)], args := [d1, d2, d3, d4, d5, d6, d7, d8, d9, d10, d11, d12] }
  | _ => none }
def AntennaMatchesReferenceWrongFalsely : Prop := antennaMatchesReferenceRow.holds Try.pinned (OpenSpec.ofChange antennaMatchesReferenceWrong)

/-- 'nadirlaw17.AntennaAssigned': WHATEVER THE INPUT: true; the input reads as it did. -/
def antennaAssignedSpec : ChangeSpec := { name := "antennaAssigned", fn := fun _ => fun
  | [d1, d2] => { results := [.lit (.bool true)], args := [d1, d2] }
  | _ => none }
def antennaAssignedRow : OpenClaim := { program := "ytgbfhkildbhhoaa", sum := "dcd498bf6afbe30648a5aa74656c3234546aaada5ddb33025026dbc8837ebc9d", func := "nadir/nadirlaw17.AntennaAssigned", spec := "antennaAssigned", unfollowed := true, recurses := true, apart := false }
def AntennaAssignedSaid : Prop := antennaAssignedRow.holds Try.pinned (OpenSpec.ofChange antennaAssignedSpec)

/-- ITS FALSE NEIGHBOUR: 'it returns false'. Refute it at one input. -/
def antennaAssignedWrong : ChangeSpec := { name := "antennaAssigned", fn := fun _ => fun
  | [d1, d2] => { results := [.lit (.bool false)], args := [d1, d2] }
  | _ => none }
def AntennaAssignedWrongFalsely : Prop := antennaAssignedRow.holds Try.pinned (OpenSpec.ofChange antennaAssignedWrong)

/-- 'nadirlaw17.AntennaRows': WHATEVER THE INPUT: true; the input reads as it did. -/
def antennaRowsSpec : ChangeSpec := { name := "antennaRows", fn := fun _ => fun
  | [d1, d2, d3] => { results := [.lit (.bool true)], args := [d1, d2, d3] }
  | _ => none }
def antennaRowsRow : OpenClaim := { program := "ytgbfhkildbhhoaa", sum := "dcd498bf6afbe30648a5aa74656c3234546aaada5ddb33025026dbc8837ebc9d", func := "nadir/nadirlaw17.AntennaRows", spec := "antennaRows", unfollowed := true, recurses := true, apart := false }
def AntennaRowsSaid : Prop := antennaRowsRow.holds Try.pinned (OpenSpec.ofChange antennaRowsSpec)

/-- ITS FALSE NEIGHBOUR: 'it returns false'. Refute it at one input. -/
def antennaRowsWrong : ChangeSpec := { name := "antennaRows", fn := fun _ => fun
  | [d1, d2, d3] => { results := [.lit (.bool false)], args := [d1, d2, d3] }
  | _ => none }
def AntennaRowsWrongFalsely : Prop := antennaRowsRow.holds Try.pinned (OpenSpec.ofChange antennaRowsWrong)

/-- 'nadirlaw17.AntennaFewest': WHATEVER THE INPUT: true; the input reads as it did. -/
def antennaFewestSpec : ChangeSpec := { name := "antennaFewest", fn := fun _ => fun
  | [d1, d2] => { results := [.lit (.bool true)], args := [d1, d2] }
  | _ => none }
def antennaFewestRow : OpenClaim := { program := "ytgbfhkildbhhoaa", sum := "dcd498bf6afbe30648a5aa74656c3234546aaada5ddb33025026dbc8837ebc9d", func := "nadir/nadirlaw17.AntennaFewest", spec := "antennaFewest", unfollowed := true, recurses := true, apart := false }
def AntennaFewestSaid : Prop := antennaFewestRow.holds Try.pinned (OpenSpec.ofChange antennaFewestSpec)

/-- ITS FALSE NEIGHBOUR: 'it returns false'. Refute it at one input. -/
def antennaFewestWrong : ChangeSpec := { name := "antennaFewest", fn := fun _ => fun
  | [d1, d2] => { results := [.lit (.bool false)], args := [d1, d2] }
  | _ => none }
def AntennaFewestWrongFalsely : Prop := antennaFewestRow.holds Try.pinned (OpenSpec.ofChange antennaFewestWrong)

/-- 'nadirlaw17.AntennaFits': WHATEVER THE INPUT: true; the input reads as it did. -/
def antennaFitsSpec : ChangeSpec := { name := "antennaFits", fn := fun _ => fun
  | [d] => { results := [.lit (.bool true)], args := [d] }
  | _ => none }
def antennaFitsRow : OpenClaim := { program := "ytgbfhkildbhhoaa", sum := "dcd498bf6afbe30648a5aa74656c3234546aaada5ddb33025026dbc8837ebc9d", func := "nadir/nadirlaw17.AntennaFits", spec := "antennaFits", unfollowed := true, recurses := true, apart := false }
def AntennaFitsSaid : Prop := antennaFitsRow.holds Try.pinned (OpenSpec.ofChange antennaFitsSpec)

/-- ITS FALSE NEIGHBOUR: 'it returns false'. Refute it at one input. -/
def antennaFitsWrong : ChangeSpec := { name := "antennaFits", fn := fun _ => fun
  | [d] => { results := [.lit (.bool false)], args := [d] }
  | _ => none }
def AntennaFitsWrongFalsely : Prop := antennaFitsRow.holds Try.pinned (OpenSpec.ofChange antennaFitsWrong)

/-- 'nadirlaw17.AntennaHarmless': WHATEVER THE INPUT: true; the input reads as it did. -/
def antennaHarmlessSpec : ChangeSpec := { name := "antennaHarmless", fn := fun _ => fun
  | [d1, d2, d3] => { results := [.lit (.bool true)], args := [d1, d2, d3] }
  | _ => none }
def antennaHarmlessRow : OpenClaim := { program := "ytgbfhkildbhhoaa", sum := "dcd498bf6afbe30648a5aa74656c3234546aaada5ddb33025026dbc8837ebc9d", func := "nadir/nadirlaw17.AntennaHarmless", spec := "antennaHarmless", unfollowed := true, recurses := true, apart := false }
def AntennaHarmlessSaid : Prop := antennaHarmlessRow.holds Try.pinned (OpenSpec.ofChange antennaHarmlessSpec)

/-- ITS FALSE NEIGHBOUR: 'it returns false'. Refute it at one input. -/
def antennaHarmlessWrong : ChangeSpec := { name := "antennaHarmless", fn := fun _ => fun
  | [d1, d2, d3] => { results := [.lit (.bool false)], args := [d1, d2, d3] }
  | _ => none }
def AntennaHarmlessWrongFalsely : Prop := antennaHarmlessRow.holds Try.pinned (OpenSpec.ofChange antennaHarmlessWrong)

/-- 'nadirlaw17.AntennaMoved': WHATEVER THE INPUT: true; the input reads as it did. -/
def antennaMovedSpec : ChangeSpec := { name := "antennaMoved", fn := fun _ => fun
  | [d1, d2, d3, d4] => { results := [.lit (.bool true)], args := [d1, d2, d3, d4] }
  | _ => none }
def antennaMovedRow : OpenClaim := { program := "ytgbfhkildbhhoaa", sum := "dcd498bf6afbe30648a5aa74656c3234546aaada5ddb33025026dbc8837ebc9d", func := "nadir/nadirlaw17.AntennaMoved", spec := "antennaMoved", unfollowed := true, recurses := true, apart := false }
def AntennaMovedSaid : Prop := antennaMovedRow.holds Try.pinned (OpenSpec.ofChange antennaMovedSpec)

/-- ITS FALSE NEIGHBOUR: 'it returns false'. Refute it at one input. -/
def antennaMovedWrong : ChangeSpec := { name := "antennaMoved", fn := fun _ => fun
  | [d1, d2, d3, d4] => { results := [.lit (.bool false)], args := [d1, d2, d3, d4] }
  | _ => none }
def AntennaMovedWrongFalsely : Prop := antennaMovedRow.holds Try.pinned (OpenSpec.ofChange antennaMovedWrong)

/- THE SECOND FORM. 'bulk': how many values and letters a reading holds, each counted each time it is reached (what is shared counts as often as it is met; a slice's spare places count too). A statement '..UptoSaid' is the law's where the arguments, and the package variables that the reading takes, are together of bulk at most 1048576: NARROWER than '..Said'. Prove '..Said' where nothing that the law and all that it calls make is longer than what came in: it says more and counts as full. Else prove '..UptoSaid'. A law counts once. -/
mutual
def uptoBulk {H : Type} : DataW H → Nat
  | .lit (.string bytes) => bytes.length + 1
  | .lit _ => 1
  | .nil => 1
  | .ptr d => uptoBulk d + 1
  | .slice elems spare => uptoBulkAll elems + uptoBulkAll spare + 1
  | .agg parts => uptoBulkAll parts + 1
  | .iface _ d => uptoBulk d + 1
  | .map entries => uptoBulkEntries entries + 1
  | .held _ => 1
def uptoBulkAll {H : Type} : List (DataW H) → Nat
  | [] => 0
  | d :: r => uptoBulk d + uptoBulkAll r
def uptoBulkEntries {H : Type} : List (Lit × DataW H) → Nat
  | [] => 0
  | x :: r => uptoBulkEntry x + uptoBulkEntries r
def uptoBulkEntry {H : Type} : Lit × DataW H → Nat
  | (.string bytes, d) => bytes.length + uptoBulk d + 1
  | (_, d) => uptoBulk d + 1
 end
def uptoSmall : (H : Type) → List (DataW H) → Bool := fun _ ds => decide (uptoBulkAll ds ≤ 1048576)
def OpenSpec.upto (s : _root_.Go.ChangeSpec) : _root_.Go.OpenSpec := { _root_.Go.OpenSpec.ofChange s with cond := some uptoSmall }

/-- 'nadirlaw17.AntennaMatchesReference', WHERE WHAT IT READS IS OF BULK AT MOST 1048576: true; the input reads as it did. -/
def antennaMatchesReferenceUptoRow : OpenClaim := { program := "ytgbfhkildbhhoaa", sum := "dcd498bf6afbe30648a5aa74656c3234546aaada5ddb33025026dbc8837ebc9d", func := "nadir/nadirlaw17.AntennaMatchesReference", spec := "antennaMatchesReference", unfollowed := true, recurses := true, apart := false, narrowed := true }
def AntennaMatchesReferenceUptoSaid : Prop := antennaMatchesReferenceUptoRow.holds Try.pinned (OpenSpec.upto antennaMatchesReferenceSpec)

/-- 'nadirlaw17.AntennaAssigned', WHERE WHAT IT READS IS OF BULK AT MOST 1048576: true; the input reads as it did. -/
def antennaAssignedUptoRow : OpenClaim := { program := "ytgbfhkildbhhoaa", sum := "dcd498bf6afbe30648a5aa74656c3234546aaada5ddb33025026dbc8837ebc9d", func := "nadir/nadirlaw17.AntennaAssigned", spec := "antennaAssigned", unfollowed := true, recurses := true, apart := false, narrowed := true }
def AntennaAssignedUptoSaid : Prop := antennaAssignedUptoRow.holds Try.pinned (OpenSpec.upto antennaAssignedSpec)

/-- 'nadirlaw17.AntennaRows', WHERE WHAT IT READS IS OF BULK AT MOST 1048576: true; the input reads as it did. -/
def antennaRowsUptoRow : OpenClaim := { program := "ytgbfhkildbhhoaa", sum := "dcd498bf6afbe30648a5aa74656c3234546aaada5ddb33025026dbc8837ebc9d", func := "nadir/nadirlaw17.AntennaRows", spec := "antennaRows", unfollowed := true, recurses := true, apart := false, narrowed := true }
def AntennaRowsUptoSaid : Prop := antennaRowsUptoRow.holds Try.pinned (OpenSpec.upto antennaRowsSpec)

/-- 'nadirlaw17.AntennaFewest', WHERE WHAT IT READS IS OF BULK AT MOST 1048576: true; the input reads as it did. -/
def antennaFewestUptoRow : OpenClaim := { program := "ytgbfhkildbhhoaa", sum := "dcd498bf6afbe30648a5aa74656c3234546aaada5ddb33025026dbc8837ebc9d", func := "nadir/nadirlaw17.AntennaFewest", spec := "antennaFewest", unfollowed := true, recurses := true, apart := false, narrowed := true }
def AntennaFewestUptoSaid : Prop := antennaFewestUptoRow.holds Try.pinned (OpenSpec.upto antennaFewestSpec)

/-- 'nadirlaw17.AntennaFits', WHERE WHAT IT READS IS OF BULK AT MOST 1048576: true; the input reads as it did. -/
def antennaFitsUptoRow : OpenClaim := { program := "ytgbfhkildbhhoaa", sum := "dcd498bf6afbe30648a5aa74656c3234546aaada5ddb33025026dbc8837ebc9d", func := "nadir/nadirlaw17.AntennaFits", spec := "antennaFits", unfollowed := true, recurses := true, apart := false, narrowed := true }
def AntennaFitsUptoSaid : Prop := antennaFitsUptoRow.holds Try.pinned (OpenSpec.upto antennaFitsSpec)

/-- 'nadirlaw17.AntennaHarmless', WHERE WHAT IT READS IS OF BULK AT MOST 1048576: true; the input reads as it did. -/
def antennaHarmlessUptoRow : OpenClaim := { program := "ytgbfhkildbhhoaa", sum := "dcd498bf6afbe30648a5aa74656c3234546aaada5ddb33025026dbc8837ebc9d", func := "nadir/nadirlaw17.AntennaHarmless", spec := "antennaHarmless", unfollowed := true, recurses := true, apart := false, narrowed := true }
def AntennaHarmlessUptoSaid : Prop := antennaHarmlessUptoRow.holds Try.pinned (OpenSpec.upto antennaHarmlessSpec)

/-- 'nadirlaw17.AntennaMoved', WHERE WHAT IT READS IS OF BULK AT MOST 1048576: true; the input reads as it did. -/
def antennaMovedUptoRow : OpenClaim := { program := "ytgbfhkildbhhoaa", sum := "dcd498bf6afbe30648a5aa74656c3234546aaada5ddb33025026dbc8837ebc9d", func := "nadir/nadirlaw17.AntennaMoved", spec := "antennaMoved", unfollowed := true, recurses := true, apart := false, narrowed := true }
def AntennaMovedUptoSaid : Prop := antennaMovedUptoRow.holds Try.pinned (OpenSpec.upto antennaMovedSpec)

end Rows
end Go.Proofs.Ytgbfhkildbhhoaa
