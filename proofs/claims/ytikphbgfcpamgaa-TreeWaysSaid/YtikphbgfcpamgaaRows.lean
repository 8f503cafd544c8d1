/-
  No cell of these rows narrows 'for every input' (looked for: loops, veiled, ifaces, maps, wideKeys, modest, calm, conditions, laid).
  DERIVED. THE GIVEN ROWS OF THIS SEAT. 6 by the template 'for every input the law returns true; each argument reads behind the call as it read before'; 0 by the template 'total and deterministic' (their statements: YtikphbgfcpamgaaTotals.lean).
  GIVEN WITH THE SEED: the statements are not yours to turn. If you find one false, say at which input.
  Laid BY PROGRAM, IN A SANDBOX (cutbox-rows.mjs): the forced cells as the released guide's own fill.sh prints them over the translation fd822fbb2ebfa733… (all of the seat's roots in one cut). By AI agents, Wed Nov 11 2026. No macro, syntax, notation, axiom, sorry.
-/
import Derived.Test.YtikphbgfcpamgaaChecked
import GoSem.Claim
import GoSem.ClaimJoined
import GoSem.ClaimMapViews
import Derived.JoinedTies
import Derived.KernelRfl
namespace Go.Proofs.Ytikphbgfcpamgaa
/- THE CELL 'sum', in the pinned program and in every row, IS THE sha256 OF THE DUMP (.gsa) THAT YtikphbgfcpamgaaProg.lean LOADS. Nothing in Lean hashes anything: it is a label: what it is worth is what the hold of that sum in a sandbox is worth. -/
noncomputable def Try.pinned : Pinned := { name := "ytikphbgfcpamgaa", sum := "fd822fbb2ebfa7332c67004bf35ca463380db97bade28e170bcdbb357a4586c8", checked := Try.checked }
namespace Rows
def none {H : Type} : Left H := { results := [], args := [] }

/-- 'nadirlaw20.TreeMatchesReference': WHATEVER THE INPUT: true; the input reads as it did. -/
def treeMatchesReferenceSpec : ChangeSpec := { name := "treeMatchesReference", fn := fun _ => fun
  | [d1, d2, d3, d4, d5, d6, d7, d8, d9, d10] => { results := [.lit (.bool true)], args := [d1, d2, d3, d4, d5, d6, d7, d8, d9, d10] }
  | _ => none }
def treeMatchesReferenceRow : OpenClaim := { program := "ytikphbgfcpamgaa", sum := "fd822fbb2ebfa7332c67004bf35ca463380db97bade28e170bcdbb357a4586c8", func := "nadir/nadirlaw20.TreeMatchesReference", spec := "treeMatchesReference", unfollowed := true, recurses := true, plainKeys := false, apart := false }
def TreeMatchesReferenceSaid : Prop := treeMatchesReferenceRow.holds Try.pinned (OpenSpec.ofChange treeMatchesReferenceSpec)

/-- ITS FALSE NEIGHBOUR: 'it returns false'. Refute it at one input. -/
def treeMatchesReferenceWrong : ChangeSpec := { name := "treeMatchesReference", fn := fun _ => fun
  | [d1, d2, d3, d4, d5, d6, d7, d8, d9, d10] => { results := [.lit (.bool false)], args := [d1, d2, d3, d4, d5, d6, d7, d8, d9, d10] }
  | _ => none }
def TreeMatchesReferenceWrongFalsely : Prop := treeMatchesReferenceRow.holds Try.pinned (OpenSpec.ofChange treeMatchesReferenceWrong)

/-- 'nadirlaw20.TreeSends': WHATEVER THE INPUT: true; the input reads as it did. -/
def treeSendsSpec : ChangeSpec := { name := "treeSends", fn := fun _ => fun
  | [d1, d2] => { results := [.lit (.bool true)], args := [d1, d2] }
  | _ => none }
def treeSendsRow : OpenClaim := { program := "ytikphbgfcpamgaa", sum := "fd822fbb2ebfa7332c67004bf35ca463380db97bade28e170bcdbb357a4586c8", func := "nadir/nadirlaw20.TreeSends", spec := "treeSends", unfollowed := true, recurses := true, plainKeys := false, apart := false }
def TreeSendsSaid : Prop := treeSendsRow.holds Try.pinned (OpenSpec.ofChange treeSendsSpec)

/-- ITS FALSE NEIGHBOUR: 'it returns false'. Refute it at one input. -/
def treeSendsWrong : ChangeSpec := { name := "treeSends", fn := fun _ => fun
  | [d1, d2] => { results := [.lit (.bool false)], args := [d1, d2] }
  | _ => none }
def TreeSendsWrongFalsely : Prop := treeSendsRow.holds Try.pinned (OpenSpec.ofChange treeSendsWrong)

/-- 'nadirlaw20.TreeDelivers': WHATEVER THE INPUT: true; the input reads as it did. -/
def treeDeliversSpec : ChangeSpec := { name := "treeDelivers", fn := fun _ => fun
  | [d1, d2] => { results := [.lit (.bool true)], args := [d1, d2] }
  | _ => none }
def treeDeliversRow : OpenClaim := { program := "ytikphbgfcpamgaa", sum := "fd822fbb2ebfa7332c67004bf35ca463380db97bade28e170bcdbb357a4586c8", func := "nadir/nadirlaw20.TreeDelivers", spec := "treeDelivers", unfollowed := true, recurses := true, plainKeys := false, apart := false }
def TreeDeliversSaid : Prop := treeDeliversRow.holds Try.pinned (OpenSpec.ofChange treeDeliversSpec)

/-- ITS FALSE NEIGHBOUR: 'it returns false'. Refute it at one input. -/
def treeDeliversWrong : ChangeSpec := { name := "treeDelivers", fn := fun _ => fun
  | [d1, d2] => { results := [.lit (.bool false)], args := [d1, d2] }
  | _ => none }
def TreeDeliversWrongFalsely : Prop := treeDeliversRow.holds Try.pinned (OpenSpec.ofChange treeDeliversWrong)

/-- 'nadirlaw20.TreePrunes': WHATEVER THE INPUT: true; the input reads as it did. -/
def treePrunesSpec : ChangeSpec := { name := "treePrunes", fn := fun _ => fun
  | [d1, d2, d3] => { results := [.lit (.bool true)], args := [d1, d2, d3] }
  | _ => none }
def treePrunesRow : OpenClaim := { program := "ytikphbgfcpamgaa", sum := "fd822fbb2ebfa7332c67004bf35ca463380db97bade28e170bcdbb357a4586c8", func := "nadir/nadirlaw20.TreePrunes", spec := "treePrunes", unfollowed := true, recurses := true, plainKeys := false, apart := false }
def TreePrunesSaid : Prop := treePrunesRow.holds Try.pinned (OpenSpec.ofChange treePrunesSpec)

/-- ITS FALSE NEIGHBOUR: 'it returns false'. Refute it at one input. -/
def treePrunesWrong : ChangeSpec := { name := "treePrunes", fn := fun _ => fun
  | [d1, d2, d3] => { results := [.lit (.bool false)], args := [d1, d2, d3] }
  | _ => none }
def TreePrunesWrongFalsely : Prop := treePrunesRow.holds Try.pinned (OpenSpec.ofChange treePrunesWrong)

/-- 'nadirlaw20.TreeWays': WHATEVER THE INPUT: true; the input reads as it did. -/
def treeWaysSpec : ChangeSpec := { name := "treeWays", fn := fun _ => fun
  | [d] => { results := [.lit (.bool true)], args := [d] }
  | _ => none }
def treeWaysRow : OpenClaim := { program := "ytikphbgfcpamgaa", sum := "fd822fbb2ebfa7332c67004bf35ca463380db97bade28e170bcdbb357a4586c8", func := "nadir/nadirlaw20.TreeWays", spec := "treeWays", unfollowed := true, recurses := true, plainKeys := false, apart := false }
def TreeWaysSaid : Prop := treeWaysRow.holds Try.pinned (OpenSpec.ofChange treeWaysSpec)

/-- ITS FALSE NEIGHBOUR: 'it returns false'. Refute it at one input. -/
def treeWaysWrong : ChangeSpec := { name := "treeWays", fn := fun _ => fun
  | [d] => { results := [.lit (.bool false)], args := [d] }
  | _ => none }
def TreeWaysWrongFalsely : Prop := treeWaysRow.holds Try.pinned (OpenSpec.ofChange treeWaysWrong)

/-- 'nadirlaw20.TreeApart': WHATEVER THE INPUT: true; the input reads as it did. -/
def treeApartSpec : ChangeSpec := { name := "treeApart", fn := fun _ => fun
  | [d1, d2, d3] => { results := [.lit (.bool true)], args := [d1, d2, d3] }
  | _ => none }
def treeApartRow : OpenClaim := { program := "ytikphbgfcpamgaa", sum := "fd822fbb2ebfa7332c67004bf35ca463380db97bade28e170bcdbb357a4586c8", func := "nadir/nadirlaw20.TreeApart", spec := "treeApart", unfollowed := true, recurses := true, plainKeys := false, apart := false }
def TreeApartSaid : Prop := treeApartRow.holds Try.pinned (OpenSpec.ofChange treeApartSpec)

/-- ITS FALSE NEIGHBOUR: 'it returns false'. Refute it at one input. -/
def treeApartWrong : ChangeSpec := { name := "treeApart", fn := fun _ => fun
  | [d1, d2, d3] => { results := [.lit (.bool false)], args := [d1, d2, d3] }
  | _ => none }
def TreeApartWrongFalsely : Prop := treeApartRow.holds Try.pinned (OpenSpec.ofChange treeApartWrong)

/- THE SECOND FORM. 'bulk': how many values and letters a reading holds, each counted each time it is reached (what is shared counts as often as it is met; a slice's spare places count too). A statement '..UptoSaid' is the law's where the arguments, and the package variables that the reading takes, are together of bulk at most 1048576: NARROWER than '..Said'. Prove '..Said' where nothing that the law and all that it calls make is longer than what came in: it says more and counts as full. Else prove '..UptoSaid'. A law counts once. -/
mutual
def uptoBulk {H : Type} : DataW H → Nat
  | .lit (.string bytes) => bytes.length + 1
  | .lit _ => 1
  | .nil => 1
  | .ptr d => uptoBulk d + 1
  | .slice elems spare => uptoBulkAll elems + uptoBulkAll spare + 1
  | .agg parts => uptoBulkAll parts + 1
  | .iface _ d => uptoBulk d + 1
  | .map entries => uptoBulkEntries entries + 1
  | .held _ => 1
def uptoBulkAll {H : Type} : List (DataW H) → Nat
  | [] => 0
  | d :: r => uptoBulk d + uptoBulkAll r
def uptoBulkEntries {H : Type} : List (Lit × DataW H) → Nat
  | [] => 0
  | x :: r => uptoBulkEntry x + uptoBulkEntries r
def uptoBulkEntry {H : Type} : Lit × DataW H → Nat
  | (.string bytes, d) => bytes.length + uptoBulk d + 1
  | (_, d) => uptoBulk d + 1
 end
def uptoSmall : (H : Type) → List (DataW H) → Bool := fun _ ds => decide (uptoBulkAll ds ≤ 1048576)
def OpenSpec.upto (s : _root_.Go.ChangeSpec) : _root_.Go.OpenSpec := { _root_.Go.OpenSpec.ofChange s with cond := some uptoSmall }

/-- 'nadirlaw20.TreeMatchesReference', WHERE WHAT IT READS IS OF BULK AT MOST 1048576: true; the input reads as it did. -/
def treeMatchesReferenceUptoRow : OpenClaim := { program := "ytikphbgfcpamgaa", sum := "fd822fbb2ebfa7332c67004bf35ca463380db97bade28e170bcdbb357a4586c8", func := "nadir/nadirlaw20.TreeMatchesReference", spec := "treeMatchesReference", unfollowed := true, recurses := true, plainKeys := false, apart := false, narrowed := true }
def TreeMatchesReferenceUptoSaid : Prop := treeMatchesReferenceUptoRow.holds Try.pinned (OpenSpec.upto treeMatchesReferenceSpec)

/-- 'nadirlaw20.TreeSends', WHERE WHAT IT READS IS OF BULK AT MOST 1048576: true; the input reads as it did. -/
def treeSendsUptoRow : OpenClaim := { program := "ytikphbgfcpamgaa", sum := "fd822fbb2ebfa7332c67004bf35ca463380db97bade28e170bcdbb357a4586c8", func := "nadir/nadirlaw20.TreeSends", spec := "treeSends", unfollowed := true, recurses := true, plainKeys := false, apart := false, narrowed := true }
def TreeSendsUptoSaid : Prop := treeSendsUptoRow.holds Try.pinned (OpenSpec.upto treeSendsSpec)

/-- 'nadirlaw20.TreeDelivers', WHERE WHAT IT READS IS OF BULK AT MOST 1048576: true; the input reads as it did. -/
def treeDeliversUptoRow : OpenClaim := { program := "ytikphbgfcpamgaa", sum := "fd822fbb2ebfa7332c67004bf35ca463380db97bade28e170bcdbb357a4586c8", func := "nadir/nadirlaw20.TreeDelivers", spec := "treeDelivers", unfollowed := true, recurses := true, plainKeys := false, apart := false, narrowed := true }
def TreeDeliversUptoSaid : Prop := treeDeliversUptoRow.holds Try.pinned (OpenSpec.upto treeDeliversSpec)

/-- 'nadirlaw20.TreePrunes', WHERE WHAT IT READS IS OF BULK AT MOST 1048576: true; the input reads as it did. -/
def treePrunesUptoRow : OpenClaim := { program := "ytikphbgfcpamgaa", sum := "fd822fbb2ebfa7332c67004bf35ca463380db97bade28e170bcdbb357a4586c8", func := "nadir/nadirlaw20.TreePrunes", spec := "treePrunes", unfollowed := true, recurses := true, plainKeys := false, apart := false, narrowed := true }
def TreePrunesUptoSaid : Prop := treePrunesUptoRow.holds Try.pinned (OpenSpec.upto treePrunesSpec)

/-- 'nadirlaw20.TreeWays', WHERE WHAT IT READS IS OF BULK AT MOST 1048576: true; the input reads as it did. -/
def treeWaysUptoRow : OpenClaim := { program := "ytikphbgfcpamgaa", sum := "fd822fbb2ebfa7332c67004bf35ca463380db97bade28e170bcdbb357a4586c8", func := "nadir/nadirlaw20.TreeWays", spec := "treeWays", unfollowed := true, recurses := true, plainKeys := false, apart := false, narrowed := true }
def TreeWaysUptoSaid : Prop := treeWaysUptoRow.holds Try.pinned (OpenSpec.upto treeWaysSpec)

/-- 'nadirlaw20.TreeApart', WHERE WHAT IT READS IS OF BULK AT MOST 1048576: true; the input reads as it did. -/
def treeApartUptoRow : OpenClaim := { program := "ytikphbgfcpamgaa", sum := "fd822fbb2ebfa7332c67004bf35ca463380db97bade28e170bcdbb357a4586c8", func := "nadir/nadirlaw20.TreeApart", spec := "treeApart", unfollowed := true, recurses := true, plainKeys := false, apart := false, narrowed := true }
def TreeApartUptoSaid : Prop := treeApartUptoRow.holds Try.pinned (OpenSpec.upto treeApartSpec)

end Rows
end Go.Proofs.Ytikphbgfcpamgaa
