/-
  No cell of these rows narrows 'for every input' (looked for: loops, veiled, ifaces, maps, wideKeys, modest, calm, conditions, laid).
  DERIVED. THE GIVEN ROWS OF THIS SEAT. 7 by the template 'for every input the law returns true; each argument reads behind the call as it read before'; 0 by the template 'total and deterministic' (their statements: YtmlabgmigakcbaaTotals.lean).
  GIVEN WITH THE SEED: the statements are not yours to turn. If you find one false, say at which input.
  Laid BY PROGRAM, IN A SANDBOX (cutbox-rows.mjs): the forced cells as the released guide's own fill.sh prints them over the translation 41fed0c8ebe0ddb5… (all of the seat's roots in one cut). By AI agents, Wed Nov 11 2026. No macro, syntax, notation, axiom, sorry.
-/
import Derived.Test.YtmlabgmigakcbaaChecked
import GoSem.Claim
import GoSem.ClaimJoined
import GoSem.ClaimMapViews
import Derived.JoinedTies
import Derived.KernelRfl
namespace Go.Proofs.Ytmlabgmigakcbaa
/- THE CELL 'sum', in the pinned program and in every row, IS THE sha256 OF THE DUMP (.gsa) THAT YtmlabgmigakcbaaProg.lean LOADS. Nothing in Lean hashes anything: it is a label: what it is worth is what the hold of that sum in a sandbox is worth. -/
noncomputable def Try.pinned : Pinned := { name := "ytmlabgmigakcbaa", sum := "41fed0c8ebe0ddb53a900b2ed2a4a7d0f01081e3a30b627773650f7c028134cf", checked := Try.checked }
namespace Rows
def none {H : Type} : Left H := { results := [], args := [] }

/-- 'nadirlaw30.ReceiptMatchesReference': WHATEVER THE INPUT: true; the input reads as it did. -/
def receiptMatchesReferenceSpec : ChangeSpec := { name := "receiptMatchesReference", fn := fun _ => fun
  | [d1, d2, d3, d4, d5, d6] => { results := [.lit (.bool true)], args := [d1, d2, d3, d4, d5, d6] }
  | _ => none }
def receiptMatchesReferenceRow : OpenClaim := { program := "ytmlabgmigakcbaa", sum := "41fed0c8ebe0ddb53a900b2ed2a4a7d0f01081e3a30b627773650f7c028134cf", func := "nadir/nadirlaw30.ReceiptMatchesReference", spec := "receiptMatchesReference", unfollowed := true, recurses := true, apart := false }
def ReceiptMatchesReferenceSaid : Prop := receiptMatchesReferenceRow.holds Try.pinned (OpenSpec.ofChange receiptMatchesReferenceSpec)

/-- ITS FALSE NEIGHBOUR: 'it returns false'. Refute it at one input. -/
def receiptMatchesReferenceWrong : ChangeSpec := { name := "receiptMatchesReference", fn := fun _ => fun
  | [d1, d2, d3, d4, d5, d6] => { results := [.lit (.bool false)], args := [d1, d2, d3, d4, d5, d6] }
  | _ => none }
def ReceiptMatchesReferenceWrongFalsely : Prop := receiptMatchesReferenceRow.holds Try.pinned (OpenSpec.ofChange receiptMatchesReferenceWrong)

/-- 'nadirlaw30.ReceiptWritesMatchReference': WHATEVER THE INPUT: true; the input reads as it did. -/
def receiptWritesMatchReferenceSpec : ChangeSpec := { name := "receiptWritesMatchReference", fn := fun _ => fun
  | [d1, d2, d3, d4] => { results := [.lit (.bool true)], args := [d1, d2, d3, d4] }
  | _ => none }
def receiptWritesMatchReferenceRow : OpenClaim := { program := "ytmlabgmigakcbaa", sum := "41fed0c8ebe0ddb53a900b2ed2a4a7d0f01081e3a30b627773650f7c028134cf", func := "nadir/nadirlaw30.ReceiptWritesMatchReference", spec := "receiptWritesMatchReference", unfollowed := true, recurses := true, apart := false }
def ReceiptWritesMatchReferenceSaid : Prop := receiptWritesMatchReferenceRow.holds Try.pinned (OpenSpec.ofChange receiptWritesMatchReferenceSpec)

/-- ITS FALSE NEIGHBOUR: 'it returns false'. Refute it at one input. -/
def receiptWritesMatchReferenceWrong : ChangeSpec := { name := "receiptWritesMatchReference", fn := fun _ => fun
  | [d1, d2, d3, d4] => { results := [.lit (.bool false)], args := [d1, d2, d3, d4] }
  | _ => none }
def ReceiptWritesMatchReferenceWrongFalsely : Prop := receiptWritesMatchReferenceRow.holds Try.pinned (OpenSpec.ofChange receiptWritesMatchReferenceWrong)

/-- 'nadirlaw30.ReceiptTruth': WHATEVER THE INPUT: true; the input reads as it did. -/
def receiptTruthSpec : ChangeSpec := { name := "receiptTruth", fn := fun _ => fun
  | [d1, d2, d3, d4] => { results := [.lit (.bool true)], args := [d1, d2, d3, d4] }
  | _ => none }
def receiptTruthRow : OpenClaim := { program := "ytmlabgmigakcbaa", sum := "41fed0c8ebe0ddb53a900b2ed2a4a7d0f01081e3a30b627773650f7c028134cf", func := "nadir/nadirlaw30.ReceiptTruth", spec := "receiptTruth", unfollowed := true, recurses := true, apart := false }
def ReceiptTruthSaid : Prop := receiptTruthRow.holds Try.pinned (OpenSpec.ofChange receiptTruthSpec)

/-- ITS FALSE NEIGHBOUR: 'it returns false'. Refute it at one input. -/
def receiptTruthWrong : ChangeSpec := { name := "receiptTruth", fn := fun _ => fun
  | [d1, d2, d3, d4] => { results := [.lit (.bool false)], args := [d1, d2, d3, d4] }
  | _ => none }
def ReceiptTruthWrongFalsely : Prop := receiptTruthRow.holds Try.pinned (OpenSpec.ofChange receiptTruthWrong)

/-- 'nadirlaw30.ReceiptLog': WHATEVER THE INPUT: true; the input reads as it did. -/
def receiptLogSpec : ChangeSpec := { name := "receiptLog", fn := fun _ => fun
  | [d1, d2] => { results := [.lit (.bool true)], args := [d1, d2] }
  | _ => none }
def receiptLogRow : OpenClaim := { program := "ytmlabgmigakcbaa", sum := "41fed0c8ebe0ddb53a900b2ed2a4a7d0f01081e3a30b627773650f7c028134cf", func := "nadir/nadirlaw30.ReceiptLog", spec := "receiptLog", unfollowed := true, recurses := true, apart := false }
def ReceiptLogSaid : Prop := receiptLogRow.holds Try.pinned (OpenSpec.ofChange receiptLogSpec)

/-- ITS FALSE NEIGHBOUR: 'it returns false'. Refute it at one input. -/
def receiptLogWrong : ChangeSpec := { name := "receiptLog", fn := fun _ => fun
  | [d1, d2] => { results := [.lit (.bool false)], args := [d1, d2] }
  | _ => none }
def ReceiptLogWrongFalsely : Prop := receiptLogRow.holds Try.pinned (OpenSpec.ofChange receiptLogWrong)

/-- 'nadirlaw30.ReceiptMore': WHATEVER THE INPUT: true; the input reads as it did. -/
def receiptMoreSpec : ChangeSpec := { name := "receiptMore", fn := fun _ => fun
  | [d1, d2, d3, d4] => { results := [.lit (.bool true)], args := [d1, d2, d3, d4] }
  | _ => none }
def receiptMoreRow : OpenClaim := { program := "ytmlabgmigakcbaa", sum := "41fed0c8ebe0ddb53a900b2ed2a4a7d0f01081e3a30b627773650f7c028134cf", func := "nadir/nadirlaw30.ReceiptMore", spec := "receiptMore", unfollowed := true, recurses := true, apart := false }
def ReceiptMoreSaid : Prop := receiptMoreRow.holds Try.pinned (OpenSpec.ofChange receiptMoreSpec)

/-- ITS FALSE NEIGHBOUR: 'it returns false'. Refute it at one input. -/
def receiptMoreWrong : ChangeSpec := { name := "receiptMore", fn := fun _ => fun
  | [d1, d2, d3, d4] => { results := [.lit (.bool false)], args := [d1, d2, d3, d4] }
  | _ => none }
def ReceiptMoreWrongFalsely : Prop := receiptMoreRow.holds Try.pinned (OpenSpec.ofChange receiptMoreWrong)

/-- 'nadirlaw30.ReceiptStrange': WHATEVER THE INPUT: true; the input reads as it did. -/
def receiptStrangeSpec : ChangeSpec := { name := "receiptStrange", fn := fun _ => fun
  | [d1, d2, d3, d4, d5, d6] => { results := [.lit (.bool true)], args := [d1, d2, d3, d4, d5, d6] }
  | _ => none }
def receiptStrangeRow : OpenClaim := { program := "ytmlabgmigakcbaa", sum := "41fed0c8ebe0ddb53a900b2ed2a4a7d0f01081e3a30b627773650f7c028134cf", func := "nadir/nadirlaw30.ReceiptStrange", spec := "receiptStrange", unfollowed := true, recurses := true, apart := false }
def ReceiptStrangeSaid : Prop := receiptStrangeRow.holds Try.pinned (OpenSpec.ofChange receiptStrangeSpec)

/-- ITS FALSE NEIGHBOUR: 'it returns false'. Refute it at one input. -/
def receiptStrangeWrong : ChangeSpec := { name := "receiptStrange", fn := fun _ => fun
  | [d1, d2, d3, d4, d5, d6] => { results := [.lit (.bool false)], args := [d1, d2, d3, d4, d5, d6] }
  | _ => none }
def ReceiptStrangeWrongFalsely : Prop := receiptStrangeRow.holds Try.pinned (OpenSpec.ofChange receiptStrangeWrong)

/-- 'nadirlaw30.ReceiptNothing': WHATEVER THE INPUT: true; the input reads as it did. -/
def receiptNothingSpec : ChangeSpec := { name := "receiptNothing", fn := fun _ => fun
  | [d1, d2, d3] => { results := [.lit (.bool true)], args := [d1, d2, d3] }
  | _ => none }
def receiptNothingRow : OpenClaim := { program := "ytmlabgmigakcbaa", sum := "41fed0c8ebe0ddb53a900b2ed2a4a7d0f01081e3a30b627773650f7c028134cf", func := "nadir/nadirlaw30.ReceiptNothing", spec := "receiptNothing", unfollowed := true, recurses := true, apart := false }
def ReceiptNothingSaid : Prop := receiptNothingRow.holds Try.pinned (OpenSpec.ofChange receiptNothingSpec)

/-- ITS FALSE NEIGHBOUR: 'it returns false'. Refute it at one input. -/
def receiptNothingWrong : ChangeSpec := { name := "receiptNothing", fn := fun _ => fun
  | [d1, d2, d3] => { results := [.lit (.bool false)], args := [d1, d2, d3] }
  | _ => none }
def ReceiptNothingWrongFalsely : Prop := receiptNothingRow.holds Try.pinned (OpenSpec.ofChange receiptNothingWrong)

/- THE SECOND FORM. 'bulk': how many values and letters a reading holds, each counted each time it is reached (what is shared counts as often as it is met; a slice's spare places count too). A statement '..UptoSaid' is the law's where the arguments, and the package variables that the reading takes, are together of bulk at most 1048576: NARROWER than '..Said'. Prove '..Said' where nothing that the law and all that it calls make is longer than what came in: it says more and counts as full. Else prove '..UptoSaid'. A law counts once. -/
mutual
def uptoBulk {H : Type} : DataW H → Nat
  | .lit (.string bytes) => bytes.length + 1
  | .lit _ => 1
  | .nil => 1
  | .ptr d => uptoBulk d + 1
  | .slice elems spare => uptoBulkAll elems + uptoBulkAll spare + 1
  | .agg parts => uptoBulkAll parts + 1
  | .iface _ d => uptoBulk d + 1
  | .map entries => uptoBulkEntries entries + 1
  | .held _ => 1
def uptoBulkAll {H : Type} : List (DataW H) → Nat
  | [] => 0
  | d :: r => uptoBulk d + uptoBulkAll r
def uptoBulkEntries {H : Type} : List (Lit × DataW H) → Nat
  | [] => 0
  | x :: r => uptoBulkEntry x + uptoBulkEntries r
def uptoBulkEntry {H : Type} : Lit × DataW H → Nat
  | (.string bytes, d) => bytes.length + uptoBulk d + 1
  | (_, d) => uptoBulk d + 1
 end
def uptoSmall : (H : Type) → List (DataW H) → Bool := fun _ ds => decide (uptoBulkAll ds ≤ 1048576)
def OpenSpec.upto (s : _root_.Go.ChangeSpec) : _root_.Go.OpenSpec := { _root_.Go.OpenSpec.ofChange s with cond := some uptoSmall }

/-- 'nadirlaw30.ReceiptMatchesReference', WHERE WHAT IT READS IS OF BULK AT MOST 1048576: true; the input reads as it did. -/
def receiptMatchesReferenceUptoRow : OpenClaim := { program := "ytmlabgmigakcbaa", sum := "41fed0c8ebe0ddb53a900b2ed2a4a7d0f01081e3a30b627773650f7c028134cf", func := "nadir/nadirlaw30.ReceiptMatchesReference", spec := "receiptMatchesReference", unfollowed := true, recurses := true, apart := false, narrowed := true }
def ReceiptMatchesReferenceUptoSaid : Prop := receiptMatchesReferenceUptoRow.holds Try.pinned (OpenSpec.upto receiptMatchesReferenceSpec)

/-- 'nadirlaw30.ReceiptWritesMatchReference', WHERE WHAT IT READS IS OF BULK AT MOST 1048576: true; the input reads as it did. -/
def receiptWritesMatchReferenceUptoRow : OpenClaim := { program := "ytmlabgmigakcbaa", sum := "41fed0c8ebe0ddb53a900b2ed2a4a7d0f01081e3a30b627773650f7c028134cf", func := "nadir/nadirlaw30.ReceiptWritesMatchReference", spec := "receiptWritesMatchReference", unfollowed := true, recurses := true, apart := false, narrowed := true }
def ReceiptWritesMatchReferenceUptoSaid : Prop := receiptWritesMatchReferenceUptoRow.holds Try.pinned (OpenSpec.upto receiptWritesMatchReferenceSpec)

/-- 'nadirlaw30.ReceiptTruth', WHERE WHAT IT READS IS OF BULK AT MOST 1048576: true; the input reads as it did. -/
def receiptTruthUptoRow : OpenClaim := { program := "ytmlabgmigakcbaa", sum := "41fed0c8ebe0ddb53a900b2ed2a4a7d0f01081e3a30b627773650f7c028134cf", func := "nadir/nadirlaw30.ReceiptTruth", spec := "receiptTruth", unfollowed := true, recurses := true, apart := false, narrowed := true }
def ReceiptTruthUptoSaid : Prop := receiptTruthUptoRow.holds Try.pinned (OpenSpec.upto receiptTruthSpec)

/-- 'nadirlaw30.ReceiptLog', WHERE WHAT IT READS IS OF BULK AT MOST 1048576: true; the input reads as it did. -/
def receiptLogUptoRow : OpenClaim := { program := "ytmlabgmigakcbaa", sum := "41fed0c8ebe0ddb53a900b2ed2a4a7d0f01081e3a30b627773650f7c028134cf", func := "nadir/nadirlaw30.ReceiptLog", spec := "receiptLog", unfollowed := true, recurses := true, apart := false, narrowed := true }
def ReceiptLogUptoSaid : Prop := receiptLogUptoRow.holds Try.pinned (OpenSpec.upto receiptLogSpec)

/-- 'nadirlaw30.ReceiptMore', WHERE WHAT IT READS IS OF BULK AT MOST 1048576: true; the input reads as it did. -/
def receiptMoreUptoRow : OpenClaim := { program := "ytmlabgmigakcbaa", sum := "41fed0c8ebe0ddb53a900b2ed2a4a7d0f01081e3a30b627773650f7c028134cf", func := "nadir/nadirlaw30.ReceiptMore", spec := "receiptMore", unfollowed := true, recurses := true, apart := false, narrowed := true }
def ReceiptMoreUptoSaid : Prop := receiptMoreUptoRow.holds Try.pinned (OpenSpec.upto receiptMoreSpec)

/-- 'nadirlaw30.ReceiptStrange', WHERE WHAT IT READS IS OF BULK AT MOST 1048576: true; the input reads as it did. -/
def receiptStrangeUptoRow : OpenClaim := { program := "ytmlabgmigakcbaa", sum := "41fed0c8ebe0ddb53a900b2ed2a4a7d0f01081e3a30b627773650f7c028134cf", func := "nadir/nadirlaw30.ReceiptStrange", spec := "receiptStrange", unfollowed := true, recurses := true, apart := false, narrowed := true }
def ReceiptStrangeUptoSaid : Prop := receiptStrangeUptoRow.holds Try.pinned (OpenSpec.upto receiptStrangeSpec)

/-- 'nadirlaw30.ReceiptNothing', WHERE WHAT IT READS IS OF BULK AT MOST 1048576: true; the input reads as it did. -/
def receiptNothingUptoRow : OpenClaim := { program := "ytmlabgmigakcbaa", sum := "41fed0c8ebe0ddb53a900b2ed2a4a7d0f01081e3a30b627773650f7c028134cf", func := "nadir/nadirlaw30.ReceiptNothing", spec := "receiptNothing", unfollowed := true, recurses := true, apart := false, narrowed := true }
def ReceiptNothingUptoSaid : Prop := receiptNothingUptoRow.holds Try.pinned (OpenSpec.upto receiptNothingSpec)

end Rows
end Go.Proofs.Ytmlabgmigakcbaa
