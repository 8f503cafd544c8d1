/-
  No cell of these rows narrows 'for every input' (looked for: loops, veiled, ifaces, maps, wideKeys, modest, calm, conditions, laid).
  DERIVED. THE GIVEN ROWS OF THIS SEAT. 7 by the template 'for every input the law returns true; each argument reads behind the call as it read before'; 0 by the template 'total and deterministic' (their statements: YtlmpmhfbjblhnaaTotals.lean).
  GIVEN WITH THE SEED: the statements are not yours to turn. If you find one false, say at which input.
  Laid BY PROGRAM, IN A SANDBOX (cutbox-rows.mjs): the forced cells as the released guide's own fill.sh prints them over the translation 9787619b3f1ebb03… (all of the seat's roots in one cut). By AI agents, Wed Nov 11 2026. No macro, syntax, notation, axiom, sorry.
-/
import Derived.Test.YtlmpmhfbjblhnaaChecked
import GoSem.Claim
import GoSem.ClaimJoined
import GoSem.ClaimMapViews
import Derived.JoinedTies
import Derived.KernelRfl
namespace Go.Proofs.Ytlmpmhfbjblhnaa
/- THE CELL 'sum', in the pinned program and in every row, IS THE sha256 OF THE DUMP (.gsa) THAT YtlmpmhfbjblhnaaProg.lean LOADS. Nothing in Lean hashes anything: it is a label: what it is worth is what the hold of that sum in a sandbox is worth. -/
noncomputable def Try.pinned : Pinned := { name := "ytlmpmhfbjblhnaa", sum := "9787619b3f1ebb0329003ba44c82cc953ea6c4570e49298c2d5fac3dc1a8efd2", checked := Try.checked }
namespace Rows
def none {H : Type} : Left H := { results := [], args := [] }

/-- 'nadirlaw09.ContactMatchesReference': WHATEVER THE INPUT: true; the input reads as it did. -/
def contactMatchesReferenceSpec : ChangeSpec := { name := "contactMatchesReference", fn := fun _ => fun
  | [d1, d2, d3, d4, d5, d6, d7, d8, d9] => { results := [.lit (.bool true)], args := [d1, d2, d3, d4, d5, d6, d7, d8, d9] }
  | _ => none }
def contactMatchesReferenceRow : OpenClaim := { program := "ytlmpmhfbjblhnaa", sum := "9787619b3f1ebb0329003ba44c82cc953ea6c4570e49298c2d5fac3dc1a8efd2", func := "nadir/nadirlaw09.ContactMatchesReference", spec := "contactMatchesReference", unfollowed := true, recurses := true, apart := false }
def ContactMatchesReferenceSaid : Prop := contactMatchesReferenceRow.holds Try.pinned (OpenSpec.ofChange contactMatchesReferenceSpec)

/-- ITS FALSE NEIGHBOUR: 'it returns false'. Refute it at one input. -/
def contactMatchesReferenceWrong : ChangeSpec := { name := "contactMatchesReference", fn := fun _ => fun
  | [d1, d2, d3, d4, d5, d6, d7, d8, d9] => { results := [.lit (.bool false)], args := [d1, d2, d3, d4, d5, d6, d7, d8, d9] }
  | _ => none }
def ContactMatchesReferenceWrongFalsely : Prop := contactMatchesReferenceRow.holds Try.pinned (OpenSpec.ofChange contactMatchesReferenceWrong)

/-- 'nadirlaw09.ContactPassesMatchReference': WHATEVER THE INPUT: true; the input reads as it did. -/
def contactPassesMatchReferenceSpec : ChangeSpec := { name := "contactPassesMatchReference", fn := fun _ => fun
  | [d1, d2, d3, d4, d5, d6, d7, d8] => { results := [.lit (.bool true)], args := [d1, d2, d3, d4, d5, d6, d7, d8] }
  | _ => none }
def contactPassesMatchReferenceRow : OpenClaim := { program := "ytlmpmhfbjblhnaa", sum := "9787619b3f1ebb0329003ba44c82cc953ea6c4570e49298c2d5fac3dc1a8efd2", func := "nadir/nadirlaw09.ContactPassesMatchReference", spec := "contactPassesMatchReference", unfollowed := true, recurses := true, apart := false }
def ContactPassesMatchReferenceSaid : Prop := contactPassesMatchReferenceRow.holds Try.pinned (OpenSpec.ofChange contactPassesMatchReferenceSpec)

/-- ITS FALSE NEIGHBOUR: 'it returns false'. Refute it at one input. -/
def contactPassesMatchReferenceWrong : ChangeSpec := { name := "contactPassesMatchReference", fn := fun _ => fun
  | [d1, d2, d3, d4, d5, d6, d7, d8] => { results := [.lit (.bool false)], args := [d1, d2, d3, d4, d5, d6, d7, d8] }
  | _ => none }
def ContactPassesMatchReferenceWrongFalsely : Prop := contactPassesMatchReferenceRow.holds Try.pinned (OpenSpec.ofChange contactPassesMatchReferenceWrong)

/-- 'nadirlaw09.ContactSure': WHATEVER THE INPUT: true; the input reads as it did. -/
def contactSureSpec : ChangeSpec := { name := "contactSure", fn := fun _ => fun
  | [d1, d2, d3, d4, d5] => { results := [.lit (.bool true)], args := [d1, d2, d3, d4, d5] }
  | _ => none }
def contactSureRow : OpenClaim := { program := "ytlmpmhfbjblhnaa", sum := "9787619b3f1ebb0329003ba44c82cc953ea6c4570e49298c2d5fac3dc1a8efd2", func := "nadir/nadirlaw09.ContactSure", spec := "contactSure", unfollowed := true, recurses := true, apart := false }
def ContactSureSaid : Prop := contactSureRow.holds Try.pinned (OpenSpec.ofChange contactSureSpec)

/-- ITS FALSE NEIGHBOUR: 'it returns false'. Refute it at one input. -/
def contactSureWrong : ChangeSpec := { name := "contactSure", fn := fun _ => fun
  | [d1, d2, d3, d4, d5] => { results := [.lit (.bool false)], args := [d1, d2, d3, d4, d5] }
  | _ => none }
def ContactSureWrongFalsely : Prop := contactSureRow.holds Try.pinned (OpenSpec.ofChange contactSureWrong)

/-- 'nadirlaw09.ContactDivides': WHATEVER THE INPUT: true; the input reads as it did. -/
def contactDividesSpec : ChangeSpec := { name := "contactDivides", fn := fun _ => fun
  | [d1, d2, d3, d4, d5] => { results := [.lit (.bool true)], args := [d1, d2, d3, d4, d5] }
  | _ => none }
def contactDividesRow : OpenClaim := { program := "ytlmpmhfbjblhnaa", sum := "9787619b3f1ebb0329003ba44c82cc953ea6c4570e49298c2d5fac3dc1a8efd2", func := "nadir/nadirlaw09.ContactDivides", spec := "contactDivides", unfollowed := true, recurses := true, apart := false }
def ContactDividesSaid : Prop := contactDividesRow.holds Try.pinned (OpenSpec.ofChange contactDividesSpec)

/-- ITS FALSE NEIGHBOUR: 'it returns false'. Refute it at one input. -/
def contactDividesWrong : ChangeSpec := { name := "contactDivides", fn := fun _ => fun
  | [d1, d2, d3, d4, d5] => { results := [.lit (.bool false)], args := [d1, d2, d3, d4, d5] }
  | _ => none }
def ContactDividesWrongFalsely : Prop := contactDividesRow.holds Try.pinned (OpenSpec.ofChange contactDividesWrong)

/-- 'nadirlaw09.ContactPlain': WHATEVER THE INPUT: true; the input reads as it did. -/
def contactPlainSpec : ChangeSpec := { name := "contactPlain", fn := fun _ => fun
  | [d1, d2, d3, d4] => { results := [.lit (.bool true)], args := [d1, d2, d3, d4] }
  | _ => none }
def contactPlainRow : OpenClaim := { program := "ytlmpmhfbjblhnaa", sum := "9787619b3f1ebb0329003ba44c82cc953ea6c4570e49298c2d5fac3dc1a8efd2", func := "nadir/nadirlaw09.ContactPlain", spec := "contactPlain", unfollowed := true, recurses := true, apart := false }
def ContactPlainSaid : Prop := contactPlainRow.holds Try.pinned (OpenSpec.ofChange contactPlainSpec)

/-- ITS FALSE NEIGHBOUR: 'it returns false'. Refute it at one input. -/
def contactPlainWrong : ChangeSpec := { name := "contactPlain", fn := fun _ => fun
  | [d1, d2, d3, d4] => { results := [.lit (.bool false)], args := [d1, d2, d3, d4] }
  | _ => none }
def ContactPlainWrongFalsely : Prop := contactPlainRow.holds Try.pinned (OpenSpec.ofChange contactPlainWrong)

/-- 'nadirlaw09.ContactReach': WHATEVER THE INPUT: true; the input reads as it did. -/
def contactReachSpec : ChangeSpec := { name := "contactReach", fn := fun _ => fun
  | [d1, d2, d3, d4, d5, d6] => { results := [.lit (.bool true)], args := [d1, d2, d3, d4, d5, d6] }
  | _ => none }
def contactReachRow : OpenClaim := { program := "ytlmpmhfbjblhnaa", sum := "9787619b3f1ebb0329003ba44c82cc953ea6c4570e49298c2d5fac3dc1a8efd2", func := "nadir/nadirlaw09.ContactReach", spec := "contactReach", unfollowed := true, recurses := true, apart := false }
def ContactReachSaid : Prop := contactReachRow.holds Try.pinned (OpenSpec.ofChange contactReachSpec)

/-- ITS FALSE NEIGHBOUR: 'it returns false'. Refute it at one input. -/
def contactReachWrong : ChangeSpec := { name := "contactReach", fn := fun _ => fun
  | [d1, d2, d3, d4, d5, d6] => { results := [.lit (.bool false)], args := [d1, d2, d3, d4, d5, d6] }
  | _ => none }
def ContactReachWrongFalsely : Prop := contactReachRow.holds Try.pinned (OpenSpec.ofChange contactReachWrong)

/-- 'nadirlaw09.ContactTogether': WHATEVER THE INPUT: true; the input reads as it did. -/
def contactTogetherSpec : ChangeSpec := { name := "contactTogether", fn := fun _ => fun
  | [d1, d2, d3, d4, d5] => { results := [.lit (.bool true)], args := [d1, d2, d3, d4, d5] }
  | _ => none }
def contactTogetherRow : OpenClaim := { program := "ytlmpmhfbjblhnaa", sum := "9787619b3f1ebb0329003ba44c82cc953ea6c4570e49298c2d5fac3dc1a8efd2", func := "nadir/nadirlaw09.ContactTogether", spec := "contactTogether", unfollowed := true, recurses := true, apart := false }
def ContactTogetherSaid : Prop := contactTogetherRow.holds Try.pinned (OpenSpec.ofChange contactTogetherSpec)

/-- ITS FALSE NEIGHBOUR: 'it returns false'. Refute it at one input. -/
def contactTogetherWrong : ChangeSpec := { name := "contactTogether", fn := fun _ => fun
  | [d1, d2, d3, d4, d5] => { results := [.lit (.bool false)], args := [d1, d2, d3, d4, d5] }
  | _ => none }
def ContactTogetherWrongFalsely : Prop := contactTogetherRow.holds Try.pinned (OpenSpec.ofChange contactTogetherWrong)

/- THE SECOND FORM. 'bulk': how many values and letters a reading holds, each counted each time it is reached (what is shared counts as often as it is met; a slice's spare places count too). A statement '..UptoSaid' is the law's where the arguments, and the package variables that the reading takes, are together of bulk at most 1048576: NARROWER than '..Said'. Prove '..Said' where nothing that the law and all that it calls make is longer than what came in: it says more and counts as full. Else prove '..UptoSaid'. A law counts once. -/
mutual
def uptoBulk {H : Type} : DataW H → Nat
  | .lit (.string bytes) => bytes.length + 1
  | .lit _ => 1
  | .nil => 1
  | .ptr d => uptoBulk d + 1
  | .slice elems spare => uptoBulkAll elems + uptoBulkAll spare + 1
  | .agg parts => uptoBulkAll parts + 1
  | .iface _ d => uptoBulk d + 1
  | .map entries => uptoBulkEntries entries + 1
  | .held _ => 1
def uptoBulkAll {H : Type} : List (DataW H) → Nat
  | [] => 0
  | d :: r => uptoBulk d + uptoBulkAll r
def uptoBulkEntries {H : Type} : List (Lit × DataW H) → Nat
  | [] => 0
  | x :: r => uptoBulkEntry x + uptoBulkEntries r
def uptoBulkEntry {H : Type} : Lit × DataW H → Nat
  | (.string bytes, d) => bytes.length + uptoBulk d + 1
  | (_, d) => uptoBulk d + 1
 end
def uptoSmall : (H : Type) → List (DataW H) → Bool := fun _ ds => decide (uptoBulkAll ds ≤ 1048576)
def OpenSpec.upto (s : _root_.Go.ChangeSpec) : _root_.Go.OpenSpec := { _root_.Go.OpenSpec.ofChange s with cond := some uptoSmall }

/-- 'nadirlaw09.ContactMatchesReference', WHERE WHAT IT READS IS OF BULK AT MOST 1048576: true; the input reads as it did. -/
def contactMatchesReferenceUptoRow : OpenClaim := { program := "ytlmpmhfbjblhnaa", sum := "9787619b3f1ebb0329003ba44c82cc953ea6c4570e49298c2d5fac3dc1a8efd2", func := "nadir/nadirlaw09.ContactMatchesReference", spec := "contactMatchesReference", unfollowed := true, recurses := true, apart := false, narrowed := true }
def ContactMatchesReferenceUptoSaid : Prop := contactMatchesReferenceUptoRow.holds Try.pinned (OpenSpec.upto contactMatchesReferenceSpec)

/-- 'nadirlaw09.ContactPassesMatchReference', WHERE WHAT IT READS IS OF BULK AT MOST 1048576: true; the input reads as it did. -/
def contactPassesMatchReferenceUptoRow : OpenClaim := { program := "ytlmpmhfbjblhnaa", sum := "9787619b3f1ebb0329003ba44c82cc953ea6c4570e49298c2d5fac3dc1a8efd2", func := "nadir/nadirlaw09.ContactPassesMatchReference", spec := "contactPassesMatchReference", unfollowed := true, recurses := true, apart := false, narrowed := true }
def ContactPassesMatchReferenceUptoSaid : Prop := contactPassesMatchReferenceUptoRow.holds Try.pinned (OpenSpec.upto contactPassesMatchReferenceSpec)

/-- 'nadirlaw09.ContactSure', WHERE WHAT IT READS IS OF BULK AT MOST 1048576: true; the input reads as it did. -/
def contactSureUptoRow : OpenClaim := { program := "ytlmpmhfbjblhnaa", sum := "9787619b3f1ebb0329003ba44c82cc953ea6c4570e49298c2d5fac3dc1a8efd2", func := "nadir/nadirlaw09.ContactSure", spec := "contactSure", unfollowed := true, recurses := true, apart := false, narrowed := true }
def ContactSureUptoSaid : Prop := contactSureUptoRow.holds Try.pinned (OpenSpec.upto contactSureSpec)

/-- 'nadirlaw09.ContactDivides', WHERE WHAT IT READS IS OF BULK AT MOST 1048576: true; the input reads as it did. -/
def contactDividesUptoRow : OpenClaim := { program := "ytlmpmhfbjblhnaa", sum := "9787619b3f1ebb0329003ba44c82cc953ea6c4570e49298c2d5fac3dc1a8efd2", func := "nadir/nadirlaw09.ContactDivides", spec := "contactDivides", unfollowed := true, recurses := true, apart := false, narrowed := true }
def ContactDividesUptoSaid : Prop := contactDividesUptoRow.holds Try.pinned (OpenSpec.upto contactDividesSpec)

/-- 'nadirlaw09.ContactPlain', WHERE WHAT IT READS IS OF BULK AT MOST 1048576: true; the input reads as it did. -/
def contactPlainUptoRow : OpenClaim := { program := "ytlmpmhfbjblhnaa", sum := "9787619b3f1ebb0329003ba44c82cc953ea6c4570e49298c2d5fac3dc1a8efd2", func := "nadir/nadirlaw09.ContactPlain", spec := "contactPlain", unfollowed := true, recurses := true, apart := false, narrowed := true }
def ContactPlainUptoSaid : Prop := contactPlainUptoRow.holds Try.pinned (OpenSpec.upto contactPlainSpec)

/-- 'nadirlaw09.ContactReach', WHERE WHAT IT READS IS OF BULK AT MOST 1048576: true; the input reads as it did. -/
def contactReachUptoRow : OpenClaim := { program := "ytlmpmhfbjblhnaa", sum := "9787619b3f1ebb0329003ba44c82cc953ea6c4570e49298c2d5fac3dc1a8efd2", func := "nadir/nadirlaw09.ContactReach", spec := "contactReach", unfollowed := true, recurses := true, apart := false, narrowed := true }
def ContactReachUptoSaid : Prop := contactReachUptoRow.holds Try.pinned (OpenSpec.upto contactReachSpec)

/-- 'nadirlaw09.ContactTogether', WHERE WHAT IT READS IS OF BULK AT MOST 1048576: true; the input reads as it did. -/
def contactTogetherUptoRow : OpenClaim := { program := "ytlmpmhfbjblhnaa", sum := "9787619b3f1ebb0329003ba44c82cc953ea6c4570e49298c2d5fac3dc1a8efd2", func := "nadir/nadirlaw09.ContactTogether", spec := "contactTogether", unfollowed := true, recurses := true, apart := false, narrowed := true }
def ContactTogetherUptoSaid : Prop := contactTogetherUptoRow.holds Try.pinned (OpenSpec.upto contactTogetherSpec)

end Rows
end Go.Proofs.Ytlmpmhfbjblhnaa
