/-
  No cell of these rows narrows 'for every input' (looked for: loops, veiled, ifaces, maps, wideKeys, modest, calm, conditions, laid).
  DERIVED. THE GIVEN ROWS OF THIS SEAT. 7 by the template 'for every input the law returns true; each argument reads behind the call as it read before'; 0 by the template 'total and deterministic' (their statements: YtpddnkefggaigaaTotals.lean).
  GIVEN WITH THE SEED: the statements are not yours to turn. If you find one false, say at which input.
  Laid BY PROGRAM, IN A SANDBOX (cutbox-rows.mjs): the forced cells as the released guide's own fill.sh prints them over the translation 6de71203d80d3437… (all of the seat's roots in one cut). By AI agents, Wed Nov 11 2026. No macro, syntax, notation, axiom, sorry.
-/
import Derived.Test.YtpddnkefggaigaaChecked
import GoSem.Claim
import GoSem.ClaimJoined
import GoSem.ClaimMapViews
import Derived.JoinedTies
import Derived.KernelRfl
namespace Go.Proofs.Ytpddnkefggaigaa
/- THE CELL 'sum', in the pinned program and in every row, IS THE sha256 OF THE DUMP (.gsa) THAT YtpddnkefggaigaaProg.lean LOADS. Nothing in Lean hashes anything: it is a label: what it is worth is what the hold of that sum in a sandbox is worth. -/
noncomputable def Try.pinned : Pinned := { name := "ytpddnkefggaigaa", sum := "6de71203d80d34376ae8f159aea5868beff93a90dcdde3028f5a6baa582f1ebb", checked := Try.checked }
namespace Rows
def none {H : Type} : Left H := { results := [], args := [] }

/-- 'nadirlaw25.QuotaMatchesReference': WHATEVER THE INPUT: true; the input reads as it did. -/
def quotaMatchesReferenceSpec : ChangeSpec := { name := "quotaMatchesReference", fn := fun _ => fun
  | [d1, d2, d3, d4, d5, d6, d7, d8] => { results := [.lit (.bool true)], args := [d1, d2, d3, d4, d5, d6, d7, d8] }
  | _ => none }
def quotaMatchesReferenceRow : OpenClaim := { program := "ytpddnkefggaigaa", sum := "6de71203d80d34376ae8f159aea5868beff93a90dcdde3028f5a6baa582f1ebb", func := "nadir/nadirlaw25.QuotaMatchesReference", spec := "quotaMatchesReference", inPlace := ["slices.overlaps[nadir/api.Loan]"], unfollowed := true, recurses := true, apart := false }
def QuotaMatchesReferenceSaid : Prop := quotaMatchesReferenceRow.holds Try.pinned (OpenSpec.ofChange quotaMatchesReferenceSpec)

/-- ITS FALSE NEIGHBOUR: 'it returns false'. Refute it at one input. -/
def quotaMatchesReferenceWrong : ChangeSpec := { name := "quotaMatchesReference", fn := fun _ => fun
  | [d1, d2, d3, d4, d5, d6, d7, d8] => { results := [.lit (.bool false)], args := [d1, d2, d3, d4, d5, d6, d7, d8] }
  | _ => none }
def QuotaMatchesReferenceWrongFalsely : Prop := quotaMatchesReferenceRow.holds Try.pinned (OpenSpec.ofChange quotaMatchesReferenceWrong)

/-- 'nadirlaw25.QuotaNothingLost': WHATEVER THE INPUT: true; the input reads as it did. -/
def quotaNothingLostSpec : ChangeSpec := { name := "quotaNothingLost", fn := fun _ => fun
  | [d1, d2] => { results := [.lit (.bool true)], args := [d1, d2] }
  | _ => none }
def quotaNothingLostRow : OpenClaim := { program := "ytpddnkefggaigaa", sum := "6de71203d80d34376ae8f159aea5868beff93a90dcdde3028f5a6baa582f1ebb", func := "nadir/nadirlaw25.QuotaNothingLost", spec := "quotaNothingLost", inPlace := ["slices.overlaps[nadir/api.Loan]"], unfollowed := true, recurses := true, apart := false }
def QuotaNothingLostSaid : Prop := quotaNothingLostRow.holds Try.pinned (OpenSpec.ofChange quotaNothingLostSpec)

/-- ITS FALSE NEIGHBOUR: 'it returns false'. Refute it at one input. -/
def quotaNothingLostWrong : ChangeSpec := { name := "quotaNothingLost", fn := fun _ => fun
  | [d1, d2] => { results := [.lit (.bool false)], args := [d1, d2] }
  | _ => none }
def QuotaNothingLostWrongFalsely : Prop := quotaNothingLostRow.holds Try.pinned (OpenSpec.ofChange quotaNothingLostWrong)

/-- 'nadirlaw25.QuotaLoans': WHATEVER THE INPUT: true; the input reads as it did. -/
def quotaLoansSpec : ChangeSpec := { name := "quotaLoans", fn := fun _ => fun
  | [d1, d2, d3, d4, d5] => { results := [.lit (.bool true)], args := [d1, d2, d3, d4, d5] }
  | _ => none }
def quotaLoansRow : OpenClaim := { program := "ytpddnkefggaigaa", sum := "6de71203d80d34376ae8f159aea5868beff93a90dcdde3028f5a6baa582f1ebb", func := "nadir/nadirlaw25.QuotaLoans", spec := "quotaLoans", inPlace := ["slices.overlaps[nadir/api.Loan]"], unfollowed := true, recurses := true, apart := false }
def QuotaLoansSaid : Prop := quotaLoansRow.holds Try.pinned (OpenSpec.ofChange quotaLoansSpec)

/-- ITS FALSE NEIGHBOUR: 'it returns false'. Refute it at one input. -/
def quotaLoansWrong : ChangeSpec := { name := "quotaLoans", fn := fun _ => fun
  | [d1, d2, d3, d4, d5] => { results := [.lit (.bool false)], args := [d1, d2, d3, d4, d5] }
  | _ => none }
def QuotaLoansWrongFalsely : Prop := quotaLoansRow.holds Try.pinned (OpenSpec.ofChange quotaLoansWrong)

/-- 'nadirlaw25.QuotaLimits': WHATEVER THE INPUT: true; the input reads as it did. -/
def quotaLimitsSpec : ChangeSpec := { name := "quotaLimits", fn := fun _ => fun
  | [d1, d2, d3, d4, d5] => { results := [.lit (.bool true)], args := [d1, d2, d3, d4, d5] }
  | _ => none }
def quotaLimitsRow : OpenClaim := { program := "ytpddnkefggaigaa", sum := "6de71203d80d34376ae8f159aea5868beff93a90dcdde3028f5a6baa582f1ebb", func := "nadir/nadirlaw25.QuotaLimits", spec := "quotaLimits", inPlace := ["slices.overlaps[nadir/api.Loan]"], unfollowed := true, recurses := true, apart := false }
def QuotaLimitsSaid : Prop := quotaLimitsRow.holds Try.pinned (OpenSpec.ofChange quotaLimitsSpec)

/-- ITS FALSE NEIGHBOUR: 'it returns false'. Refute it at one input. -/
def quotaLimitsWrong : ChangeSpec := { name := "quotaLimits", fn := fun _ => fun
  | [d1, d2, d3, d4, d5] => { results := [.lit (.bool false)], args := [d1, d2, d3, d4, d5] }
  | _ => none }
def QuotaLimitsWrongFalsely : Prop := quotaLimitsRow.holds Try.pinned (OpenSpec.ofChange quotaLimitsWrong)

/-- 'nadirlaw25.QuotaOrder': WHATEVER THE INPUT: true; the input reads as it did. -/
def quotaOrderSpec : ChangeSpec := { name := "quotaOrder", fn := fun _ => fun
  | [d1, d2, d3, d4] => { results := [.lit (.bool true)], args := [d1, d2, d3, d4] }
  | _ => none }
def quotaOrderRow : OpenClaim := { program := "ytpddnkefggaigaa", sum := "6de71203d80d34376ae8f159aea5868beff93a90dcdde3028f5a6baa582f1ebb", func := "nadir/nadirlaw25.QuotaOrder", spec := "quotaOrder", inPlace := ["slices.overlaps[nadir/api.Loan]"], unfollowed := true, recurses := true, apart := false }
def QuotaOrderSaid : Prop := quotaOrderRow.holds Try.pinned (OpenSpec.ofChange quotaOrderSpec)

/-- ITS FALSE NEIGHBOUR: 'it returns false'. Refute it at one input. -/
def quotaOrderWrong : ChangeSpec := { name := "quotaOrder", fn := fun _ => fun
  | [d1, d2, d3, d4] => { results := [.lit (.bool false)], args := [d1, d2, d3, d4] }
  | _ => none }
def QuotaOrderWrongFalsely : Prop := quotaOrderRow.holds Try.pinned (OpenSpec.ofChange quotaOrderWrong)

/-- 'nadirlaw25.QuotaParts': WHATEVER THE INPUT: true; the input reads as it did. -/
def quotaPartsSpec : ChangeSpec := { name := "quotaParts", fn := fun _ => fun
  | [d1, d2, d3, d4, d5] => { results := [.lit (.bool true)], args := [d1, d2, d3, d4, d5] }
  | _ => none }
def quotaPartsRow : OpenClaim := { program := "ytpddnkefggaigaa", sum := "6de71203d80d34376ae8f159aea5868beff93a90dcdde3028f5a6baa582f1ebb", func := "nadir/nadirlaw25.QuotaParts", spec := "quotaParts", inPlace := ["slices.overlaps[nadir/api.Loan]"], unfollowed := true, recurses := true, apart := false }
def QuotaPartsSaid : Prop := quotaPartsRow.holds Try.pinned (OpenSpec.ofChange quotaPartsSpec)

/-- ITS FALSE NEIGHBOUR: 'it returns false'. Refute it at one input. -/
def quotaPartsWrong : ChangeSpec := { name := "quotaParts", fn := fun _ => fun
  | [d1, d2, d3, d4, d5] => { results := [.lit (.bool false)], args := [d1, d2, d3, d4, d5] }
  | _ => none }
def QuotaPartsWrongFalsely : Prop := quotaPartsRow.holds Try.pinned (OpenSpec.ofChange quotaPartsWrong)

/-- 'nadirlaw25.QuotaConcerned': WHATEVER THE INPUT: true; the input reads as it did. -/
def quotaConcernedSpec : ChangeSpec := { name := "quotaConcerned", fn := fun _ => fun
  | [d1, d2, d3] => { results := [.lit (.bool true)], args := [d1, d2, d3] }
  | _ => none }
def quotaConcernedRow : OpenClaim := { program := "ytpddnkefggaigaa", sum := "6de71203d80d34376ae8f159aea5868beff93a90dcdde3028f5a6baa582f1ebb", func := "nadir/nadirlaw25.QuotaConcerned", spec := "quotaConcerned", inPlace := ["slices.overlaps[nadir/api.Loan]"], unfollowed := true, recurses := true, apart := false }
def QuotaConcernedSaid : Prop := quotaConcernedRow.holds Try.pinned (OpenSpec.ofChange quotaConcernedSpec)

/-- ITS FALSE NEIGHBOUR: 'it returns false'. Refute it at one input. -/
def quotaConcernedWrong : ChangeSpec := { name := "quotaConcerned", fn := fun _ => fun
  | [d1, d2, d3] => { results := [.lit (.bool false)], args := [d1, d2, d3] }
  | _ => none }
def QuotaConcernedWrongFalsely : Prop := quotaConcernedRow.holds Try.pinned (OpenSpec.ofChange quotaConcernedWrong)

/- THE SECOND FORM. 'bulk': how many values and letters a reading holds, each counted each time it is reached (what is shared counts as often as it is met; a slice's spare places count too). A statement '..UptoSaid' is the law's where the arguments, and the package variables that the reading takes, are together of bulk at most 1048576: NARROWER than '..Said'. Prove '..Said' where nothing that the law and all that it calls make is longer than what came in: it says more and counts as full. Else prove '..UptoSaid'. A law counts once. -/
mutual
def uptoBulk {H : Type} : DataW H → Nat
  | .lit (.string bytes) => bytes.length + 1
  | .lit _ => 1
  | .nil => 1
  | .ptr d => uptoBulk d + 1
  | .slice elems spare => uptoBulkAll elems + uptoBulkAll spare + 1
  | .agg parts => uptoBulkAll parts + 1
  | .iface _ d => uptoBulk d + 1
  | .map entries => uptoBulkEntries entries + 1
  | .held _ => 1
def uptoBulkAll {H : Type} : List (DataW H) → Nat
  | [] => 0
  | d :: r => uptoBulk d + uptoBulkAll r
def uptoBulkEntries {H : Type} : List (Lit × DataW H) → Nat
  | [] => 0
  | x :: r => uptoBulkEntry x + uptoBulkEntries r
def uptoBulkEntry {H : Type} : Lit × DataW H → Nat
  | (.string bytes, d) => bytes.length + uptoBulk d + 1
  | (_, d) => uptoBulk d + 1
 end
def uptoSmall : (H : Type) → List (DataW H) → Bool := fun _ ds => decide (uptoBulkAll ds ≤ 1048576)
def OpenSpec.upto (s : _root_.Go.ChangeSpec) : _root_.Go.OpenSpec := { _root_.Go.OpenSpec.ofChange s with cond := some uptoSmall }

/-- 'nadirlaw25.QuotaMatchesReference', WHERE WHAT IT READS IS OF BULK AT MOST 1048576: true; the input reads as it did. -/
def quotaMatchesReferenceUptoRow : OpenClaim := { program := "ytpddnkefggaigaa", sum := "6de71203d80d34376ae8f159aea5868beff93a90dcdde3028f5a6baa582f1ebb", func := "nadir/nadirlaw25.QuotaMatchesReference", spec := "quotaMatchesReference", inPlace := ["slices.overlaps[nadir/api.Loan]"], unfollowed := true, recurses := true, apart := false, narrowed := true }
def QuotaMatchesReferenceUptoSaid : Prop := quotaMatchesReferenceUptoRow.holds Try.pinned (OpenSpec.upto quotaMatchesReferenceSpec)

/-- 'nadirlaw25.QuotaNothingLost', WHERE WHAT IT READS IS OF BULK AT MOST 1048576: true; the input reads as it did. -/
def quotaNothingLostUptoRow : OpenClaim := { program := "ytpddnkefggaigaa", sum := "6de71203d80d34376ae8f159aea5868beff93a90dcdde3028f5a6baa582f1ebb", func := "nadir/nadirlaw25.QuotaNothingLost", spec := "quotaNothingLost", inPlace := ["slices.overlaps[nadir/api.Loan]"], unfollowed := true, recurses := true, apart := false, narrowed := true }
def QuotaNothingLostUptoSaid : Prop := quotaNothingLostUptoRow.holds Try.pinned (OpenSpec.upto quotaNothingLostSpec)

/-- 'nadirlaw25.QuotaLoans', WHERE WHAT IT READS IS OF BULK AT MOST 1048576: true; the input reads as it did. -/
def quotaLoansUptoRow : OpenClaim := { program := "ytpddnkefggaigaa", sum := "6de71203d80d34376ae8f159aea5868beff93a90dcdde3028f5a6baa582f1ebb", func := "nadir/nadirlaw25.QuotaLoans", spec := "quotaLoans", inPlace := ["slices.overlaps[nadir/api.Loan]"], unfollowed := true, recurses := true, apart := false, narrowed := true }
def QuotaLoansUptoSaid : Prop := quotaLoansUptoRow.holds Try.pinned (OpenSpec.upto quotaLoansSpec)

/-- 'nadirlaw25.QuotaLimits', WHERE WHAT IT READS IS OF BULK AT MOST 1048576: true; the input reads as it did. -/
def quotaLimitsUptoRow : OpenClaim := { program := "ytpddnkefggaigaa", sum := "6de71203d80d34376ae8f159aea5868beff93a90dcdde3028f5a6baa582f1ebb", func := "nadir/nadirlaw25.QuotaLimits", spec := "quotaLimits", inPlace := ["slices.overlaps[nadir/api.Loan]"], unfollowed := true, recurses := true, apart := false, narrowed := true }
def QuotaLimitsUptoSaid : Prop := quotaLimitsUptoRow.holds Try.pinned (OpenSpec.upto quotaLimitsSpec)

/-- 'nadirlaw25.QuotaOrder', WHERE WHAT IT READS IS OF BULK AT MOST 1048576: true; the input reads as it did. -/
def quotaOrderUptoRow : OpenClaim := { program := "ytpddnkefggaigaa", sum := "6de71203d80d34376ae8f159aea5868beff93a90dcdde3028f5a6baa582f1ebb", func := "nadir/nadirlaw25.QuotaOrder", spec := "quotaOrder", inPlace := ["slices.overlaps[nadir/api.Loan]"], unfollowed := true, recurses := true, apart := false, narrowed := true }
def QuotaOrderUptoSaid : Prop := quotaOrderUptoRow.holds Try.pinned (OpenSpec.upto quotaOrderSpec)

/-- 'nadirlaw25.QuotaParts', WHERE WHAT IT READS IS OF BULK AT MOST 1048576: true; the input reads as it did. -/
def quotaPartsUptoRow : OpenClaim := { program := "ytpddnkefggaigaa", sum := "6de71203d80d34376ae8f159aea5868beff93a90dcdde3028f5a6baa582f1ebb", func := "nadir/nadirlaw25.QuotaParts", spec := "quotaParts", inPlace := ["slices.overlaps[nadir/api.Loan]"], unfollowed := true, recurses := true, apart := false, narrowed := true }
def QuotaPartsUptoSaid : Prop := quotaPartsUptoRow.holds Try.pinned (OpenSpec.upto quotaPartsSpec)

/-- 'nadirlaw25.QuotaConcerned', WHERE WHAT IT READS IS OF BULK AT MOST 1048576: true; the input reads as it did. -/
def quotaConcernedUptoRow : OpenClaim := { program := "ytpddnkefggaigaa", sum := "6de71203d80d34376ae8f159aea5868beff93a90dcdde3028f5a6baa582f1ebb", func := "nadir/nadirlaw25.QuotaConcerned", spec := "quotaConcerned", inPlace := ["slices.overlaps[nadir/api.Loan]"], unfollowed := true, recurses := true, apart := false, narrowed := true }
def QuotaConcernedUptoSaid : Prop := quotaConcernedUptoRow.holds Try.pinned (OpenSpec.upto quotaConcernedSpec)

end Rows
end Go.Proofs.Ytpddnkefggaigaa
