/- The example, evaluated. -/
import Derived.Test.YtmlabgmigakcbaaV2
namespace Go.Proofs.Ytmlabgmigakcbaa

def fOpen : FteP := ⟨7, 2, [2], 102, 102⟩
def fBoth : FteP := ⟨7, 1, [0, 1], 12, 16⟩
def fOne : FteP := ⟨7, 1, [1], 16, 16⟩
def fLost : FteP := ⟨7, 3, [], 0, 0⟩
theorem ev1 : fatedP [] [] 50 fOpen 0 = true := by decide +kernel
theorem ev2 : fatedP [⟨3, 7, 14⟩] [] 50 fBoth 0 = true := by decide +kernel
theorem ev3 : fatedP [⟨3, 7, 14⟩] [⟨7, 0, false⟩] 50 fOne 0 = true := by decide +kernel
theorem ev4 : fatedP [⟨3, 7, 30⟩] [] 50 fOpen 1 = true := by decide +kernel
theorem ev5 : fatedP [] [] 102 fLost 0 = true := by decide +kernel
theorem ev6 : (delP [fBoth, fOpen]).map (fun e => (e.at_, e.im)) = [(16, 7)] := by decide +kernel
theorem ev7 : wrtV (exO.map toOpt) exP exS [0] [9] = (([⟨3, 7, 104⟩], [⟨7, 0, false⟩, ⟨7, 1, false⟩, ⟨7, 2, true⟩]), 0) := by decide +kernel
theorem ev8 : recV (exO.map toOpt) exP [] [] [] 0 = (([], []), 300) := by decide +kernel
theorem ev9 : fitsV (toOpt ⟨7, exL⟩) exP exS ⟨3, 7, 14⟩ 50 = [0, 1] := by decide +kernel
theorem ev10 : validP (exO.map toOpt) exP exS = true := by decide +kernel
theorem ev11 : validP (exO.map toOpt) exP [] = false := by decide +kernel
theorem ev6b : delP [fBoth, fOpen] = [⟨16, 7⟩] := by
  have h := ev6
  generalize delP [fBoth, fOpen] = l at h
  cases l with
  | nil => cases h
  | cons x r =>
    obtain ⟨a, b⟩ := x
    simp only [List.map_cons, List.cons.injEq, Prod.mk.injEq, List.map_eq_nil_iff] at h
    obtain ⟨⟨h1, h2⟩, h3⟩ := h
    rw [h1, h2, h3]
end Go.Proofs.Ytmlabgmigakcbaa
