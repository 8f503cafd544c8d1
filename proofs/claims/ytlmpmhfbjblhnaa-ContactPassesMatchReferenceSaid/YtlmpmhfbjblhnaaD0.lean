/- The chapter's examples, in plain Lean. -/
import Derived.Test.YtlmpmhfbjblhnaaC10
import Derived.Test.YtlmpmhfbjblhnaaB5
namespace Go.Proofs.Ytlmpmhfbjblhnaa
open Go.RowKit

def exSp : Spl := ⟨0, 96⟩
def ex0 : List Spl := [⟨24, 27⟩, ⟨70, 73⟩]
def ex2 : List Spl := [⟨26, 29⟩, ⟨72, 75⟩]
def exA : List Pas := [⟨1, 2, ⟨24, 27⟩, ⟨24, 27⟩⟩, ⟨1, 2, ⟨70, 73⟩, ⟨70, 73⟩⟩]
def exB : List Pas := [⟨1, 2, ⟨25, 26⟩, ⟨23, 28⟩⟩, ⟨1, 2, ⟨71, 72⟩, ⟨69, 74⟩⟩]
def exC : List Pas := [⟨1, 2, ⟨0, 0⟩, ⟨21, 30⟩⟩, ⟨1, 2, ⟨0, 0⟩, ⟨67, 76⟩⟩]
def zSat : St := ⟨0, 0, ⟨0, 0, 0, 0, 0, 0, 0⟩, 0, 0, 0, 0, 0, 0, 0, 0, 0, 0, 0, 0⟩
def zStn : Stn := ⟨0, ⟨0, 0⟩, 0, 0, 0⟩
theorem ev_c0 : contactsP (exSat 3).orbit exStn exSp 0 = some ex0 := by kernel_rfl
theorem ev_c2 : contactsP (exSat 3).orbit exStn exSp 2 = some ex2 := by kernel_rfl
theorem ev_c4 : contactsP (exSat 3).orbit exStn exSp 4 = none := by kernel_rfl
theorem ev_p0 : passesP [exSat 0] [exStn] exSp = some exA := by kernel_rfl
theorem ev_p1 : passesP [exSat 1] [exStn] exSp = some exB := by kernel_rfl
theorem ev_p3 : passesP [exSat 3] [exStn] exSp = some exC := by kernel_rfl
theorem ev_n0 : (allP [exSat 0] [exStn] exSp).length = 2 := by kernel_rfl
theorem ev_n1 : (allP [exSat 1] [exStn] exSp).length = 2 := by kernel_rfl
theorem ev_n3 : (allP [exSat 3] [exStn] exSp).length = 2 := by kernel_rfl
theorem ev_v26 : viewP (exSat 0).orbit exStn 26 0 = some true := by kernel_rfl
theorem ev_v27 : viewP (exSat 0).orbit exStn 27 0 = some false := by kernel_rfl
theorem ev_s0 : sendP (exSat 0) ⟨1, 2, ⟨24, 27⟩, ⟨24, 27⟩⟩ = 15 := by kernel_rfl
theorem ev_s3 : sendP (exSat 3) ⟨1, 2, ⟨0, 0⟩, ⟨21, 30⟩⟩ = 0 := by kernel_rfl
theorem ev_prB : properP exB = true := by kernel_rfl
theorem ev_prR : properP [⟨1, 2, ⟨71, 72⟩, ⟨69, 74⟩⟩, ⟨1, 2, ⟨25, 26⟩, ⟨23, 28⟩⟩] = false := by kernel_rfl
theorem ev_sat1 : satOK (exSat 1) = true := by kernel_rfl
theorem ev_satz : satOK zSat = false := by kernel_rfl
theorem ev_sats1 : satsOK [exSat 1] = true := by kernel_rfl
theorem ev_sats2 : satsOK [exSat 1, exSat 1] = false := by kernel_rfl
theorem ev_stn : stnOK exStn = true := by kernel_rfl
theorem ev_stnz : stnOK zStn = false := by kernel_rfl
theorem ev_stns1 : stnsOK [exStn] = true := by kernel_rfl
theorem ev_stns2 : stnsOK [exStn, exStn] = false := by kernel_rfl

end Go.Proofs.Ytlmpmhfbjblhnaa
