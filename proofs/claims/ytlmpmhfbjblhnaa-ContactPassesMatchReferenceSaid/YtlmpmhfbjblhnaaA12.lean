/- The predicate of Contacts. -/
import Derived.Test.YtlmpmhfbjblhnaaA11
namespace Go.Proofs.Ytlmpmhfbjblhnaa
open Go.RowKit

theorem seen_any (p f lo hi no tu sl id x y re an sk t la : Int) (go gs gl : Nat) (w : World) (K1 : Blk w go 25 #[.int .i64 p, .int .i64 f, .int .i64 lo, .int .i64 hi, .int .i64 no, .int .i64 tu, .int .i64 sl]) (K2 : Blk w gs 31 #[.int .i64 id, .int .i64 x, .int .i64 y, .int .i64 re, .int .i64 an, .int .i64 sk]) (K3 : Blk w gl 3 #[.int .i64 la]) :
    Calls Try.prog 60 #[.int .i64 t, .pointer (some ⟨go, 0, none⟩), .pointer (some ⟨gs, 0, none⟩), .pointer (some ⟨gl, 0, none⟩)] w fun e w' => e = .returned (.bool (viewP ⟨p, f, lo, hi, no, tu, sl⟩ ⟨id, ⟨x, y⟩, re, an, sk⟩ t la == some true)) ∧ Below w.heap.size w w' := by
  have g0 : w.cell? ⟨go, 0, none⟩ = some (.int .i64 p) := K1.cell 0
  have g1 : w.cell? ⟨go, 1, none⟩ = some (.int .i64 f) := K1.cell 1
  have g2 : w.cell? ⟨go, 2, none⟩ = some (.int .i64 lo) := K1.cell 2
  have g3 : w.cell? ⟨go, 3, none⟩ = some (.int .i64 hi) := K1.cell 3
  have g4 : w.cell? ⟨go, 4, none⟩ = some (.int .i64 no) := K1.cell 4
  have g5 : w.cell? ⟨go, 5, none⟩ = some (.int .i64 tu) := K1.cell 5
  have g6 : w.cell? ⟨go, 6, none⟩ = some (.int .i64 sl) := K1.cell 6
  have s0 : w.cell? ⟨gs, 0, none⟩ = some (.int .i64 id) := K2.cell 0
  have s1 : w.cell? ⟨gs, 1, none⟩ = some (.int .i64 x) := K2.cell 1
  have s2 : w.cell? ⟨gs, 2, none⟩ = some (.int .i64 y) := K2.cell 2
  have s3 : w.cell? ⟨gs, 3, none⟩ = some (.int .i64 re) := K2.cell 3
  have s4 : w.cell? ⟨gs, 4, none⟩ = some (.int .i64 an) := K2.cell 4
  have s5 : w.cell? ⟨gs, 5, none⟩ = some (.int .i64 sk) := K2.cell 5
  have l0 : w.cell? ⟨gl, 0, none⟩ = some (.int .i64 la) := K3.cell 0
  have V := View_any p f lo hi no tu sl id x y re an sk t la w
  generalize viewP ⟨p, f, lo, hi, no, tu, sl⟩ ⟨id, ⟨x, y⟩, re, an, sk⟩ t la = r at V ⊢
  have HV := Lib.hid V
  clear V K1 K2 K3
  go_enter Try.func60, Try.ntmps60
  go_wp2_with fail
  refine HV.out.mono ?_
  rintro e W2 ⟨rfl, hb2⟩
  cases r with
  | none =>
    simp only [viewV]
    go_wp2
    go_ret
    exact ⟨by simp, hb2⟩
  | some b =>
    simp only [viewV]
    go_wp2
    go_ret
    exact ⟨by simp, hb2⟩

end Go.Proofs.Ytlmpmhfbjblhnaa
