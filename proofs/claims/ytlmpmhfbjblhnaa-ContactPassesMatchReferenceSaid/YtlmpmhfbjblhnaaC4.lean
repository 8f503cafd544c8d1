/- The reference: the order of passes (printed by contact_c4.py). -/
import Derived.Test.YtlmpmhfbjblhnaaC3
import Derived.Test.YtlmpmhfbjblhnaaB1
namespace Go.Proofs.Ytlmpmhfbjblhnaa
open Go.RowKit

theorem lt_pas (x y : Pas) : ltOf cmpPas x y = true ↔ x.can.fr < y.can.fr ∨ (x.can.fr = y.can.fr ∧ (x.sat < y.sat ∨ (x.sat = y.sat ∧ (x.station < y.station ∨ (x.station = y.station ∧ (x.sure.fr < y.sure.fr ∨ (x.sure.fr = y.sure.fr ∧ x.can.tt < y.can.tt))))))) := by
  have hor : ∀ a b : Int, orI a b < 0 ↔ (a < 0 ∨ (a = 0 ∧ b < 0)) := fun a b => by unfold orI; split <;> omega
  have hc : ∀ a b : Int, cmpI a b < 0 ↔ a < b := fun a b => by unfold cmpI; split <;> (try split) <;> omega
  have hz : ∀ a b : Int, cmpI a b = 0 ↔ a = b := fun a b => by unfold cmpI; split <;> (try split) <;> omega
  simp only [ltOf, cmpPas, decide_eq_true_eq, hor, hc, hz]
set_option maxHeartbeats 2000000 in
theorem before_any (asa asn aa ab ac ad bsa bsn ba bb bc bd : Int) (w : World) :
    Calls Try.prog 48 #[.agg #[.int .i64 asa, .int .i64 asn, .int .i64 aa, .int .i64 ab, .int .i64 ac, .int .i64 ad], .agg #[.int .i64 bsa, .int .i64 bsn, .int .i64 ba, .int .i64 bb, .int .i64 bc, .int .i64 bd]] w fun e w' => e = .returned (.bool (ltOf cmpPas ⟨asa, asn, ⟨aa, ab⟩, ⟨ac, ad⟩⟩ ⟨bsa, bsn, ⟨ba, bb⟩, ⟨bc, bd⟩⟩)) ∧ Below w.heap.size w w' := by
  have hl := lt_pas ⟨asa, asn, ⟨aa, ab⟩, ⟨ac, ad⟩⟩ ⟨bsa, bsn, ⟨ba, bb⟩, ⟨bc, bd⟩⟩
  dsimp only at hl
  generalize ltOf cmpPas ⟨asa, asn, ⟨aa, ab⟩, ⟨ac, ad⟩⟩ ⟨bsa, bsn, ⟨ba, bb⟩, ⟨bc, bd⟩⟩ = r at hl ⊢
  have hr : ∀ z : Int, ∀ u : Int, (z < u ↔ r = true) → Ending.returned (.bool (decide (z < u))) = .returned (.bool r) := fun z u h => by
    have : decide (z < u) = r := by rw [Bool.eq_iff_iff, decide_eq_true_iff]; exact h
    rw [this]
  have HR := Lib.hid hr
  have HL := Lib.hid hl
  clear hr hl
  by_cases h1 : ac = bc
  · subst h1
    by_cases h2 : asa = bsa
    · subst h2
      by_cases h3 : asn = bsn
      · subst h3
        by_cases h4 : aa = ba
        · subst h4
          go_enter Try.func48, Try.ntmps48
          go_wp2
          go_ret
          exact ⟨HR.out _ _ (by rw [HL.out]; first | omega | (simp only [true_and]; omega)), (by repeat (first | exact Below.refl _ _ | assumption | refine Below.drew ?_ | refine below_drewN ?_ _ | refine bl_alloc ?_ _ | refine Below.setCell ?_ (by first | (simp; done) | omega | (simp; omega)) _ | refine bl_then ?_ (by assumption)))⟩
        · have n4 : (aa != ba) = true := by simpa using h4
          go_enter Try.func48, Try.ntmps48
          go_wp2
          go_ret
          exact ⟨HR.out _ _ (by rw [HL.out]; first | omega | (simp only [true_and]; omega)), (by repeat (first | exact Below.refl _ _ | assumption | refine Below.drew ?_ | refine below_drewN ?_ _ | refine bl_alloc ?_ _ | refine Below.setCell ?_ (by first | (simp; done) | omega | (simp; omega)) _ | refine bl_then ?_ (by assumption)))⟩
      · have n3 : (asn != bsn) = true := by simpa using h3
        go_enter Try.func48, Try.ntmps48
        go_wp2
        go_ret
        exact ⟨HR.out _ _ (by rw [HL.out]; first | omega | (simp only [true_and]; omega)), (by repeat (first | exact Below.refl _ _ | assumption | refine Below.drew ?_ | refine below_drewN ?_ _ | refine bl_alloc ?_ _ | refine Below.setCell ?_ (by first | (simp; done) | omega | (simp; omega)) _ | refine bl_then ?_ (by assumption)))⟩
    · have n2 : (asa != bsa) = true := by simpa using h2
      go_enter Try.func48, Try.ntmps48
      go_wp2
      go_ret
      exact ⟨HR.out _ _ (by rw [HL.out]; first | omega | (simp only [true_and]; omega)), (by repeat (first | exact Below.refl _ _ | assumption | refine Below.drew ?_ | refine below_drewN ?_ _ | refine bl_alloc ?_ _ | refine Below.setCell ?_ (by first | (simp; done) | omega | (simp; omega)) _ | refine bl_then ?_ (by assumption)))⟩
  · have n1 : (ac != bc) = true := by simpa using h1
    go_enter Try.func48, Try.ntmps48
    go_wp2
    go_ret
    exact ⟨HR.out _ _ (by rw [HL.out]; first | omega | (simp only [true_and]; omega)), (by repeat (first | exact Below.refl _ _ | assumption | refine Below.drew ?_ | refine below_drewN ?_ _ | refine bl_alloc ?_ _ | refine Below.setCell ?_ (by first | (simp; done) | omega | (simp; omega)) _ | refine bl_then ?_ (by assumption)))⟩

end Go.Proofs.Ytlmpmhfbjblhnaa
