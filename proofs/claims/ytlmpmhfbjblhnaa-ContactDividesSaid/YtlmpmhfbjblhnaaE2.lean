/- Orbits and stations that integers determine are valid; a delay moves contacts; in plain Lean. -/
import Derived.Test.YtlmpmhfbjblhnaaE1
import Derived.Test.YtlmpmhfbjblhnaaC8
namespace Go.Proofs.Ytlmpmhfbjblhnaa

theorem made_ok (x0 x1 x2 x3 x4 x5 x6 : Int) : orbOK (madeO x0 x1 x2 x3 x4 x5 x6) = true := by
  have q0 := pickI_bd x0 90 (by omega)
  have q1 := pickI_bd x1 (2 * (10 + pickI x0 90)) (by omega)
  have q2 := pickI_bd x2 10000 (by omega)
  have q3 := pickI_bd x3 10000 (by omega)
  have q4 := pickI_bd x4 48000 (by omega)
  have q5 := pickI_bd x5 1601 (by omega)
  have q6 := pickI_bd x6 4 (by omega)
  simp only [orbOK, madeO, Bool.and_eq_true, inB_iff, beq_iff_eq]
  refine ⟨⟨⟨⟨⟨⟨⟨⟨?_, ?_⟩, ?_⟩, ?_⟩, ?_⟩, ?_⟩, ?_⟩, ?_⟩, ?_⟩ <;> first | omega | exact decide_eq_true (by omega)
theorem made_slack (x0 x1 x2 x3 x4 x5 x6 : Int) : 0 ≤ (madeO x0 x1 x2 x3 x4 x5 x6).slack ∧ (madeO x0 x1 x2 x3 x4 x5 x6).slack ≤ 3 := by
  have q6 := pickI_bd x6 4 (by omega)
  simp only [madeO]
  omega
theorem stnP_ok (id x0 x1 x2 x3 : Int) : stnOK (stnP id x0 x1 x2 x3) = true := by
  have q0 := pickI_bd id 12 (by omega)
  have q1 := pickI_bd x0 48 (by omega)
  have q2 := pickI_bd x1 24 (by omega)
  have q3 := pickI_bd x2 5 (by omega)
  have q4 := pickI_bd x3 2 (by omega)
  have q5 := pickI_bd (x3.tdiv 2) 9 (by omega)
  simp only [stnOK, stnP, celOK, Bool.and_eq_true, inB_iff]
  omega
theorem view_shift {o : Orb} {s : Stn} {t la : Int} (h1 : 0 ≤ t ∧ t ≤ 1000000) (h2 : 0 ≤ t - la ∧ t - la ≤ 1000000) (h3 : -10 ≤ la ∧ la ≤ 10) : viewP o s t la = viewP o s (t - la) 0 := by
  have e1 : inB t 0 1000000 = true := inB_iff.2 h1
  have e2 : inB (t - la) 0 1000000 = true := inB_iff.2 h2
  have e3 : inB la (-10) 10 = true := inB_iff.2 h3
  have e4 : inB 0 (-10) 10 = true := by simp [inB]
  unfold viewP atP
  rw [e1, e2, e3, e4, show t - la - 0 = t - la by omega]
theorem shift_mem {is1 is0 : Int → Bool} {a la : Int} {n : Nat} {s : Spl} (hs : s ∈ spellsP is1 a n) (hf : a + 10 < s.fr) (ht : s.tt < a + n - 10) (h3 : -10 ≤ la ∧ la ≤ 10)
    (hsh : ∀ t, a ≤ t → t < a + n → a ≤ t - la → t - la < a + n → is1 t = is0 (t - la)) : (⟨s.fr - la, s.tt - la⟩ : Spl) ∈ spellsP is0 a n := by
  obtain ⟨i, hi, rfl⟩ := List.getElem_of_mem hs
  obtain ⟨⟨k1, k2, k3⟩, k4, k5, k6⟩ := sp_get (spells_ok is1 n a) i hi
  generalize (spellsP is1 a n)[i] = s at *
  refine sp_mem (spells_ok is0 n a) _ _ (by omega) (by omega) (by omega) (fun t t1 t2 => ?_) (.inr ?_) (.inr ?_)
  · have := hsh (t + la) (by omega) (by omega) (by omega) (by omega)
    rw [show t + la - la = t by omega] at this
    rw [← this]
    exact k4 _ (by omega) (by omega)
  · have := hsh (s.fr - 1) (by omega) (by omega) (by omega) (by omega)
    rw [show s.fr - la - 1 = s.fr - 1 - la by omega, ← this]
    rcases k6 with k6 | k6
    · omega
    · exact k6
  · have := hsh s.tt (by omega) (by omega) (by omega) (by omega)
    rw [← this]
    rcases k5 with k5 | k5
    · omega
    · exact k5
end Go.Proofs.Ytlmpmhfbjblhnaa
