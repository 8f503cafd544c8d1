/- How many maximal spells there are; in plain Lean. -/
import Derived.Test.YtlmpmhfbjblhnaaP3
import Derived.Test.YtlmpmhfbjblhnaaC10
namespace Go.Proofs.Ytlmpmhfbjblhnaa

theorem sp_tail {is : Int → Bool} {e a : Int} {L : List Spl} (h : SpOK is a e L) : ∀ (i : Nat) (hi : i < L.length), a + 2 * i ≤ L[i].fr := by
  intro i
  induction i with
  | zero => intro hi; have := (sp_get h 0 hi).1; omega
  | succ i ih =>
    intro hi
    have h1 := ih (by omega)
    have h2 := (sp_get h i (by omega)).1
    have h3 := sp_next h i hi
    omega
theorem sp_count {is : Int → Bool} {e a : Int} {L : List Spl} (hae : a ≤ e) (h : SpOK is a e L) : 2 * (L.length : Int) ≤ e - a + 1 := by
  rcases Nat.eq_zero_or_pos L.length with h0 | h0
  · omega
  · have h1 := sp_tail h (L.length - 1) (by omega)
    have h2 := (sp_get h (L.length - 1) (by omega)).1
    omega
/-- More than 64 passes of one pair take more than 64 minutes. -/
theorem pair_many {s : St} {y : Stn} {span : Spl} (hs0 : 0 ≤ s.orbit.slack ∧ s.orbit.slack ≤ 10) (hsp : 0 ≤ span.fr ∧ span.fr < span.tt) (h : ¬ (pairP s span y).length ≤ 64) : span.tt - span.fr > 64 := by
  have hok := spells_ok (plainP s.orbit y) (span.tt - span.fr + 2 * s.orbit.slack).toNat (span.fr - s.orbit.slack)
  have hc := sp_count (by omega) hok
  unfold pairP at h
  rw [List.length_map] at h
  omega

/-- Minutes at all of which it holds lie in one spell. -/
theorem sp_win {is : Int → Bool} {e : Int} : ∀ {L : List Spl} {a : Int}, SpOK is a e L → ∀ (p q : Int), a ≤ p → p < q → q ≤ e → (∀ t, p ≤ t → t < q → is t = true) → ∃ x ∈ L, x.fr ≤ p ∧ q ≤ x.tt
  | [], a, h, p, q, h1, h2, h3, h4 => by
    have := h p h1 (by omega)
    rw [h4 p (Int.le_refl _) h2] at this
    cases this
  | s :: r, a, h, p, q, h1, h2, h3, h4 => by
    obtain ⟨b1, b2, b3, b4, b5⟩ := h
    by_cases c1 : p < s.fr
    · have := b2 p h1 c1
      rw [h4 p (Int.le_refl _) h2] at this
      cases this
    · by_cases c2 : p < s.tt
      · refine ⟨s, by simp, by omega, ?_⟩
        by_cases c3 : q ≤ s.tt
        · exact c3
        · rcases b4 with b4 | b4
          · omega
          · rw [h4 s.tt (by omega) (by omega)] at b4
            cases b4
      · obtain ⟨x, hx, hx2⟩ := sp_win b5 p q (by omega) h2 h3 h4
        exact ⟨x, by simp [hx], hx2⟩
theorem wider_in {x span : Spl} {k t : Int} (h1 : span.fr ≤ t) (h2 : t < span.tt) (hsp : 0 ≤ span.fr) : inS (widerP x k span) t = decide (x.fr - k ≤ t ∧ t < x.tt + k) := by
  unfold widerP inS
  dsimp only
  split
  · rw [decide_eq_false (show ¬ (x.fr - k ≤ t ∧ t < x.tt + k) by omega)]
    rw [Bool.and_eq_false_iff]
    exact .inr (decide_eq_false (by show ¬ t < 0; omega))
  · rw [← Bool.decide_and]
    exact decide_eq_decide.2 (by show (max (x.fr - k) span.fr ≤ t ∧ t < min (x.tt + k) span.tt) ↔ _; omega)

section
variable {s : St} {y : Stn} {span : Spl} {t : Int}
theorem pair_ok (hs0 : 0 ≤ s.orbit.slack) (hsp : span.fr < span.tt) : ∃ L, pairP s span y = L.map (passOne s y span) ∧ SpOK (plainP s.orbit y) (span.fr - s.orbit.slack) (span.tt + s.orbit.slack) L := by
  have hok := spells_ok (plainP s.orbit y) (span.tt - span.fr + 2 * s.orbit.slack).toNat (span.fr - s.orbit.slack)
  rw [show span.fr - s.orbit.slack + ((span.tt - span.fr + 2 * s.orbit.slack).toNat : Int) = span.tt + s.orbit.slack by omega] at hok
  exact ⟨_, rfl, hok⟩
theorem sure_iff (hs0 : 0 ≤ s.orbit.slack) (hsp : 0 ≤ span.fr) (h1 : span.fr ≤ t) (h2 : t < span.tt) : ((pairP s span y).any fun p => inS p.sure t) = true ↔ ∀ m, t - s.orbit.slack ≤ m → m ≤ t + s.orbit.slack → plainP s.orbit y m = true := by
  obtain ⟨L, hL, hok⟩ := pair_ok (y := y) hs0 (show span.fr < span.tt by omega)
  rw [hL, List.any_map, List.any_eq_true]
  constructor
  · rintro ⟨x, hx, hi⟩ m m1 m2
    obtain ⟨i, hil, rfl⟩ := List.mem_iff_getElem.1 hx
    have hi : inS (widerP L[i] (-s.orbit.slack) span) t = true := hi
    rw [wider_in h1 h2 hsp, decide_eq_true_eq] at hi
    exact (sp_get hok i hil).2.1 m (by omega) (by omega)
  · intro h
    obtain ⟨x, hx, x1, x2⟩ := sp_win hok (t - s.orbit.slack) (t + s.orbit.slack + 1) (by omega) (by omega) (by omega) (fun m m1 m2 => h m m1 (by omega))
    refine ⟨x, hx, ?_⟩
    show inS (widerP x (-s.orbit.slack) span) t = true
    rw [wider_in h1 h2 hsp, decide_eq_true_eq]
    omega
theorem can_iff (hs0 : 0 ≤ s.orbit.slack) (hsp : 0 ≤ span.fr) (h1 : span.fr ≤ t) (h2 : t < span.tt) : ((pairP s span y).any fun p => inS p.can t) = true ↔ ∃ m, t - s.orbit.slack ≤ m ∧ m ≤ t + s.orbit.slack ∧ plainP s.orbit y m = true := by
  obtain ⟨L, hL, hok⟩ := pair_ok (y := y) hs0 (show span.fr < span.tt by omega)
  rw [hL, List.any_map, List.any_eq_true]
  constructor
  · rintro ⟨x, hx, hi⟩
    obtain ⟨i, hil, rfl⟩ := List.mem_iff_getElem.1 hx
    have hi : inS (widerP L[i] s.orbit.slack span) t = true := hi
    rw [wider_in h1 h2 hsp, decide_eq_true_eq] at hi
    have hg := sp_get hok i hil
    refine ⟨max L[i].fr (t - s.orbit.slack), by omega, by omega, hg.2.1 _ (by omega) (by omega)⟩
  · rintro ⟨m, m1, m2, hm⟩
    obtain ⟨x, hx, x1, x2⟩ := sp_win hok m (m + 1) (by omega) (by omega) (by omega) (fun u u1 u2 => by rw [show u = m by omega]; exact hm)
    refine ⟨x, hx, ?_⟩
    show inS (widerP x s.orbit.slack span) t = true
    rw [wider_in h1 h2 hsp, decide_eq_true_eq]
    omega
end

end Go.Proofs.Ytlmpmhfbjblhnaa
