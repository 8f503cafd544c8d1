/- Maximal spells, in plain Lean: what they are, and that they are all. -/
import Derived.Test.YtlmpmhfbjblhnaaC9
namespace Go.Proofs.Ytlmpmhfbjblhnaa

/-- The maximal spells of [a, e) for which a predicate holds. -/
def SpOK (is : Int → Bool) (a e : Int) : List Spl → Prop
  | [] => ∀ t, a ≤ t → t < e → is t = false
  | s :: r => (a ≤ s.fr ∧ s.fr < s.tt ∧ s.tt ≤ e) ∧ (∀ t, a ≤ t → t < s.fr → is t = false) ∧ (∀ t, s.fr ≤ t → t < s.tt → is t = true) ∧ (s.tt = e ∨ is s.tt = false) ∧ SpOK is s.tt e r
theorem spells_ok (is : Int → Bool) (n : Nat) : ∀ a : Int, SpOK is a (a + n) (spellsP is a n) := by
  induction n with
  | zero => intro a t h1 h2; omega
  | succ n ih =>
    intro a
    have hi := ih (a + 1)
    rw [show a + 1 + (n : Int) = a + ((n + 1 : Nat) : Int) by omega] at hi
    have hn : a < a + ((n + 1 : Nat) : Int) := by omega
    rw [spells_cons]
    generalize a + ((n + 1 : Nat) : Int) = e at hi hn ⊢
    generalize spellsP is (a + 1) n = L at hi ⊢
    cases ha : is a
    · simp only [Bool.false_eq_true, if_false]
      cases L with
      | nil =>
        intro t h1 h2
        by_cases e1 : t = a
        · rw [e1]; exact ha
        · exact hi t (by omega) h2
      | cons s r =>
        obtain ⟨⟨h1, h2, h3⟩, h4, h5, h6, h7⟩ := hi
        refine ⟨⟨by omega, h2, h3⟩, fun t t1 t2 => ?_, h5, h6, h7⟩
        by_cases e1 : t = a
        · rw [e1]; exact ha
        · exact h4 t (by omega) t2
    · simp only [if_true]
      cases L with
      | nil =>
        refine ⟨⟨Int.le_refl _, by simp; omega, by simp; omega⟩, fun t t1 t2 => ?_, fun t t1 t2 => ?_, ?_, hi⟩
        · simp only at t2; omega
        · simp only at t1 t2
          have e1 : t = a := by omega
          rw [e1]; exact ha
        · by_cases e1 : a + 1 = e
          · exact .inl e1
          · exact .inr (hi (a + 1) (Int.le_refl _) (by omega))
      | cons s r =>
        obtain ⟨⟨h1, h2, h3⟩, h4, h5, h6, h7⟩ := hi
        simp only [consS]
        by_cases e1 : s.fr = a + 1
        · rw [if_pos e1]
          refine ⟨⟨Int.le_refl _, by simp only; omega, h3⟩, fun t t1 t2 => ?_, fun t t1 t2 => ?_, h6, h7⟩
          · simp only at t2; omega
          · simp only at t1 t2
            by_cases e2 : t = a
            · rw [e2]; exact ha
            · exact h5 t (by omega) t2
        · rw [if_neg e1]
          refine ⟨⟨Int.le_refl _, by simp only; omega, by simp only; omega⟩, fun t t1 t2 => ?_, fun t t1 t2 => ?_, .inr ?_, ⟨⟨h1, h2, h3⟩, h4, h5, h6, h7⟩⟩
          · simp only at t2; omega
          · simp only at t1 t2
            have e2 : t = a := by omega
            rw [e2]; exact ha
          · exact h4 (a + 1) (Int.le_refl _) (by omega)
variable {is : Int → Bool} {e : Int}
theorem sp_get : ∀ {L : List Spl} {a : Int}, SpOK is a e L → ∀ (i : Nat) (h : i < L.length), (a ≤ L[i].fr ∧ L[i].fr < L[i].tt ∧ L[i].tt ≤ e) ∧ (∀ t, L[i].fr ≤ t → t < L[i].tt → is t = true) ∧ (L[i].tt = e ∨ is L[i].tt = false) ∧ (L[i].fr = a ∨ is (L[i].fr - 1) = false)
  | [], _, _, i, h => by simp at h
  | s :: r, a, ⟨⟨h1, h2, h3⟩, h4, h5, h6, h7⟩, 0, _ => by
    refine ⟨⟨h1, h2, h3⟩, h5, h6, ?_⟩
    by_cases e1 : s.fr = a
    · exact .inl e1
    · exact .inr (h4 (s.fr - 1) (by omega) (by omega))
  | s :: r, a, ⟨⟨h1, h2, h3⟩, h4, h5, h6, h7⟩, i + 1, h => by
    obtain ⟨⟨k1, k2, k3⟩, k4, k5, k6⟩ := sp_get h7 i (by simpa using h)
    simp only [List.getElem_cons_succ]
    refine ⟨⟨by omega, k2, k3⟩, k4, k5, ?_⟩
    rcases k6 with k6 | k6
    · exfalso
      rcases h6 with h6 | h6
      · omega
      · rw [← k6, k4 _ (Int.le_refl _) k2] at h6; cases h6
    · exact .inr k6
theorem sp_next : ∀ {L : List Spl} {a : Int}, SpOK is a e L → ∀ (i : Nat) (h : i + 1 < L.length), L[i].tt < L[i + 1].fr
  | [], _, _, i, h => by simp at h
  | [s], _, _, i, h => by simp at h
  | s :: x :: r, a, ⟨⟨h1, h2, h3⟩, h4, h5, h6, h7⟩, 0, _ => by
    obtain ⟨⟨k1, k2, k3⟩, k4, k5, k6, k7⟩ := h7
    show s.tt < x.fr
    by_cases e1 : s.tt = x.fr
    · exfalso
      rcases h6 with h6 | h6
      · omega
      · rw [e1, k5 _ (Int.le_refl _) k2] at h6; cases h6
    · omega
  | s :: x :: r, a, ⟨_, _, _, _, h7⟩, i + 1, h => by
    have := sp_next h7 i (by simpa using h)
    simpa using this
theorem sp_gap : ∀ {L : List Spl} {a : Int}, SpOK is a e L → ∀ (k : Nat) (t : Int), a ≤ t → t < e → k ≤ L.length → (∀ (i : Nat) (h : i < L.length), i < k → L[i].tt ≤ t) → (∀ h : k < L.length, t < L[k].tt) →
    (∀ h : k < L.length, is t = decide (L[k].fr ≤ t)) ∧ (k = L.length → is t = false)
  | [], _, hs, k, t, h1, h2, hk, _, _ => ⟨fun h => by simp at h, fun _ => hs t h1 h2⟩
  | s :: r, a, ⟨⟨h1, h2, h3⟩, h4, h5, h6, h7⟩, 0, t, ha, hb, hk, _, hlt => by
    have ht : t < s.tt := hlt (by simp)
    refine ⟨fun h => ?_, fun h => by simp at h⟩
    show is t = decide (s.fr ≤ t)
    by_cases hf : s.fr ≤ t
    · rw [decide_eq_true hf]; exact h5 t hf ht
    · rw [decide_eq_false hf]; exact h4 t ha (by omega)
  | s :: r, a, ⟨⟨h1, h2, h3⟩, h4, h5, h6, h7⟩, k + 1, t, ha, hb, hk, hle, hlt => by
    have h0 := hle 0 (by simp) (by omega)
    have := sp_gap h7 k t (by simpa using h0) hb (by simpa using hk) (fun i hi hik => by have := hle (i + 1) (by simpa using hi) (by omega); simpa using this) (fun h => by have := hlt (by simpa using h); simpa using this)
    refine ⟨fun h => ?_, fun h => this.2 (by simpa using h)⟩
    have := this.1 (by simpa using h)
    simpa using this
theorem sp_mem : ∀ {L : List Spl} {a : Int}, SpOK is a e L → ∀ (p q : Int), a ≤ p → p < q → q ≤ e → (∀ t, p ≤ t → t < q → is t = true) → (p = a ∨ is (p - 1) = false) → (q = e ∨ is q = false) → (⟨p, q⟩ : Spl) ∈ L
  | [], _, hs, p, q, h1, h2, h3, h4, _, _ => by
    have := hs p h1 (by omega)
    rw [h4 p (Int.le_refl _) h2] at this
    cases this
  | s :: r, a, ⟨⟨h1, h2, h3⟩, h4, h5, h6, h7⟩, p, q, k1, k2, k3, k4, k5, k6 => by
    have hp := k4 p (Int.le_refl _) k2
    have hpf : s.fr ≤ p := by
      rcases Int.lt_or_le p s.fr with h | h
      · rw [h4 p k1 h] at hp; cases hp
      · exact h
    by_cases hpt : p < s.tt
    · have e1 : p = s.fr := by
        rcases k5 with k5 | k5
        · omega
        · by_cases e2 : p = s.fr
          · exact e2
          · rw [h5 (p - 1) (by omega) (by omega)] at k5; cases k5
      have e2 : q = s.tt := by
        rcases Int.lt_trichotomy q s.tt with h | h | h
        · exfalso
          rcases k6 with k6 | k6
          · omega
          · rw [h5 q (by omega) h] at k6; cases k6
        · exact h
        · exfalso
          rcases h6 with h6 | h6
          · omega
          · rw [k4 s.tt (by omega) h] at h6; cases h6
      rw [e1, e2]
      exact List.mem_cons_self ..
    · refine List.mem_cons_of_mem _ (sp_mem h7 p q (by omega) k2 k3 k4 ?_ k6)
      rcases k5 with k5 | k5
      · omega
      · exact .inr k5
end Go.Proofs.Ytlmpmhfbjblhnaa
