/- ContactSure, ContactReach: the plain laws; in plain Lean. -/
import Derived.Test.YtlmpmhfbjblhnaaP4
namespace Go.Proofs.Ytlmpmhfbjblhnaa

/-- It holds at n numbers from a on, at all or at one of them. -/
def allF (p : Int → Bool) (a : Int) : Nat → Bool
  | 0 => true
  | n + 1 => allF p a n && p (a + n)
def anyF (p : Int → Bool) (a : Int) : Nat → Bool
  | 0 => false
  | n + 1 => anyF p a n || p (a + n)
theorem allF_iff {p : Int → Bool} {a : Int} : ∀ {n : Nat}, allF p a n = true ↔ ∀ m, a ≤ m → m < a + n → p m = true
  | 0 => by
    constructor
    · intro _ m h1 h2
      omega
    · intro _
      rfl
  | n + 1 => by
    rw [allF, Bool.and_eq_true, allF_iff (n := n)]
    constructor
    · rintro ⟨h1, h2⟩ m m1 m2
      by_cases e : m = a + n
      · subst e; exact h2
      · exact h1 m m1 (by omega)
    · intro h
      exact ⟨fun m m1 m2 => h m m1 (by omega), h _ (by omega) (by omega)⟩
theorem anyF_iff {p : Int → Bool} {a : Int} : ∀ {n : Nat}, anyF p a n = true ↔ ∃ m, a ≤ m ∧ m < a + n ∧ p m = true
  | 0 => by
    constructor
    · intro h
      cases h
    · rintro ⟨m, h1, h2, _⟩
      omega
  | n + 1 => by
    rw [anyF, Bool.or_eq_true, anyF_iff (n := n)]
    constructor
    · rintro (⟨m, m1, m2, m3⟩ | h)
      · exact ⟨m, m1, by omega, m3⟩
      · exact ⟨_, by omega, by omega, h⟩
    · rintro ⟨m, m1, m2, m3⟩
      by_cases e : m = a + n
      · subst e; exact .inr m3
      · exact .inl ⟨m, m1, by omega, m3⟩
section
variable {s : St} {y : Stn} {span : Spl} {t : Int}
/-- In Sure of a pass exactly if in view for every delay. -/
theorem sure_all (hs0 : 0 ≤ s.orbit.slack) (hsp : 0 ≤ span.fr) (h1 : span.fr ≤ t) (h2 : t < span.tt) : ((pairP s span y).any fun p => inS p.sure t) = allF (fun u => plainP s.orbit y (t - u)) (-s.orbit.slack) (2 * s.orbit.slack + 1).toNat := by
  rw [Bool.eq_iff_iff, sure_iff hs0 hsp h1 h2, allF_iff]
  constructor
  · intro h m m1 m2
    exact h (t - m) (by omega) (by omega)
  · intro h m m1 m2
    have := h (t - m) (by omega) (by omega)
    rwa [show t - (t - m) = m by omega] at this
theorem can_any (hs0 : 0 ≤ s.orbit.slack) (hsp : 0 ≤ span.fr) (h1 : span.fr ≤ t) (h2 : t < span.tt) : ((pairP s span y).any fun p => inS p.can t) = anyF (fun u => plainP s.orbit y (t - u)) (-s.orbit.slack) (2 * s.orbit.slack + 1).toNat := by
  rw [Bool.eq_iff_iff, can_iff hs0 hsp h1 h2, anyF_iff]
  constructor
  · rintro ⟨m, m1, m2, m3⟩
    exact ⟨t - m, by omega, by omega, by rw [show t - (t - m) = m by omega]; exact m3⟩
  · rintro ⟨m, m1, m2, m3⟩
    exact ⟨t - m, by omega, by omega, m3⟩
/-- The passes of a pair are named, lie in the span and are proper. -/
theorem pair_mem (hs : satOK s = true) (hy : stnOK y = true) (hsp : 0 ≤ span.fr ∧ span.fr < span.tt ∧ span.tt ≤ 1000001) {p : Pas} (hp : p ∈ pairP s span y) : p.sat = s.id ∧ p.station = y.id ∧ span.fr ≤ p.can.fr ∧ p.can.tt ≤ span.tt ∧ pasOK p = true := by
  obtain ⟨_, ho2, ho3⟩ := sat_orb hs
  obtain ⟨L, hL, hok⟩ := pair_ok (y := y) ho2 (show span.fr < span.tt by omega)
  rw [hL, List.mem_map] at hp
  obtain ⟨x, hx, rfl⟩ := hp
  obtain ⟨i, hil, rfl⟩ := List.mem_iff_getElem.1 hx
  have hg := (sp_get hok i hil).1
  generalize L[i] = x at hg
  generalize hk : s.orbit.slack = k at ho2 ho3 hg
  have hid : inB s.id 0 23 = true := by simp only [satOK, Bool.and_eq_true] at hs; exact hs.1.1.1.1.1.1.1.1.1.1.1.1.1.2
  have hyd : inB y.id 0 11 = true := by simp only [stnOK, Bool.and_eq_true] at hy; exact hy.1.1.1.2
  have ec : widerP x k span = ⟨max (x.fr - k) span.fr, min (x.tt + k) span.tt⟩ := by unfold widerP; dsimp only; rw [if_neg (by omega)]
  unfold passOne
  rw [hk, ec]
  refine ⟨rfl, rfl, by show span.fr ≤ max (x.fr - k) span.fr; omega, by show min (x.tt + k) span.tt ≤ span.tt; omega, ?_⟩
  unfold pasOK
  rw [Bool.and_eq_true, Bool.and_eq_true, Bool.and_eq_true]
  refine ⟨⟨⟨hid, hyd⟩, decide_eq_true (by dsimp only; omega)⟩, ?_⟩
  rw [Bool.or_eq_true]
  dsimp only
  unfold widerP
  dsimp only
  split
  · exact .inl (decide_eq_true rfl)
  · exact .inr (decide_eq_true (by dsimp only; omega))
theorem sortedP_of : ∀ (l : List Pas), Srtd (ltOf cmpPas) l → sortedP l = true
  | [], _ => rfl
  | [_], _ => rfl
  | x :: y :: r, h => by
    have h1 := h.1 y (by simp)
    rw [sortedP, sortedP_of (y :: r) h.2, Bool.and_true]
    simpa [ltOf] using h1
theorem pair_proper (hs : satOK s = true) (hy : stnOK y = true) (hsp : 0 ≤ span.fr ∧ span.fr < span.tt ∧ span.tt ≤ 1000001) (hn : (pairP s span y).length ≤ 64) : properP (pairP s span y) = true := by
  obtain ⟨_, ho2, ho3⟩ := sat_orb hs
  rw [properP, decide_eq_true hn, sortedP_of _ (pair_sorted ho2 ⟨hsp.1, hsp.2.1⟩), List.all_eq_true.2 fun p hp => (pair_mem hs hy hsp hp).2.2.2.2]
  rfl
end
end Go.Proofs.Ytlmpmhfbjblhnaa
