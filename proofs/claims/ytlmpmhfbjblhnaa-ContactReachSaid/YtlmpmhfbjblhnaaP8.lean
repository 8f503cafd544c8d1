/- ContactReach: the plain law; in plain Lean. -/
import Derived.Test.YtlmpmhfbjblhnaaP3
import Derived.Test.YtlmpmhfbjblhnaaC10
namespace Go.Proofs.Ytlmpmhfbjblhnaa

theorem sp_tail {is : Int → Bool} {e a : Int} {L : List Spl} (h : SpOK is a e L) : ∀ (i : Nat) (hi : i < L.length), a + 2 * i ≤ L[i].fr := by
  intro i
  induction i with
  | zero => intro hi; have := (sp_get h 0 hi).1; omega
  | succ i ih =>
    intro hi
    have h1 := ih (by omega)
    have h2 := (sp_get h i (by omega)).1
    have h3 := sp_next h i hi
    omega
theorem sp_count {is : Int → Bool} {e a : Int} {L : List Spl} (hae : a ≤ e) (h : SpOK is a e L) : 2 * (L.length : Int) ≤ e - a + 1 := by
  rcases Nat.eq_zero_or_pos L.length with h0 | h0
  · omega
  · have h1 := sp_tail h (L.length - 1) (by omega)
    have h2 := (sp_get h (L.length - 1) (by omega)).1
    omega
/-- More than 64 passes of one pair take more than 64 minutes. -/
theorem pair_many {s : St} {y : Stn} {span : Spl} (hs0 : 0 ≤ s.orbit.slack ∧ s.orbit.slack ≤ 10) (hsp : 0 ≤ span.fr ∧ span.fr < span.tt) (h : ¬ (pairP s span y).length ≤ 64) : span.tt - span.fr > 64 := by
  have hok := spells_ok (plainP s.orbit y) (span.tt - span.fr + 2 * s.orbit.slack).toNat (span.fr - s.orbit.slack)
  have hc := sp_count (by omega) hok
  unfold pairP at h
  rw [List.length_map] at h
  omega

/-- Minutes at all of which it holds lie in one spell. -/
theorem sp_win {is : Int → Bool} {e : Int} : ∀ {L : List Spl} {a : Int}, SpOK is a e L → ∀ (p q : Int), a ≤ p → p < q → q ≤ e → (∀ t, p ≤ t → t < q → is t = true) → ∃ x ∈ L, x.fr ≤ p ∧ q ≤ x.tt
  | [], a, h, p, q, h1, h2, h3, h4 => by
    have := h p h1 (by omega)
    rw [h4 p (Int.le_refl _) h2] at this
    cases this
  | s :: r, a, h, p, q, h1, h2, h3, h4 => by
    obtain ⟨b1, b2, b3, b4, b5⟩ := h
    by_cases c1 : p < s.fr
    · have := b2 p h1 c1
      rw [h4 p (Int.le_refl _) h2] at this
      cases this
    · by_cases c2 : p < s.tt
      · refine ⟨s, by simp, by omega, ?_⟩
        by_cases c3 : q ≤ s.tt
        · exact c3
        · rcases b4 with b4 | b4
          · omega
          · rw [h4 s.tt (by omega) (by omega)] at b4
            cases b4
      · obtain ⟨x, hx, hx2⟩ := sp_win b5 p q (by omega) h2 h3 h4
        exact ⟨x, by simp [hx], hx2⟩
theorem wider_in {x span : Spl} {k t : Int} (h1 : span.fr ≤ t) (h2 : t < span.tt) (hsp : 0 ≤ span.fr) : inS (widerP x k span) t = decide (x.fr - k ≤ t ∧ t < x.tt + k) := by
  unfold widerP inS
  dsimp only
  split
  · rw [decide_eq_false (show ¬ (x.fr - k ≤ t ∧ t < x.tt + k) by omega)]
    rw [Bool.and_eq_false_iff]
    exact .inr (decide_eq_false (by show ¬ t < 0; omega))
  · rw [← Bool.decide_and]
    exact decide_eq_decide.2 (by show (max (x.fr - k) span.fr ≤ t ∧ t < min (x.tt + k) span.tt) ↔ _; omega)

section
variable {s : St} {y : Stn} {span : Spl} {t : Int}
theorem pair_ok (hs0 : 0 ≤ s.orbit.slack) (hsp : span.fr < span.tt) : ∃ L, pairP s span y = L.map (passOne s y span) ∧ SpOK (plainP s.orbit y) (span.fr - s.orbit.slack) (span.tt + s.orbit.slack) L := by
  have hok := spells_ok (plainP s.orbit y) (span.tt - span.fr + 2 * s.orbit.slack).toNat (span.fr - s.orbit.slack)
  rw [show span.fr - s.orbit.slack + ((span.tt - span.fr + 2 * s.orbit.slack).toNat : Int) = span.tt + s.orbit.slack by omega] at hok
  exact ⟨_, rfl, hok⟩
theorem sure_iff (hs0 : 0 ≤ s.orbit.slack) (hsp : 0 ≤ span.fr) (h1 : span.fr ≤ t) (h2 : t < span.tt) : ((pairP s span y).any fun p => inS p.sure t) = true ↔ ∀ m, t - s.orbit.slack ≤ m → m ≤ t + s.orbit.slack → plainP s.orbit y m = true := by
  obtain ⟨L, hL, hok⟩ := pair_ok (y := y) hs0 (show span.fr < span.tt by omega)
  rw [hL, List.any_map, List.any_eq_true]
  constructor
  · rintro ⟨x, hx, hi⟩ m m1 m2
    obtain ⟨i, hil, rfl⟩ := List.mem_iff_getElem.1 hx
    have hi : inS (widerP L[i] (-s.orbit.slack) span) t = true := hi
    rw [wider_in h1 h2 hsp, decide_eq_true_eq] at hi
    exact (sp_get hok i hil).2.1 m (by omega) (by omega)
  · intro h
    obtain ⟨x, hx, x1, x2⟩ := sp_win hok (t - s.orbit.slack) (t + s.orbit.slack + 1) (by omega) (by omega) (by omega) (fun m m1 m2 => h m m1 (by omega))
    refine ⟨x, hx, ?_⟩
    show inS (widerP x (-s.orbit.slack) span) t = true
    rw [wider_in h1 h2 hsp, decide_eq_true_eq]
    omega
theorem can_iff (hs0 : 0 ≤ s.orbit.slack) (hsp : 0 ≤ span.fr) (h1 : span.fr ≤ t) (h2 : t < span.tt) : ((pairP s span y).any fun p => inS p.can t) = true ↔ ∃ m, t - s.orbit.slack ≤ m ∧ m ≤ t + s.orbit.slack ∧ plainP s.orbit y m = true := by
  obtain ⟨L, hL, hok⟩ := pair_ok (y := y) hs0 (show span.fr < span.tt by omega)
  rw [hL, List.any_map, List.any_eq_true]
  constructor
  · rintro ⟨x, hx, hi⟩
    obtain ⟨i, hil, rfl⟩ := List.mem_iff_getElem.1 hx
    have hi : inS (widerP L[i] s.orbit.slack span) t = true := hi
    rw [wider_in h1 h2 hsp, decide_eq_true_eq] at hi
    have hg := sp_get hok i hil
    refine ⟨max L[i].fr (t - s.orbit.slack), by omega, by omega, hg.2.1 _ (by omega) (by omega)⟩
  · rintro ⟨m, m1, m2, hm⟩
    obtain ⟨x, hx, x1, x2⟩ := sp_win hok m (m + 1) (by omega) (by omega) (by omega) (fun u u1 u2 => by rw [show u = m by omega]; exact hm)
    refine ⟨x, hx, ?_⟩
    show inS (widerP x s.orbit.slack span) t = true
    rw [wider_in h1 h2 hsp, decide_eq_true_eq]
    omega
end

end Go.Proofs.Ytlmpmhfbjblhnaa
namespace Go.Proofs.Ytlmpmhfbjblhnaa

/-- It holds at n numbers from a on, at all or at one of them. -/
def allF (p : Int → Bool) (a : Int) : Nat → Bool
  | 0 => true
  | n + 1 => allF p a n && p (a + n)
def anyF (p : Int → Bool) (a : Int) : Nat → Bool
  | 0 => false
  | n + 1 => anyF p a n || p (a + n)
theorem allF_iff {p : Int → Bool} {a : Int} : ∀ {n : Nat}, allF p a n = true ↔ ∀ m, a ≤ m → m < a + n → p m = true
  | 0 => by
    constructor
    · intro _ m h1 h2
      omega
    · intro _
      rfl
  | n + 1 => by
    rw [allF, Bool.and_eq_true, allF_iff (n := n)]
    constructor
    · rintro ⟨h1, h2⟩ m m1 m2
      by_cases e : m = a + n
      · subst e; exact h2
      · exact h1 m m1 (by omega)
    · intro h
      exact ⟨fun m m1 m2 => h m m1 (by omega), h _ (by omega) (by omega)⟩
theorem anyF_iff {p : Int → Bool} {a : Int} : ∀ {n : Nat}, anyF p a n = true ↔ ∃ m, a ≤ m ∧ m < a + n ∧ p m = true
  | 0 => by
    constructor
    · intro h
      cases h
    · rintro ⟨m, h1, h2, _⟩
      omega
  | n + 1 => by
    rw [anyF, Bool.or_eq_true, anyF_iff (n := n)]
    constructor
    · rintro (⟨m, m1, m2, m3⟩ | h)
      · exact ⟨m, m1, by omega, m3⟩
      · exact ⟨_, by omega, by omega, h⟩
    · rintro ⟨m, m1, m2, m3⟩
      by_cases e : m = a + n
      · subst e; exact .inr m3
      · exact .inl ⟨m, m1, by omega, m3⟩
section
variable {s : St} {y : Stn} {span : Spl} {t : Int}
/-- In Sure of a pass exactly if in view for every delay. -/
theorem sure_all (hs0 : 0 ≤ s.orbit.slack) (hsp : 0 ≤ span.fr) (h1 : span.fr ≤ t) (h2 : t < span.tt) : ((pairP s span y).any fun p => inS p.sure t) = allF (fun u => plainP s.orbit y (t - u)) (-s.orbit.slack) (2 * s.orbit.slack + 1).toNat := by
  rw [Bool.eq_iff_iff, sure_iff hs0 hsp h1 h2, allF_iff]
  constructor
  · intro h m m1 m2
    exact h (t - m) (by omega) (by omega)
  · intro h m m1 m2
    have := h (t - m) (by omega) (by omega)
    rwa [show t - (t - m) = m by omega] at this
theorem can_any (hs0 : 0 ≤ s.orbit.slack) (hsp : 0 ≤ span.fr) (h1 : span.fr ≤ t) (h2 : t < span.tt) : ((pairP s span y).any fun p => inS p.can t) = anyF (fun u => plainP s.orbit y (t - u)) (-s.orbit.slack) (2 * s.orbit.slack + 1).toNat := by
  rw [Bool.eq_iff_iff, can_iff hs0 hsp h1 h2, anyF_iff]
  constructor
  · rintro ⟨m, m1, m2, m3⟩
    exact ⟨t - m, by omega, by omega, by rw [show t - (t - m) = m by omega]; exact m3⟩
  · rintro ⟨m, m1, m2, m3⟩
    exact ⟨t - m, by omega, by omega, m3⟩
/-- The passes of a pair are named, lie in the span and are proper. -/
theorem pair_mem (hs : satOK s = true) (hy : stnOK y = true) (hsp : 0 ≤ span.fr ∧ span.fr < span.tt ∧ span.tt ≤ 1000001) {p : Pas} (hp : p ∈ pairP s span y) : p.sat = s.id ∧ p.station = y.id ∧ span.fr ≤ p.can.fr ∧ p.can.tt ≤ span.tt ∧ pasOK p = true := by
  obtain ⟨_, ho2, ho3⟩ := sat_orb hs
  obtain ⟨L, hL, hok⟩ := pair_ok (y := y) ho2 (show span.fr < span.tt by omega)
  rw [hL, List.mem_map] at hp
  obtain ⟨x, hx, rfl⟩ := hp
  obtain ⟨i, hil, rfl⟩ := List.mem_iff_getElem.1 hx
  have hg := (sp_get hok i hil).1
  generalize L[i] = x at hg
  generalize hk : s.orbit.slack = k at ho2 ho3 hg
  have hid : inB s.id 0 23 = true := by simp only [satOK, Bool.and_eq_true] at hs; exact hs.1.1.1.1.1.1.1.1.1.1.1.1.1.2
  have hyd : inB y.id 0 11 = true := by simp only [stnOK, Bool.and_eq_true] at hy; exact hy.1.1.1.2
  have ec : widerP x k span = ⟨max (x.fr - k) span.fr, min (x.tt + k) span.tt⟩ := by unfold widerP; dsimp only; rw [if_neg (by omega)]
  unfold passOne
  rw [hk, ec]
  refine ⟨rfl, rfl, by show span.fr ≤ max (x.fr - k) span.fr; omega, by show min (x.tt + k) span.tt ≤ span.tt; omega, ?_⟩
  unfold pasOK
  rw [Bool.and_eq_true, Bool.and_eq_true, Bool.and_eq_true]
  refine ⟨⟨⟨hid, hyd⟩, decide_eq_true (by dsimp only; omega)⟩, ?_⟩
  rw [Bool.or_eq_true]
  dsimp only
  unfold widerP
  dsimp only
  split
  · exact .inl (decide_eq_true rfl)
  · exact .inr (decide_eq_true (by dsimp only; omega))
theorem sortedP_of : ∀ (l : List Pas), Srtd (ltOf cmpPas) l → sortedP l = true
  | [], _ => rfl
  | [_], _ => rfl
  | x :: y :: r, h => by
    have h1 := h.1 y (by simp)
    rw [sortedP, sortedP_of (y :: r) h.2, Bool.and_true]
    simpa [ltOf] using h1
theorem pair_proper (hs : satOK s = true) (hy : stnOK y = true) (hsp : 0 ≤ span.fr ∧ span.fr < span.tt ∧ span.tt ≤ 1000001) (hn : (pairP s span y).length ≤ 64) : properP (pairP s span y) = true := by
  obtain ⟨_, ho2, ho3⟩ := sat_orb hs
  rw [properP, decide_eq_true hn, sortedP_of _ (pair_sorted ho2 ⟨hsp.1, hsp.2.1⟩), List.all_eq_true.2 fun p hp => (pair_mem hs hy hsp hp).2.2.2.2]
  rfl
end
end Go.Proofs.Ytlmpmhfbjblhnaa
namespace Go.Proofs.Ytlmpmhfbjblhnaa

/-- The satellite with another slack, the station with another reach. -/
def withSlack (s : St) (k : Int) : St := { s with orbit := { s.orbit with slack := k } }
def withReach (y : Stn) (r : Int) : Stn := { y with reach := r }
theorem withSlack_cells (s : St) (k : Int) : (satCells s).toArray.setIfInBounds 8 (.int .i64 k) = (satCells (withSlack s k)).toArray := by simp [satCells, withSlack]
theorem withReach_cells (y : Stn) (r : Int) : (stnCells y).toArray.setIfInBounds 3 (.int .i64 r) = (stnCells (withReach y r)).toArray := by simp [stnCells, withReach]
theorem withSlack_orb {o : Orb} (h : orbOK o = true) {k : Int} (hk : 0 ≤ k ∧ k ≤ 10) : orbOK { o with slack := k } = true := by
  simp only [orbOK, Bool.and_eq_true] at h ⊢
  exact ⟨h.1, inB_iff.2 hk⟩
theorem withSlack_ok {s : St} (h : satOK s = true) {k : Int} (hk : 0 ≤ k ∧ k ≤ 10) : satOK (withSlack s k) = true := by
  have h0 : orbOK s.orbit = true := (sat_orb h).1
  have h1 := withSlack_orb h0 hk
  simp only [satOK, withSlack, Bool.and_eq_true] at h ⊢
  simp only [h0, h1, true_and] at h ⊢
  exact h
theorem withReach_ok {y : Stn} (h : stnOK y = true) {r : Int} (hr : 0 ≤ r ∧ r ≤ 6) : stnOK (withReach y r) = true := by
  simp only [stnOK, withReach, Bool.and_eq_true] at h ⊢
  simp only [h, inB_iff.2 hr, and_self]
theorem plain_slack (o : Orb) (y : Stn) (k m : Int) : plainP { o with slack := k } y m = plainP o y m := rfl
theorem plain_reach {o : Orb} {y : Stn} {r m : Int} (hr : y.reach ≤ r) (h : plainP o y m = true) : plainP o (withReach y r) m = true := by
  unfold plainP at h ⊢
  rw [decide_eq_true_eq] at h ⊢
  exact Int.le_trans h hr
section
variable {s : St} {y : Stn} {span : Spl} {t k : Int}
theorem sure_less (hs0 : 0 ≤ s.orbit.slack) (hk : s.orbit.slack ≤ k) (hsp : 0 ≤ span.fr) (h1 : span.fr ≤ t) (h2 : t < span.tt) (h : ((pairP (withSlack s k) span y).any fun p => inS p.sure t) = true) : ((pairP s span y).any fun p => inS p.sure t) = true := by
  rw [sure_iff (s := withSlack s k) (by show 0 ≤ k; omega) hsp h1 h2] at h
  rw [sure_iff hs0 hsp h1 h2]
  intro m m1 m2
  exact h m (by show t - k ≤ m; omega) (by show m ≤ t + k; omega)
theorem can_more (hs0 : 0 ≤ s.orbit.slack) (hk : s.orbit.slack ≤ k) (hsp : 0 ≤ span.fr) (h1 : span.fr ≤ t) (h2 : t < span.tt) (h : ((pairP s span y).any fun p => inS p.can t) = true) : ((pairP (withSlack s k) span y).any fun p => inS p.can t) = true := by
  rw [can_iff hs0 hsp h1 h2] at h
  rw [can_iff (s := withSlack s k) (by show 0 ≤ k; omega) hsp h1 h2]
  obtain ⟨m, m1, m2, m3⟩ := h
  exact ⟨m, by show t - k ≤ m; omega, by show m ≤ t + k; omega, m3⟩
end
theorem satP_slack (id x0 x1 x2 x3 x4 x5 x6 y0 y1 y2 y3 : Int) : 0 ≤ (satP id x0 x1 x2 x3 x4 x5 x6 y0 y1 y2 y3).orbit.slack ∧ (satP id x0 x1 x2 x3 x4 x5 x6 y0 y1 y2 y3).orbit.slack ≤ 3 := made_slack x0 x1 x2 x3 x4 x5 x6
theorem stnP_reach (id x0 x1 x2 x3 : Int) : 0 ≤ (stnP id x0 x1 x2 x3).reach ∧ (stnP id x0 x1 x2 x3).reach ≤ 4 := by
  have := pickI_bd x2 5 (by omega)
  show 0 ≤ pickI x2 5 ∧ pickI x2 5 ≤ 4
  omega
end Go.Proofs.Ytlmpmhfbjblhnaa
