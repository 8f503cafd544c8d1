/- ContactTogether: the plain law: the passes of a pair are those of all that bear its numbers; in plain Lean. -/
import Derived.Test.YtlmpmhfbjblhnaaP3
import Derived.Test.YtlmpmhfbjblhnaaC10
namespace Go.Proofs.Ytlmpmhfbjblhnaa

theorem sp_tail {is : Int → Bool} {e a : Int} {L : List Spl} (h : SpOK is a e L) : ∀ (i : Nat) (hi : i < L.length), a + 2 * i ≤ L[i].fr := by
  intro i
  induction i with
  | zero => intro hi; have := (sp_get h 0 hi).1; omega
  | succ i ih =>
    intro hi
    have h1 := ih (by omega)
    have h2 := (sp_get h i (by omega)).1
    have h3 := sp_next h i hi
    omega
theorem sp_count {is : Int → Bool} {e a : Int} {L : List Spl} (hae : a ≤ e) (h : SpOK is a e L) : 2 * (L.length : Int) ≤ e - a + 1 := by
  rcases Nat.eq_zero_or_pos L.length with h0 | h0
  · omega
  · have h1 := sp_tail h (L.length - 1) (by omega)
    have h2 := (sp_get h (L.length - 1) (by omega)).1
    omega
/-- More than 64 passes of one pair take more than 64 minutes. -/
theorem pair_many {s : St} {y : Stn} {span : Spl} (hs0 : 0 ≤ s.orbit.slack ∧ s.orbit.slack ≤ 10) (hsp : 0 ≤ span.fr ∧ span.fr < span.tt) (h : ¬ (pairP s span y).length ≤ 64) : span.tt - span.fr > 64 := by
  have hok := spells_ok (plainP s.orbit y) (span.tt - span.fr + 2 * s.orbit.slack).toNat (span.fr - s.orbit.slack)
  have hc := sp_count (by omega) hok
  unfold pairP at h
  rw [List.length_map] at h
  omega

/-- Minutes at all of which it holds lie in one spell. -/
theorem sp_win {is : Int → Bool} {e : Int} : ∀ {L : List Spl} {a : Int}, SpOK is a e L → ∀ (p q : Int), a ≤ p → p < q → q ≤ e → (∀ t, p ≤ t → t < q → is t = true) → ∃ x ∈ L, x.fr ≤ p ∧ q ≤ x.tt
  | [], a, h, p, q, h1, h2, h3, h4 => by
    have := h p h1 (by omega)
    rw [h4 p (Int.le_refl _) h2] at this
    cases this
  | s :: r, a, h, p, q, h1, h2, h3, h4 => by
    obtain ⟨b1, b2, b3, b4, b5⟩ := h
    by_cases c1 : p < s.fr
    · have := b2 p h1 c1
      rw [h4 p (Int.le_refl _) h2] at this
      cases this
    · by_cases c2 : p < s.tt
      · refine ⟨s, by simp, by omega, ?_⟩
        by_cases c3 : q ≤ s.tt
        · exact c3
        · rcases b4 with b4 | b4
          · omega
          · rw [h4 s.tt (by omega) (by omega)] at b4
            cases b4
      · obtain ⟨x, hx, hx2⟩ := sp_win b5 p q (by omega) h2 h3 h4
        exact ⟨x, by simp [hx], hx2⟩
theorem wider_in {x span : Spl} {k t : Int} (h1 : span.fr ≤ t) (h2 : t < span.tt) (hsp : 0 ≤ span.fr) : inS (widerP x k span) t = decide (x.fr - k ≤ t ∧ t < x.tt + k) := by
  unfold widerP inS
  dsimp only
  split
  · rw [decide_eq_false (show ¬ (x.fr - k ≤ t ∧ t < x.tt + k) by omega)]
    rw [Bool.and_eq_false_iff]
    exact .inr (decide_eq_false (by show ¬ t < 0; omega))
  · rw [← Bool.decide_and]
    exact decide_eq_decide.2 (by show (max (x.fr - k) span.fr ≤ t ∧ t < min (x.tt + k) span.tt) ↔ _; omega)

section
variable {s : St} {y : Stn} {span : Spl} {t : Int}
theorem pair_ok (hs0 : 0 ≤ s.orbit.slack) (hsp : span.fr < span.tt) : ∃ L, pairP s span y = L.map (passOne s y span) ∧ SpOK (plainP s.orbit y) (span.fr - s.orbit.slack) (span.tt + s.orbit.slack) L := by
  have hok := spells_ok (plainP s.orbit y) (span.tt - span.fr + 2 * s.orbit.slack).toNat (span.fr - s.orbit.slack)
  rw [show span.fr - s.orbit.slack + ((span.tt - span.fr + 2 * s.orbit.slack).toNat : Int) = span.tt + s.orbit.slack by omega] at hok
  exact ⟨_, rfl, hok⟩
theorem sure_iff (hs0 : 0 ≤ s.orbit.slack) (hsp : 0 ≤ span.fr) (h1 : span.fr ≤ t) (h2 : t < span.tt) : ((pairP s span y).any fun p => inS p.sure t) = true ↔ ∀ m, t - s.orbit.slack ≤ m → m ≤ t + s.orbit.slack → plainP s.orbit y m = true := by
  obtain ⟨L, hL, hok⟩ := pair_ok (y := y) hs0 (show span.fr < span.tt by omega)
  rw [hL, List.any_map, List.any_eq_true]
  constructor
  · rintro ⟨x, hx, hi⟩ m m1 m2
    obtain ⟨i, hil, rfl⟩ := List.mem_iff_getElem.1 hx
    have hi : inS (widerP L[i] (-s.orbit.slack) span) t = true := hi
    rw [wider_in h1 h2 hsp, decide_eq_true_eq] at hi
    exact (sp_get hok i hil).2.1 m (by omega) (by omega)
  · intro h
    obtain ⟨x, hx, x1, x2⟩ := sp_win hok (t - s.orbit.slack) (t + s.orbit.slack + 1) (by omega) (by omega) (by omega) (fun m m1 m2 => h m m1 (by omega))
    refine ⟨x, hx, ?_⟩
    show inS (widerP x (-s.orbit.slack) span) t = true
    rw [wider_in h1 h2 hsp, decide_eq_true_eq]
    omega
theorem can_iff (hs0 : 0 ≤ s.orbit.slack) (hsp : 0 ≤ span.fr) (h1 : span.fr ≤ t) (h2 : t < span.tt) : ((pairP s span y).any fun p => inS p.can t) = true ↔ ∃ m, t - s.orbit.slack ≤ m ∧ m ≤ t + s.orbit.slack ∧ plainP s.orbit y m = true := by
  obtain ⟨L, hL, hok⟩ := pair_ok (y := y) hs0 (show span.fr < span.tt by omega)
  rw [hL, List.any_map, List.any_eq_true]
  constructor
  · rintro ⟨x, hx, hi⟩
    obtain ⟨i, hil, rfl⟩ := List.mem_iff_getElem.1 hx
    have hi : inS (widerP L[i] s.orbit.slack span) t = true := hi
    rw [wider_in h1 h2 hsp, decide_eq_true_eq] at hi
    have hg := sp_get hok i hil
    refine ⟨max L[i].fr (t - s.orbit.slack), by omega, by omega, hg.2.1 _ (by omega) (by omega)⟩
  · rintro ⟨m, m1, m2, hm⟩
    obtain ⟨x, hx, x1, x2⟩ := sp_win hok m (m + 1) (by omega) (by omega) (by omega) (fun u u1 u2 => by rw [show u = m by omega]; exact hm)
    refine ⟨x, hx, ?_⟩
    show inS (widerP x s.orbit.slack span) t = true
    rw [wider_in h1 h2 hsp, decide_eq_true_eq]
    omega
end

end Go.Proofs.Ytlmpmhfbjblhnaa
namespace Go.Proofs.Ytlmpmhfbjblhnaa

/-- It holds at n numbers from a on, at all or at one of them. -/
def allF (p : Int → Bool) (a : Int) : Nat → Bool
  | 0 => true
  | n + 1 => allF p a n && p (a + n)
def anyF (p : Int → Bool) (a : Int) : Nat → Bool
  | 0 => false
  | n + 1 => anyF p a n || p (a + n)
theorem allF_iff {p : Int → Bool} {a : Int} : ∀ {n : Nat}, allF p a n = true ↔ ∀ m, a ≤ m → m < a + n → p m = true
  | 0 => by
    constructor
    · intro _ m h1 h2
      omega
    · intro _
      rfl
  | n + 1 => by
    rw [allF, Bool.and_eq_true, allF_iff (n := n)]
    constructor
    · rintro ⟨h1, h2⟩ m m1 m2
      by_cases e : m = a + n
      · subst e; exact h2
      · exact h1 m m1 (by omega)
    · intro h
      exact ⟨fun m m1 m2 => h m m1 (by omega), h _ (by omega) (by omega)⟩
theorem anyF_iff {p : Int → Bool} {a : Int} : ∀ {n : Nat}, anyF p a n = true ↔ ∃ m, a ≤ m ∧ m < a + n ∧ p m = true
  | 0 => by
    constructor
    · intro h
      cases h
    · rintro ⟨m, h1, h2, _⟩
      omega
  | n + 1 => by
    rw [anyF, Bool.or_eq_true, anyF_iff (n := n)]
    constructor
    · rintro (⟨m, m1, m2, m3⟩ | h)
      · exact ⟨m, m1, by omega, m3⟩
      · exact ⟨_, by omega, by omega, h⟩
    · rintro ⟨m, m1, m2, m3⟩
      by_cases e : m = a + n
      · subst e; exact .inr m3
      · exact .inl ⟨m, m1, by omega, m3⟩
section
variable {s : St} {y : Stn} {span : Spl} {t : Int}
/-- In Sure of a pass exactly if in view for every delay. -/
theorem sure_all (hs0 : 0 ≤ s.orbit.slack) (hsp : 0 ≤ span.fr) (h1 : span.fr ≤ t) (h2 : t < span.tt) : ((pairP s span y).any fun p => inS p.sure t) = allF (fun u => plainP s.orbit y (t - u)) (-s.orbit.slack) (2 * s.orbit.slack + 1).toNat := by
  rw [Bool.eq_iff_iff, sure_iff hs0 hsp h1 h2, allF_iff]
  constructor
  · intro h m m1 m2
    exact h (t - m) (by omega) (by omega)
  · intro h m m1 m2
    have := h (t - m) (by omega) (by omega)
    rwa [show t - (t - m) = m by omega] at this
theorem can_any (hs0 : 0 ≤ s.orbit.slack) (hsp : 0 ≤ span.fr) (h1 : span.fr ≤ t) (h2 : t < span.tt) : ((pairP s span y).any fun p => inS p.can t) = anyF (fun u => plainP s.orbit y (t - u)) (-s.orbit.slack) (2 * s.orbit.slack + 1).toNat := by
  rw [Bool.eq_iff_iff, can_iff hs0 hsp h1 h2, anyF_iff]
  constructor
  · rintro ⟨m, m1, m2, m3⟩
    exact ⟨t - m, by omega, by omega, by rw [show t - (t - m) = m by omega]; exact m3⟩
  · rintro ⟨m, m1, m2, m3⟩
    exact ⟨t - m, by omega, by omega, m3⟩
/-- The passes of a pair are named, lie in the span and are proper. -/
theorem pair_mem (hs : satOK s = true) (hy : stnOK y = true) (hsp : 0 ≤ span.fr ∧ span.fr < span.tt ∧ span.tt ≤ 1000001) {p : Pas} (hp : p ∈ pairP s span y) : p.sat = s.id ∧ p.station = y.id ∧ span.fr ≤ p.can.fr ∧ p.can.tt ≤ span.tt ∧ pasOK p = true := by
  obtain ⟨_, ho2, ho3⟩ := sat_orb hs
  obtain ⟨L, hL, hok⟩ := pair_ok (y := y) ho2 (show span.fr < span.tt by omega)
  rw [hL, List.mem_map] at hp
  obtain ⟨x, hx, rfl⟩ := hp
  obtain ⟨i, hil, rfl⟩ := List.mem_iff_getElem.1 hx
  have hg := (sp_get hok i hil).1
  generalize L[i] = x at hg
  generalize hk : s.orbit.slack = k at ho2 ho3 hg
  have hid : inB s.id 0 23 = true := by simp only [satOK, Bool.and_eq_true] at hs; exact hs.1.1.1.1.1.1.1.1.1.1.1.1.1.2
  have hyd : inB y.id 0 11 = true := by simp only [stnOK, Bool.and_eq_true] at hy; exact hy.1.1.1.2
  have ec : widerP x k span = ⟨max (x.fr - k) span.fr, min (x.tt + k) span.tt⟩ := by unfold widerP; dsimp only; rw [if_neg (by omega)]
  unfold passOne
  rw [hk, ec]
  refine ⟨rfl, rfl, by show span.fr ≤ max (x.fr - k) span.fr; omega, by show min (x.tt + k) span.tt ≤ span.tt; omega, ?_⟩
  unfold pasOK
  rw [Bool.and_eq_true, Bool.and_eq_true, Bool.and_eq_true]
  refine ⟨⟨⟨hid, hyd⟩, decide_eq_true (by dsimp only; omega)⟩, ?_⟩
  rw [Bool.or_eq_true]
  dsimp only
  unfold widerP
  dsimp only
  split
  · exact .inl (decide_eq_true rfl)
  · exact .inr (decide_eq_true (by dsimp only; omega))
theorem sortedP_of : ∀ (l : List Pas), Srtd (ltOf cmpPas) l → sortedP l = true
  | [], _ => rfl
  | [_], _ => rfl
  | x :: y :: r, h => by
    have h1 := h.1 y (by simp)
    rw [sortedP, sortedP_of (y :: r) h.2, Bool.and_true]
    simpa [ltOf] using h1
theorem pair_proper (hs : satOK s = true) (hy : stnOK y = true) (hsp : 0 ≤ span.fr ∧ span.fr < span.tt ∧ span.tt ≤ 1000001) (hn : (pairP s span y).length ≤ 64) : properP (pairP s span y) = true := by
  obtain ⟨_, ho2, ho3⟩ := sat_orb hs
  rw [properP, decide_eq_true hn, sortedP_of _ (pair_sorted ho2 ⟨hsp.1, hsp.2.1⟩), List.all_eq_true.2 fun p hp => (pair_mem hs hy hsp hp).2.2.2.2]
  rfl
end
end Go.Proofs.Ytlmpmhfbjblhnaa
namespace Go.Proofs.Ytlmpmhfbjblhnaa

/-- The satellite with another slack, the station with another reach. -/
def withSlack (s : St) (k : Int) : St := { s with orbit := { s.orbit with slack := k } }
def withReach (y : Stn) (r : Int) : Stn := { y with reach := r }
theorem withSlack_cells (s : St) (k : Int) : (satCells s).toArray.setIfInBounds 8 (.int .i64 k) = (satCells (withSlack s k)).toArray := by simp [satCells, withSlack]
theorem withReach_cells (y : Stn) (r : Int) : (stnCells y).toArray.setIfInBounds 3 (.int .i64 r) = (stnCells (withReach y r)).toArray := by simp [stnCells, withReach]
theorem withSlack_orb {o : Orb} (h : orbOK o = true) {k : Int} (hk : 0 ≤ k ∧ k ≤ 10) : orbOK { o with slack := k } = true := by
  simp only [orbOK, Bool.and_eq_true] at h ⊢
  exact ⟨h.1, inB_iff.2 hk⟩
theorem withSlack_ok {s : St} (h : satOK s = true) {k : Int} (hk : 0 ≤ k ∧ k ≤ 10) : satOK (withSlack s k) = true := by
  have h0 : orbOK s.orbit = true := (sat_orb h).1
  have h1 := withSlack_orb h0 hk
  simp only [satOK, withSlack, Bool.and_eq_true] at h ⊢
  simp only [h0, h1, true_and] at h ⊢
  exact h
theorem withReach_ok {y : Stn} (h : stnOK y = true) {r : Int} (hr : 0 ≤ r ∧ r ≤ 6) : stnOK (withReach y r) = true := by
  simp only [stnOK, withReach, Bool.and_eq_true] at h ⊢
  simp only [h, inB_iff.2 hr, and_self]
theorem plain_slack (o : Orb) (y : Stn) (k m : Int) : plainP { o with slack := k } y m = plainP o y m := rfl
theorem plain_reach {o : Orb} {y : Stn} {r m : Int} (hr : y.reach ≤ r) (h : plainP o y m = true) : plainP o (withReach y r) m = true := by
  unfold plainP at h ⊢
  rw [decide_eq_true_eq] at h ⊢
  exact Int.le_trans h hr
section
variable {s : St} {y : Stn} {span : Spl} {t k : Int}
theorem sure_less (hs0 : 0 ≤ s.orbit.slack) (hk : s.orbit.slack ≤ k) (hsp : 0 ≤ span.fr) (h1 : span.fr ≤ t) (h2 : t < span.tt) (h : ((pairP (withSlack s k) span y).any fun p => inS p.sure t) = true) : ((pairP s span y).any fun p => inS p.sure t) = true := by
  rw [sure_iff (s := withSlack s k) (by show 0 ≤ k; omega) hsp h1 h2] at h
  rw [sure_iff hs0 hsp h1 h2]
  intro m m1 m2
  exact h m (by show t - k ≤ m; omega) (by show m ≤ t + k; omega)
theorem can_more (hs0 : 0 ≤ s.orbit.slack) (hk : s.orbit.slack ≤ k) (hsp : 0 ≤ span.fr) (h1 : span.fr ≤ t) (h2 : t < span.tt) (h : ((pairP s span y).any fun p => inS p.can t) = true) : ((pairP (withSlack s k) span y).any fun p => inS p.can t) = true := by
  rw [can_iff hs0 hsp h1 h2] at h
  rw [can_iff (s := withSlack s k) (by show 0 ≤ k; omega) hsp h1 h2]
  obtain ⟨m, m1, m2, m3⟩ := h
  exact ⟨m, by show t - k ≤ m; omega, by show m ≤ t + k; omega, m3⟩
end
theorem satP_slack (id x0 x1 x2 x3 x4 x5 x6 y0 y1 y2 y3 : Int) : 0 ≤ (satP id x0 x1 x2 x3 x4 x5 x6 y0 y1 y2 y3).orbit.slack ∧ (satP id x0 x1 x2 x3 x4 x5 x6 y0 y1 y2 y3).orbit.slack ≤ 3 := made_slack x0 x1 x2 x3 x4 x5 x6
theorem stnP_reach (id x0 x1 x2 x3 : Int) : 0 ≤ (stnP id x0 x1 x2 x3).reach ∧ (stnP id x0 x1 x2 x3).reach ≤ 4 := by
  have := pickI_bd x2 5 (by omega)
  show 0 ≤ pickI x2 5 ∧ pickI x2 5 ≤ 4
  omega
end Go.Proofs.Ytlmpmhfbjblhnaa
namespace Go.Proofs.Ytlmpmhfbjblhnaa

section
variable {α : Type} {lt : α → α → Bool}
theorem filter_insR (h : SW lt) (q : α → Bool) {B : List α} (hs : Srtd lt B) (x : α) : (insR lt B x).filter q = if q x then insR lt (B.filter q) x else B.filter q := by
  obtain ⟨B1, B2, rfl, h1, h2⟩ := sorted_parts h B x hs
  rw [insR_at lt B1 B2 x h1 h2, List.filter_append, List.filter_append]
  cases hq : q x
  · rw [List.filter_cons_of_neg (by rw [hq]; simp)]
    simp
  · rw [List.filter_cons_of_pos hq, if_pos rfl, insR_at lt (B1.filter q) (B2.filter q) x (fun y hy => h1 y (List.mem_filter.1 hy).1) (fun y hy => h2 y (List.mem_filter.1 hy).1)]
theorem filter_foldl (h : SW lt) (q : α → Bool) : ∀ (l B : List α), Srtd lt B → (l.foldl (insR lt) B).filter q = (l.filter q).foldl (insR lt) (B.filter q)
  | [], B, _ => rfl
  | x :: l, B, hs => by
    rw [List.foldl_cons, filter_foldl h q l _ (srtd_insR h hs x), filter_insR h q hs x]
    cases hq : q x
    · rw [List.filter_cons_of_neg (by rw [hq]; simp)]
      rfl
    · rw [List.filter_cons_of_pos hq, List.foldl_cons]
      rfl
theorem filter_sortP (h : SW lt) (q : α → Bool) (l : List α) : (sortP lt l).filter q = sortP lt (l.filter q) := filter_foldl h q l [] trivial
theorem mem_sortP {l : List α} {y : α} : y ∈ sortP lt l ↔ y ∈ l := by
  suffices h : ∀ (l B : List α), y ∈ l.foldl (insR lt) B ↔ y ∈ l ∨ y ∈ B by simpa [sortP] using h l []
  intro l
  induction l with
  | nil => intro B; simp
  | cons x l ih =>
    intro B
    rw [List.foldl_cons, ih, mem_insR, List.mem_cons]
    constructor
    · rintro (h | h | h)
      · exact .inl (.inr h)
      · exact .inl (.inl h)
      · exact .inr h
    · rintro ((h | h) | h)
      · exact .inr (.inl h)
      · exact .inl h
      · exact .inr (.inr h)
theorem len_sortP (l : List α) : (sortP lt l).length = l.length := by
  suffices h : ∀ (l B : List α), (l.foldl (insR lt) B).length = l.length + B.length by simpa [sortP] using h l []
  intro l
  induction l with
  | nil => intro B; simp
  | cons x l ih =>
    intro B
    rw [List.foldl_cons, ih]
    have : (insR lt B x).length = B.length + 1 := by
      unfold insR
      simp only [List.length_append, List.length_take, List.length_cons, List.length_drop]
      have : posR lt B x ≤ B.length := by unfold posR; omega
      omega
    rw [this, List.length_cons]
    omega
theorem flat_one {β : Type} {f : α → List β} : ∀ {l : List α} {i : Nat} (hi : i < l.length), (∀ (j : Nat) (hj : j < l.length), j ≠ i → f l[j] = []) → l.flatMap f = f l[i]
  | x :: l, 0, hi, h => by
    have : l.flatMap f = [] := by
      rw [List.flatMap_eq_nil_iff]
      intro y hy
      obtain ⟨j, hj, rfl⟩ := List.mem_iff_getElem.1 hy
      exact h (j + 1) (by simpa using hj) (by omega)
    rw [List.flatMap_cons, this, List.append_nil]
    rfl
  | x :: l, i + 1, hi, h => by
    have h0 : f x = [] := h 0 (by simp) (by omega)
    rw [List.flatMap_cons, h0, List.nil_append, flat_one (l := l) (i := i) (by simpa using hi) (fun j hj hne => h (j + 1) (by simpa using hj) (by omega))]
    rfl
end

/-- Do the passes bear these numbers? -/
def ofPair (a b : Int) (p : Pas) : Bool := decide (p.sat = a) && decide (p.station = b)
theorem pair_named {s : St} {y : Stn} {span : Spl} {p : Pas} (hp : p ∈ pairP s span y) : p.sat = s.id ∧ p.station = y.id := by
  unfold pairP at hp
  obtain ⟨x, _, rfl⟩ := List.mem_map.1 hp
  exact ⟨rfl, rfl⟩
theorem pair_own (s : St) (y : Stn) (span : Spl) : (pairP s span y).filter (ofPair s.id y.id) = pairP s span y := by
  rw [List.filter_eq_self]
  intro p hp
  obtain ⟨h1, h2⟩ := pair_named hp
  simp [ofPair, h1, h2]
theorem pair_none (s : St) (y : Stn) (span : Spl) {a b : Int} (h : s.id ≠ a ∨ y.id ≠ b) : (pairP s span y).filter (ofPair a b) = [] := by
  rw [List.filter_eq_nil_iff]
  intro p hp
  obtain ⟨h1, h2⟩ := pair_named hp
  simp only [ofPair, h1, h2, Bool.and_eq_true, decide_eq_true_eq, not_and]
  rcases h with h | h
  · exact fun e => absurd e h
  · exact fun _ => h
section
variable {S : List St} {T : List Stn} {span : Spl}
theorem all_own {i k : Nat} (hi : i < S.length) (hk : k < T.length) (dS : ∀ (j : Nat) (hj : j < S.length), j ≠ i → S[j].id ≠ S[i].id) (dT : ∀ (j : Nat) (hj : j < T.length), j ≠ k → T[j].id ≠ T[k].id) : (allP S T span).filter (ofPair S[i].id T[k].id) = pairP S[i] span T[k] := by
  unfold allP
  rw [List.filter_flatMap, flat_one hi, List.filter_flatMap, flat_one hk]
  · exact pair_own _ _ _
  · intro j hj hne
    exact pair_none _ _ _ (.inr (dT j hj hne))
  · intro j hj hne
    rw [List.filter_flatMap, List.flatMap_eq_nil_iff]
    intro y _
    exact pair_none _ _ _ (.inl (dS j hj hne))
/-- The passes of a pair are those of all that bear its numbers. -/
theorem own_pass {i k : Nat} (hi : i < S.length) (hk : k < T.length) (dS : ∀ (j : Nat) (hj : j < S.length), j ≠ i → S[j].id ≠ S[i].id) (dT : ∀ (j : Nat) (hj : j < T.length), j ≠ k → T[j].id ≠ T[k].id) (hs0 : 0 ≤ S[i].orbit.slack) (hsp : 0 ≤ span.fr ∧ span.fr < span.tt) :
    (sortP (ltOf cmpPas) (allP S T span)).filter (ofPair S[i].id T[k].id) = pairP S[i] span T[k] := by
  rw [filter_sortP sw_pas, all_own hi hk dS dT, sortP_sorted _ (pair_sorted hs0 hsp)]
/-- How many passes there are of the first satellites, and of the next one with the first stations. -/
def cntP (S : List St) (T : List Stn) (span : Spl) (i k : Nat) : Nat := ((S.take i).flatMap fun s => T.flatMap (pairP s span)).length + ((T.take k).flatMap fun y => ((S.drop i).take 1).flatMap fun s => pairP s span y).length
theorem cnt_zero : cntP S T span 0 0 = 0 := rfl
theorem cnt_next {i k : Nat} (hi : i < S.length) (hk : k < T.length) : cntP S T span i (k + 1) = cntP S T span i k + (pairP S[i] span T[k]).length := by
  unfold cntP
  rw [List.take_succ_eq_append_getElem hk, show (S.drop i).take 1 = [S[i]] by rw [List.drop_eq_getElem_cons hi]; rfl]
  simp only [List.flatMap_append, List.length_append, List.flatMap_cons, List.flatMap_nil, List.append_nil]
  omega
theorem cnt_row {i : Nat} (hi : i < S.length) : cntP S T span i T.length = cntP S T span (i + 1) 0 := by
  unfold cntP
  rw [List.take_succ_eq_append_getElem hi, show (S.drop i).take 1 = [S[i]] by rw [List.drop_eq_getElem_cons hi]; rfl, List.take_length]
  simp only [List.flatMap_append, List.length_append, List.flatMap_cons, List.flatMap_nil, List.append_nil, List.take_zero, List.length_nil, Nat.add_zero]
theorem cnt_all : cntP S T span S.length 0 = (allP S T span).length := by
  unfold cntP allP
  simp
theorem pair_le_all {i k : Nat} (hi : i < S.length) (hk : k < T.length) : (pairP S[i] span T[k]).length ≤ (allP S T span).length := by
  have h1 : pairP S[i] span T[k] <+: pairP S[i] span T[k] := List.prefix_refl _
  have h2 : (pairP S[i] span T[k]).length ≤ (T.flatMap (pairP S[i] span)).length := by
    obtain ⟨A, B, hA⟩ := List.append_of_mem (List.getElem_mem hk)
    generalize T[k] = y at hA ⊢
    rw [hA]
    simp only [List.flatMap_append, List.flatMap_cons, List.length_append]
    omega
  have h3 : (T.flatMap (pairP S[i] span)).length ≤ (allP S T span).length := by
    obtain ⟨A, B, hA⟩ := List.append_of_mem (List.getElem_mem hi)
    generalize S[i] = s at hA ⊢
    unfold allP
    rw [hA]
    simp only [List.flatMap_append, List.flatMap_cons, List.length_append]
    omega
  omega
theorem all_proper (hS : ∀ s ∈ S, satOK s = true) (hT : ∀ y ∈ T, stnOK y = true) (hsp : 0 ≤ span.fr ∧ span.fr < span.tt ∧ span.tt ≤ 1000001) (hn : (allP S T span).length ≤ 64) : properP (sortP (ltOf cmpPas) (allP S T span)) = true := by
  have h1 : (sortP (ltOf cmpPas) (allP S T span)).all pasOK = true := List.all_eq_true.2 fun p hp => by
    rw [mem_sortP] at hp
    unfold allP at hp
    obtain ⟨s, hs, hp⟩ := List.mem_flatMap.1 hp
    obtain ⟨y, hy, hp⟩ := List.mem_flatMap.1 hp
    exact (pair_mem (hS s hs) (hT y hy) hsp hp).2.2.2.2
  rw [properP, len_sortP, decide_eq_true hn, sortedP_of _ passes_sorted, h1]
  rfl
end
theorem satsP_len (x : List A7) (y : List A4) : (satsP x y).length ≤ 3 := by rw [satsP, satsK_len]; omega
theorem stnsP_len (z : List A4) : (stnsP z).length ≤ 3 := by rw [stnsP, stnsK_len]; omega
theorem satsP_get (x : List A7) (y : List A4) (i : Nat) (h : i < (satsP x y).length) : satOK (satsP x y)[i] = true ∧ (satsP x y)[i].id = 2 * (i : Int) + 1 := by
  have h3 := satsP_len x y
  simp only [satsP, satsK, List.getElem_map, List.getElem_range]
  exact ⟨satA_ok _ _ _, satA_id _ _ _ (by omega)⟩
theorem stnsP_get (z : List A4) (i : Nat) (h : i < (stnsP z).length) : stnOK (stnsP z)[i] = true ∧ (stnsP z)[i].id = 3 * (i : Int) := by
  have h3 := stnsP_len z
  simp only [stnsP, stnsK, List.getElem_map, List.getElem_range]
  exact ⟨stnA_ok _ _, stnA_id _ _ (by omega)⟩
theorem listOK_of {α : Type} {ok : α → Bool} {id : α → Int} : ∀ (l : List α) (p : Option α), (∀ (i : Nat) (h : i < l.length), ok l[i] = true) → (∀ (i : Nat) (h : i + 1 < l.length), id l[i] < id l[i + 1]) → (∀ y, p = some y → ∀ h : 0 < l.length, id y < id l[0]) → listOK ok id p l = true
  | [], _, _, _, _ => rfl
  | x :: l, p, h1, h2, h3 => by
    have hx : ok x = true := h1 0 (by simp)
    have hl : listOK ok id (some x) l = true := listOK_of l (some x) (fun i hi => h1 (i + 1) (by simpa using hi)) (fun i hi => h2 (i + 1) (by simpa using hi)) (fun y hy h => by cases hy; exact h2 0 (by simpa using h))
    cases p with
    | none => simp only [listOK, hx, hl, Bool.and_true]
    | some y =>
      have h0 : id y < id x := h3 y rfl (by simp)
      simp only [listOK, hx, hl, decide_eq_true h0, Bool.and_true]
theorem satsP_OK (x : List A7) (y : List A4) : satsOK (satsP x y) = true := by
  have h3 := satsP_len x y
  rw [satsOK, decide_eq_true (by omega), Bool.true_and]
  exact listOK_of _ _ (fun i h => (satsP_get x y i h).1) (fun i h => by rw [(satsP_get x y i (by omega)).2, (satsP_get x y (i + 1) h).2]; omega) (fun _ h => by cases h)
theorem stnsP_OK (z : List A4) : stnsOK (stnsP z) = true := by
  have h3 := stnsP_len z
  rw [stnsOK, decide_eq_true (by omega), Bool.true_and]
  exact listOK_of _ _ (fun i h => (stnsP_get z i h).1) (fun i h => by rw [(stnsP_get z i (by omega)).2, (stnsP_get z (i + 1) h).2]; omega) (fun _ h => by cases h)

end Go.Proofs.Ytlmpmhfbjblhnaa
