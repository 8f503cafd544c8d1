/- Plain laws of uses: how many are there at a minute. -/
import Derived.Test.YtgbfhkildbhhoaaA8
import Derived.Test.YtgbfhkildbhhoaaA12
import Derived.Test.YtgbfhkildbhhoaaR3
namespace Go.Proofs.Ytgbfhkildbhhoaa

theorem idxP_len (q : Use → Bool) (l : List Use) (i : Nat) : (idxP q l i).length = l.countP q := by
  induction l generalizing i with
  | nil => rfl
  | cons u r ih =>
    rw [idxP, List.countP_cons]
    cases h : q u <;> simp [ih]
/-- How many uses have a minute. -/
def cnt (l : List Use) (t : Int) : Nat := l.countP (hasT t)
theorem atP_len (l : List Use) (t : Int) : (atP l t).length = cnt l t := idxP_len _ _ _
theorem cnt_append (a b : List Use) (t : Int) : cnt (a ++ b) t = cnt a t + cnt b t := List.countP_append
theorem cnt_cons (u : Use) (l : List Use) (t : Int) : cnt (u :: l) t = cnt l t + (if hasT t u then 1 else 0) := by rw [cnt, cnt, List.countP_cons]
theorem cnt_le (l : List Use) (t : Int) : cnt l t ≤ l.length := List.countP_le_length
theorem cnt_sub {a b : List Use} (h : a.Sublist b) (t : Int) : cnt a t ≤ cnt b t := h.countP_le
theorem hasT_iff (t : Int) (u : Use) : hasT t u = true ↔ u.fr ≤ t ∧ t < u.tt := by simp [hasT]
/-- Two uses of one satellite do not meet. -/
def ApartU (v u : Use) : Prop := ¬ (v.sat = u.sat ∧ meetP v.spl u.spl = true)
theorem validR_iff (p l : List Use) : validR p l = true ↔ (∀ u ∈ l, formedP u = true ∧ ∀ v ∈ p, ApartU v u) ∧ l.Pairwise ApartU := by
  induction l generalizing p with
  | nil => simp [validR]
  | cons u r ih =>
    rw [validR, Bool.and_eq_true, ih, List.pairwise_cons]
    have ha : addsP p u = true ↔ formedP u = true ∧ ∀ v ∈ p, ApartU v u := by
      unfold addsP ApartU
      simp
    rw [ha]
    simp only [List.mem_append, List.mem_cons, List.not_mem_nil, or_false]
    constructor
    · rintro ⟨⟨h1, h2⟩, h3, h4⟩
      refine ⟨fun x hx => ?_, fun x hx => (h3 x hx).2 u (.inr rfl), h4⟩
      rcases hx with rfl | hx
      · exact ⟨h1, h2⟩
      · exact ⟨(h3 x hx).1, fun v hv => (h3 x hx).2 v (.inl hv)⟩
    · rintro ⟨h1, h2, h3⟩
      refine ⟨h1 u (.inl rfl), fun x hx => ⟨(h1 x (.inr hx)).1, fun v hv => ?_⟩, h3⟩
      rcases hv with hv | rfl
      · exact (h1 x (.inr hx)).2 v hv
      · exact h2 x hx
theorem validU_iff (l : List Use) : validU l = true ↔ l.length ≤ 64 ∧ (∀ u ∈ l, formedP u = true) ∧ l.Pairwise ApartU := by
  unfold validU
  rw [Bool.and_eq_true, decide_eq_true_eq, validR_iff]
  simp
theorem formed_lt {u : Use} (h : formedP u = true) : 0 ≤ u.fr ∧ u.fr < u.tt ∧ u.tt ≤ 1000001 := by
  unfold formedP at h
  simp at h
  omega
theorem valid_sub {a b : List Use} (h : a.Sublist b) (hb : validU b = true) : validU a = true := by
  rw [validU_iff] at hb ⊢
  exact ⟨Nat.le_trans h.length_le hb.1, fun u hu => hb.2.1 u (h.subset hu), hb.2.2.sublist h⟩
theorem madeL_valid (l : List T3) (out : List Use) (h : validU out = true) : validU (madeL l out) = true := by
  induction l generalizing out with
  | nil => exact h
  | cons t r ih =>
    rw [madeL_cons]
    apply ih
    split
    · assumption
    · exact h
theorem made_valid (x : List T3) : validU (madeP x) = true := madeL_valid _ _ rfl
theorem made_len (x : List T3) : (madeP x).length ≤ 14 := Nat.le_trans (madeL_len _ _) (by rw [List.length_take]; simp; omega)
theorem exists_max {α : Type} (f : α → Int) (l : List α) (h : l ≠ []) : ∃ v ∈ l, ∀ w ∈ l, f w ≤ f v := by
  induction l with
  | nil => exact absurd rfl h
  | cons x r ih =>
    rcases r with _ | ⟨y, r⟩
    · exact ⟨x, List.mem_cons_self, fun w hw => by rw [List.mem_singleton.1 hw]; exact Int.le_refl _⟩
    · obtain ⟨v, hv, hm⟩ := ih (by simp)
      by_cases hx : f v ≤ f x
      · refine ⟨x, List.mem_cons_self, fun w hw => ?_⟩
        rcases List.mem_cons.1 hw with rfl | hw
        · exact Int.le_refl _
        · have := hm w hw; omega
      · refine ⟨v, List.mem_cons_of_mem _ hv, fun w hw => ?_⟩
        rcases List.mem_cons.1 hw with rfl | hw
        · omega
        · exact hm w hw
/-- Wherever most uses are, they are at the start of one of them. -/
theorem peak (l : List Use) (t : Int) (h : 0 < cnt l t) : ∃ v ∈ l, hasT t v = true ∧ cnt l t ≤ cnt l v.fr := by
  have hne : l.filter (hasT t) ≠ [] := by
    intro e
    unfold cnt at h
    rw [List.countP_eq_length_filter, e] at h
    simp at h
  obtain ⟨v, hv, hm⟩ := exists_max Use.fr _ hne
  rw [List.mem_filter] at hv
  refine ⟨v, hv.1, hv.2, List.countP_mono_left fun w hw hwt => ?_⟩
  have h1 := hm w (List.mem_filter.2 ⟨hw, hwt⟩)
  rw [hasT_iff] at hwt ⊢
  have h2 := (hasT_iff _ _).1 hv.2
  omega
theorem own_start {l : List Use} {u : Use} (hu : u ∈ l) (hf : formedP u = true) : 0 < cnt l u.fr := by
  unfold cnt
  rw [List.countP_pos_iff]
  exact ⟨u, hu, by rw [hasT_iff]; have := formed_lt hf; omega⟩
theorem most_iff (l a : List Use) (k : Nat) : mostP l a ≤ k ↔ ∀ u ∈ a, cnt l u.fr ≤ k := by
  induction a with
  | nil => simp [mostP]
  | cons u r ih => rw [mostP, Nat.max_le, ih, atP_len]; simp
theorem most_ge {l a : List Use} {u : Use} (h : u ∈ a) : cnt l u.fr ≤ mostP l a := (most_iff l a _).1 (Nat.le_refl _) u h
theorem most_at (l a : List Use) (h : 0 < mostP l a) : ∃ u ∈ a, cnt l u.fr = mostP l a := by
  rcases Decidable.em (∃ u ∈ a, cnt l u.fr = mostP l a) with hh | hn
  · exact hh
  · exfalso
    have : mostP l a ≤ mostP l a - 1 := (most_iff l a _).2 fun u hu => by
      have h1 := most_ge (l := l) hu
      have h2 : cnt l u.fr ≠ mostP l a := fun e => hn ⟨u, hu, e⟩
      omega
    omega
/-- With one use less there are not more, and at most one less. -/
theorem most_less (a b : List Use) (u : Use) : mostP (a ++ b) (a ++ b) ≤ mostP (a ++ u :: b) (a ++ u :: b) ∧ mostP (a ++ u :: b) (a ++ u :: b) ≤ mostP (a ++ b) (a ++ b) + 1 := by
  have hc : ∀ t, cnt (a ++ u :: b) t = cnt (a ++ b) t + (if hasT t u then 1 else 0) := fun t => by rw [cnt_append, cnt_append, cnt_cons]; omega
  have hsub : ∀ w ∈ a ++ b, w ∈ a ++ u :: b := fun w hw => by
    rcases List.mem_append.1 hw with hw | hw
    · exact List.mem_append_left _ hw
    · exact List.mem_append_right _ (List.mem_cons_of_mem _ hw)
  constructor
  · rw [most_iff]
    intro w hw
    have h1 := most_ge (l := a ++ u :: b) (hsub w hw)
    have h2 := hc w.fr
    omega
  · rw [most_iff]
    intro w hw
    have h2 := hc w.fr
    rcases Nat.eq_zero_or_pos (cnt (a ++ b) w.fr) with h0 | h0
    · split at h2 <;> omega
    · obtain ⟨v, hvm, _, hle⟩ := peak (a ++ b) w.fr h0
      have h3 := most_ge (l := a ++ b) hvm
      split at h2 <;> omega
theorem begP_iff (l : List Use) (a b : Nat) : begP l a b = true ↔ frP l a < frP l b := by unfold begP; rw [decide_eq_true_eq, cmpI_neg]
theorem begP_neg (l : List Use) (a b : Nat) : begP l a b = false ↔ frP l b ≤ frP l a := by
  rw [← Bool.not_eq_true, begP_iff]; omega
theorem sw_beg (l : List Use) : SW (begP l) := by
  refine ⟨fun a b c h1 h2 => ?_, fun a b h => ?_, fun a b c h1 h2 => ?_⟩
  · rw [begP_iff] at h1 h2 ⊢; omega
  · rw [begP_iff] at h; rw [begP_neg]; omega
  · rw [begP_neg] at h1 h2 ⊢; omega
theorem mem_order (l : List Use) (i : Nat) : i ∈ orderP l ↔ i < l.length := by
  unfold orderP sortP
  have key : ∀ (m B : List Nat), i ∈ m.foldl (insR (begP l)) B ↔ i ∈ B ∨ i ∈ m := by
    intro m
    induction m with
    | nil => intro B; simp
    | cons x r ih =>
      intro B
      rw [List.foldl_cons, ih, mem_insR]
      simp only [List.mem_cons]
      constructor
      · rintro ((h | h) | h)
        · exact .inr (.inl h)
        · exact .inl h
        · exact .inr (.inr h)
      · rintro (h | h | h)
        · exact .inl (.inr h)
        · exact .inl (.inl h)
        · exact .inr h
  rw [key]
  simp
theorem scan_none (l : List Use) (m : Int) (o : List Nat) : (scanP l m o).1 = -1 ∧ (∀ i ∈ o, (cnt l (frP l i) : Int) ≤ m) ∧ (scanP l m o).2 = [] ∨
    ∃ pre i post, o = pre ++ i :: post ∧ (∀ j ∈ pre, (cnt l (frP l j) : Int) ≤ m) ∧ m < (cnt l (frP l i) : Int) ∧ scanP l m o = (frP l i, atP l (frP l i)) := by
  induction o with
  | nil => exact .inl ⟨rfl, fun i hi => absurd hi (by simp), rfl⟩
  | cons x r ih =>
    rw [scanP, atP_len]
    by_cases h : m < (cnt l (frP l x) : Int)
    · rw [if_pos h]
      exact .inr ⟨[], x, r, rfl, fun j hj => absurd hj (by simp), h, rfl⟩
    · rw [if_neg h]
      rcases ih with ⟨h1, h2, h3⟩ | ⟨pre, i, post, h1, h2, h3, h4⟩
      · refine .inl ⟨h1, fun i hi => ?_, h3⟩
        rcases List.mem_cons.1 hi with rfl | hi
        · omega
        · exact h2 i hi
      · refine .inr ⟨x :: pre, i, post, by rw [h1]; rfl, fun j hj => ?_, h3, h4⟩
        rcases List.mem_cons.1 hj with rfl | hj
        · omega
        · exact h2 j hj
/-- No clash: nowhere are more uses than antennas. -/
theorem clash_iff (l : List Use) (m : Int) (hv : validU l = true) (hm : inB m 0 8 = true) : (clashP l m).2.2 = 0 ∧ ((clashP l m).1 = -1 ∨ 0 ≤ (clashP l m).1) ∧ ((clashP l m).1 = -1 ↔ ∀ u ∈ l, (cnt l u.fr : Int) ≤ m) := by
  unfold clashP
  rw [hv, hm, Bool.true_and, if_pos rfl]
  dsimp only
  rcases scan_none l m (orderP l) with ⟨h1, h2, h3⟩ | ⟨pre, i, post, h1, h2, h3, h4⟩
  · refine ⟨rfl, .inl h1, fun _ u hu => ?_, fun _ => h1⟩
    obtain ⟨k, hk, rfl⟩ := List.mem_iff_getElem.1 hu
    have := h2 k ((mem_order l k).2 hk)
    rwa [frP_at l k hk] at this
  · have hi : i < l.length := (mem_order l i).1 (by rw [h1]; simp)
    have hf := formed_lt (((validU_iff l).1 hv).2.1 l[i] (List.getElem_mem hi))
    rw [h4]
    dsimp only
    rw [frP_at l i hi] at h3 ⊢
    refine ⟨rfl, .inr (by omega), fun h => by omega, fun h => ?_⟩
    have := h l[i] (List.getElem_mem hi)
    omega
theorem fewest_ok (l : List Use) (hv : validU l = true) : fewestP l = ((mostP l l : Int), 0) := by rw [fewestP, if_pos hv]
theorem most_zero (l : List Use) (hv : validU l = true) : mostP l l = 0 ↔ l.length = 0 := by
  constructor
  · intro h
    rcases l with _ | ⟨u, r⟩
    · rfl
    · have h1 := own_start (l := u :: r) List.mem_cons_self (((validU_iff _).1 hv).2.1 u List.mem_cons_self)
      have h2 := most_ge (l := u :: r) (a := u :: r) List.mem_cons_self
      omega
  · intro h
    have := mostP_le l l
    omega
end Go.Proofs.Ytgbfhkildbhhoaa
