/- Plain laws of uses: the rows. -/
import Derived.Test.YtgbfhkildbhhoaaQ2
import Derived.Test.YtgbfhkildbhhoaaK4
namespace Go.Proofs.Ytgbfhkildbhhoaa

theorem idxP_sorted (q : Use → Bool) (l : List Use) (i : Nat) : (idxP q l i).Pairwise (· < ·) := by
  induction l generalizing i with
  | nil => exact List.Pairwise.nil
  | cons u r ih =>
    rw [idxP]
    split
    · rw [List.pairwise_cons]
      exact ⟨fun j hj => by have := idxP_mem q r (i + 1) j hj; omega, ih (i + 1)⟩
    · exact ih (i + 1)
theorem atP_nodup (l : List Use) (t : Int) : (atP l t).Nodup := (idxP_sorted _ _ _).imp fun h => by omega
theorem inside_iff (a b : List Nat) : insideP a b = true ↔ a.length < b.length ∧ ∀ x ∈ a, x ∈ b := by
  unfold insideP
  simp
/-- What holds of the sets while the starts are gone through. -/
structure SetI (l : List Use) (pre : List Nat) (s : Int × List (List Nat)) : Prop where
  last : (s.1 = -1 ∧ pre = []) ∨ (∃ j ∈ pre, frP l j = s.1 ∧ atP l s.1 ∈ s.2)
  le : ∀ j ∈ pre, frP l j ≤ s.1
  has : ∀ j ∈ pre, atP l (frP l j) ∈ s.2
  from_ : ∀ a ∈ s.2, ∃ j ∈ pre, a = atP l (frP l j)
theorem set_step (l : List Use) (pre : List Nat) (s : Int × List (List Nat)) (i : Nat) (h0 : 0 ≤ frP l i) (hpre : ∀ j ∈ pre, frP l j ≤ frP l i) (h : SetI l pre s) : SetI l (pre ++ [i]) (setStep l s i) := by
  by_cases hlt : s.1 < frP l i
  · have he : setStep l s i = (frP l i, s.2 ++ [atP l (frP l i)]) := by rw [setStep, if_pos hlt]
    rw [he]
    refine ⟨.inr ⟨i, by simp, rfl, by simp⟩, fun j hj => ?_, fun j hj => ?_, fun a ha => ?_⟩
    · rcases List.mem_append.1 hj with hj | hj
      · exact hpre j hj
      · rw [List.mem_singleton.1 hj]; exact Int.le_refl _
    · rcases List.mem_append.1 hj with hj | hj
      · exact List.mem_append_left _ (h.has j hj)
      · rw [List.mem_singleton.1 hj]; simp
    · rcases List.mem_append.1 ha with ha | ha
      · obtain ⟨j, hj, e⟩ := h.from_ a ha
        exact ⟨j, List.mem_append_left _ hj, e⟩
      · exact ⟨i, by simp, List.mem_singleton.1 ha⟩
  · have he : setStep l s i = s := by rw [setStep, if_neg hlt]
    rw [he]
    rcases h.last with ⟨h1, h2⟩ | ⟨j, hj, h1, h2⟩
    · omega
    · have hij : frP l i = s.1 := by have := hpre j hj; omega
      refine ⟨.inr ⟨j, List.mem_append_left _ hj, h1, h2⟩, fun k hk => ?_, fun k hk => ?_, fun a ha => ?_⟩
      · rcases List.mem_append.1 hk with hk | hk
        · exact h.le k hk
        · rw [List.mem_singleton.1 hk]; omega
      · rcases List.mem_append.1 hk with hk | hk
        · exact h.has k hk
        · rw [List.mem_singleton.1 hk, hij]; exact h2
      · obtain ⟨k, hk, e⟩ := h.from_ a ha
        exact ⟨k, List.mem_append_left _ hk, e⟩
theorem sets_all (l : List Use) (hv : ∀ u ∈ l, formedP u = true) : SetI l (orderP l) ((orderP l).foldl (setStep l) (-1, [])) := by
  have key : ∀ (post pre : List Nat) (s : Int × List (List Nat)), orderP l = pre ++ post → SetI l pre s → SetI l (orderP l) (post.foldl (setStep l) s) := by
    intro post
    induction post with
    | nil => intro pre s h1 h2; rw [List.append_nil] at h1; rw [h1]; exact h2
    | cons i r ih =>
      intro pre s h1 h2
      rw [List.foldl_cons]
      have hil : i < l.length := (mem_order l i).1 (by rw [h1]; simp)
      have hf := formed_lt (hv l[i] (List.getElem_mem hil))
      refine ih (pre ++ [i]) _ (by rw [h1]; simp) (set_step l pre s i (by rw [frP_at l i hil]; omega) (order_sorted l h1).1 h2)
  exact key (orderP l) [] _ rfl ⟨.inl ⟨rfl, rfl⟩, fun j hj => by simp at hj, fun j hj => by simp at hj, fun a ha => by simp at ha⟩
theorem mem_sets (l : List Use) (hv : ∀ u ∈ l, formedP u = true) (a : List Nat) : a ∈ setsP l ↔ ∃ u ∈ l, a = atP l u.fr := by
  have h := sets_all l hv
  constructor
  · intro ha
    obtain ⟨j, hj, e⟩ := h.from_ a ha
    have hjl := (mem_order l j).1 hj
    exact ⟨l[j], List.getElem_mem hjl, by rw [e, frP_at l j hjl]⟩
  · rintro ⟨u, hu, rfl⟩
    obtain ⟨j, hjl, rfl⟩ := List.mem_iff_getElem.1 hu
    have := h.has j ((mem_order l j).2 hjl)
    rwa [frP_at l j hjl] at this
/-- A set is kept that holds this one. -/
theorem kept_over (L : List (List Nat)) (s : List Nat) (hs : s ∈ L) : ∃ b ∈ L.filter (fun a => !(L.any fun b => insideP a b)), ∀ x ∈ s, x ∈ b := by
  have hne : L.filter (fun b => s.all (b.contains ·)) ≠ [] := by
    intro e
    have : s ∈ L.filter (fun b => s.all (b.contains ·)) := List.mem_filter.2 ⟨hs, by simp⟩
    rw [e] at this
    cases this
  obtain ⟨b, hb, hm⟩ := exists_max (fun b : List Nat => (b.length : Int)) _ hne
  rw [List.mem_filter] at hb
  have hsub : ∀ x ∈ s, x ∈ b := by simpa using hb.2
  refine ⟨b, List.mem_filter.2 ⟨hb.1, ?_⟩, hsub⟩
  rw [Bool.not_eq_true', List.any_eq_false]
  intro c hc hin
  rw [inside_iff] at hin
  have h1 := hm c (List.mem_filter.2 ⟨hc, by simp; exact fun x hx => hin.2 x (hsub x hx)⟩)
  omega
/-- Some of the uses, by bits. -/
def selU (B : Nat) : List Use → Nat → List Use
  | [], _ => []
  | u :: r, i => if bitP B i then u :: selU B r (i + 1) else selU B r (i + 1)
theorem selU_sub (B : Nat) (l : List Use) (i : Nat) : (selU B l i).Sublist l := by
  induction l generalizing i with
  | nil => exact List.Sublist.refl _
  | cons u r ih =>
    rw [selU]
    split
    · exact (ih (i + 1)).cons_cons u
    · exact (ih (i + 1)).cons u
theorem selU_append (B : Nat) (a b : List Use) (i : Nat) : selU B (a ++ b) i = selU B a i ++ selU B b (i + a.length) := by
  induction a generalizing i with
  | nil => simp [selU]
  | cons u r ih =>
    simp only [List.cons_append, selU, ih]
    have : i + 1 + r.length = i + (u :: r).length := by simp; omega
    split <;> simp [this]
theorem selU_succ (B : Nat) (l : List Use) (k : Nat) (h : k < l.length) : selU B (l.take (k + 1)) 0 = selU B (l.take k) 0 ++ (if bitP B k then [l[k]] else []) := by
  rw [List.take_succ_eq_append_getElem h, selU_append]
  congr 1
  simp only [selU, List.length_take]
  have : 0 + min k l.length = k := by omega
  rw [this]
theorem sel_cnt (B : Nat) (q : Use → Bool) (l : List Use) (i : Nat) : (selU B l i).countP q = (idxP q l i).countP (bitP B) := by
  induction l generalizing i with
  | nil => rfl
  | cons u r ih =>
    rw [selU, idxP]
    cases h1 : bitP B i <;> cases h2 : q u <;> simp [h1, h2, ih]
theorem sel_at (B : Nat) (l : List Use) (t : Int) : cnt (selU B l 0) t = (atP l t).countP (bitP B) := sel_cnt B (hasT t) l 0
/-- There is a clash of some uses exactly if more of them than antennas are in some row of all. -/
theorem rows_law (l : List Use) (B : Nat) (m : Int) (hv : validU l = true) (hm : inB m 0 8 = true) : (rowsP l).2 = 0 ∧ (clashP (selU B l 0) m).2.2 = 0 ∧ (0 ≤ (clashP (selU B l 0) m).1 ↔ ∃ r ∈ (rowsP l).1, m < (r.countP (bitP B) : Int)) ∧ ∀ r ∈ (rowsP l).1, r.Pairwise (· < ·) ∧ ∀ j ∈ r, j < l.length := by
  have hfm := ((validU_iff l).1 hv).2.1
  have hsv := valid_sub (selU_sub B l 0) hv
  obtain ⟨h0, h1, h2⟩ := clash_iff (selU B l 0) m hsv hm
  have hr : rowsP l = ((setsP l).filter (fun a => !((setsP l).any fun b => insideP a b)), 0) := by rw [rowsP, if_pos hv]
  rw [hr]
  dsimp only
  refine ⟨rfl, h0, ⟨fun hc => ?_, fun ⟨r, hrm, hcr⟩ => ?_⟩, fun r hrm => ?_⟩
  · have hne : ¬ ∀ u ∈ selU B l 0, (cnt (selU B l 0) u.fr : Int) ≤ m := fun h => by have := h2.2 h; omega
    obtain ⟨u, hu, hlt⟩ : ∃ u ∈ selU B l 0, m < (cnt (selU B l 0) u.fr : Int) := by
      rcases Decidable.em (∃ u ∈ selU B l 0, m < (cnt (selU B l 0) u.fr : Int)) with hh | hn
      · exact hh
      · exact absurd (fun u hu => Int.not_lt.1 fun h => hn ⟨u, hu, h⟩) hne
    obtain ⟨b, hb, hsub⟩ := kept_over (setsP l) (atP l u.fr) ((mem_sets l hfm _).2 ⟨u, (selU_sub B l 0).subset hu, rfl⟩)
    refine ⟨b, hb, ?_⟩
    rw [sel_at] at hlt
    have hle : (atP l u.fr).countP (bitP B) ≤ b.countP (bitP B) := by
      rw [List.countP_eq_length_filter, List.countP_eq_length_filter]
      refine nodup_sub_len _ _ ((atP_nodup l _).filter _) fun x hx => ?_
      rw [List.mem_filter] at hx ⊢
      exact ⟨hsub x hx.1, hx.2⟩
    omega
  · obtain ⟨u, hu, rfl⟩ := (mem_sets l hfm _).1 (List.mem_filter.1 hrm).1
    rw [← sel_at] at hcr
    rw [inB_iff] at hm
    obtain ⟨v, hvm, _, hle⟩ := peak (selU B l 0) u.fr (by omega)
    rcases h1 with h1 | h1
    · have := h2.1 h1 v hvm
      omega
    · exact h1
  · obtain ⟨u, hu, rfl⟩ := (mem_sets l hfm _).1 (List.mem_filter.1 hrm).1
    exact ⟨idxP_sorted _ _ _, fun j hj => ((mem_atP l _ j).1 hj).1⟩
end Go.Proofs.Ytgbfhkildbhhoaa
