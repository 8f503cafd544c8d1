/- Plain mathematics of stable sorting: insertion from the right, merging, and that they agree. -/
namespace Go.Proofs.Ytmlabgmigakcbaa

section
variable {α : Type} (lt : α → α → Bool)

/-- A strict weak order. -/
structure SW : Prop where
  tr : ∀ a b c, lt a b = true → lt b c = true → lt a c = true
  asy : ∀ a b, lt a b = true → lt b a = false
  ntr : ∀ a b c, lt a b = false → lt b c = false → lt a c = false

/-- Where x goes: behind the last element that is not greater. -/
def posR (p : List α) (x : α) : Nat := p.length - (p.reverse.takeWhile (fun y => lt x y)).length
def insR (p : List α) (x : α) : List α := p.take (posR lt p x) ++ x :: p.drop (posR lt p x)
def sortP (l : List α) : List α := l.foldl (insR lt) []
def Srtd : List α → Prop
  | [] => True
  | x :: r => (∀ y ∈ r, lt y x = false) ∧ Srtd r
def mergeP : List α → List α → List α
  | [], ys => ys
  | x :: xs, [] => x :: xs
  | x :: xs, y :: ys => if lt y x then y :: mergeP (x :: xs) ys else x :: mergeP xs (y :: ys)
termination_by l r => l.length + r.length

theorem mergeP_nil (l : List α) : mergeP lt l [] = l := by cases l <;> simp [mergeP]
theorem nil_mergeP (l : List α) : mergeP lt [] l = l := by simp [mergeP]
theorem merge_split (L1 L2 R1 R2 : List α) (h1 : ∀ x ∈ L1, ∀ y ∈ R2, lt y x = false) (h2 : ∀ y ∈ R1, ∀ x ∈ L2, lt y x = true) : mergeP lt (L1 ++ L2) (R1 ++ R2) = mergeP lt L1 R1 ++ mergeP lt L2 R2 := by
  match L1, R1 with
  | [], [] => simp [nil_mergeP]
  | [], y :: R1 =>
    rw [nil_mergeP]
    cases L2 with
    | nil => simp [nil_mergeP]
    | cons x L2 =>
      have hy := h2 y (by simp) x (by simp)
      have ih := merge_split [] (x :: L2) R1 R2 (fun _ hx => by cases hx) (fun z hz => h2 z (by simp [hz]))
      rw [nil_mergeP] at ih
      simp only [List.nil_append, List.cons_append] at ih ⊢
      rw [mergeP, if_pos hy, ih]
  | x :: L1, [] =>
    rw [mergeP_nil]
    cases R2 with
    | nil => simp [mergeP_nil]
    | cons y R2 =>
      have hy := h1 x (by simp) y (by simp)
      have ih := merge_split L1 L2 [] (y :: R2) (fun z hz => h1 z (by simp [hz])) (fun _ hx => by cases hx)
      rw [mergeP_nil] at ih
      simp only [List.nil_append, List.cons_append] at ih ⊢
      rw [mergeP, if_neg (by rw [hy]; simp), ih]
  | x :: L1, y :: R1 =>
    by_cases hc : lt y x = true
    · have ih := merge_split (x :: L1) L2 R1 R2 h1 (fun z hz => h2 z (by simp [hz]))
      simp only [List.cons_append] at ih ⊢
      rw [mergeP, if_pos hc, ih, mergeP, if_pos hc]
      simp
    · have ih := merge_split L1 L2 (y :: R1) R2 (fun z hz => h1 z (by simp [hz])) h2
      simp only [List.cons_append] at ih ⊢
      rw [mergeP, if_neg hc, ih, mergeP, if_neg hc]
      simp
termination_by L1.length + R1.length

/-- Where all elements before are not greater, and all behind are greater, x goes between. -/
theorem insR_at (A B : List α) (x : α) (h1 : ∀ y ∈ A, lt x y = false) (h2 : ∀ y ∈ B, lt x y = true) : insR lt (A ++ B) x = A ++ x :: B := by
  have hp : posR lt (A ++ B) x = A.length := by
    unfold posR
    rw [List.reverse_append, List.takeWhile_append_of_pos (fun y hy => h2 y (by simpa using hy)), List.length_append, List.length_append]
    have : (A.reverse.takeWhile (fun y => lt x y)) = [] := by
      cases hA : A.reverse with
      | nil => rfl
      | cons z r =>
        have hz : z ∈ A := by rw [← List.mem_reverse, hA]; simp
        simp [h1 z hz]
    rw [this]
    simp
  unfold insR
  rw [hp]
  simp
variable {lt}
theorem sorted_parts (h : SW lt) (B : List α) (x : α) (hs : Srtd lt B) : ∃ B1 B2, B = B1 ++ B2 ∧ (∀ y ∈ B1, lt x y = false) ∧ ∀ y ∈ B2, lt x y = true := by
  induction B with
  | nil => exact ⟨[], [], rfl, fun _ h => (by cases h), fun _ h => (by cases h)⟩
  | cons b B ih =>
    obtain ⟨hb, hB⟩ := hs
    by_cases hx : lt x b = true
    · refine ⟨[], b :: B, rfl, fun _ h => (by cases h), fun y hy => ?_⟩
      rcases List.mem_cons.1 hy with rfl | hy
      · exact hx
      · cases e : lt x y
        · have := h.ntr x y b e (hb y hy)
          rw [this] at hx
          cases hx
        · rfl
    · obtain ⟨B1, B2, rfl, h1, h2⟩ := ih hB
      refine ⟨b :: B1, B2, rfl, fun y hy => ?_, h2⟩
      rcases List.mem_cons.1 hy with rfl | hy
      · simpa using hx
      · exact h1 y hy
theorem srtd_append {A B : List α} : Srtd lt (A ++ B) ↔ Srtd lt A ∧ Srtd lt B ∧ ∀ a ∈ A, ∀ b ∈ B, lt b a = false := by
  induction A with
  | nil => simp [Srtd]
  | cons x A ih =>
    simp only [List.cons_append, Srtd, ih, List.mem_append, List.mem_cons]
    constructor
    · rintro ⟨h1, h2, h3, h4⟩
      refine ⟨⟨fun y hy => h1 y (.inl hy), h2⟩, h3, ?_⟩
      rintro a (rfl | ha) b hb
      · exact h1 b (.inr hb)
      · exact h4 a ha b hb
    · rintro ⟨⟨h1, h2⟩, h3, h4⟩
      refine ⟨?_, h2, h3, fun a ha b hb => h4 a (.inr ha) b hb⟩
      rintro y (hy | hy)
      · exact h1 y hy
      · exact h4 x (.inl rfl) y hy
theorem srtd_insR (h : SW lt) {B : List α} (hs : Srtd lt B) (x : α) : Srtd lt (insR lt B x) := by
  obtain ⟨B1, B2, rfl, h1, h2⟩ := sorted_parts h B x hs
  rw [insR_at lt B1 B2 x h1 h2]
  obtain ⟨s1, s2, s3⟩ := srtd_append.1 hs
  refine srtd_append.2 ⟨s1, ⟨fun y hy => h.asy _ _ (h2 y hy), s2⟩, fun a ha b hb => ?_⟩
  rcases List.mem_cons.1 hb with rfl | hb
  · exact h1 a ha
  · exact s3 a ha b hb
theorem srtd_foldl (h : SW lt) (l B : List α) (hs : Srtd lt B) : Srtd lt (l.foldl (insR lt) B) := by
  induction l generalizing B with
  | nil => exact hs
  | cons x l ih => exact ih _ (srtd_insR h hs x)
theorem srtd_sortP (h : SW lt) (l : List α) : Srtd lt (sortP lt l) := srtd_foldl h l [] trivial
theorem mem_insR {B : List α} {x y : α} : y ∈ insR lt B x ↔ y = x ∨ y ∈ B := by
  unfold insR
  rw [List.mem_append, List.mem_cons]
  constructor
  · rintro (h | h | h)
    · exact .inr (List.mem_of_mem_take h)
    · exact .inl h
    · exact .inr (List.mem_of_mem_drop h)
  · rintro (h | h)
    · exact .inr (.inl h)
    · rw [← List.take_append_drop (posR lt B x) B, List.mem_append] at h
      rcases h with h | h
      · exact .inl h
      · exact .inr (.inr h)
theorem mem_mergeP {A B : List α} {y : α} : y ∈ mergeP lt A B ↔ y ∈ A ∨ y ∈ B := by
  match A, B with
  | [], B => simp [nil_mergeP]
  | a :: A, [] => simp [mergeP_nil]
  | a :: A, b :: B =>
    rw [mergeP]
    split
    · have ih := mem_mergeP (A := a :: A) (B := B) (y := y)
      rw [List.mem_cons, ih]
      simp only [List.mem_cons]
      constructor
      · rintro (h | (h | h) | h) <;> simp [h]
      · rintro ((h | h) | h | h) <;> simp [h]
    · have ih := mem_mergeP (A := A) (B := b :: B) (y := y)
      rw [List.mem_cons, ih]
      simp only [List.mem_cons]
      constructor
      · rintro (h | h | h | h) <;> simp [h]
      · rintro ((h | h) | h | h) <;> simp [h]
termination_by A.length + B.length
theorem merge_insR (h : SW lt) {A B : List α} (hA : Srtd lt A) (hB : Srtd lt B) (x : α) : mergeP lt A (insR lt B x) = insR lt (mergeP lt A B) x := by
  obtain ⟨B1, B2, rfl, b1, b2⟩ := sorted_parts h B x hB
  obtain ⟨A1, A2, rfl, a1, a2⟩ := sorted_parts h A x hA
  have c1 : ∀ u ∈ A1, ∀ v ∈ B2, lt v u = false := fun u hu v hv => h.ntr v x u (h.asy _ _ (b2 v hv)) (a1 u hu)
  have c2 : ∀ v ∈ B1, ∀ u ∈ A2, lt v u = true := by
    intro v hv u hu
    cases e : lt v u
    · have := h.ntr x v u (b1 v hv) e
      rw [a2 u hu] at this
      cases this
    · rfl
  rw [insR_at lt B1 B2 x b1 b2, merge_split lt A1 A2 B1 B2 c1 c2]
  have e1 : B1 ++ x :: B2 = (B1 ++ [x]) ++ B2 := by simp
  rw [e1, merge_split lt A1 A2 (B1 ++ [x]) B2 c1 (by
    intro v hv u hu
    rcases List.mem_append.1 hv with hv | hv
    · exact c2 v hv u hu
    · obtain rfl := List.mem_singleton.1 hv
      exact a2 u hu)]
  have e2 := merge_split lt A1 [] B1 [x] (fun u hu v hv => by obtain rfl := List.mem_singleton.1 hv; exact a1 u hu) (fun _ _ _ hx => by cases hx)
  rw [List.append_nil, nil_mergeP] at e2
  rw [e2, insR_at lt (mergeP lt A1 B1) (mergeP lt A2 B2) x]
  · simp
  · intro y hy
    rcases mem_mergeP.1 hy with hy | hy
    · exact a1 y hy
    · exact b1 y hy
  · intro y hy
    rcases mem_mergeP.1 hy with hy | hy
    · exact a2 y hy
    · exact b2 y hy
/-- To merge two sorted blocks is to sort both together. -/
theorem sort_append (h : SW lt) (l r : List α) : mergeP lt (sortP lt l) (sortP lt r) = sortP lt (l ++ r) := by
  have key : ∀ (r B : List α), Srtd lt B → mergeP lt (sortP lt l) (r.foldl (insR lt) B) = r.foldl (insR lt) (mergeP lt (sortP lt l) B) := by
    intro r
    induction r with
    | nil => intro B _; rfl
    | cons x r ih =>
      intro B hB
      rw [List.foldl_cons, List.foldl_cons, ih _ (srtd_insR h hB x), merge_insR h (srtd_sortP h l) hB]
  unfold sortP
  rw [List.foldl_append]
  have := key r [] trivial
  rw [mergeP_nil] at this
  exact this
end

end Go.Proofs.Ytmlabgmigakcbaa
