/- Plain mathematics: the reference's way to say that options are carried together. -/
namespace Go.Proofs.Ytikphbgfcpamgaa

structure Brn where
  at_ : Int
  opt : Int
  slot : Int
  yes : Int
  no : Int
instance : DecidableEq Brn := fun a b => decidable_of_iff (a.at_ = b.at_ ∧ a.opt = b.opt ∧ a.slot = b.slot ∧ a.yes = b.yes ∧ a.no = b.no) (by cases a; cases b; simp)
inductive DT where
  | leaf : DT
  | node : Int → Int → Int → DT → DT → DT
def pos (b : Brn) : List Brn → Nat
  | [] => 0
  | x :: r => if x = b then 0 else pos b r + 1
def put (T : List Brn) (b : Brn) : List Brn := if b ∈ T then T else T ++ [b]
def bld : List Brn → DT → List Brn × Int
  | T, .leaf => (T, -1)
  | T, .node a o s n y => (put (bld (bld T n).1 y).1 ⟨a, o, s, (bld (bld T n).1 y).2, (bld T n).2⟩, pos ⟨a, o, s, (bld (bld T n).1 y).2, (bld T n).2⟩ (bld (bld T n).1 y).1)
inductive Rep (T : List Brn) : Int → DT → Prop
  | leaf : Rep T (-1) .leaf
  | node {k : Nat} {b : Brn} {n y : DT} : T[k]? = some b → Rep T b.no n → Rep T b.yes y → Rep T (k : Int) (.node b.at_ b.opt b.slot n y)

theorem pos_mem {b : Brn} {T : List Brn} (h : b ∈ T) : T[pos b T]? = some b := by
  induction T with
  | nil => cases h
  | cons x r ih =>
    simp only [pos]
    by_cases hx : x = b
    · rw [if_pos hx]; simp [hx]
    · rw [if_neg hx]
      simp only [List.getElem?_cons_succ]
      exact ih (by rcases List.mem_cons.1 h with e | e; exact absurd e.symm hx; exact e)
theorem pos_lt {b : Brn} {T : List Brn} (h : b ∈ T) : pos b T < T.length := (List.getElem?_eq_some_iff.1 (pos_mem h)).1
theorem pos_le (b : Brn) (T : List Brn) : pos b T ≤ T.length := by
  induction T with
  | nil => exact Nat.le_refl _
  | cons x r ih => simp only [pos, List.length_cons]; split <;> omega
theorem pos_none {b : Brn} {T : List Brn} (h : b ∉ T) : pos b T = T.length := by
  induction T with
  | nil => rfl
  | cons x r ih =>
    simp only [pos]
    rw [if_neg (fun e => h (by simp [e])), ih (fun e => h (by simp [e]))]
    rfl
theorem pos_nodup {b : Brn} {T : List Brn} (hn : T.Nodup) {k : Nat} (h : T[k]? = some b) : pos b T = k := by
  have hm : b ∈ T := List.mem_of_getElem? h
  obtain ⟨h1, h2⟩ := List.getElem?_eq_some_iff.1 h
  obtain ⟨h3, h4⟩ := List.getElem?_eq_some_iff.1 (pos_mem hm)
  exact (List.getElem_inj hn).1 (h4.trans h2.symm)
theorem put_pos (T : List Brn) (b : Brn) : (put T b)[pos b T]? = some b := by
  unfold put
  by_cases h : b ∈ T
  · rw [if_pos h]; exact pos_mem h
  · rw [if_neg h, pos_none h]; simp
theorem put_nodup {T : List Brn} (hn : T.Nodup) (b : Brn) : (put T b).Nodup := by
  unfold put
  by_cases h : b ∈ T
  · rw [if_pos h]; exact hn
  · rw [if_neg h, List.nodup_append]
    exact ⟨hn, by simp, fun x hx y hy e => h (by simp at hy; rw [← hy, ← e]; exact hx)⟩
theorem put_ext (T : List Brn) (b : Brn) : ∃ R, put T b = T ++ R := by
  unfold put
  by_cases h : b ∈ T
  · exact ⟨[], by rw [if_pos h, List.append_nil]⟩
  · exact ⟨[b], by rw [if_neg h]⟩
theorem Rep.app {T : List Brn} {k : Int} {D : DT} (h : Rep T k D) (R : List Brn) : Rep (T ++ R) k D := by
  induction h with
  | leaf => exact .leaf
  | node hk _ _ h1 h2 =>
    refine .node ?_ h1 h2
    rw [List.getElem?_append_left (List.getElem?_eq_some_iff.1 hk).1]
    exact hk
theorem Rep.lo {T : List Brn} {k : Int} {D : DT} (h : Rep T k D) : -1 ≤ k ∧ k < T.length := by
  cases h with
  | leaf => omega
  | node hk _ _ => have := (List.getElem?_eq_some_iff.1 hk).1; omega
theorem Rep.neg {T : List Brn} {D : DT} (h : Rep T (-1) D) : D = .leaf := by
  generalize hk : (-1 : Int) = k at h
  cases h with
  | leaf => rfl
  | node _ _ _ => omega
theorem Rep.inv {T : List Brn} {k : Nat} {D : DT} (h : Rep T (k : Int) D) : ∃ b n y, T[k]? = some b ∧ Rep T b.no n ∧ Rep T b.yes y ∧ D = .node b.at_ b.opt b.slot n y := by
  generalize hk : (k : Int) = j at h
  cases h with
  | leaf => omega
  | node h1 h2 h3 =>
    have : k = _ := Int.ofNat.inj hk
    subst this
    exact ⟨_, _, _, h1, h2, h3, rfl⟩
theorem Rep.fn {T : List Brn} {k : Int} {D D' : DT} (h : Rep T k D) (h' : Rep T k D') : D = D' := by
  induction h generalizing D' with
  | leaf => exact h'.neg.symm
  | node hk _ _ h1 h2 =>
    obtain ⟨b, n, y, e1, e2, e3, rfl⟩ := h'.inv
    rw [hk] at e1
    injection e1 with e1
    subst e1
    rw [h1 e2, h2 e3]
theorem bld_ext (D : DT) : ∀ T, ∃ R, (bld T D).1 = T ++ R := by
  induction D with
  | leaf => exact fun T => ⟨[], by simp [bld]⟩
  | node a o s n y h1 h2 =>
    intro T
    obtain ⟨R1, e1⟩ := h1 T
    obtain ⟨R2, e2⟩ := h2 (bld T n).1
    obtain ⟨R3, e3⟩ := put_ext (bld (bld T n).1 y).1 ⟨a, o, s, (bld (bld T n).1 y).2, (bld T n).2⟩
    exact ⟨R1 ++ R2 ++ R3, by rw [bld]; dsimp only; rw [e3, e2, e1]; simp⟩
theorem bld_nodup (D : DT) : ∀ T, T.Nodup → (bld T D).1.Nodup := by
  induction D with
  | leaf => exact fun T h => h
  | node a o s n y h1 h2 => exact fun T h => by rw [bld]; exact put_nodup (h2 _ (h1 _ h)) _
theorem bld_rep (D : DT) : ∀ T, Rep (bld T D).1 (bld T D).2 D := by
  induction D with
  | leaf => exact fun T => .leaf
  | node a o s n y h1 h2 =>
    intro T
    obtain ⟨R2, e2⟩ := bld_ext y (bld T n).1
    obtain ⟨R3, e3⟩ := put_ext (bld (bld T n).1 y).1 ⟨a, o, s, (bld (bld T n).1 y).2, (bld T n).2⟩
    have hn := ((h1 T).app R2)
    rw [← e2] at hn
    have hn := hn.app R3
    have hy := (h2 (bld T n).1).app R3
    rw [← e3] at hn hy
    have hp := put_pos (bld (bld T n).1 y).1 ⟨a, o, s, (bld (bld T n).1 y).2, (bld T n).2⟩
    rw [bld]
    exact Rep.node hp hn hy
theorem bld_met {T : List Brn} (hn : T.Nodup) {k : Int} {D : DT} (h : Rep T k D) : bld T D = (T, k) := by
  induction h with
  | leaf => rfl
  | @node j b n y hk _ _ h1 h2 =>
    rw [bld, h1]
    dsimp only
    rw [h2]
    have hb : (⟨b.at_, b.opt, b.slot, b.yes, b.no⟩ : Brn) = b := rfl
    dsimp only
    rw [hb, pos_nodup hn hk, put, if_pos (List.mem_of_getElem? hk)]
theorem Rep.inj {T : List Brn} (hn : T.Nodup) {k k' : Int} {D : DT} (h : Rep T k D) (h' : Rep T k' D) : k = k' := by
  have e1 := bld_met hn h
  rw [bld_met hn h'] at e1
  injection e1 with _ e
  exact e.symm
theorem Rep.grow {T R : List Brn} {k : Int} {D : DT} (h : Rep T k D) (hR : ∃ X, R = T ++ X) : Rep R k D := by
  obtain ⟨X, rfl⟩ := hR
  exact h.app X
def Down (T : List Brn) : Prop := ∀ (i : Nat) (b : Brn), T[i]? = some b → (-1 ≤ b.no ∧ b.no < i) ∧ (-1 ≤ b.yes ∧ b.yes < i)
theorem Down.rep {T : List Brn} (h : Down T) : ∀ (k : Int), -1 ≤ k → k < T.length → ∃ D, Rep T k D := by
  have H : ∀ (n : Nat) (k : Int), k < n → -1 ≤ k → k < T.length → ∃ D, Rep T k D := by
    intro n
    induction n with
    | zero => intro k h1 h2 _; exact ⟨.leaf, by rw [show k = -1 by omega]; exact .leaf⟩
    | succ n ih =>
      intro k h1 h2 h3
      by_cases hk : k = -1
      · exact ⟨.leaf, by rw [hk]; exact .leaf⟩
      · obtain ⟨j, rfl⟩ : ∃ j : Nat, k = j := ⟨k.toNat, by omega⟩
        have hj : j < T.length := by omega
        have hb := List.getElem?_eq_getElem hj
        obtain ⟨⟨a1, a2⟩, a3, a4⟩ := h j _ hb
        obtain ⟨n1, hn1⟩ := ih T[j].no (by omega) a1 (by omega)
        obtain ⟨y1, hy1⟩ := ih T[j].yes (by omega) a3 (by omega)
        exact ⟨_, .node hb hn1 hy1⟩
  exact fun k h1 h2 => H T.length k h2 h1 h2
theorem bld_down (D : DT) : ∀ T, Down T → Down (bld T D).1 := by
  induction D with
  | leaf => exact fun T h => h
  | node a o s n y h1 h2 =>
    intro T h
    have h3 := h2 _ (h1 _ h)
    have r1 := (bld_rep n T).lo
    have r2 := (bld_rep y (bld T n).1).lo
    obtain ⟨R2, e2⟩ := bld_ext y (bld T n).1
    have hle : (bld T n).1.length ≤ (bld (bld T n).1 y).1.length := by rw [e2]; simp
    rw [bld]
    generalize bld (bld T n).1 y = q at h3 r2 hle ⊢
    unfold put
    by_cases hm : (⟨a, o, s, q.2, (bld T n).2⟩ : Brn) ∈ q.1
    · dsimp only; rw [if_pos hm]; exact h3
    · dsimp only; rw [if_neg hm]
      intro i b hb
      rw [List.getElem?_append] at hb
      by_cases hi : i < q.1.length
      · rw [if_pos hi] at hb; exact h3 i b hb
      · rw [if_neg hi] at hb
        have : i = q.1.length := by
          obtain ⟨hz, _⟩ := List.getElem?_eq_some_iff.1 hb
          simp at hz
          omega
        subst this
        simp at hb
        subst hb
        dsimp only
        omega
def unfF (T : List Brn) : Nat → Int → DT
  | 0, _ => .leaf
  | f + 1, k => if k = -1 then .leaf else match T[k.toNat]? with
    | none => .leaf
    | some b => .node b.at_ b.opt b.slot (unfF T f b.no) (unfF T f b.yes)
def unf (T : List Brn) (k : Int) : DT := unfF T (T.length + 1) k
theorem unf_rep {T : List Brn} (hd : Down T) {k : Int} {D : DT} (h : Rep T k D) : unf T k = D := by
  have H : ∀ (f : Nat) (k : Int) (D : DT), Rep T k D → k + 1 < f → unfF T f k = D := by
    intro f
    induction f with
    | zero => intro k D h hk; have := h.lo; omega
    | succ f ih =>
      intro k D h hk
      rw [unfF]
      by_cases hk1 : k = -1
      · rw [if_pos hk1]; rw [hk1] at h; exact h.neg.symm
      · rw [if_neg hk1]
        obtain ⟨j, rfl⟩ : ∃ j : Nat, k = j := ⟨k.toNat, by have := h.lo; omega⟩
        obtain ⟨b, n, y, h1, h2, h3, rfl⟩ := h.inv
        obtain ⟨d1, d2⟩ := hd j b h1
        simp only [Int.toNat_natCast, h1]
        rw [ih _ _ h2 (by omega), ih _ _ h3 (by omega)]
  exact H _ k D h (by have := h.lo; omega)
theorem down_nil : Down [] := fun i b h => by simp at h
theorem unf_of {T : List Brn} (hd : Down T) {k : Int} (h1 : -1 ≤ k) (h2 : k < T.length) : Rep T k (unf T k) := by
  obtain ⟨D, hD⟩ := hd.rep k h1 h2
  rw [unf_rep hd hD]
  exact hD
end Go.Proofs.Ytikphbgfcpamgaa
namespace Go.Proofs.Ytikphbgfcpamgaa

section
variable {α : Type} (lt : α → α → Bool)

structure SW : Prop where
  tr : ∀ a b c, lt a b = true → lt b c = true → lt a c = true
  asy : ∀ a b, lt a b = true → lt b a = false
  ntr : ∀ a b c, lt a b = false → lt b c = false → lt a c = false

def posR (p : List α) (x : α) : Nat := p.length - (p.reverse.takeWhile (fun y => lt x y)).length
def insR (p : List α) (x : α) : List α := p.take (posR lt p x) ++ x :: p.drop (posR lt p x)
def sortP (l : List α) : List α := l.foldl (insR lt) []
def Srtd : List α → Prop
  | [] => True
  | x :: r => (∀ y ∈ r, lt y x = false) ∧ Srtd r
def mergeP : List α → List α → List α
  | [], ys => ys
  | x :: xs, [] => x :: xs
  | x :: xs, y :: ys => if lt y x then y :: mergeP (x :: xs) ys else x :: mergeP xs (y :: ys)
termination_by l r => l.length + r.length

theorem mergeP_nil (l : List α) : mergeP lt l [] = l := by cases l <;> simp [mergeP]
theorem nil_mergeP (l : List α) : mergeP lt [] l = l := by simp [mergeP]
theorem merge_split (L1 L2 R1 R2 : List α) (h1 : ∀ x ∈ L1, ∀ y ∈ R2, lt y x = false) (h2 : ∀ y ∈ R1, ∀ x ∈ L2, lt y x = true) : mergeP lt (L1 ++ L2) (R1 ++ R2) = mergeP lt L1 R1 ++ mergeP lt L2 R2 := by
  match L1, R1 with
  | [], [] => simp [nil_mergeP]
  | [], y :: R1 =>
    rw [nil_mergeP]
    cases L2 with
    | nil => simp [nil_mergeP]
    | cons x L2 =>
      have hy := h2 y (by simp) x (by simp)
      have ih := merge_split [] (x :: L2) R1 R2 (fun _ hx => by cases hx) (fun z hz => h2 z (by simp [hz]))
      rw [nil_mergeP] at ih
      simp only [List.nil_append, List.cons_append] at ih ⊢
      rw [mergeP, if_pos hy, ih]
  | x :: L1, [] =>
    rw [mergeP_nil]
    cases R2 with
    | nil => simp [mergeP_nil]
    | cons y R2 =>
      have hy := h1 x (by simp) y (by simp)
      have ih := merge_split L1 L2 [] (y :: R2) (fun z hz => h1 z (by simp [hz])) (fun _ hx => by cases hx)
      rw [mergeP_nil] at ih
      simp only [List.nil_append, List.cons_append] at ih ⊢
      rw [mergeP, if_neg (by rw [hy]; simp), ih]
  | x :: L1, y :: R1 =>
    by_cases hc : lt y x = true
    · have ih := merge_split (x :: L1) L2 R1 R2 h1 (fun z hz => h2 z (by simp [hz]))
      simp only [List.cons_append] at ih ⊢
      rw [mergeP, if_pos hc, ih, mergeP, if_pos hc]
      simp
    · have ih := merge_split L1 L2 (y :: R1) R2 (fun z hz => h1 z (by simp [hz])) h2
      simp only [List.cons_append] at ih ⊢
      rw [mergeP, if_neg hc, ih, mergeP, if_neg hc]
      simp
termination_by L1.length + R1.length

theorem insR_at (A B : List α) (x : α) (h1 : ∀ y ∈ A, lt x y = false) (h2 : ∀ y ∈ B, lt x y = true) : insR lt (A ++ B) x = A ++ x :: B := by
  have hp : posR lt (A ++ B) x = A.length := by
    unfold posR
    rw [List.reverse_append, List.takeWhile_append_of_pos (fun y hy => h2 y (by simpa using hy)), List.length_append, List.length_append]
    have : (A.reverse.takeWhile (fun y => lt x y)) = [] := by
      cases hA : A.reverse with
      | nil => rfl
      | cons z r =>
        have hz : z ∈ A := by rw [← List.mem_reverse, hA]; simp
        simp [h1 z hz]
    rw [this]
    simp
  unfold insR
  rw [hp]
  simp
variable {lt}
theorem sorted_parts (h : SW lt) (B : List α) (x : α) (hs : Srtd lt B) : ∃ B1 B2, B = B1 ++ B2 ∧ (∀ y ∈ B1, lt x y = false) ∧ ∀ y ∈ B2, lt x y = true := by
  induction B with
  | nil => exact ⟨[], [], rfl, fun _ h => (by cases h), fun _ h => (by cases h)⟩
  | cons b B ih =>
    obtain ⟨hb, hB⟩ := hs
    by_cases hx : lt x b = true
    · refine ⟨[], b :: B, rfl, fun _ h => (by cases h), fun y hy => ?_⟩
      rcases List.mem_cons.1 hy with rfl | hy
      · exact hx
      · cases e : lt x y
        · have := h.ntr x y b e (hb y hy)
          rw [this] at hx
          cases hx
        · rfl
    · obtain ⟨B1, B2, rfl, h1, h2⟩ := ih hB
      refine ⟨b :: B1, B2, rfl, fun y hy => ?_, h2⟩
      rcases List.mem_cons.1 hy with rfl | hy
      · simpa using hx
      · exact h1 y hy
theorem srtd_append {A B : List α} : Srtd lt (A ++ B) ↔ Srtd lt A ∧ Srtd lt B ∧ ∀ a ∈ A, ∀ b ∈ B, lt b a = false := by
  induction A with
  | nil => simp [Srtd]
  | cons x A ih =>
    simp only [List.cons_append, Srtd, ih, List.mem_append, List.mem_cons]
    constructor
    · rintro ⟨h1, h2, h3, h4⟩
      refine ⟨⟨fun y hy => h1 y (.inl hy), h2⟩, h3, ?_⟩
      rintro a (rfl | ha) b hb
      · exact h1 b (.inr hb)
      · exact h4 a ha b hb
    · rintro ⟨⟨h1, h2⟩, h3, h4⟩
      refine ⟨?_, h2, h3, fun a ha b hb => h4 a (.inr ha) b hb⟩
      rintro y (hy | hy)
      · exact h1 y hy
      · exact h4 x (.inl rfl) y hy
theorem srtd_insR (h : SW lt) {B : List α} (hs : Srtd lt B) (x : α) : Srtd lt (insR lt B x) := by
  obtain ⟨B1, B2, rfl, h1, h2⟩ := sorted_parts h B x hs
  rw [insR_at lt B1 B2 x h1 h2]
  obtain ⟨s1, s2, s3⟩ := srtd_append.1 hs
  refine srtd_append.2 ⟨s1, ⟨fun y hy => h.asy _ _ (h2 y hy), s2⟩, fun a ha b hb => ?_⟩
  rcases List.mem_cons.1 hb with rfl | hb
  · exact h1 a ha
  · exact s3 a ha b hb
theorem srtd_foldl (h : SW lt) (l B : List α) (hs : Srtd lt B) : Srtd lt (l.foldl (insR lt) B) := by
  induction l generalizing B with
  | nil => exact hs
  | cons x l ih => exact ih _ (srtd_insR h hs x)
theorem srtd_sortP (h : SW lt) (l : List α) : Srtd lt (sortP lt l) := srtd_foldl h l [] trivial
theorem mem_insR {B : List α} {x y : α} : y ∈ insR lt B x ↔ y = x ∨ y ∈ B := by
  unfold insR
  rw [List.mem_append, List.mem_cons]
  constructor
  · rintro (h | h | h)
    · exact .inr (List.mem_of_mem_take h)
    · exact .inl h
    · exact .inr (List.mem_of_mem_drop h)
  · rintro (h | h)
    · exact .inr (.inl h)
    · rw [← List.take_append_drop (posR lt B x) B, List.mem_append] at h
      rcases h with h | h
      · exact .inl h
      · exact .inr (.inr h)
theorem mem_mergeP {A B : List α} {y : α} : y ∈ mergeP lt A B ↔ y ∈ A ∨ y ∈ B := by
  match A, B with
  | [], B => simp [nil_mergeP]
  | a :: A, [] => simp [mergeP_nil]
  | a :: A, b :: B =>
    rw [mergeP]
    split
    · have ih := mem_mergeP (A := a :: A) (B := B) (y := y)
      rw [List.mem_cons, ih]
      simp only [List.mem_cons]
      constructor
      · rintro (h | (h | h) | h) <;> simp [h]
      · rintro ((h | h) | h | h) <;> simp [h]
    · have ih := mem_mergeP (A := A) (B := b :: B) (y := y)
      rw [List.mem_cons, ih]
      simp only [List.mem_cons]
      constructor
      · rintro (h | h | h | h) <;> simp [h]
      · rintro ((h | h) | h | h) <;> simp [h]
termination_by A.length + B.length
theorem merge_insR (h : SW lt) {A B : List α} (hA : Srtd lt A) (hB : Srtd lt B) (x : α) : mergeP lt A (insR lt B x) = insR lt (mergeP lt A B) x := by
  obtain ⟨B1, B2, rfl, b1, b2⟩ := sorted_parts h B x hB
  obtain ⟨A1, A2, rfl, a1, a2⟩ := sorted_parts h A x hA
  have c1 : ∀ u ∈ A1, ∀ v ∈ B2, lt v u = false := fun u hu v hv => h.ntr v x u (h.asy _ _ (b2 v hv)) (a1 u hu)
  have c2 : ∀ v ∈ B1, ∀ u ∈ A2, lt v u = true := by
    intro v hv u hu
    cases e : lt v u
    · have := h.ntr x v u (b1 v hv) e
      rw [a2 u hu] at this
      cases this
    · rfl
  rw [insR_at lt B1 B2 x b1 b2, merge_split lt A1 A2 B1 B2 c1 c2]
  have e1 : B1 ++ x :: B2 = (B1 ++ [x]) ++ B2 := by simp
  rw [e1, merge_split lt A1 A2 (B1 ++ [x]) B2 c1 (by
    intro v hv u hu
    rcases List.mem_append.1 hv with hv | hv
    · exact c2 v hv u hu
    · obtain rfl := List.mem_singleton.1 hv
      exact a2 u hu)]
  have e2 := merge_split lt A1 [] B1 [x] (fun u hu v hv => by obtain rfl := List.mem_singleton.1 hv; exact a1 u hu) (fun _ _ _ hx => by cases hx)
  rw [List.append_nil, nil_mergeP] at e2
  rw [e2, insR_at lt (mergeP lt A1 B1) (mergeP lt A2 B2) x]
  · simp
  · intro y hy
    rcases mem_mergeP.1 hy with hy | hy
    · exact a1 y hy
    · exact b1 y hy
  · intro y hy
    rcases mem_mergeP.1 hy with hy | hy
    · exact a2 y hy
    · exact b2 y hy
theorem sort_append (h : SW lt) (l r : List α) : mergeP lt (sortP lt l) (sortP lt r) = sortP lt (l ++ r) := by
  have key : ∀ (r B : List α), Srtd lt B → mergeP lt (sortP lt l) (r.foldl (insR lt) B) = r.foldl (insR lt) (mergeP lt (sortP lt l) B) := by
    intro r
    induction r with
    | nil => intro B _; rfl
    | cons x r ih =>
      intro B hB
      rw [List.foldl_cons, List.foldl_cons, ih _ (srtd_insR h hB x), merge_insR h (srtd_sortP h l) hB]
  unfold sortP
  rw [List.foldl_append]
  have := key r [] trivial
  rw [mergeP_nil] at this
  exact this
end

end Go.Proofs.Ytikphbgfcpamgaa
namespace Go.Proofs.Ytikphbgfcpamgaa

structure Slt where
  p : Int
  fr : Int
  tt : Int
structure Op where
  id : Int
  sat : Int
  sf : Int
  st : Int
  size : Int
  l : List Slt
structure Plc where
  opt : Nat
  slot : Nat
  fr : Int
  tt : Int
def inB (n lo hi : Int) : Bool := decide (lo ≤ n ∧ n ≤ hi)
theorem inB_iff {n lo hi : Int} : inB n lo hi = true ↔ lo ≤ n ∧ n ≤ hi := by simp [inB]
def cmpI (a b : Int) : Int := if a < b then -1 else if b < a then 1 else 0
def spellOK (a b : Int) : Bool := decide (0 ≤ a) && decide (a < b) && decide (b ≤ 1000001)
def chainP : Int → List Slt → Bool
  | _, [] => true
  | e, s :: r => decide (e ≤ s.fr) && spellOK s.fr s.tt && chainP s.tt r
def canP (o : Op) : Bool := chainP o.st o.l && inB o.id 0 63 && inB o.size 1 1000000 && spellOK o.sf o.st && decide (1 ≤ o.l.length ∧ o.l.length ≤ 6)
def okR (sat : Int) : List Int → List Op → Bool
  | _, [] => true
  | seen, o :: r => canP o && decide (o.sat = sat) && !decide (o.id ∈ seen) && o.l.all (fun s => inB s.p 0 63) && okR sat (seen ++ [o.id]) r
def okL (l : List Op) : Bool := decide (l.length ≤ 8) && (match l with | [] => true | o :: r => okR o.sat [] (o :: r))
def slotsAt (i : Nat) : Nat → List Slt → List Plc
  | _, [] => []
  | k, s :: r => ⟨i, k, s.fr, s.tt⟩ :: slotsAt i (k + 1) r
def rawF : Nat → List Op → List Plc
  | _, [] => []
  | i, o :: r => slotsAt i 0 o.l ++ rawF (i + 1) r
def raw (l : List Op) : List Plc := rawF 0 l
def ltP (a b : Plc) : Bool := decide (a.fr < b.fr)
def srt (l : List Op) : List Plc := sortP ltP (raw l)
def adjR : Plc → List Plc → Bool
  | _, [] => true
  | p, q :: r => decide (p.tt ≤ q.fr) && adjR q r
def adjP : List Plc → Bool
  | [] => true
  | p :: r => adjR p r
def carP (l : List Op) : Bool := okL l && adjP (srt l)
def dt : List Plc → Nat → DT
  | [], _ => .leaf
  | p :: r, d => if d.testBit p.opt then dt r d else .node p.fr p.opt p.slot (dt r d) (dt r (d ||| 2 ^ p.opt))
def treeP (l : List Op) : List Brn × Int := bld [] (dt (srt l) 0)
structure Ack where
  opt : Int
  slot : Int
  is_ : Bool
instance : DecidableEq Ack := fun a b => decidable_of_iff (a.opt = b.opt ∧ a.slot = b.slot ∧ a.is_ = b.is_) (by cases a; cases b; simp)
def folD (q : Int → Int → Bool) : DT → List Ack
  | .leaf => []
  | .node _ o s n y => ⟨o, s, q o s⟩ :: (if q o s then folD q y else folD q n)
def runP (q : Int → Int → Bool) : List Plc → Nat → List Ack
  | [], _ => []
  | p :: r, d => if d.testBit p.opt then runP q r d else ⟨p.opt, p.slot, q p.opt p.slot⟩ :: runP q r (if q p.opt p.slot then d ||| 2 ^ p.opt else d)
theorem folD_dt (q : Int → Int → Bool) (ps : List Plc) : ∀ d, folD q (dt ps d) = runP q ps d := by
  induction ps with
  | nil => intro d; rfl
  | cons p r ih =>
    intro d
    rw [dt, runP]
    by_cases h : d.testBit p.opt = true
    · rw [if_pos h, if_pos h, ih]
    · rw [if_neg h, if_neg h, folD]
      cases hq : q p.opt p.slot
      · simp only [Bool.false_eq_true, if_false, ih]
      · simp only [if_true, ih]
theorem tb_pow (a j : Nat) : (2 ^ a).testBit j = decide (a = j) := by
  rw [Nat.testBit_two_pow]
theorem tb_or (d a j : Nat) : (d ||| 2 ^ a).testBit j = (d.testBit j || decide (a = j)) := by rw [Nat.testBit_or, tb_pow]

theorem swP : SW ltP := by
  constructor
  · intro a b c h1 h2; simp only [ltP, decide_eq_true_eq] at *; omega
  · intro a b h1; simp only [ltP, decide_eq_true_eq, decide_eq_false_iff_not] at *; omega
  · intro a b c h1 h2; simp only [ltP, decide_eq_false_iff_not] at *; omega
theorem mem_slotsAt {i : Nat} {p : Plc} : ∀ (l : List Slt) (k : Nat), p ∈ slotsAt i k l ↔ ∃ j s, l[j]? = some s ∧ p = ⟨i, k + j, s.fr, s.tt⟩ := by
  intro l
  induction l with
  | nil => intro k; simp [slotsAt]
  | cons s r ih =>
    intro k
    rw [slotsAt, List.mem_cons, ih]
    constructor
    · rintro (rfl | ⟨j, t, h, rfl⟩)
      · exact ⟨0, s, rfl, rfl⟩
      · exact ⟨j + 1, t, by simpa using h, by simp; omega⟩
    · rintro ⟨j, t, h, rfl⟩
      cases j with
      | zero => simp at h; subst h; exact .inl rfl
      | succ j => exact .inr ⟨j, t, by simpa using h, by simp; omega⟩
theorem mem_rawF {p : Plc} : ∀ (l : List Op) (i : Nat), p ∈ rawF i l ↔ ∃ j o, l[j]? = some o ∧ p ∈ slotsAt (i + j) 0 o.l := by
  intro l
  induction l with
  | nil => intro i; simp [rawF]
  | cons o r ih =>
    intro i
    rw [rawF, List.mem_append, ih]
    constructor
    · rintro (h | ⟨j, o', h1, h2⟩)
      · exact ⟨0, o, rfl, h⟩
      · exact ⟨j + 1, o', by simpa using h1, by rw [show i + (j + 1) = i + 1 + j by omega]; exact h2⟩
    · rintro ⟨j, o', h1, h2⟩
      cases j with
      | zero => simp at h1; subst h1; exact .inl h2
      | succ j => exact .inr ⟨j, o', by simpa using h1, by rw [show i + 1 + j = i + (j + 1) by omega]; exact h2⟩
def isPlc (l : List Op) (p : Plc) : Prop := ∃ o s, l[p.opt]? = some o ∧ o.l[p.slot]? = some s ∧ p.fr = s.fr ∧ p.tt = s.tt
theorem mem_raw {l : List Op} {p : Plc} : p ∈ raw l ↔ isPlc l p := by
  rw [raw, mem_rawF]
  constructor
  · rintro ⟨j, o, h1, h2⟩
    obtain ⟨k, s, h3, rfl⟩ := (mem_slotsAt _ _).1 h2
    exact ⟨o, s, by simpa using h1, by simpa using h3, rfl, rfl⟩
  · rintro ⟨o, s, h1, h2, h3, h4⟩
    refine ⟨p.opt, o, h1, (mem_slotsAt _ _).2 ⟨p.slot, s, h2, ?_⟩⟩
    cases p; simp_all
theorem mem_sortP {α : Type} {lt : α → α → Bool} {l : List α} {y : α} : y ∈ sortP lt l ↔ y ∈ l := by
  have H : ∀ (l p : List α), y ∈ l.foldl (insR lt) p ↔ y ∈ p ∨ y ∈ l := by
    intro l
    induction l with
    | nil => intro p; simp
    | cons x r ih =>
      intro p
      rw [List.foldl_cons, ih, mem_insR, List.mem_cons, or_assoc]
      exact or_left_comm
  rw [sortP, H]
  simp
theorem mem_srt {l : List Op} {p : Plc} : p ∈ srt l ↔ isPlc l p := by rw [← mem_raw, srt]; exact mem_sortP
def Aprt : List Plc → Prop
  | [] => True
  | p :: r => (∀ q ∈ r, p.tt ≤ q.fr) ∧ Aprt r
theorem aprt_of {ps : List Plc} (hl : ∀ p ∈ ps, p.fr < p.tt) (h : adjP ps = true) : Aprt ps := by
  have H : ∀ (r : List Plc) (p : Plc), (∀ q ∈ p :: r, q.fr < q.tt) → adjR p r = true → Aprt (p :: r) := by
    intro r
    induction r with
    | nil => exact fun p _ _ => ⟨fun _ h => (by cases h), trivial⟩
    | cons q r ih =>
      intro p hl h
      simp only [adjR, Bool.and_eq_true, decide_eq_true_eq] at h
      have h2 := ih q (fun z hz => hl z (by simp [hz])) h.2
      refine ⟨fun z hz => ?_, h2⟩
      rcases List.mem_cons.1 hz with rfl | hz
      · exact h.1
      · have e1 := h2.1 z hz
        have e2 := hl q (by simp)
        omega
  cases ps with
  | nil => trivial
  | cons p r => exact H r p hl h
theorem adj_of {ps : List Plc} (h : Aprt ps) : adjP ps = true := by
  have H : ∀ (r : List Plc) (p : Plc), Aprt (p :: r) → adjR p r = true := by
    intro r
    induction r with
    | nil => exact fun p _ => rfl
    | cons q r ih =>
      intro p h
      simp only [adjR, Bool.and_eq_true, decide_eq_true_eq]
      exact ⟨h.1 q (by simp), ih q h.2⟩
  cases ps with
  | nil => rfl
  | cons p r => exact H r p h
theorem chain_ge {e : Int} {l : List Slt} (h : chainP e l = true) : ∀ s ∈ l, e ≤ s.fr ∧ s.fr < s.tt ∧ 0 ≤ s.fr ∧ s.tt ≤ 1000001 := by
  induction l generalizing e with
  | nil => intro s hs; cases hs
  | cons x r ih =>
    simp only [chainP, spellOK, Bool.and_eq_true, decide_eq_true_eq] at h
    intro s hs
    rcases List.mem_cons.1 hs with rfl | hs
    · omega
    · have := ih h.2 s hs; omega
theorem chain_sep {e : Int} {l : List Slt} (h : chainP e l = true) : ∀ (i j : Nat) (s t : Slt), i < j → l[i]? = some s → l[j]? = some t → s.tt ≤ t.fr := by
  induction l generalizing e with
  | nil => intro i j s t _ h1; simp at h1
  | cons x r ih =>
    simp only [chainP, Bool.and_eq_true, decide_eq_true_eq] at h
    intro i j s t hij h1 h2
    cases j with
    | zero => omega
    | succ j =>
      cases i with
      | zero =>
        simp at h1 h2
        subst h1
        exact (chain_ge h.2 t (List.mem_of_getElem? h2)).1
      | succ i => exact ih h.2 i j s t (by omega) (by simpa using h1) (by simpa using h2)
theorem okR_can {sat : Int} {l : List Op} : ∀ {seen : List Int}, okR sat seen l = true → ∀ o ∈ l, canP o = true ∧ o.sat = sat ∧ (∀ s ∈ o.l, 0 ≤ s.p ∧ s.p ≤ 63) ∧ o.id ∉ seen := by
  induction l with
  | nil => intro seen _ o ho; cases ho
  | cons x r ih =>
    intro seen h o ho
    simp only [okR, Bool.and_eq_true, decide_eq_true_eq, Bool.not_eq_true', decide_eq_false_iff_not, List.all_eq_true] at h
    rcases List.mem_cons.1 ho with rfl | ho
    · exact ⟨h.1.1.1.1, h.1.1.1.2, fun s hs => inB_iff.1 (h.1.2 s hs), h.1.1.2⟩
    · obtain ⟨h1, h2, h3, h4⟩ := ih h.2 o ho
      exact ⟨h1, h2, h3, fun e => h4 (by simp [e])⟩
theorem okL_can {l : List Op} (h : okL l = true) : ∀ o ∈ l, canP o = true ∧ (∀ s ∈ o.l, 0 ≤ s.p ∧ s.p ≤ 63) := by
  intro o ho
  cases l with
  | nil => cases ho
  | cons x r =>
    simp only [okL, Bool.and_eq_true] at h
    obtain ⟨h1, _, h3, _⟩ := okR_can h.2 o ho
    exact ⟨h1, h3⟩
theorem can_chain {o : Op} (h : canP o = true) : chainP o.st o.l = true ∧ 0 ≤ o.sf ∧ o.sf < o.st ∧ 1 ≤ o.l.length ∧ o.l.length ≤ 6 := by
  simp only [canP, spellOK, Bool.and_eq_true, decide_eq_true_eq] at h
  exact ⟨h.1.1.1.1, by omega, by omega, by omega, by omega⟩
theorem plc_ok {l : List Op} (h : okL l = true) {p : Plc} (hp : isPlc l p) : 1 ≤ p.fr ∧ p.fr < p.tt ∧ p.tt ≤ 1000001 ∧ p.opt < l.length ∧ p.slot < 6 ∧ p.opt < 8 := by
  obtain ⟨o, s, h1, h2, h3, h4⟩ := hp
  obtain ⟨hc, _⟩ := okL_can h o (List.mem_of_getElem? h1)
  obtain ⟨e1, e2, e3, e4, e5⟩ := can_chain hc
  have e6 := chain_ge e1 s (List.mem_of_getElem? h2)
  have e7 := (List.getElem?_eq_some_iff.1 h1).1
  have e8 := (List.getElem?_eq_some_iff.1 h2).1
  have e9 : l.length ≤ 8 := by simp only [okL, Bool.and_eq_true, decide_eq_true_eq] at h; exact h.1
  omega
theorem carP_iff {l : List Op} : carP l = true ↔ okL l = true ∧ Aprt (srt l) := by
  rw [carP, Bool.and_eq_true]
  constructor
  · rintro ⟨h1, h2⟩
    exact ⟨h1, aprt_of (fun p hp => (plc_ok h1 (mem_srt.1 hp)).2.1) h2⟩
  · rintro ⟨h1, h2⟩
    exact ⟨h1, adj_of h2⟩
end Go.Proofs.Ytikphbgfcpamgaa
namespace Go.Proofs.Ytikphbgfcpamgaa

theorem insR_perm {α : Type} (lt : α → α → Bool) (p : List α) (x : α) : (insR lt p x).Perm (x :: p) := by
  unfold insR
  have h := List.perm_middle (a := x) (l₁ := p.take (posR lt p x)) (l₂ := p.drop (posR lt p x))
  rw [List.take_append_drop] at h
  exact h
theorem sortP_perm {α : Type} (lt : α → α → Bool) (l : List α) : (sortP lt l).Perm l := by
  have H : ∀ (l p : List α), (l.foldl (insR lt) p).Perm (p ++ l) := by
    intro l
    induction l with
    | nil => intro p; simp
    | cons x r ih =>
      intro p
      rw [List.foldl_cons]
      refine (ih _).trans ?_
      refine ((insR_perm lt p x).append_right r).trans ?_
      exact (List.perm_middle (a := x) (l₁ := p) (l₂ := r)).symm
  exact H l []
theorem slotsAt_nodup (i : Nat) : ∀ (l : List Slt) (k : Nat), (slotsAt i k l).Nodup := by
  intro l
  induction l with
  | nil => intro k; simp [slotsAt]
  | cons s r ih =>
    intro k
    rw [slotsAt, List.nodup_cons]
    refine ⟨fun h => ?_, ih _⟩
    obtain ⟨j, t, _, h2⟩ := (mem_slotsAt _ _).1 h
    injection h2 with _ h3
    omega
theorem rawF_nodup : ∀ (l : List Op) (i : Nat), (rawF i l).Nodup := by
  intro l
  induction l with
  | nil => intro i; simp [rawF]
  | cons o r ih =>
    intro i
    rw [rawF, List.nodup_append]
    refine ⟨slotsAt_nodup _ _ _, ih _, fun a ha b hb e => ?_⟩
    obtain ⟨j, t, _, h2⟩ := (mem_slotsAt _ _).1 ha
    obtain ⟨j2, o2, _, h3⟩ := (mem_rawF _ _).1 hb
    obtain ⟨j3, t3, _, h4⟩ := (mem_slotsAt _ _).1 h3
    rw [h2, h4] at e
    injection e with e
    omega
theorem srt_nodup (l : List Op) : (srt l).Nodup := (sortP_perm _ _).nodup_iff.2 (rawF_nodup l 0)
def meetP (a b : Slt) : Bool := decide (a.fr < b.tt) && decide (b.fr < a.tt)
def refR (sat : Int) : List Op → List Op → Bool
  | _, [] => true
  | pre, o :: r => canP o && decide (o.sat = sat) && o.l.all (fun s => inB s.p 0 63 && pre.all (fun x => x.l.all (fun t => !meetP s t))) && pre.all (fun x => !decide (x.id = o.id)) && refR sat (pre ++ [o]) r
def refL (l : List Op) : Bool := decide (l.length ≤ 8) && (match l with | [] => true | o :: r => refR o.sat [] (o :: r))
def NoMeet (l : List Op) : Prop := ∀ (i j : Nat) (o x : Op), j < i → l[i]? = some o → l[j]? = some x → ∀ s ∈ o.l, ∀ t ∈ x.l, meetP s t = false
theorem refR_iff (sat : Int) : ∀ (r pre : List Op), refR sat pre r = true ↔ (okR sat (pre.map (·.id)) r = true ∧ ∀ (i j : Nat) (o x : Op), j < pre.length + i → r[i]? = some o → (pre ++ r)[j]? = some x → ∀ s ∈ o.l, ∀ t ∈ x.l, meetP s t = false) := by
  intro r
  induction r with
  | nil => intro pre; simp [refR, okR]
  | cons o r ih =>
    intro pre
    rw [refR, okR, Bool.and_eq_true, Bool.and_eq_true, ih]
    have hids : (!decide (o.id ∈ pre.map (·.id))) = pre.all (fun x => !decide (x.id = o.id)) := by
      rw [Bool.eq_iff_iff]
      simp
    have hmap : (pre ++ [o]).map (·.id) = pre.map (·.id) ++ [o.id] := by simp
    rw [hids, hmap]
    simp only [Bool.and_eq_true, List.all_eq_true, Bool.not_eq_true', decide_eq_true_eq, decide_eq_false_iff_not]
    constructor
    · rintro ⟨⟨⟨⟨h1, h2⟩, h3⟩, h4⟩, h5, h6⟩
      refine ⟨⟨⟨⟨⟨h1, h2⟩, h4⟩, fun s hs => (h3 s hs).1⟩, h5⟩, fun i j p x hj hp hx s hs t ht => ?_⟩
      cases i with
      | zero =>
        simp at hp
        subst hp
        rw [List.getElem?_append_left (by omega)] at hx
        exact (h3 s hs).2 x (List.mem_of_getElem? hx) t ht
      | succ i =>
        refine h6 i j p x (by simp; omega) (by simpa using hp) (by simpa using hx) s hs t ht
    · rintro ⟨⟨⟨⟨⟨h1, h2⟩, h4⟩, h3⟩, h5⟩, h6⟩
      refine ⟨⟨⟨⟨h1, h2⟩, fun s hs => ⟨h3 s hs, fun x hx t ht => ?_⟩⟩, h4⟩, h5, fun i j p x hj hp hx => h6 (i + 1) j p x (by simp at hj; omega) (by simpa using hp) (by simpa using hx)⟩
      obtain ⟨j, hj⟩ := List.mem_iff_getElem?.1 hx
      have hjl := (List.getElem?_eq_some_iff.1 hj).1
      exact h6 0 j o x (by omega) rfl (by rw [List.getElem?_append_left hjl]; exact hj) s hs t ht
theorem refL_iff (l : List Op) : refL l = true ↔ okL l = true ∧ NoMeet l := by
  unfold refL okL NoMeet
  cases l with
  | nil => simp
  | cons o r =>
    simp only [Bool.and_eq_true]
    rw [refR_iff]
    simp only [List.map_nil, List.length_nil, Nat.zero_add, List.nil_append]
    constructor
    · rintro ⟨h1, h2, h3⟩; exact ⟨⟨h1, h2⟩, h3⟩
    · rintro ⟨⟨h1, h2⟩, h3⟩; exact ⟨h1, h2, h3⟩
theorem srtd_aprt : ∀ (ps : List Plc), ps.Nodup → Srtd ltP ps → (∀ p ∈ ps, p.fr < p.tt) → (∀ p ∈ ps, ∀ q ∈ ps, p ≠ q → p.tt ≤ q.fr ∨ q.tt ≤ p.fr) → Aprt ps := by
  intro ps
  induction ps with
  | nil => intro _ _ _ _; trivial
  | cons p r ih =>
    intro hn hs hl h
    obtain ⟨hn1, hn2⟩ := List.nodup_cons.1 hn
    refine ⟨fun q hq => ?_, ih hn2 hs.2 (fun z hz => hl z (by simp [hz])) (fun a ha b hb => h a (by simp [ha]) b (by simp [hb]))⟩
    have h1 := hs.1 q hq
    simp only [ltP, decide_eq_false_iff_not] at h1
    have h2 := hl q (by simp [hq])
    rcases h p (by simp) q (by simp [hq]) (fun e => hn1 (e ▸ hq)) with h3 | h3 <;> omega
theorem aprt_sep : ∀ {ps : List Plc}, Aprt ps → ∀ p ∈ ps, ∀ q ∈ ps, p ≠ q → p.tt ≤ q.fr ∨ q.tt ≤ p.fr := by
  intro ps
  induction ps with
  | nil => intro _ p hp; cases hp
  | cons x r ih =>
    intro h p hp q hq hne
    rcases List.mem_cons.1 hp with e | hp2
    · rcases List.mem_cons.1 hq with e2 | hq2
      · exact absurd (e.trans e2.symm) hne
      · rw [e]; exact .inl (h.1 q hq2)
    · rcases List.mem_cons.1 hq with e2 | hq2
      · rw [e2]; exact .inr (h.1 p hp2)
      · exact ih h.2 p hp2 q hq2 hne
theorem refL_eq (l : List Op) : refL l = carP l := by
  rw [Bool.eq_iff_iff, refL_iff, carP_iff]
  refine and_congr_right fun hok => ?_
  constructor
  · intro h
    refine srtd_aprt _ (srt_nodup l) (srtd_sortP swP _) (fun p hp => (plc_ok hok (mem_srt.1 hp)).2.1) fun p hp q hq hne => ?_
    have hp := mem_srt.1 hp
    have hq := mem_srt.1 hq
    have bp := plc_ok hok hp
    have bq := plc_ok hok hq
    obtain ⟨o, s, a1, a2, a3, a4⟩ := hp
    obtain ⟨x, t, b1, b2, b3, b4⟩ := hq
    rcases Nat.lt_trichotomy p.opt q.opt with hlt | heq | hlt
    · have := h q.opt p.opt x o hlt b1 a1 t (List.mem_of_getElem? b2) s (List.mem_of_getElem? a2)
      simp only [meetP, Bool.and_eq_false_iff, decide_eq_false_iff_not] at this
      omega
    · rw [heq, b1] at a1
      injection a1 with a1
      subst a1
      have hc := (can_chain (okL_can hok x (List.mem_of_getElem? b1)).1).1
      rcases Nat.lt_trichotomy p.slot q.slot with hlt | he2 | hlt
      · have := chain_sep hc _ _ _ _ hlt a2 b2; omega
      · exfalso
        apply hne
        rw [he2, b2] at a2
        injection a2 with a2
        subst a2
        cases p; cases q; simp_all
      · have := chain_sep hc _ _ _ _ hlt b2 a2; omega
    · have := h p.opt q.opt o x hlt a1 b1 s (List.mem_of_getElem? a2) t (List.mem_of_getElem? b2)
      simp only [meetP, Bool.and_eq_false_iff, decide_eq_false_iff_not] at this
      omega
  · intro h i j o x hij ho hx s hs t ht
    obtain ⟨n, hn⟩ := List.mem_iff_getElem?.1 hs
    obtain ⟨m, hm⟩ := List.mem_iff_getElem?.1 ht
    have := aprt_sep h ⟨i, n, s.fr, s.tt⟩ (mem_srt.2 ⟨o, s, ho, hn, rfl, rfl⟩) ⟨j, m, t.fr, t.tt⟩ (mem_srt.2 ⟨x, t, hx, hm, rfl, rfl⟩) (fun e => by injection e with e; omega)
    simp only [meetP, Bool.and_eq_false_iff, decide_eq_false_iff_not]
    dsimp only at this
    omega
end Go.Proofs.Ytikphbgfcpamgaa
