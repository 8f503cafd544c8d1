/- Plain mathematics of loans: what is owed, as a function of two owners. -/
import Derived.Test.YtpddnkefggaigaaP2
namespace Go.Proofs.Ytpddnkefggaigaa

def amt : List Loan → Int → Int → Int
  | [], _, _ => 0
  | x :: r, f, t => (if x.fr = f ∧ x.to = t then x.units else 0) + amt r f t
theorem lessB_iff (a b : Loan) : lessB a b = true ↔ (a.fr < b.fr ∨ (a.fr = b.fr ∧ a.to < b.to)) := by
  simp only [lessB, cmpL, orI, cmpI]
  by_cases h1 : a.fr < b.fr <;> by_cases h2 : b.fr < a.fr <;> by_cases h3 : a.to < b.to <;> by_cases h4 : b.to < a.to <;> simp [h1, h2, h3, h4] <;> omega
def insP : List Loan → Int → Int → Int → List Loan
  | [], f, t, u => if u = 0 then [] else [⟨f, t, u⟩]
  | x :: r, f, t, u =>
    if x.fr < f ∨ (x.fr = f ∧ x.to < t) then x :: insP r f t u
    else if x.fr = f ∧ x.to = t then (if x.units + u = 0 then r else ⟨f, t, x.units + u⟩ :: r)
    else (if u = 0 then x :: r else ⟨f, t, u⟩ :: x :: r)

theorem owedG_cons {y x : Loan} {r : List Loan} (h : lessB y x = true) : owedG (y :: r) x = y :: owedG r x := by
  have hp : posL (y :: r) x = posL r x + 1 := by simp [posL, h]
  have hf : foundL (y :: r) x = foundL r x := by simp [foundL, hp]
  have hi : insL (y :: r) x = y :: insL r x := by
    unfold insL
    rw [hf, hp]
    split <;> simp
  have hu : unitsAt (insL (y :: r) x) (posL (y :: r) x) = unitsAt (insL r x) (posL r x) := by rw [hi, hp]; simp [unitsAt]
  have hs : ∀ v, setU (insL (y :: r) x) (posL (y :: r) x) v = y :: setU (insL r x) (posL r x) v := by
    intro v
    rw [hi, hp]
    simp only [setU, List.getElem?_cons_succ, List.set_cons_succ]
    cases (insL r x)[posL r x]? <;> simp
  unfold owedG
  dsimp only
  rw [hu, hs]
  by_cases h0 : unitsAt (insL r x) (posL r x) + x.units = 0
  · rw [if_pos h0, if_pos h0, hi, hp]
    simp
  · rw [if_neg h0, if_neg h0]
theorem owedG_eq (ls : List Loan) (f t u : Int) : owedG ls ⟨f, t, u⟩ = insP ls f t u := by
  induction ls with
  | nil =>
    by_cases h : u = 0 <;> simp [owedG, insP, posL, insL, foundL, unitsAt, setU, h]
  | cons y r ih =>
    by_cases h : y.fr < f ∨ (y.fr = f ∧ y.to < t)
    · rw [owedG_cons ((lessB_iff _ _).2 h), ih, insP, if_pos h]
    · have hn : lessB y ⟨f, t, u⟩ = false := by
        cases e : lessB y ⟨f, t, u⟩
        · rfl
        · exact absurd ((lessB_iff _ _).1 e) h
      have hp : posL (y :: r) ⟨f, t, u⟩ = 0 := by simp [posL, hn]
      rw [insP, if_neg h]
      obtain ⟨yf, yt, yu⟩ := y
      by_cases he : yf = f ∧ yt = t
      · obtain ⟨rfl, rfl⟩ := he
        rw [if_pos ⟨rfl, rfl⟩]
        have hf : foundL (⟨yf, yt, yu⟩ :: r) ⟨yf, yt, u⟩ = true := by simp [foundL, hp, keyB]
        by_cases h0 : yu + u = 0
        · simp [owedG, insL, hf, hp, unitsAt, h0]
        · simp [owedG, insL, hf, hp, unitsAt, setU, h0]
      · rw [if_neg he]
        have hf : foundL (⟨yf, yt, yu⟩ :: r) ⟨f, t, u⟩ = false := by
          simp only [foundL, hp, keyB, List.getElem?_cons_zero, Option.map_some, Option.getD_some]
          cases e : (yf == f && yt == t)
          · rfl
          · simp at e; exact absurd e he
        by_cases h0 : u = 0
        · rw [if_pos h0]
          subst h0
          simp [owedG, insL, hf, hp, unitsAt]
        · simp [owedG, insL, hf, hp, unitsAt, setU, h0]

/-- Strictly ascending, from a key on. -/
def Asc : List Loan → Prop
  | [] => True
  | x :: r => (∀ y ∈ r, x.fr < y.fr ∨ (x.fr = y.fr ∧ x.to < y.to)) ∧ Asc r
theorem loansOK_iff (ls : List Loan) (p : Option Loan) : loansOK p ls = true ↔ (∀ x ∈ ls, loanOK x = true) ∧ Asc ls ∧ (∀ y, p = some y → ∀ x ∈ ls, y.fr < x.fr ∨ (y.fr = x.fr ∧ y.to < x.to)) := by
  induction ls generalizing p with
  | nil => simp [loansOK, Asc]
  | cons x r ih =>
    simp only [loansOK, Bool.and_eq_true, ih, Asc, List.mem_cons, Option.some.injEq]
    constructor
    · rintro ⟨⟨h1, h2⟩, h3, h4, h5⟩
      refine ⟨?_, ⟨fun y hy => h5 x rfl y hy, h4⟩, ?_⟩
      · rintro y (rfl | hy)
        · exact h1
        · exact h3 y hy
      · rintro y rfl z hz
        have hx : y.fr < x.fr ∨ (y.fr = x.fr ∧ y.to < x.to) := (lessB_iff _ _).1 h2
        rcases hz with rfl | hz
        · exact hx
        · have := h5 x rfl z hz
          omega
    · rintro ⟨h1, ⟨h2, h3⟩, h4⟩
      refine ⟨⟨h1 x (.inl rfl), ?_⟩, fun y hy => h1 y (.inr hy), h3, ?_⟩
      · cases p with
        | none => rfl
        | some y => exact (lessB_iff _ _).2 (h4 y rfl x (.inl rfl))
      · rintro y rfl z hz
        exact h2 z hz

theorem amt_zero {ls : List Loan} {f t : Int} (h : ∀ y ∈ ls, ¬ (y.fr = f ∧ y.to = t)) : amt ls f t = 0 := by
  induction ls with
  | nil => rfl
  | cons x r ih =>
    rw [amt, if_neg (h x (by simp)), ih fun y hy => h y (by simp [hy])]
    rfl
theorem amt_insP (ls : List Loan) (f t u f' t' : Int) : amt (insP ls f t u) f' t' = amt ls f' t' + if f = f' ∧ t = t' then u else 0 := by
  induction ls with
  | nil =>
    rw [insP]
    by_cases h0 : u = 0
    · rw [if_pos h0]; simp [amt, h0]
    · rw [if_neg h0]; simp [amt]
  | cons x r ih =>
    rw [insP]
    by_cases h : x.fr < f ∨ (x.fr = f ∧ x.to < t)
    · rw [if_pos h, amt, amt, ih]; omega
    · rw [if_neg h]
      by_cases he : x.fr = f ∧ x.to = t
      · rw [if_pos he]
        obtain ⟨rfl, rfl⟩ := he
        by_cases h0 : x.units + u = 0
        · rw [if_pos h0, amt]
          split <;> omega
        · rw [if_neg h0, amt, amt]
          dsimp only
          split <;> omega
      · rw [if_neg he]
        by_cases h0 : u = 0
        · rw [if_pos h0]; simp [h0]
        · rw [if_neg h0, amt]
          dsimp only
          omega
theorem mem_insP {ls : List Loan} {f t u : Int} {y : Loan} (h : y ∈ insP ls f t u) : y ∈ ls ∨ (y.fr = f ∧ y.to = t ∧ y.units ≠ 0) := by
  induction ls with
  | nil =>
    rw [insP] at h
    split at h
    · simp at h
    · rename_i hu
      simp at h
      subst h
      exact .inr ⟨rfl, rfl, hu⟩
  | cons x r ih =>
    rw [insP] at h
    split at h
    · rcases List.mem_cons.1 h with rfl | h
      · exact .inl (by simp)
      · rcases ih h with h | h
        · exact .inl (by simp [h])
        · exact .inr h
    · split at h
      · split at h
        · exact .inl (by simp [h])
        · rename_i hu
          rcases List.mem_cons.1 h with rfl | h
          · exact .inr ⟨rfl, rfl, hu⟩
          · exact .inl (by simp [h])
      · split at h
        · exact .inl h
        · rename_i hu
          rcases List.mem_cons.1 h with rfl | h
          · exact .inr ⟨rfl, rfl, hu⟩
          · exact .inl h
theorem asc_insP {ls : List Loan} (f t u : Int) (h : Asc ls) : Asc (insP ls f t u) := by
  induction ls with
  | nil => rw [insP]; split <;> simp [Asc]
  | cons x r ih =>
    obtain ⟨h1, h2⟩ := h
    rw [insP]
    split
    · rename_i hlt
      refine ⟨fun y hy => ?_, ih h2⟩
      rcases mem_insP hy with hy | ⟨rfl, rfl, _⟩
      · exact h1 y hy
      · exact hlt
    · rename_i hlt
      split
      · rename_i he
        obtain ⟨rfl, rfl⟩ := he
        split
        · exact h2
        · exact ⟨h1, h2⟩
      · split
        · exact ⟨h1, h2⟩
        · refine ⟨fun y hy => ?_, h1, h2⟩
          rename_i hne _
          rcases List.mem_cons.1 hy with rfl | hy
          · dsimp only; omega
          · have := h1 y hy
            dsimp only
            omega
theorem amt_mem {ls : List Loan} (h : Asc ls) {x : Loan} (hx : x ∈ ls) : amt ls x.fr x.to = x.units := by
  induction ls with
  | nil => cases hx
  | cons y r ih =>
    obtain ⟨h1, h2⟩ := h
    rw [amt]
    rcases List.mem_cons.1 hx with rfl | hx
    · rw [if_pos ⟨rfl, rfl⟩, amt_zero fun z hz => by have := h1 z hz; omega]
      omega
    · rw [if_neg (by have := h1 x hx; omega), ih h2 hx]
      omega
theorem amt_some {ls : List Loan} {f t : Int} (h : amt ls f t ≠ 0) : ∃ x ∈ ls, x.fr = f ∧ x.to = t := by
  induction ls with
  | nil => exact absurd rfl h
  | cons y r ih =>
    by_cases he : y.fr = f ∧ y.to = t
    · exact ⟨y, by simp, he⟩
    · rw [amt, if_neg he, Int.zero_add] at h
      obtain ⟨x, hx, hh⟩ := ih h
      exact ⟨x, by simp [hx], hh⟩
theorem loans_ext {l m : List Loan} (hl : Asc l) (hm : Asc m) (h0 : ∀ x ∈ l, x.units ≠ 0) (k0 : ∀ x ∈ m, x.units ≠ 0) (h : ∀ f t, amt l f t = amt m f t) : l = m := by
  induction l generalizing m with
  | nil =>
    cases m with
    | nil => rfl
    | cons b m =>
      exfalso
      have := h b.fr b.to
      rw [amt_mem hm (by simp)] at this
      exact k0 b (by simp) this.symm
  | cons a l ih =>
    cases m with
    | nil =>
      exfalso
      have := h a.fr a.to
      rw [amt_mem hl (by simp)] at this
      exact h0 a (by simp) this
    | cons b m =>
      have ea := h a.fr a.to
      have eb := h b.fr b.to
      rw [amt_mem hl (by simp)] at ea
      rw [amt_mem hm (by simp)] at eb
      have hkey : a.fr = b.fr ∧ a.to = b.to := by
        obtain ⟨x, hx, x1, x2⟩ := amt_some (ls := b :: m) (f := a.fr) (t := a.to) (by rw [← ea]; exact h0 a (by simp))
        obtain ⟨y, hy, y1, y2⟩ := amt_some (ls := a :: l) (f := b.fr) (t := b.to) (by rw [eb]; exact k0 b (by simp))
        rcases List.mem_cons.1 hx with rfl | hx
        · omega
        · rcases List.mem_cons.1 hy with rfl | hy
          · omega
          · have c1 := hm.1 x hx
            have c2 := hl.1 y hy
            omega
      have hu : a.units = b.units := by
        rw [ea, hkey.1, hkey.2, amt_mem hm (by simp)]
      have hab : a = b := by
        cases a; cases b; simp at hkey hu ⊢; exact ⟨hkey.1, hkey.2, hu⟩
      subst hab
      rw [ih hl.2 hm.2 (fun x hx => h0 x (by simp [hx])) (fun x hx => k0 x (by simp [hx])) fun f t => by have := h f t; rw [amt, amt] at this; omega]

end Go.Proofs.Ytpddnkefggaigaa
