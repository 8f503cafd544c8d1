/- Lemmas on the row of loans of a pool of the call's own. -/
import Derived.Test.YtpddnkefggaigaaC2
namespace Go.Proofs.Ytpddnkefggaigaa
open Go.RowKit

theorem flat_take (ls : List Loan) (i : Nat) : (ls.flatMap loanCells).take (i * 3) = (ls.take i).flatMap loanCells := by
  induction ls generalizing i with
  | nil => simp
  | cons y r ih =>
    cases i with
    | zero => simp
    | succ i =>
      rw [show (i + 1) * 3 = i * 3 + 3 by omega, List.flatMap_cons, List.take_succ_cons, List.flatMap_cons]
      simp only [loanCells, List.cons_append, List.nil_append, List.take_succ_cons]
      rw [← ih i]
theorem flat_drop (ls : List Loan) (i : Nat) : (ls.flatMap loanCells).drop (i * 3) = (ls.drop i).flatMap loanCells := by
  induction ls generalizing i with
  | nil => simp
  | cons y r ih =>
    cases i with
    | zero => simp
    | succ i =>
      rw [show (i + 1) * 3 = i * 3 + 3 by omega, List.flatMap_cons, List.drop_succ_cons]
      simp only [loanCells, List.cons_append, List.nil_append, List.drop_succ_cons]
      rw [← ih i]
theorem flat_set (ls : List Loan) (i : Nat) (h : i < ls.length) (u : Int) : (ls.flatMap loanCells).set (i * 3 + 2) (I64 u) = (setU ls i u).flatMap loanCells := by
  have e : setU ls i u = ls.set i ⟨ls[i].fr, ls[i].to, u⟩ := by simp [setU, List.getElem?_eq_getElem h]
  rw [e]
  clear e
  induction ls generalizing i with
  | nil => simp at h
  | cons y r ih =>
    cases i with
    | zero => simp [loanCells]
    | succ i =>
      have := ih i (by simpa using h)
      rw [show (i + 1) * 3 + 2 = (i * 3 + 2) + 3 by omega, List.flatMap_cons]
      simp only [loanCells, List.cons_append, List.nil_append, List.set_cons_succ, List.flatMap_cons, List.getElem_cons_succ]
      rw [this]
theorem unitsAt_eq (ls : List Loan) (i : Nat) (h : i < ls.length) : unitsAt ls i = ls[i].units := by simp [unitsAt, List.getElem?_eq_getElem h]
theorem setU_len (ls : List Loan) (i : Nat) (u : Int) : (setU ls i u).length = ls.length := by
  unfold setU
  cases ls[i]? <;> simp

section
variable {W : World} {base g n c : Nat} {ls : List Loan}
theorem ownL_form {v : Value} (h : W.ownsRow base 28 3 v n (ls.flatMap loanCells)) (hn : 0 < n) : ∃ g c cur, v = .slice (some ⟨g, 0, none⟩) n c ∧ Blk W g 28 cur ∧ base ≤ g ∧ n ≤ c := by
  rcases h.2 with ⟨_, h0⟩ | ⟨g, cap, cur, rfl, hb, hh, h1, _⟩
  · omega
  · exact ⟨g, cap, cur, rfl, hh, hb, h1⟩
theorem ownL_units (h : W.ownsRow base 28 3 (.slice (some ⟨g, 0, none⟩) n c) n (ls.flatMap loanCells)) {i : Nat} (hi : i < ls.length) : W.cell? ⟨g, i * 3 + 2, none⟩ = some (I64 (unitsAt ls i)) ∧ W.frozen? ⟨g, i * 3 + 2, none⟩ = false := by
  have hc := h.cells (g := g) rfl (i * 3 + 2) (I64 (unitsAt ls i)) (by rw [unitsAt_eq ls i hi]; exact (get_flat ls i hi).2.2)
  rw [Addr.add_lit, Nat.zero_add] at hc
  rcases h.2 with ⟨hv, _⟩ | ⟨g', cap, cur, hv, hb, hh, _⟩
  · cases hv
  · injection hv with e1 _ _
    injection e1 with e1
    injection e1 with e1 _ _
    subst e1
    exact ⟨hc, by simp [World.frozen?, hh]⟩
theorem ownL_write (h : W.ownsRow base 28 3 (.slice (some ⟨g, 0, none⟩) n c) n (ls.flatMap loanCells)) {i : Nat} (hi : i < ls.length) (u : Int) : (W.setCell ⟨g, i * 3 + 2, none⟩ (I64 u)).ownsRow base 28 3 (.slice (some ⟨g, 0, none⟩) n c) n ((setU ls i u).flatMap loanCells) := by
  have hl := h.1
  rw [← flat_set ls i hi u]
  refine ⟨by rw [List.length_set]; exact hl, ?_⟩
  rcases h.2 with ⟨hv, _⟩ | ⟨g', cap, cur, hv, hb, hh, h1, h2, h3, h4⟩
  · cases hv
  · injection hv with e1 e2 e3
    injection e1 with e1
    injection e1 with e1 _ _
    subst e1 e3
    refine .inr ⟨g, c, cur.setIfInBounds (i * 3 + 2) (I64 u), rfl, hb, Blk.set_ (cs := cur) hh _ _, h1, h2, by simpa using h3, ?_⟩
    rw [Array.toList_setIfInBounds, List.take_set, h4]
end

theorem pairwise_loans (ls : List Loan) (prev : Option Loan) (h : loansOK prev ls = true) : ls.Pairwise (fun a b => lessB a b = true) ∧ ∀ y, prev = some y → ∀ a ∈ ls, lessB y a = true := by
  induction ls generalizing prev with
  | nil => exact ⟨List.Pairwise.nil, fun _ _ _ h => by cases h⟩
  | cons a r ih =>
    simp only [loansOK, Bool.and_eq_true] at h
    obtain ⟨⟨h1, h2⟩, h3⟩ := h
    obtain ⟨i1, i2⟩ := ih (some a) h3
    refine ⟨List.pairwise_cons.2 ⟨fun b hb => i2 a rfl b hb, i1⟩, fun y hy b hb => ?_⟩
    subst hy
    have hya : lessB y a = true := h2
    rcases List.mem_cons.1 hb with rfl | hb
    · exact hya
    · have := i2 a rfl b hb
      rw [lessB_iff] at this hya ⊢
      omega
theorem loans_units (ls : List Loan) (prev : Option Loan) (h : loansOK prev ls = true) : ∀ y ∈ ls, loanOK y = true := by
  induction ls generalizing prev with
  | nil => intro _ h; cases h
  | cons a r ih =>
    simp only [loansOK, Bool.and_eq_true] at h
    intro y hy
    rcases List.mem_cons.1 hy with rfl | hy
    · exact h.1.1
    · exact ih (some a) h.2 y hy
theorem loans_few (ls : List Loan) (prev : Option Loan) (h : loansOK prev ls = true) (k : Int) (hk : ∀ y, prev = some y → y.fr * 16 + y.to = k ∧ ownerB y.to = true) (hn : prev = none → k = -1) : (ls.length : Int) ≤ 255 - k ∨ ls = [] := by
  induction ls generalizing prev k with
  | nil => exact .inr rfl
  | cons a r ih =>
    simp only [loansOK, Bool.and_eq_true] at h
    obtain ⟨⟨h1, h2⟩, h3⟩ := h
    simp only [loanOK, Bool.and_eq_true, ownerB, inB_iff] at h1
    obtain ⟨⟨⟨⟨a1, a2⟩, ⟨a3, a4⟩⟩, _⟩, _⟩ := h1
    have hka : k < a.fr * 16 + a.to := by
      cases prev with
      | none => have := hn rfl; omega
      | some y =>
        obtain ⟨e1, e2⟩ := hk y rfl
        have hya : lessB y a = true := h2
        rw [lessB_iff] at hya
        simp only [ownerB, inB_iff] at e2
        omega
    left
    rcases ih (some a) h3 (a.fr * 16 + a.to) (fun y hy => by injection hy with hy; subst hy; exact ⟨rfl, by simp only [ownerB, inB_iff]; omega⟩) (fun h => by cases h) with h | h
    · simp only [List.length_cons]; omega
    · subst h; simp only [List.length_cons, List.length_nil]; omega
theorem loans_le (ls : List Loan) (h : loansOK none ls = true) : ls.length ≤ 256 := by
  rcases loans_few ls none h (-1) (fun _ h => by cases h) (fun _ => rfl) with h | h
  · omega
  · subst h; simp
theorem insL_len (ls : List Loan) (x : Loan) : (insL ls x).length = if foundL ls x then ls.length else ls.length + 1 := by
  unfold insL
  have := posL_le ls x
  split
  · rfl
  · simp; omega
theorem posL_ins (ls : List Loan) (x : Loan) : posL ls x < (insL ls x).length := by
  have := posL_le ls x
  rw [insL_len]
  split
  · rename_i h
    unfold foundL at h
    rcases Nat.lt_or_ge (posL ls x) ls.length with hl | hl
    · exact hl
    · rw [List.getElem?_eq_none hl] at h
      simp at h
  · omega
theorem units_ins (ls : List Loan) (x : Loan) (h : loansOK none ls = true) : 0 ≤ unitsAt (insL ls x) (posL ls x) ∧ unitsAt (insL ls x) (posL ls x) ≤ 1000000 := by
  have hp := posL_le ls x
  unfold insL
  split
  · unfold unitsAt
    rcases Nat.lt_or_ge (posL ls x) ls.length with hl | hl
    · rw [List.getElem?_eq_getElem hl]
      have := loans_units ls none h ls[posL ls x] (List.getElem_mem _)
      simp only [loanOK, Bool.and_eq_true, inB_iff] at this
      simp only [Option.map_some, Option.getD_some]
      omega
    · rw [List.getElem?_eq_none hl]
      simp
  · unfold unitsAt
    rw [List.getElem?_append_right (by simp; omega)]
    simp [Nat.min_eq_left hp]

end Go.Proofs.Ytpddnkefggaigaa
