/- Plain mathematics of deeds: what is done, element by element. -/
import Derived.Test.YtpddnkefggaigaaP3
import Derived.Test.YtpddnkefggaigaaT3
import Derived.Test.YtpddnkefggaigaaR9
import Derived.Test.YtpddnkefggaigaaN2
import Derived.Test.YtpddnkefggaigaaO3
namespace Go.Proofs.Ytpddnkefggaigaa

theorem foldl_after (f t u : Int) (ls out : List Loan) (h : ∀ x ∈ ls, x.units ≠ 0 ∧ ¬ (x.fr = f ∧ x.to = t)) : ls.foldl (owedStep f t u) (out, true) = (out ++ ls, true) := by
  induction ls generalizing out with
  | nil => simp
  | cons x r ih =>
    have hx := h x (by simp)
    have he : eqB f t x = false := by
      cases e : eqB f t x
      · rfl
      · simp [eqB] at e; exact absurd e hx.2
    have hs : owedStep f t u (out, true) x = (out ++ [x], true) := by simp [owedStep, he, hx.1]
    rw [List.foldl_cons, hs, ih _ fun y hy => h y (by simp [hy])]
    simp
theorem foldl_owed (f t u : Int) (hu : u ≠ 0) (ls out : List Loan) (ha : Asc ls) (h : ∀ x ∈ ls, x.units ≠ 0) :
    (if (ls.foldl (owedStep f t u) (out, false)).2 then (ls.foldl (owedStep f t u) (out, false)).1 else (ls.foldl (owedStep f t u) (out, false)).1 ++ [⟨f, t, u⟩]) = out ++ insP ls f t u := by
  induction ls generalizing out with
  | nil => simp [insP, hu]
  | cons x r ih =>
    obtain ⟨h1, h2⟩ := ha
    have hx := h x (by simp)
    have hr : ∀ y ∈ r, y.units ≠ 0 := fun y hy => h y (by simp [hy])
    rw [List.foldl_cons, insP]
    by_cases hl : x.fr < f ∨ (x.fr = f ∧ x.to < t)
    · have he : eqB f t x = false := by
        cases e : eqB f t x
        · rfl
        · simp [eqB] at e; omega
      have hi : insB f t x = false := by
        cases e : insB f t x
        · rfl
        · simp [insB] at e; omega
      have hs : owedStep f t u (out, false) x = (out ++ [x], false) := by simp [owedStep, he, hi, hx]
      rw [hs, if_pos hl, ih _ h2 hr]
      simp
    · rw [if_neg hl]
      by_cases hk : x.fr = f ∧ x.to = t
      · obtain ⟨rfl, rfl⟩ := hk
        have he : eqB x.fr x.to x = true := by simp [eqB]
        have hi : insB x.fr x.to x = false := by simp [insB]
        rw [if_pos (show x.fr = x.fr ∧ x.to = x.to from ⟨rfl, rfl⟩)]
        have hrest : ∀ y ∈ r, y.units ≠ 0 ∧ ¬ (y.fr = x.fr ∧ y.to = x.to) := fun y hy => ⟨hr y hy, by have := h1 y hy; omega⟩
        by_cases h0 : x.units + u = 0
        · have hs : owedStep x.fr x.to u (out, false) x = (out, true) := by simp [owedStep, he, hi, h0]
          rw [hs, foldl_after _ _ _ _ _ hrest, if_pos h0]
          simp
        · have hs : owedStep x.fr x.to u (out, false) x = (out ++ [⟨x.fr, x.to, x.units + u⟩], true) := by simp [owedStep, he, hi, h0]
          rw [hs, foldl_after _ _ _ _ _ hrest, if_neg h0]
          simp
      · have he : eqB f t x = false := by
          cases e : eqB f t x
          · rfl
          · simp [eqB] at e; exact absurd e hk
        have hi : insB f t x = true := by
          have h3 : f < x.fr ∨ (x.fr = f ∧ t < x.to) := by omega
          simp [insB, h3]
        rw [if_neg hk, if_neg hu]
        have hs : owedStep f t u (out, false) x = (out ++ [⟨f, t, u⟩] ++ [x], true) := by simp [owedStep, he, hi, hx]
        have hrest : ∀ y ∈ r, y.units ≠ 0 ∧ ¬ (y.fr = f ∧ y.to = t) := fun y hy => ⟨hr y hy, by have := h1 y hy; omega⟩
        rw [hs, foldl_after _ _ _ _ _ hrest]
        simp
theorem owedR_eq {ls : List Loan} (f t u : Int) (hu : u ≠ 0) (ha : Asc ls) (h : ∀ x ∈ ls, x.units ≠ 0) : owedR ls f t u = insP ls f t u := by
  have := foldl_owed f t u hu ls [] ha h
  unfold owedR owedF
  rw [List.take_length]
  simpa using this

/-- What it means that a pool is valid. -/
structure Vd (p : Pool) : Prop where
  lh : p.has.length = 16
  lu : p.used.length = 16
  lc : p.cents.length = 16
  h : ∀ i, i < 16 → 0 ≤ p.has.getD i 0 ∧ p.has.getD i 0 ≤ 1000000
  u : ∀ i, i < 16 → 0 ≤ p.used.getD i 0 ∧ p.used.getD i 0 ≤ 1000000
  c : ∀ i, i < 16 → -1000000000000 ≤ p.cents.getD i 0 ∧ p.cents.getD i 0 ≤ 1000000000000
  sum : p.cents.sum = 0
  asc : Asc p.loans
  ok : ∀ x ∈ p.loans, 0 ≤ x.fr ∧ x.fr ≤ 15 ∧ 0 ≤ x.to ∧ x.to ≤ 15 ∧ x.fr ≠ x.to ∧ 1 ≤ x.units ∧ x.units ≤ 1000000
theorem loanOK_iff (x : Loan) : loanOK x = true ↔ 0 ≤ x.fr ∧ x.fr ≤ 15 ∧ 0 ≤ x.to ∧ x.to ≤ 15 ∧ x.fr ≠ x.to ∧ 1 ≤ x.units ∧ x.units ≤ 1000000 := by
  simp only [loanOK, Bool.and_eq_true, ownerB, inB_iff, bne_iff_ne]
  omega
theorem within_iff (l : List Int) (lo hi : Int) : withinB l lo hi = true ↔ l.length = 16 ∧ ∀ i, i < 16 → lo ≤ l.getD i 0 ∧ l.getD i 0 ≤ hi := by
  constructor
  · intro h
    have hl := within_len h
    refine ⟨hl, fun i hi => within_mem h _ ?_⟩
    rw [List.getD_eq_getElem?_getD, List.getElem?_eq_getElem (by omega)]
    simp
  · rintro ⟨hl, h⟩
    simp only [withinB, hl, Bool.and_eq_true, List.all_eq_true]
    refine ⟨rfl, fun x hx => ?_⟩
    obtain ⟨i, hi, rfl⟩ := List.mem_iff_getElem.1 hx
    have := h i (by omega)
    rw [List.getD_eq_getElem?_getD, List.getElem?_eq_getElem hi] at this
    exact inB_iff.2 (by simpa using this)
theorem vd_iff (p : Pool) : validB p = true ↔ Vd p := by
  simp only [validB, Bool.and_eq_true, decide_eq_true_eq, within_iff, loansOK_iff, loanOK_iff]
  constructor
  · rintro ⟨⟨⟨⟨⟨a1, a2⟩, b1, b2⟩, c1, c2⟩, l1, l2, _⟩, s⟩
    exact ⟨a1, b1, c1, a2, b2, c2, s, l2, l1⟩
  · rintro ⟨a1, b1, c1, a2, b2, c2, s, l2, l1⟩
    exact ⟨⟨⟨⟨⟨a1, a2⟩, b1, b2⟩, c1, c2⟩, l1, l2, fun y hy => by cases hy⟩, s⟩

theorem getD_upd (l : List Int) (i j : Nat) (d : Int) (hi : i < l.length) : (l.set i (l.getD i 0 + d)).getD j 0 = l.getD j 0 + if j = i then d else 0 := by
  rw [getD_set_int]
  by_cases h : i = j
  · subst h; simp [hi]
  · have h' : ¬ j = i := fun e => h e.symm
    simp [h, h']
theorem sum_upd (l : List Int) (i : Nat) (d : Int) (hi : i < l.length) : (l.set i (l.getD i 0 + d)).sum = l.sum + d := by
  induction l generalizing i with
  | nil => simp at hi
  | cons x r ih =>
    cases i with
    | zero => simp; omega
    | succ i =>
      have := ih i (by simpa using hi)
      simp at this ⊢
      omega
theorem list_ext16 {l m : List Int} (hl : l.length = 16) (hm : m.length = 16) (h : ∀ i, i < 16 → l.getD i 0 = m.getD i 0) : l = m := by
  apply List.ext_getElem (by omega)
  intro i h1 h2
  have := h i (by omega)
  rw [List.getD_eq_getElem?_getD, List.getD_eq_getElem?_getD, List.getElem?_eq_getElem h1, List.getElem?_eq_getElem h2] at this
  simpa using this

def okD (d : Deed) : Bool := if d.kind = 0 ∨ d.kind = 1 then pairB d.fr d.tt d.units else if d.kind = 2 then pairB d.fr d.tt d.units && inB d.cents 0 1000000000 else singleB d.fr d.units
def loanD (d : Deed) : Loan := if d.kind = 0 then ⟨d.fr, d.tt, d.units⟩ else if d.kind = 1 then ⟨d.tt, d.fr, -d.units⟩ else ⟨0, 0, 0⟩
def mvD (d : Deed) : List AM := if d.kind = 0 ∨ d.kind = 1 then [⟨0, d.fr.toNat, 0, d.tt.toNat, d.units⟩] else if d.kind = 2 then [⟨0, d.fr.toNat, 0, d.tt.toNat, d.units⟩, ⟨3, d.tt.toNat, 3, d.fr.toNat, d.cents⟩] else if d.kind = 3 then [⟨0, d.fr.toNat, 1, d.fr.toNat, d.units⟩] else [⟨1, d.fr.toNat, 0, d.fr.toNat, d.units⟩]
def appP (p : Pool) (d : Deed) : Pool := movedG p (loanD d) (mvD d)
theorem doP_eq (p : Pool) (d : Deed) : doP p d = if okD d = true ∧ validB p = true ∧ validB (appP p d) = true then some (appP p d) else none := by
  have key : ∀ ok x mv, changeP p ok x mv = if ok = true ∧ validB p = true ∧ validB (movedG p x mv) = true then some (movedG p x mv) else none := by
    intro ok x mv
    unfold changeP
    by_cases h : ok = true ∧ validB p = true
    · rw [if_pos h]
      by_cases h2 : validB (movedG p x mv) = true
      · rw [if_pos h2, if_pos ⟨h.1, h.2, h2⟩]
      · rw [if_neg h2, if_neg fun h3 => h2 h3.2.2]
    · rw [if_neg h, if_neg fun h3 => h ⟨h3.1, h3.2.1⟩]
  unfold doP appP
  by_cases h0 : d.kind = 0
  · rw [if_pos h0, lendP, key]; simp [okD, loanD, mvD, h0]
  · rw [if_neg h0]
    by_cases h1 : d.kind = 1
    · rw [if_pos h1, returnP, key]; simp [okD, loanD, mvD, h1]
    · rw [if_neg h1]
      by_cases h2 : d.kind = 2
      · rw [if_pos h2, tradeP, key]; simp [okD, loanD, mvD, h2]
      · rw [if_neg h2]
        by_cases h3 : d.kind = 3
        · rw [if_pos h3, useP, key]; simp [okD, loanD, mvD, h3]
        · rw [if_neg h3, freeP, key]; simp [okD, loanD, mvD, h0, h1, h2, h3]

def dH (d : Deed) (i : Nat) : Int :=
  if d.kind = 0 ∨ d.kind = 1 ∨ d.kind = 2 then (if i = d.fr.toNat then -d.units else 0) + (if i = d.tt.toNat then d.units else 0)
  else if d.kind = 3 then (if i = d.fr.toNat then -d.units else 0) else (if i = d.fr.toNat then d.units else 0)
def dU (d : Deed) (i : Nat) : Int :=
  if d.kind = 0 ∨ d.kind = 1 ∨ d.kind = 2 then 0 else if d.kind = 3 then (if i = d.fr.toNat then d.units else 0) else (if i = d.fr.toNat then -d.units else 0)
def dC (d : Deed) (i : Nat) : Int := if d.kind = 2 then (if i = d.tt.toNat then -d.cents else 0) + (if i = d.fr.toNat then d.cents else 0) else 0
def dL (d : Deed) (f t : Int) : Int := if (loanD d).fr = f ∧ (loanD d).to = t then (loanD d).units else 0

/-- What a deed does, element by element. -/
structure Eff (p q : Pool) (d : Deed) : Prop where
  lh : q.has.length = 16
  lu : q.used.length = 16
  lc : q.cents.length = 16
  h : ∀ i, q.has.getD i 0 = p.has.getD i 0 + dH d i
  u : ∀ i, q.used.getD i 0 = p.used.getD i 0 + dU d i
  c : ∀ i, q.cents.getD i 0 = p.cents.getD i 0 + dC d i
  sum : q.cents.sum = p.cents.sum
  tot : q.has.sum + q.used.sum = p.has.sum + p.used.sum
  l : ∀ f t, amt q.loans f t = amt p.loans f t + dL d f t
  asc : Asc q.loans
  n : ∀ o, netL q.loans o = netL p.loans o + netX o (loanD d)
  len : q.loans.length ≤ p.loans.length + 1
  mem : ∀ x ∈ q.loans, x ∈ p.loans ∨ (x.fr = (loanD d).fr ∧ x.to = (loanD d).to ∧ x.units ≠ 0 ∧ (d.kind = 0 ∨ d.kind = 1))
theorem netL_cons (x : Loan) (r : List Loan) (o : Int) : netL (x :: r) o = netX o x + netL r o := by simp [netL]
theorem netX_add (f t a b o : Int) : netX o ⟨f, t, a + b⟩ = netX o ⟨f, t, a⟩ + netX o ⟨f, t, b⟩ := by
  unfold netX
  dsimp only
  split <;> split <;> omega
theorem netX_zero (f t o : Int) : netX o ⟨f, t, 0⟩ = 0 := by simp [netX]
theorem netL_insP (ls : List Loan) (f t u o : Int) : netL (insP ls f t u) o = netL ls o + netX o ⟨f, t, u⟩ := by
  induction ls with
  | nil =>
    rw [insP]
    by_cases h0 : u = 0
    · rw [if_pos h0, h0, netX_zero]; omega
    · rw [if_neg h0, netL_cons]; omega
  | cons x r ih =>
    rw [insP]
    by_cases h : x.fr < f ∨ (x.fr = f ∧ x.to < t)
    · rw [if_pos h, netL_cons, netL_cons, ih]; omega
    · rw [if_neg h]
      by_cases he : x.fr = f ∧ x.to = t
      · rw [if_pos he]
        obtain ⟨xf, xt, xu⟩ := x
        dsimp only at he ⊢
        obtain ⟨rfl, rfl⟩ := he
        have ha := netX_add xf xt xu u o
        by_cases h0 : xu + u = 0
        · rw [if_pos h0, netL_cons]
          rw [h0, netX_zero] at ha
          omega
        · rw [if_neg h0, netL_cons, netL_cons]
          omega
      · rw [if_neg he]
        by_cases h0 : u = 0
        · rw [if_pos h0, h0, netX_zero]; omega
        · rw [if_neg h0, netL_cons]; omega
theorem len_insP (ls : List Loan) (f t u : Int) : (insP ls f t u).length ≤ ls.length + 1 := by
  induction ls with
  | nil => rw [insP]; split <;> simp
  | cons x r ih =>
    rw [insP]
    split
    · simp; omega
    · split
      · split <;> simp; omega
      · split <;> simp
theorem len_insP_out {ls : List Loan} (ha : Asc ls) {y : Loan} (hy : y ∈ ls) : (insP ls y.fr y.to (-y.units)).length + 1 = ls.length := by
  induction ls with
  | nil => cases hy
  | cons x r ih =>
    obtain ⟨h1, h2⟩ := ha
    rw [insP]
    rcases List.mem_cons.1 hy with rfl | hy
    · rw [if_neg (by omega), if_pos ⟨rfl, rfl⟩, if_pos (by omega)]
      simp
    · rw [if_pos (h1 y hy)]
      have := ih h2 hy
      simp
      omega
theorem okD_bd {d : Deed} (h : okD d = true) : 0 ≤ d.fr ∧ d.fr ≤ 15 ∧ 1 ≤ d.units ∧ d.units ≤ 1000000 ∧ (d.kind = 0 ∨ d.kind = 1 ∨ d.kind = 2 → 0 ≤ d.tt ∧ d.tt ≤ 15 ∧ d.fr ≠ d.tt) ∧ (d.kind = 2 → 0 ≤ d.cents ∧ d.cents ≤ 1000000000) := by
  unfold okD at h
  split at h
  · have := pairB_iff h
    omega
  · split at h
    · simp only [Bool.and_eq_true, inB_iff] at h
      have := pairB_iff h.1
      omega
    · have := singleB_iff h
      omega
theorem eff_app {p : Pool} {d : Deed} (hv : Vd p) (ho : okD d = true) : Eff p (appP p d) d := by
  obtain ⟨b1, b2, b3, b4, b5, b6⟩ := okD_bd ho
  obtain ⟨lh, lu, lc, _, _, _, _, asc, ok⟩ := hv
  have hf : d.fr.toNat < 16 := by omega
  by_cases k01 : d.kind = 0 ∨ d.kind = 1
  · have ht : d.tt.toNat < 16 := by have := b5 (by omega); omega
    have hl : (appP p d).loans = insP p.loans (loanD d).fr (loanD d).to (loanD d).units := by
      have hu : (loanD d).units ≠ 0 := by rcases k01 with k | k <;> simp [loanD, k] <;> omega
      show (if (loanD d).units = 0 then p.loans else owedG p.loans (loanD d)) = _
      rw [if_neg hu]
      exact owedG_eq _ _ _ _
    have e1 : (appP p d).has = (p.has.set d.fr.toNat (p.has.getD d.fr.toNat 0 + -d.units)).set d.tt.toNat ((p.has.set d.fr.toNat (p.has.getD d.fr.toNat 0 + -d.units)).getD d.tt.toNat 0 + d.units) := by
      simp [appP, movedG, mvD, k01, St.app, St.upd, Pool.st]
    have e2 : (appP p d).used = p.used := by simp [appP, movedG, mvD, k01, St.app, St.upd, Pool.st]
    have e3 : (appP p d).cents = p.cents := by simp [appP, movedG, mvD, k01, St.app, St.upd, Pool.st]
    have k2 : ¬ d.kind = 2 := by omega
    have k012 : d.kind = 0 ∨ d.kind = 1 ∨ d.kind = 2 := by omega
    refine ⟨by rw [e1]; simp [lh], by rw [e2, lu], by rw [e3, lc], fun i => ?_, fun i => ?_, fun i => ?_, by rw [e3], ?_, fun f t => ?_, ?_, fun o => ?_, ?_, fun x hx => ?_⟩
    · rw [e1, getD_upd _ _ _ _ (by simp; omega), getD_upd _ _ _ _ (by omega), dH, if_pos k012]; omega
    · rw [e2, dU, if_pos k012]; omega
    · rw [e3, dC, if_neg k2]; omega
    · rw [e1, e2, sum_upd _ _ _ (by simp; omega), sum_upd _ _ _ (by omega)]; omega
    · rw [hl, amt_insP]; rfl
    · rw [hl]; exact asc_insP _ _ _ asc
    · rw [hl]; exact netL_insP _ _ _ _ _
    · rw [hl]; exact len_insP _ _ _ _
    · rw [hl] at hx
      rcases mem_insP hx with h | ⟨h1, h2, h3⟩
      · exact .inl h
      · exact .inr ⟨h1, h2, h3, k01⟩
  · have hlo : loanD d = ⟨0, 0, 0⟩ := by
      have k0 : ¬ d.kind = 0 := by omega
      have k1 : ¬ d.kind = 1 := by omega
      simp [loanD, k0, k1]
    have hl : (appP p d).loans = p.loans := by
      show (if (loanD d).units = 0 then p.loans else owedG p.loans (loanD d)) = _
      rw [hlo]
      rfl
    have hL : ∀ f t, amt (appP p d).loans f t = amt p.loans f t + dL d f t := by
      intro f t
      rw [hl]
      simp [dL, hlo]
    have hA : Asc (appP p d).loans := by rw [hl]; exact asc
    have hLe : (appP p d).loans.length ≤ p.loans.length + 1 := by rw [hl]; omega
    have hN : ∀ o, netL (appP p d).loans o = netL p.loans o + netX o (loanD d) := by
      intro o
      rw [hl, hlo]
      simp [netX]
    have hM : ∀ x ∈ (appP p d).loans, x ∈ p.loans ∨ (x.fr = (loanD d).fr ∧ x.to = (loanD d).to ∧ x.units ≠ 0 ∧ (d.kind = 0 ∨ d.kind = 1)) := fun x hx => .inl (by rw [hl] at hx; exact hx)
    by_cases k2 : d.kind = 2
    · have ht : d.tt.toNat < 16 := by have := b5 (by omega); omega
      have e1 : (appP p d).has = (p.has.set d.fr.toNat (p.has.getD d.fr.toNat 0 + -d.units)).set d.tt.toNat ((p.has.set d.fr.toNat (p.has.getD d.fr.toNat 0 + -d.units)).getD d.tt.toNat 0 + d.units) := by
        simp [appP, movedG, mvD, k2, St.app, St.upd, Pool.st]
      have e2 : (appP p d).used = p.used := by simp [appP, movedG, mvD, k2, St.app, St.upd, Pool.st]
      have e3 : (appP p d).cents = (p.cents.set d.tt.toNat (p.cents.getD d.tt.toNat 0 + -d.cents)).set d.fr.toNat ((p.cents.set d.tt.toNat (p.cents.getD d.tt.toNat 0 + -d.cents)).getD d.fr.toNat 0 + d.cents) := by
        simp [appP, movedG, mvD, k2, St.app, St.upd, Pool.st]
      have k012 : d.kind = 0 ∨ d.kind = 1 ∨ d.kind = 2 := by omega
      refine ⟨by rw [e1]; simp [lh], by rw [e2, lu], by rw [e3]; simp [lc], fun i => ?_, fun i => ?_, fun i => ?_, ?_, ?_, hL, hA, hN, hLe, hM⟩
      · rw [e1, getD_upd _ _ _ _ (by simp; omega), getD_upd _ _ _ _ (by omega), dH, if_pos k012]; omega
      · rw [e2, dU, if_pos k012]; omega
      · rw [e3, getD_upd _ _ _ _ (by simp; omega), getD_upd _ _ _ _ (by omega), dC, if_pos k2]; omega
      · rw [e3, sum_upd _ _ _ (by simp; omega), sum_upd _ _ _ (by omega)]; omega
      · rw [e1, e2, sum_upd _ _ _ (by simp; omega), sum_upd _ _ _ (by omega)]; omega
    · have k012 : ¬ (d.kind = 0 ∨ d.kind = 1 ∨ d.kind = 2) := by omega
      have k0 : ¬ d.kind = 0 := by omega
      have k1 : ¬ d.kind = 1 := by omega
      by_cases k3 : d.kind = 3
      · have e1 : (appP p d).has = p.has.set d.fr.toNat (p.has.getD d.fr.toNat 0 + -d.units) := by simp [appP, movedG, mvD, k3, St.app, St.upd, Pool.st]
        have e2 : (appP p d).used = p.used.set d.fr.toNat (p.used.getD d.fr.toNat 0 + d.units) := by simp [appP, movedG, mvD, k3, St.app, St.upd, Pool.st]
        have e3 : (appP p d).cents = p.cents := by simp [appP, movedG, mvD, k3, St.app, St.upd, Pool.st]
        refine ⟨by rw [e1]; simp [lh], by rw [e2]; simp [lu], by rw [e3, lc], fun i => ?_, fun i => ?_, fun i => ?_, by rw [e3], ?_, hL, hA, hN, hLe, hM⟩
        · rw [e1, getD_upd _ _ _ _ (by omega), dH, if_neg k012, if_pos k3]
        · rw [e2, getD_upd _ _ _ _ (by omega), dU, if_neg k012, if_pos k3]
        · rw [e3, dC, if_neg k2]; omega
        · rw [e1, e2, sum_upd _ _ _ (by omega), sum_upd _ _ _ (by omega)]; omega
      · have e1 : (appP p d).has = p.has.set d.fr.toNat (p.has.getD d.fr.toNat 0 + d.units) := by simp [appP, movedG, mvD, k0, k1, k2, k3, St.app, St.upd, Pool.st]
        have e2 : (appP p d).used = p.used.set d.fr.toNat (p.used.getD d.fr.toNat 0 + -d.units) := by simp [appP, movedG, mvD, k0, k1, k2, k3, St.app, St.upd, Pool.st]
        have e3 : (appP p d).cents = p.cents := by simp [appP, movedG, mvD, k0, k1, k2, k3, St.app, St.upd, Pool.st]
        refine ⟨by rw [e1]; simp [lh], by rw [e2]; simp [lu], by rw [e3, lc], fun i => ?_, fun i => ?_, fun i => ?_, by rw [e3], ?_, hL, hA, hN, hLe, hM⟩
        · rw [e1, getD_upd _ _ _ _ (by omega), dH, if_neg k012, if_neg k3]
        · rw [e2, getD_upd _ _ _ _ (by omega), dU, if_neg k012, if_neg k3]
        · rw [e3, dC, if_neg k2]; omega
        · rw [e1, e2, sum_upd _ _ _ (by omega), sum_upd _ _ _ (by omega)]; omega
theorem pool_ext {p q : Pool} (hp : Vd p) (hq : Vd q) (h : ∀ i, i < 16 → p.has.getD i 0 = q.has.getD i 0) (u : ∀ i, i < 16 → p.used.getD i 0 = q.used.getD i 0) (c : ∀ i, i < 16 → p.cents.getD i 0 = q.cents.getD i 0) (l : ∀ f t, amt p.loans f t = amt q.loans f t) : p = q := by
  have e1 := list_ext16 hp.lh hq.lh h
  have e2 := list_ext16 hp.lu hq.lu u
  have e3 := list_ext16 hp.lc hq.lc c
  have e4 := loans_ext hp.asc hq.asc (fun x hx => by have := hp.ok x hx; omega) (fun x hx => by have := hq.ok x hx; omega) l
  cases p; cases q
  simp at e1 e2 e3 e4
  rw [e1, e2, e3, e4]
theorem do_some {p q : Pool} {d : Deed} (h : doP p d = some q) : okD d = true ∧ Vd p ∧ Vd q ∧ q = appP p d ∧ Eff p q d := by
  rw [doP_eq] at h
  split at h
  · rename_i hh
    obtain ⟨h1, h2, h3⟩ := hh
    injection h with h
    subst h
    exact ⟨h1, (vd_iff _).1 h2, (vd_iff _).1 h3, rfl, eff_app ((vd_iff _).1 h2) h1⟩
  · cases h
theorem do_none {p : Pool} {d : Deed} (hp : Vd p) (ho : okD d = true) (h : doP p d = none) : ¬ Vd (appP p d) := by
  intro hq
  rw [doP_eq, if_pos ⟨ho, (vd_iff _).2 hp, (vd_iff _).2 hq⟩] at h
  cases h

/-- The reference does the same. -/
theorem rdoP_eq (p : Pool) (d : Deed) : rdoP p d = doP p d := by
  have key : ∀ ok ok' x mv s ls, (ok && validB p) = ok' → (validB p = true → ok = true → (movedG p x mv) = ⟨s.h, s.u, ls, s.c⟩) → refP ok' s ls = changeP p ok x mv := by
    intro ok ok' x mv s ls h1 h2
    unfold refP changeP
    subst h1
    by_cases h : ok = true ∧ validB p = true
    · rw [if_pos h, if_pos (by simp [h]), h2 h.2 h.1]
    · rw [if_neg h, if_neg (by simpa using h)]
  have hasc : validB p = true → Asc p.loans ∧ ∀ x ∈ p.loans, x.units ≠ 0 := fun h => ⟨((vd_iff p).1 h).asc, fun x hx => by have := ((vd_iff p).1 h).ok x hx; omega⟩
  unfold rdoP doP
  by_cases h0 : d.kind = 0
  · rw [if_pos h0, if_pos h0, rlendP, lendP]
    refine key _ _ _ _ _ _ (Bool.and_comm _ _) fun hv hok => ?_
    have hu := pairB_iff hok
    have hu : d.units ≠ 0 := by omega
    rw [owedR_eq _ _ _ hu (hasc hv).1 (hasc hv).2]
    simp [movedG, hu, owedG_eq, St.app]
  · rw [if_neg h0, if_neg h0]
    by_cases h1 : d.kind = 1
    · rw [if_pos h1, if_pos h1, rreturnP, returnP]
      refine key _ _ _ _ _ _ (Bool.and_comm _ _) fun hv hok => ?_
      have hu := pairB_iff hok
      have hu : d.units ≠ 0 := by omega
      have hu' : -d.units ≠ 0 := by omega
      rw [owedR_eq _ _ _ hu' (hasc hv).1 (hasc hv).2]
      simp [movedG, hu, owedG_eq, St.app]
    · rw [if_neg h1, if_neg h1]
      by_cases h2 : d.kind = 2
      · rw [if_pos h2, if_pos h2, rtradeP, tradeP]
        refine key _ _ _ _ _ _ (by rw [Bool.and_comm, Bool.and_assoc]) fun hv hok => ?_
        simp [movedG, St.app]
      · rw [if_neg h2, if_neg h2]
        by_cases h3 : d.kind = 3
        · rw [if_pos h3, if_pos h3, ruseP, useP]
          refine key _ _ _ _ _ _ (by rw [Bool.and_comm, Bool.and_assoc]; rfl) fun hv hok => ?_
          simp [movedG, St.app]
        · rw [if_neg h3, if_neg h3, rfreeP, freeP]
          refine key _ _ _ _ _ _ (by rw [Bool.and_comm, Bool.and_assoc]; rfl) fun hv hok => ?_
          simp [movedG, St.app, St.upd, Pool.st]

end Go.Proofs.Ytpddnkefggaigaa
