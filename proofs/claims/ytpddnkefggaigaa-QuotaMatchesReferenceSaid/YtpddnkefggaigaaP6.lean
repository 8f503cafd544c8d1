/- Plain mathematics: what the laws say of pools that integers determine. -/
import Derived.Test.YtpddnkefggaigaaP5
namespace Go.Proofs.Ytpddnkefggaigaa

theorem lend_do (p : Pool) (f t u : Int) : lendP p f t u = doP p ⟨0, f, t, u, 0⟩ := by simp [doP]
theorem return_do (p : Pool) (f t u : Int) : returnP p f t u = doP p ⟨1, f, t, u, 0⟩ := by simp [doP]
theorem trade_do (p : Pool) (f t u c : Int) : tradeP p f t u c = doP p ⟨2, f, t, u, c⟩ := by simp [doP]
theorem use_do (p : Pool) (f t u : Int) : useP p f u = doP p ⟨3, f, t, u, 0⟩ := by simp [doP]
theorem free_do (p : Pool) (f t u : Int) : freeP p f u = doP p ⟨4, f, t, u, 0⟩ := by simp [doP]

theorem do_isSome {p : Pool} {d : Deed} {U C M : Int} (hp : Sm p M) (hd : DB d U C) (hU : U ≤ 100000) (hC : C ≤ 100000) (hM : M ≤ 100000) : (doP p d).isSome = true ↔ suff p d := by
  constructor
  · intro h
    obtain ⟨q, hq⟩ := Option.isSome_iff_exists.1 h
    exact suff_of_some hd hq
  · intro h
    rw [some_of_suff hp hd hU hC hM h]
    rfl
theorem do_isNone {p : Pool} {d : Deed} {U C : Int} (hd : DB d U C) (h : ¬ suff p d) : doP p d = none := by
  cases e : doP p d with
  | none => rfl
  | some q => exact absurd (suff_of_some hd e) h

section
variable {p : Pool} {a b u : Int} (hp : Sm p 9000) (ha : 0 ≤ a ∧ a ≤ 3) (hb : 0 ≤ b ∧ b ≤ 3) (hne : a ≠ b) (hu : 1 ≤ u ∧ u ≤ 30)
include hp ha hb hne hu
theorem lend_isSome : (lendP p a b u).isSome = decide (u ≤ p.has.getD a.toNat 0) := by
  rw [Bool.eq_iff_iff, lend_do, do_isSome hp (d := ⟨0, a, b, u, 0⟩) (U := 30) (C := 0) ⟨by simp, by dsimp only; omega, by dsimp only; omega, hne, hu, by simp⟩ (by omega) (by omega) (by omega)]
  simp [suff]
theorem trade_isSome : (tradeP p a b u 5).isSome = decide (u ≤ p.has.getD a.toNat 0) := by
  rw [Bool.eq_iff_iff, trade_do, do_isSome hp (d := ⟨2, a, b, u, 5⟩) (U := 30) (C := 5) ⟨by simp, by dsimp only; omega, by dsimp only; omega, hne, hu, by simp⟩ (by omega) (by omega) (by omega)]
  simp [suff]
theorem use_isSome : (useP p a u).isSome = decide (u ≤ p.has.getD a.toNat 0) := by
  rw [Bool.eq_iff_iff, use_do p a b u, do_isSome hp (d := ⟨3, a, b, u, 0⟩) (U := 30) (C := 0) ⟨by simp, by dsimp only; omega, by dsimp only; omega, hne, hu, by simp⟩ (by omega) (by omega) (by omega)]
  simp [suff]
theorem free_isSome : (freeP p a u).isSome = decide (u ≤ p.used.getD a.toNat 0) := by
  rw [Bool.eq_iff_iff, free_do p a b u, do_isSome hp (d := ⟨4, a, b, u, 0⟩) (U := 30) (C := 0) ⟨by simp, by dsimp only; omega, by dsimp only; omega, hne, hu, by simp⟩ (by omega) (by omega) (by omega)]
  simp [suff]
theorem lend_back {q : Pool} (h : lendP p a b u = some q) : returnP q b a u = some p := by
  rw [lend_do] at h
  have hd : DB ⟨0, a, b, u, 0⟩ 30 0 := ⟨by simp, by dsimp only; omega, by dsimp only; omega, hne, hu, by simp⟩
  have hd2 : DB ⟨1, b, a, u, 0⟩ 30 0 := ⟨by simp, by dsimp only; omega, by dsimp only; omega, fun e => hne e.symm, hu, by simp⟩
  have hq := sm_of_some hp hd (by omega) (by omega) h
  obtain ⟨_, _, _, _, he⟩ := do_some h
  have hs : suff q ⟨1, b, a, u, 0⟩ := by
    have e1 := he.h b.toNat
    have e2 := he.l a b
    have b1 := hp.v.h b.toNat (by omega)
    have b2 := amt_nn hp.v a b
    have hx : ¬ b.toNat = a.toNat := by omega
    simp only [dH, true_or, if_true, if_neg hx] at e1
    simp [dL, loanD] at e2
    simp only [suff]
    refine ⟨by omega, fun _ => by omega⟩
  have h2 := some_of_suff hq hd2 (by omega) (by omega) (by omega) hs
  rw [return_do, h2]
  obtain ⟨_, _, hv, _, he2⟩ := do_some h2
  congr 1
  refine pool_ext hv hp.v (fun i _ => ?_) (fun i _ => ?_) (fun i _ => ?_) fun f t => ?_
  · rw [he2.h, he.h]; simp [dH]; omega
  · rw [he2.u, he.u]; simp [dU]
  · rw [he2.c, he.c]; simp [dC]
  · rw [he2.l, he.l]; simp [dL, loanD]; split <;> omega
end
theorem net_same {p q : Pool} {a b u : Int} (h : lendP p a b u = some q) (o : Nat) (ho : o < 16) : q.has.getD o 0 + netL q.loans (o : Int) = p.has.getD o 0 + netL p.loans (o : Int) := by
  rw [lend_do] at h
  obtain ⟨hok, _, _, _, he⟩ := do_some h
  have hb := okD_bd hok
  simp only [true_or, true_implies] at hb
  rw [he.h, he.n]
  simp only [dH, loanD, true_or, if_true, netX]
  have e1 : (a = (o : Int)) ↔ (o = a.toNat) := by omega
  have e2 : (b = (o : Int)) ↔ (o = b.toNat) := by omega
  simp only [e1, e2]
  split <;> split <;> omega
section
variable {p : Pool} {y : Loan} (hp : Sm p 9000) (hy : y ∈ p.loans)
include hp hy
theorem loan_units : 1 ≤ y.units ∧ y.units ≤ 9000 := by
  have := hp.v.ok y hy
  have h1 := amt_mem hp.v.asc hy
  have h2 := hp.l y.fr y.to
  omega
theorem home_isSome : (returnP p y.to y.fr y.units).isSome = decide (y.units ≤ p.has.getD y.to.toNat 0) := by
  have hk := hp.v.ok y hy
  have hu := loan_units hp hy
  rw [Bool.eq_iff_iff, return_do, do_isSome hp (d := ⟨1, y.to, y.fr, y.units, 0⟩) (U := 9000) (C := 0) ⟨by simp, by dsimp only; omega, by dsimp only; omega, fun e => hk.2.2.2.2.1 e.symm, hu, by simp⟩ (by omega) (by omega) (by omega)]
  simp [suff, amt_mem hp.v.asc hy]
theorem home_none : returnP p y.to y.fr (y.units + 1) = none := by
  have hk := hp.v.ok y hy
  have hu := loan_units hp hy
  rw [return_do]
  refine do_isNone (d := ⟨1, y.to, y.fr, y.units + 1, 0⟩) (U := 9001) (C := 0) ⟨by simp, by dsimp only; omega, by dsimp only; omega, fun e => hk.2.2.2.2.1 e.symm, by dsimp only; omega, by simp⟩ ?_
  simp only [suff, amt_mem hp.v.asc hy]
  rintro ⟨_, h2⟩
  have := h2 trivial
  omega
theorem home_len {q : Pool} (h : returnP p y.to y.fr y.units = some q) : q.loans.length + 1 = p.loans.length := by
  rw [return_do] at h
  obtain ⟨_, _, _, rfl, _⟩ := do_some h
  have hu := loan_units hp hy
  have hu' : ¬ y.units = 0 := by omega
  have : (appP p ⟨1, y.to, y.fr, y.units, 0⟩).loans = insP p.loans y.fr y.to (-y.units) := by
    simp [appP, movedG, loanD, hu', owedG_eq]
  rw [this]
  exact len_insP_out hp.v.asc hy
end

theorem order_same {p a b ab ba : Pool} {d e : Deed} (h1 : doP p d = some a) (h2 : doP a e = some ab) (h3 : doP p e = some b) (h4 : doP b d = some ba) : ab = ba := by
  obtain ⟨_, _, _, _, e1⟩ := do_some h1
  obtain ⟨_, _, v2, _, e2⟩ := do_some h2
  obtain ⟨_, _, _, _, e3⟩ := do_some h3
  obtain ⟨_, _, v4, _, e4⟩ := do_some h4
  refine pool_ext v2 v4 (fun i _ => ?_) (fun i _ => ?_) (fun i _ => ?_) fun f t => ?_
  · rw [e2.h, e1.h, e4.h, e3.h]; omega
  · rw [e2.u, e1.u, e4.u, e3.u]; omega
  · rw [e2.c, e1.c, e4.c, e3.c]; omega
  · rw [e2.l, e1.l, e4.l, e3.l]; omega

section
variable {p : Pool} {d : Deed} {u c : Int} (hp : Sm p 9000) (hd : DB d 12 500) (hu : 1 ≤ u ∧ u ≤ 12) (hc : 0 ≤ c ∧ c ≤ 500)
include hp hd hu hc
omit hp in
theorem parts_db : DB ⟨d.kind, d.fr, d.tt, u, c⟩ 12 500 ∧ DB ⟨d.kind, d.fr, d.tt, d.units + u, d.cents + c⟩ 24 1000 := by
  obtain ⟨k, f, t, ne, v, w⟩ := hd
  exact ⟨⟨k, f, t, ne, hu, hc⟩, ⟨k, f, t, ne, by dsimp only; omega, by dsimp only; omega⟩⟩
theorem parts_refused (h : doP (orNil (doP p d)) ⟨d.kind, d.fr, d.tt, u, c⟩ = none) : doP p ⟨d.kind, d.fr, d.tt, d.units + u, d.cents + c⟩ = none := by
  obtain ⟨hr, hw⟩ := parts_db hd hu hc
  refine do_isNone hw fun hs => ?_
  have hs1 : suff p d := by
    unfold suff at hs ⊢
    dsimp only at hs
    split
    · rename_i k4; rw [if_pos k4] at hs; omega
    · rename_i k4
      rw [if_neg k4] at hs
      exact ⟨by omega, fun k => by have := hs.2 k; omega⟩
  have h1 := some_of_suff hp hd (by omega) (by omega) (by omega) hs1
  have ha := sm_of_some hp hd (by omega) (by omega) h1
  obtain ⟨_, _, _, _, he⟩ := do_some h1
  have hs2 : suff (appP p d) ⟨d.kind, d.fr, d.tt, u, c⟩ := by
    have hne : ¬ d.fr.toNat = d.tt.toNat := by have := hd.f; have := hd.t; have := hd.ne; omega
    have hk := hd.k
    unfold suff at hs ⊢
    dsimp only at hs ⊢
    by_cases k4 : d.kind = 4
    · rw [if_pos k4] at hs ⊢
      have hU : dU d d.fr.toNat = -d.units := by simp [dU, k4]
      rw [he.u, hU]
      omega
    · rw [if_neg k4] at hs ⊢
      have hH : dH d d.fr.toNat = -d.units := by
        unfold dH
        by_cases k012 : d.kind = 0 ∨ d.kind = 1 ∨ d.kind = 2
        · rw [if_pos k012, if_pos rfl, if_neg hne]; omega
        · rw [if_neg k012, if_pos (by omega), if_pos rfl]
      refine ⟨by rw [he.h, hH]; omega, fun k1 => ?_⟩
      have := hs.2 k1
      rw [he.l]
      simp [dL, loanD, k1]
      omega
  have h2 := some_of_suff ha hr (by omega) (by omega) (by omega) hs2
  rw [h1] at h
  simp only [orNil, Option.getD_some] at h
  rw [h2] at h
  cases h
theorem parts_same {a ab : Pool} (h1 : doP p d = some a) (h2 : doP a ⟨d.kind, d.fr, d.tt, u, c⟩ = some ab) : doP p ⟨d.kind, d.fr, d.tt, d.units + u, d.cents + c⟩ = some ab := by
  obtain ⟨hr, hw⟩ := parts_db hd hu hc
  obtain ⟨_, _, _, _, e1⟩ := do_some h1
  obtain ⟨_, _, v2, _, e2⟩ := do_some h2
  have s1 := suff_of_some hd h1
  have s2 := suff_of_some hr h2
  have hk := hd.k
  have hne : ¬ d.fr.toNat = d.tt.toNat := by have := hd.f; have := hd.t; have := hd.ne; omega
  have hs : suff p ⟨d.kind, d.fr, d.tt, d.units + u, d.cents + c⟩ := by
    unfold suff at s1 s2 ⊢
    dsimp only at s2 ⊢
    by_cases k4 : d.kind = 4
    · rw [if_pos k4] at s1 s2 ⊢
      have hU : dU d d.fr.toNat = -d.units := by simp [dU, k4]
      rw [e1.u, hU] at s2
      omega
    · rw [if_neg k4] at s1 s2 ⊢
      have hH : dH d d.fr.toNat = -d.units := by
        unfold dH
        by_cases k012 : d.kind = 0 ∨ d.kind = 1 ∨ d.kind = 2
        · rw [if_pos k012, if_pos rfl, if_neg hne]; omega
        · rw [if_neg k012, if_pos (by omega), if_pos rfl]
      rw [e1.h, hH] at s2
      refine ⟨by omega, fun k1 => ?_⟩
      have := s2.2 k1
      rw [e1.l] at this
      simp [dL, loanD, k1] at this
      omega
  have h3 := some_of_suff hp hw (by omega) (by omega) (by omega) hs
  rw [h3]
  obtain ⟨_, _, v3, _, e3⟩ := do_some h3
  congr 1
  refine pool_ext v3 v2 (fun i _ => ?_) (fun i _ => ?_) (fun i _ => ?_) fun f t => ?_
  · rw [e3.h, e2.h, e1.h]
    simp only [dH]
    by_cases k012 : d.kind = 0 ∨ d.kind = 1 ∨ d.kind = 2
    · rw [if_pos k012, if_pos k012, if_pos k012]; split <;> split <;> omega
    · rw [if_neg k012, if_neg k012, if_neg k012]; split <;> split <;> omega
  · rw [e3.u, e2.u, e1.u]
    simp only [dU]
    by_cases k012 : d.kind = 0 ∨ d.kind = 1 ∨ d.kind = 2
    · rw [if_pos k012, if_pos k012, if_pos k012]; omega
    · rw [if_neg k012, if_neg k012, if_neg k012]; split <;> split <;> omega
  · rw [e3.c, e2.c, e1.c]
    simp only [dC]
    split
    · split <;> split <;> omega
    · omega
  · rw [e3.l, e2.l, e1.l]
    simp only [dL, loanD]
    by_cases k0 : d.kind = 0
    · simp only [k0, if_true]
      split <;> omega
    · simp only [if_neg k0]
      by_cases k1 : d.kind = 1
      · simp only [k1, if_true]
        split <;> omega
      · simp only [if_neg k1]
        split <;> omega
end

/-- Who is not named is not concerned. -/
theorem concerned {p q : Pool} {d : Deed} {U C : Int} (hd : DB d U C) (h : doP p d = some q) (o : Nat) (h1 : (o : Int) ≠ d.fr) (h2 : 3 ≤ d.kind ∨ (o : Int) ≠ d.tt) :
    q.has.getD o 0 = p.has.getD o 0 ∧ q.used.getD o 0 = p.used.getD o 0 ∧ q.cents.getD o 0 = p.cents.getD o 0 ∧ netL q.loans (o : Int) = netL p.loans (o : Int) := by
  obtain ⟨_, _, _, _, he⟩ := do_some h
  have hk := hd.k
  have hf := hd.f
  have ht := hd.t
  have g1 : ¬ o = d.fr.toNat := by omega
  have g2 : ¬ d.fr = (o : Int) := by omega
  have g3 : d.kind = 0 ∨ d.kind = 1 ∨ d.kind = 2 → ¬ o = d.tt.toNat := by omega
  have g4 : d.kind = 0 ∨ d.kind = 1 ∨ d.kind = 2 → ¬ d.tt = (o : Int) := by omega
  refine ⟨?_, ?_, ?_, ?_⟩
  · rw [he.h, dH]
    by_cases k012 : d.kind = 0 ∨ d.kind = 1 ∨ d.kind = 2
    · rw [if_pos k012, if_neg g1, if_neg (g3 k012)]; omega
    · rw [if_neg k012]; simp [g1]
  · rw [he.u, dU]
    simp [g1]
  · rw [he.c, dC]
    by_cases k2 : d.kind = 2
    · rw [if_pos k2, if_neg g1, if_neg (g3 (by omega))]; omega
    · rw [if_neg k2]; omega
  · rw [he.n]
    unfold loanD netX
    by_cases k0 : d.kind = 0
    · have := g4 (by omega)
      simp [k0, g2, this]
    · by_cases k1 : d.kind = 1
      · have := g4 (by omega)
        simp [k1, g2, this]
      · simp [k0, k1]
theorem traded {p q : Pool} {d : Deed} {U C : Int} (hd : DB d U C) (h : doP p d = some q) (k : d.kind = 2) :
    q.has.getD d.tt.toNat 0 - p.has.getD d.tt.toNat 0 = d.units ∧ p.has.getD d.fr.toNat 0 - q.has.getD d.fr.toNat 0 = d.units ∧ q.cents.getD d.fr.toNat 0 - p.cents.getD d.fr.toNat 0 = d.cents ∧ p.cents.getD d.tt.toNat 0 - q.cents.getD d.tt.toNat 0 = d.cents := by
  obtain ⟨_, _, _, _, he⟩ := do_some h
  have hf := hd.f
  have ht := hd.t
  have hne := hd.ne
  have g1 : ¬ d.fr.toNat = d.tt.toNat := by omega
  have g2 : ¬ d.tt.toNat = d.fr.toNat := by omega
  rw [he.h, he.h, he.c, he.c]
  simp [dH, dC, k, g1, g2]
  omega
theorem total_some {p q : Pool} {d : Deed} (h : doP p d = some q) : totalP q = totalP p := by
  obtain ⟨_, vp, vq, _, he⟩ := do_some h
  unfold totalP
  rw [if_pos ((vd_iff _).2 vp), if_pos ((vd_iff _).2 vq), he.tot]
theorem sameB_refl (p : Pool) : sameB p p = true := by simp [sameB]
theorem sameB_iff {p q : Pool} : sameB p q = true ↔ p = q := by
  constructor
  · intro h
    simp only [sameB, Bool.and_eq_true, decide_eq_true_eq] at h
    cases p; cases q; simp at h; simp [h]
  · rintro rfl; exact sameB_refl _

end Go.Proofs.Ytpddnkefggaigaa
