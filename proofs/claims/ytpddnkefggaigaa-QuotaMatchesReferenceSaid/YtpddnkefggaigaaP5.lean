/- Plain mathematics of the laws on pools that integers determine. -/
import Derived.Test.YtpddnkefggaigaaP4
namespace Go.Proofs.Ytpddnkefggaigaa

def nilP : Pool := ⟨[], [], [], []⟩
def orNil (r : Option Pool) : Pool := r.getD nilP
def startK (has : List Int) (k : Nat) : List Int := (has.take k).map (fun z => pickI z 40) ++ List.replicate (16 - (has.take k).length) 0
def startP (has : List Int) : Pool := ⟨startK has 16, List.replicate 16 0, [], List.replicate 16 0⟩
def madeK (has : List Int) (ds : List Deed) : Pool := ds.foldl (fun p d => (doP p d).getD p) (startP has)
def madeP (has : List Int) (xs : List Quad) : Pool := madeK has (deedsOf xs)
theorem nil_not : ¬ Vd nilP := fun h => by have := h.lh; simp [nilP] at this
theorem do_nil (d : Deed) : doP nilP d = none := by
  rw [doP_eq, if_neg]
  rintro ⟨_, h, _⟩
  exact nil_not ((vd_iff _).1 h)

theorem sum_nn {l : List Int} (h : ∀ i, i < l.length → 0 ≤ l.getD i 0) : 0 ≤ l.sum := by
  induction l with
  | nil => simp
  | cons x r ih =>
    have h0 := h 0 (by simp)
    have := ih fun i hi => by have := h (i + 1) (by simpa using hi); simpa using this
    simp at h0 ⊢
    omega
theorem getD_le_sum {l : List Int} (h : ∀ i, i < l.length → 0 ≤ l.getD i 0) (i : Nat) (hi : i < l.length) : l.getD i 0 ≤ l.sum := by
  induction l generalizing i with
  | nil => simp at hi
  | cons x r ih =>
    have h0 := h 0 (by simp)
    have hr : ∀ i, i < r.length → 0 ≤ r.getD i 0 := fun i hi => by have := h (i + 1) (by simpa using hi); simpa using this
    have hs := sum_nn hr
    cases i with
    | zero => simp at h0 ⊢; omega
    | succ i =>
      have := ih hr i (by simpa using hi)
      simp at h0 this ⊢
      omega
theorem amt_nn {p : Pool} (h : Vd p) (f t : Int) : 0 ≤ amt p.loans f t := by
  have : ∀ ls : List Loan, (∀ x ∈ ls, 1 ≤ x.units) → 0 ≤ amt ls f t := by
    intro ls
    induction ls with
    | nil => intro _; simp [amt]
    | cons x r ih =>
      intro hh
      have h1 := hh x (by simp)
      have h2 := ih fun y hy => hh y (by simp [hy])
      rw [amt]
      split <;> omega
  exact this _ fun x hx => by have := h.ok x hx; omega

/-- Deeds within small bounds. -/
structure DB (d : Deed) (U C : Int) : Prop where
  k : 0 ≤ d.kind ∧ d.kind ≤ 4
  f : 0 ≤ d.fr ∧ d.fr ≤ 15
  t : 0 ≤ d.tt ∧ d.tt ≤ 15
  ne : d.fr ≠ d.tt
  u : 1 ≤ d.units ∧ d.units ≤ U
  c : 0 ≤ d.cents ∧ d.cents ≤ C
theorem DB.okD {d : Deed} {U C : Int} (h : DB d U C) (hU : U ≤ 1000000) (hC : C ≤ 1000000000) : okD d = true := by
  obtain ⟨k, f, t, ne, u, c⟩ := h
  have h1 : pairB d.fr d.tt d.units = true := by simp only [pairB, Bool.and_eq_true, ownerB, inB_iff, bne_iff_ne]; omega
  have h2 : singleB d.fr d.units = true := by simp only [singleB, Bool.and_eq_true, ownerB, inB_iff]; omega
  have h3 : inB d.cents 0 1000000000 = true := inB_iff.2 (by omega)
  unfold Go.Proofs.Ytpddnkefggaigaa.okD
  rw [h1, h2, h3]
  split
  · rfl
  · split <;> rfl
/-- Pools within small bounds. -/
structure Sm (p : Pool) (M : Int) : Prop where
  v : Vd p
  h : ∀ i, i < 16 → p.has.getD i 0 ≤ M
  u : ∀ i, i < 16 → p.used.getD i 0 ≤ M
  c : ∀ i, i < 16 → -M ≤ p.cents.getD i 0 ∧ p.cents.getD i 0 ≤ M
  l : ∀ f t, amt p.loans f t ≤ M
  len : (p.loans.length : Int) ≤ M
theorem Sm.more {p : Pool} {M M' : Int} (h : Sm p M) (hm : M ≤ M') : Sm p M' :=
  ⟨h.v, fun i hi => by have := h.h i hi; omega, fun i hi => by have := h.u i hi; omega, fun i hi => by have := h.c i hi; omega, fun f t => by have := h.l f t; omega, by have := h.len; omega⟩
def suff (p : Pool) (d : Deed) : Prop := if d.kind = 4 then d.units ≤ p.used.getD d.fr.toNat 0 else d.units ≤ p.has.getD d.fr.toNat 0 ∧ (d.kind = 1 → d.units ≤ amt p.loans d.tt d.fr)
theorem suff_of_some {p q : Pool} {d : Deed} {U C : Int} (hd : DB d U C) (h : doP p d = some q) : suff p d := by
  obtain ⟨_, hp, hq, _, he⟩ := do_some h
  obtain ⟨k, f, t, ne, u, c⟩ := hd
  have hf : d.fr.toNat < 16 := by omega
  have hne : ¬ d.fr.toNat = d.tt.toNat := by omega
  have e1 := he.h d.fr.toNat
  have e2 := he.u d.fr.toNat
  have g1 := hq.h _ hf
  have g2 := hq.u _ hf
  unfold suff
  by_cases k4 : d.kind = 4
  · rw [if_pos k4]
    have hU : dU d d.fr.toNat = -d.units := by simp [dU, k4]
    omega
  · rw [if_neg k4]
    have hH : dH d d.fr.toNat = -d.units := by
      unfold dH
      by_cases k012 : d.kind = 0 ∨ d.kind = 1 ∨ d.kind = 2
      · rw [if_pos k012, if_pos rfl, if_neg hne]; omega
      · rw [if_neg k012, if_pos (by omega), if_pos rfl]
    refine ⟨by omega, fun k1 => ?_⟩
    have e3 := he.l d.tt d.fr
    have g3 := amt_nn hq d.tt d.fr
    simp [dL, loanD, k1] at e3
    omega
theorem some_of_suff {p : Pool} {d : Deed} {U C M : Int} (hp : Sm p M) (hd : DB d U C) (hU : U ≤ 100000) (hC : C ≤ 100000) (hM : M ≤ 100000) (h : suff p d) : doP p d = some (appP p d) := by
  have ho := hd.okD (by omega) (by omega)
  have he := eff_app hp.v ho
  obtain ⟨k, f, t, ne, u, c⟩ := hd
  have hne : ¬ d.fr.toNat = d.tt.toNat := by omega
  rw [doP_eq, if_pos]
  refine ⟨ho, (vd_iff _).2 hp.v, (vd_iff _).2 ⟨he.lh, he.lu, he.lc, fun i hi => ?_, fun i hi => ?_, fun i hi => ?_, by rw [he.sum, hp.v.sum], he.asc, fun x hx => ?_⟩⟩
  · have e1 := he.h i
    have b1 := hp.v.h i hi
    have b2 := hp.h i hi
    have hs : 0 ≤ p.has.getD i 0 + dH d i := by
      unfold suff at h
      by_cases k4 : d.kind = 4
      · unfold dH
        rw [if_neg (by omega), if_neg (by omega)]
        split <;> omega
      · rw [if_neg k4] at h
        unfold dH
        by_cases hi' : i = d.fr.toNat
        · subst hi'
          by_cases k012 : d.kind = 0 ∨ d.kind = 1 ∨ d.kind = 2
          · rw [if_pos k012, if_pos rfl, if_neg hne]; omega
          · rw [if_neg k012, if_pos (by omega), if_pos rfl]; omega
        · by_cases k012 : d.kind = 0 ∨ d.kind = 1 ∨ d.kind = 2
          · rw [if_pos k012, if_neg hi']; split <;> omega
          · rw [if_neg k012, if_pos (by omega), if_neg hi']; omega
    have hs2 : dH d i ≤ U := by unfold dH; split <;> (try split) <;> (try split) <;> (try split) <;> omega
    omega
  · have e1 := he.u i
    have b1 := hp.v.u i hi
    have b2 := hp.u i hi
    have hs : 0 ≤ p.used.getD i 0 + dU d i := by
      unfold suff at h
      unfold dU
      by_cases k012 : d.kind = 0 ∨ d.kind = 1 ∨ d.kind = 2
      · rw [if_pos k012]; omega
      · rw [if_neg k012]
        by_cases k3 : d.kind = 3
        · rw [if_pos k3]; split <;> omega
        · rw [if_neg k3]
          rw [if_pos (by omega)] at h
          by_cases hi' : i = d.fr.toNat
          · subst hi'; rw [if_pos rfl]; omega
          · rw [if_neg hi']; omega
    have hs2 : dU d i ≤ U := by unfold dU; split <;> (try split) <;> (try split) <;> omega
    omega
  · have e1 := he.c i
    have b2 := hp.c i hi
    have hs2 : -C ≤ dC d i ∧ dC d i ≤ C := by unfold dC; split <;> (try split) <;> (try split) <;> omega
    omega
  · rcases he.mem x hx with hm | ⟨m1, m2, m3, m4⟩
    · exact hp.v.ok x hm
    · have a1 := amt_mem he.asc hx
      have a2 := he.l x.fr x.to
      have a3 := amt_nn hp.v x.fr x.to
      have a4 := hp.l x.fr x.to
      have a5 : dL d x.fr x.to = (loanD d).units := by unfold dL; rw [if_pos ⟨m1.symm, m2.symm⟩]
      unfold suff at h
      rw [if_neg (by omega)] at h
      rcases m4 with k0 | k1
      · simp [loanD, k0] at m1 m2 a5
        omega
      · have h2 := h.2 k1
        simp [loanD, k1] at m1 m2 a5
        rw [m1, m2] at a1 a2 a4 a5
        omega
theorem sm_of_some {p q : Pool} {d : Deed} {U C M : Int} (hp : Sm p M) (hd : DB d U C) (hC : C ≤ 500) (hU : U ≤ 500) (h : doP p d = some q) : Sm q (M + 500) := by
  obtain ⟨_, _, hq, _, he⟩ := do_some h
  obtain ⟨k, f, t, ne, u, c⟩ := hd
  refine ⟨hq, fun i hi => ?_, fun i hi => ?_, fun i hi => ?_, fun f t => ?_, ?_⟩
  · have e1 := he.h i
    have b2 := hp.h i hi
    have hs2 : dH d i ≤ U := by unfold dH; split <;> (try split) <;> (try split) <;> (try split) <;> omega
    omega
  · have e1 := he.u i
    have b2 := hp.u i hi
    have hs2 : dU d i ≤ U := by unfold dU; split <;> (try split) <;> (try split) <;> omega
    omega
  · have e1 := he.c i
    have b2 := hp.c i hi
    have hs2 : -C ≤ dC d i ∧ dC d i ≤ C := by unfold dC; split <;> (try split) <;> (try split) <;> omega
    omega
  · have e1 := he.l f t
    have b2 := hp.l f t
    have hs2 : dL d f t ≤ U := by
      have hl : (loanD d).units ≤ U := by
        unfold loanD
        by_cases k0 : d.kind = 0
        · rw [if_pos k0]; exact u.2
        · rw [if_neg k0]
          by_cases k1 : d.kind = 1
          · rw [if_pos k1]; dsimp only; omega
          · rw [if_neg k1]; dsimp only; omega
      unfold dL
      split
      · exact hl
      · omega
    omega
  · have e1 := he.len
    have b2 := hp.len
    omega

theorem deedOf_db (x : Quad) : DB (deedOf x) 12 500 := by
  have h1 := pickI_bd x.a 5 (by omega)
  have h2 := pickI_bd x.b 4 (by omega)
  have h3 := pickI_bd (x.b.tdiv 4) 3 (by omega)
  have h4 := pickI_bd x.c 12 (by omega)
  have h5 := pickI_bd x.d 500 (by omega)
  exact ⟨by simp only [deedOf]; omega, by simp only [deedOf]; omega, by simp only [deedOf]; omega, by simp only [deedOf]; omega, by simp only [deedOf]; omega, by simp only [deedOf]; omega⟩
theorem deedOf_small (x : Quad) : (deedOf x).fr ≤ 3 ∧ (deedOf x).tt ≤ 3 := by
  have h2 := pickI_bd x.b 4 (by omega)
  simp only [deedOf]
  omega
theorem startK_len (has : List Int) (k : Nat) (hk : k ≤ 16) : (startK has k).length = 16 := by
  simp [startK]; omega
theorem startK_bd (has : List Int) (k i : Nat) : 0 ≤ (startK has k).getD i 0 ∧ (startK has k).getD i 0 ≤ 39 := by
  unfold startK
  rw [List.getD_eq_getElem?_getD, List.getElem?_append]
  split
  · rw [List.getElem?_map]
    cases (has.take k)[i]? with
    | none => simp
    | some z =>
      have := pickI_bd z 40 (by omega)
      simp
      omega
  · rw [List.getElem?_replicate]
    split <;> simp
theorem rep_get (i : Nat) : (List.replicate 16 (0 : Int)).getD i 0 = 0 := by
  rw [List.getD_eq_getElem?_getD, List.getElem?_replicate]
  split <;> simp
theorem start_sm (has : List Int) : Sm (startP has) 1000 := by
  refine ⟨⟨startK_len _ _ (by omega), by simp [startP], by simp [startP], fun i _ => ?_, fun i _ => ?_, fun i _ => ?_, by simp [startP], by simp [startP, Asc], by simp [startP]⟩, fun i _ => ?_, fun i _ => ?_, fun i _ => ?_, fun f t => by simp [startP, amt], by simp [startP]⟩
  · have := startK_bd has 16 i; show 0 ≤ (startK has 16).getD i 0 ∧ _; dsimp only [startP]; omega
  · show 0 ≤ (List.replicate 16 (0 : Int)).getD i 0 ∧ (List.replicate 16 (0 : Int)).getD i 0 ≤ 1000000; rw [rep_get]; omega
  · show -1000000000000 ≤ (List.replicate 16 (0 : Int)).getD i 0 ∧ (List.replicate 16 (0 : Int)).getD i 0 ≤ 1000000000000; rw [rep_get]; omega
  · have := startK_bd has 16 i; dsimp only [startP]; omega
  · show (List.replicate 16 (0 : Int)).getD i 0 ≤ 1000; rw [rep_get]; omega
  · show -1000 ≤ (List.replicate 16 (0 : Int)).getD i 0 ∧ (List.replicate 16 (0 : Int)).getD i 0 ≤ 1000; rw [rep_get]; omega
theorem foldl_sm (ds : List Deed) (p : Pool) (M : Int) (hp : Sm p M) (hd : ∀ d ∈ ds, DB d 12 500) : Sm (ds.foldl (fun p d => (doP p d).getD p) p) (M + 500 * ds.length) := by
  induction ds generalizing p M with
  | nil => simpa using hp
  | cons d r ih =>
    have h1 : Sm ((doP p d).getD p) (M + 500) := by
      cases e : doP p d with
      | none => exact hp.more (by omega)
      | some q => exact sm_of_some hp (hd d (by simp)) (by omega) (by omega) e
    have := ih _ (M + 500) h1 fun x hx => hd x (by simp [hx])
    rw [List.foldl_cons, List.length_cons]
    exact this.more (by omega)
theorem deeds_db (xs : List Quad) : ∀ d ∈ deedsOf xs, DB d 12 500 := by
  intro d hd
  obtain ⟨x, _, rfl⟩ := List.mem_map.1 hd
  exact deedOf_db x
theorem made_sm (has : List Int) (xs : List Quad) : Sm (madeP has xs) 9000 := by
  have := foldl_sm (deedsOf xs) (startP has) 1000 (start_sm has) (deeds_db xs)
  refine this.more ?_
  have : (deedsOf xs).length ≤ 16 := by simp [deedsOf]; omega
  omega

/-- Sums over the owners. -/
def sumN (f : Nat → Int) : Nat → Int
  | 0 => 0
  | k + 1 => sumN f k + f k
theorem sumN_add (f g : Nat → Int) (k : Nat) : sumN (fun i => f i + g i) k = sumN f k + sumN g k := by
  induction k with
  | zero => rfl
  | succ k ih => simp only [sumN, ih]; omega
theorem sumN_zero (k : Nat) : sumN (fun _ => 0) k = 0 := by
  induction k with
  | zero => rfl
  | succ k ih => simp only [sumN, ih]; omega
theorem sumN_list (l : List Int) (k : Nat) (hk : k ≤ l.length) : sumN (fun i => l.getD i 0) k = (l.take k).sum := by
  induction k with
  | zero => simp [sumN]
  | succ k ih =>
    rw [sumN, ih (by omega), List.take_succ_eq_append_getElem (by omega), List.sum_append]
    simp [List.getD_eq_getElem?_getD, List.getElem?_eq_getElem (show k < l.length by omega)]
theorem sumN_one (a c : Int) (k : Nat) : sumN (fun o => if a = (o : Int) then c else 0) k = if 0 ≤ a ∧ a < k then c else 0 := by
  induction k with
  | zero => rw [if_neg (by omega)]; rfl
  | succ k ih =>
    simp only [sumN, ih]
    by_cases h : a = (k : Int)
    · rw [if_neg (by omega), if_pos h, if_pos (by omega)]; omega
    · rw [if_neg h]
      by_cases h2 : 0 ≤ a ∧ a < k
      · rw [if_pos h2, if_pos (by omega)]; omega
      · rw [if_neg h2, if_neg (by omega)]; omega
theorem sumN_neg (f : Nat → Int) (k : Nat) : sumN (fun i => - f i) k = - sumN f k := by
  induction k with
  | zero => rfl
  | succ k ih => simp only [sumN, ih]; omega
theorem sumN_congr {f g : Nat → Int} (k : Nat) (h : ∀ i, i < k → f i = g i) : sumN f k = sumN g k := by
  induction k with
  | zero => rfl
  | succ k ih => simp only [sumN, ih fun i hi => h i (by omega), h k (by omega)]
theorem sumN_nets (ls : List Loan) (h : ∀ x ∈ ls, 0 ≤ x.fr ∧ x.fr ≤ 15 ∧ 0 ≤ x.to ∧ x.to ≤ 15) : sumN (fun o => netL ls (o : Int)) 16 = 0 := by
  induction ls with
  | nil => exact sumN_zero 16
  | cons x r ih =>
    have hx := h x (by simp)
    have e : sumN (fun o => netL (x :: r) (o : Int)) 16 = sumN (fun o => ((if x.fr = (o : Int) then x.units else 0) + -(if x.to = (o : Int) then x.units else 0)) + netL r (o : Int)) 16 :=
      sumN_congr 16 fun i _ => by rw [netL_cons]; unfold netX; omega
    rw [e, sumN_add, sumN_add, ih fun y hy => h y (by simp [hy]), sumN_neg, sumN_one, sumN_one, if_pos (by omega), if_pos (by omega)]
    omega
theorem sumN_total {p : Pool} (h : Vd p) : sumN (fun o => p.has.getD o 0 + netL p.loans (o : Int) + p.used.getD o 0) 16 = p.has.sum + p.used.sum := by
  rw [sumN_add, sumN_add, sumN_nets p.loans fun x hx => by have := h.ok x hx; omega, sumN_list _ _ (by rw [h.lh]; omega), sumN_list _ _ (by rw [h.lu]; omega), List.take_of_length_le (by rw [h.lh]; omega), List.take_of_length_le (by rw [h.lu]; omega)]
  omega

end Go.Proofs.Ytpddnkefggaigaa
