/- What a case determines is valid (plain). -/
import Derived.Test.YtmlabgmigakcbaaV2
namespace Go.Proofs.Ytmlabgmigakcbaa

theorem passL_sorted : ∀ (l : List Tri) (a : Int), 0 ≤ a → sortedP (passL a l) = true
  | [], _, _ => rfl
  | [t], a, _ => by rw [passL_cons, passL]; rfl
  | t :: u :: r, a, ha => by
    have h0 := pickI_bd t.a 700 (by omega)
    have h1 := pickI_bd u.a 700 (by omega)
    have ih := passL_sorted (u :: r) (a + 1 + pickI t.a 700) (by omega)
    rw [passL_cons] at ih
    rw [passL_cons, passL_cons, sortedP, ih, Bool.and_true]
    have hc : cmpPas (passOf (a + 1 + pickI t.a 700 + 1 + pickI u.a 700) u) (passOf (a + 1 + pickI t.a 700) t) = 1 := by
      unfold cmpPas passOf
      dsimp only
      have h2 : cmpI (a + 1 + pickI t.a 700 + 1 + pickI u.a 700) (a + 1 + pickI t.a 700) = 1 := by
        unfold cmpI
        rw [if_neg (by omega), if_pos (by omega)]
      rw [h2]
      rfl
    rw [hc]
    rfl
theorem passP_proper (xs : List Tri) : properP (passP xs) = true := by
  unfold properP
  rw [Bool.and_eq_true, Bool.and_eq_true]
  refine ⟨⟨decide_eq_true (by have := passP_len xs; omega), ?_⟩, passL_sorted _ 5 (by omega)⟩
  rw [List.all_eq_true]
  intro p hp
  have hb := passP_bd xs p hp
  unfold pasOK splIn inB
  simp only [Bool.and_eq_true, Bool.or_eq_true, decide_eq_true_eq]
  refine ⟨⟨⟨by omega, by omega⟩, by omega⟩, .inr (by omega)⟩
theorem casS_ok (c : Cas) : stnsOK (casS c) = true := by
  have h0 := pickI_bd (triAt c.sk 0) 8 (by omega)
  have h1 := pickI_bd (triAt c.sk 1) 8 (by omega)
  have h2 := pickI_bd (triAt c.sk 2) 8 (by omega)
  show (decide ((3 : Nat) ≤ 12) && listOK stnOK (·.id) none [stnOf 0 (triAt c.sk 0), stnOf 1 (triAt c.sk 1), stnOf 2 (triAt c.sk 2)]) = true
  simp [listOK, stnOK, stnOf, celOK, inB]
  exact ⟨decide_eq_true (by omega), decide_eq_true (by omega), decide_eq_true (by omega)⟩
theorem casS_skew (c : Cas) (k : Int) (hk : 0 ≤ k ∧ k < 3) : (skewF (casS c) k).isSome = true := by
  have hc : k = 0 ∨ k = 1 ∨ k = 2 := by omega
  show (skewL (fun _ => none) [stnOf 0 (triAt c.sk 0), stnOf 1 (triAt c.sk 1), stnOf 2 (triAt c.sk 2)] k).isSome = true
  rw [skewL_cons, skewL_cons, skewL_cons]
  simp only [stnOf, skewL, List.foldl_nil]
  rcases hc with rfl | rfl | rfl <;> rfl
theorem cas_there (c : Cas) : stnIn (skewF (casS c)) (casP c) = true := by
  unfold stnIn
  rw [List.all_eq_true]
  intro p hp
  have hb := passP_bd c.ps p hp
  exact casS_skew c p.station (by omega)
/-- Slots, one behind the other, up to a minute. -/
theorem slotsOK_snoc (ps : List Pas) : ∀ (l : List Slt) (e : Int) (s : Slt), slotsOK ps e l = true → inB s.p 0 ((ps.length : Int) - 1) = true → (match ps[s.p.toNat]? with | none => False | some p => p.sure.fr ≤ s.fr ∧ s.fr < s.tt ∧ s.tt ≤ p.sure.tt) → (∀ x, l.getLast? = some x → x.tt ≤ s.fr) → e ≤ s.fr → slotsOK ps e (l ++ [s]) = true
  | [], e, s, _, h2, h3, _, h5 => by
    rw [List.nil_append, slotsOK_cons, h2]
    cases hq : ps[s.p.toNat]? with
    | none => rw [hq] at h3; exact h3.elim
    | some p =>
      rw [hq] at h3
      dsimp only at h3 ⊢
      rw [slotsOK, decide_eq_true (by omega), decide_eq_true (by omega), decide_eq_true (by omega)]
      rfl
  | x :: r, e, s, h1, h2, h3, h4, h5 => by
    rw [slotsOK_cons, Bool.and_eq_true] at h1
    rw [List.cons_append, slotsOK_cons, h1.1, Bool.true_and]
    refine slotsOK_snoc ps r x.tt s h1.2 h2 h3 (fun y hy => h4 y (by rw [List.getLast?_cons, hy]; rfl)) ?_
    cases hr : r.getLast? with
    | none =>
      have : r = [] := List.getLast?_eq_none_iff.1 hr
      subst this
      exact h4 x rfl
    | some y =>
      have h6 := h4 y (by rw [List.getLast?_cons, hr]; rfl)
      have hall := slotsOK_last ps r x.tt h1.2 y hr
      omega
where slotsOK_last (ps : List Pas) : ∀ (l : List Slt) (e : Int), slotsOK ps e l = true → ∀ y, l.getLast? = some y → e < y.tt
  | [], _, _ => fun y hy => by cases hy
  | x :: r, e, h => by
    intro y hy
    rw [slotsOK_cons, Bool.and_eq_true, Bool.and_eq_true] at h
    have hx : e < x.tt := by
      have := h.1.2
      cases hq : ps[x.p.toNat]? with
      | none => rw [hq] at this; cases this
      | some p =>
        rw [hq] at this
        simp only [Bool.and_eq_true, decide_eq_true_eq] at this
        omega
    cases hr : r.getLast? with
    | none =>
      have : r = [] := List.getLast?_eq_none_iff.1 hr
      subst this
      have e2 : y = x := by simpa using hy.symm
      rw [e2]; exact hx
    | some z =>
      have e2 : y = z := by rw [List.getLast?_cons, hr] at hy; simpa using hy.symm
      have := slotsOK_last ps r x.tt h.2 z hr
      rw [e2]; omega
theorem pasAt_get {ps : List Pas} {k : Int} (h : 0 ≤ k ∧ k < ps.length) : ps[k.toNat]? = some (pasAt ps k) := by
  unfold pasAt
  rw [List.getD_eq_getElem?_getD, List.getElem?_eq_getElem (by omega)]
  rfl
theorem optL_ok (ps : List Pas) (hps : 0 < ps.length) : ∀ (xs : List Int) (a : Int) (sl : List Slt), 0 ≤ a → slotsOK ps 0 sl = true → (∀ x, sl.getLast? = some x → x.tt ≤ a) → sl.length ≤ 6 → slotsOK ps 0 (optL ps a sl xs) = true ∧ (optL ps a sl xs).length ≤ 6
  | [], _, _, _, h, _, hl => by rw [optL]; exact ⟨h, hl⟩
  | x :: r, a, sl, ha, h, he, hl => by
    rw [optL_cons]
    split
    · rename_i h6
      split
      · rename_i hft
        have hp := pickI_bd x ps.length (by omega)
        have hfr : (pasAt ps (pickI x ps.length)).sure.fr ≤ frOf ps x a ∧ a ≤ frOf ps x a := by unfold frOf; omega
        refine optL_ok ps hps r _ _ (by omega) ?_ (fun y hy => ?_) (by simp; omega)
        · refine slotsOK_snoc ps sl 0 _ h ?_ ?_ (fun y hy => ?_) ?_
          · unfold inB; exact decide_eq_true (by dsimp only; omega)
          · dsimp only
            rw [pasAt_get hp]
            dsimp only
            omega
          · have := he y hy; dsimp only; omega
          · dsimp only; omega
        · rw [List.getLast?_append] at hy
          have e2 : y = ⟨pickI x ps.length, frOf ps x a, frOf ps x a + 1⟩ := by simpa using hy.symm
          rw [e2]
          exact Int.le_refl _
      · exact optL_ok ps hps r a sl ha h he hl
    · exact ⟨h, hl⟩
theorem optS_ok (xs : List Tri) (x : List Int) (h0 : 0 < (passP xs).length) : lossOK (passP xs) (optS (passP xs) x) = true := by
  obtain ⟨h1, h2⟩ := optL_ok (passP xs) h0 x 0 [] (by omega) rfl (fun y hy => by cases hy) (by simp)
  unfold lossOK
  rw [Bool.and_eq_true, decide_eq_true_eq]
  unfold optS
  split
  · refine ⟨by simp, ?_⟩
    have hp : pasAt (passP xs) 0 ∈ passP xs := by
      unfold pasAt
      rw [show ((0 : Int)).toNat = 0 from rfl, List.getD_eq_getElem?_getD, List.getElem?_eq_getElem h0]
      exact List.getElem_mem h0
    have hb := passP_bd xs _ hp
    rw [slotsOK_cons]
    have hg : (passP xs)[(0 : Int).toNat]? = some (pasAt (passP xs) 0) := pasAt_get (by omega)
    dsimp only
    rw [hg]
    dsimp only
    rw [slotsOK]
    simp [inB]
    omega
  · rename_i hne
    exact ⟨⟨by have := List.length_pos_iff.2 hne; omega, h2⟩, h1⟩
theorem optsR_ids (ps : List Pas) (hp : properP ps = true) : ∀ (l : List (List Slt)) (k : Nat) (seen : Int → Bool), k + l.length ≤ 64 → (∀ s ∈ l, lossOK ps s = true) → (∀ j : Int, (k : Int) ≤ j → seen j = false) → optsR ps seen ((l.zipIdx k).map (fun x => toOpt ⟨(x.2 : Nat), x.1⟩)) = true
  | [], _, _, _, _, _ => rfl
  | s :: r, k, seen, hl, hs, hn => by
    simp only [List.length_cons] at hl
    rw [List.zipIdx_cons, List.map_cons, optsR_cons]
    have h1 : inB (toOpt ⟨((k : Nat) : Int), s⟩).id 0 63 = true := by unfold inB toOpt; exact decide_eq_true (by dsimp only; omega)
    have h2 : seen (toOpt ⟨((k : Nat) : Int), s⟩).id = false := hn _ (Int.le_refl _)
    have h3 : lossOK ps (toOpt ⟨((k : Nat) : Int), s⟩).l = true := hs s List.mem_cons_self
    dsimp only
    rw [h1, h2, h3, hp]
    simp only [Bool.not_false, Bool.and_self, Bool.true_and]
    refine optsR_ids ps hp r (k + 1) _ (by omega) (fun x hx => hs x (List.mem_cons_of_mem _ hx)) (fun j hj => ?_)
    rw [if_neg (by show ¬ j = (k : Int); omega)]
    exact hn j (by omega)
theorem optsP_form (ps : List Pas) (xs : List (List Int)) : (optsP ps xs).map toOpt = (((xs.take 8).map (optSlt ps)).zipIdx 0).map (fun x => toOpt ⟨(x.2 : Nat), x.1⟩) := by
  unfold optsP
  rw [List.zipIdx_map, List.map_map, List.map_map]
  rfl
theorem cas_valid (c : Cas) : validP ((casO c).map toOpt) (casP c) (casS c) = true := by
  unfold validP casO
  split
  · simp only [List.map_nil, Bool.and_eq_true, decide_eq_true_eq]
    exact ⟨by simp, passP_proper _, casS_ok c, cas_there c, rfl⟩
  · rename_i hne
    rw [optsP_form]
    simp only [Bool.and_eq_true, decide_eq_true_eq]
    refine ⟨by simp; omega, passP_proper _, casS_ok c, cas_there c, optsR_ids _ (passP_proper _) _ 0 _ (by simp; omega) (fun s hs => ?_) (fun _ _ => rfl)⟩
    obtain ⟨x, _, rfl⟩ := List.mem_map.1 hs
    unfold optSlt
    exact optS_ok c.ps _ (by show 0 < (casP c).length; omega)
end Go.Proofs.Ytmlabgmigakcbaa
