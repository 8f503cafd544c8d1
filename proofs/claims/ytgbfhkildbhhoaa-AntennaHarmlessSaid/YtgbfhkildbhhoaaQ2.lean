/- Plain laws of uses: what Assign does. -/
import Derived.Test.YtgbfhkildbhhoaaQ1
namespace Go.Proofs.Ytgbfhkildbhhoaa

theorem nodup_sub_len {α : Type} [DecidableEq α] : ∀ (a b : List α), a.Nodup → (∀ x ∈ a, x ∈ b) → a.length ≤ b.length
  | [], _, _, _ => Nat.zero_le _
  | x :: r, b, hn, hs => by
    rw [List.nodup_cons] at hn
    have hx := hs x List.mem_cons_self
    have h := nodup_sub_len r (b.erase x) hn.2 fun y hy => by
      have hne : y ≠ x := fun e => hn.1 (e ▸ hy)
      exact (List.mem_erase_of_ne hne).2 (hs y (List.mem_cons_of_mem _ hy))
    rw [List.length_erase_of_mem hx] at h
    have : 0 < b.length := List.length_pos_of_mem hx
    simp only [List.length_cons]
    omega
theorem insR_perm {α : Type} (lt : α → α → Bool) (p : List α) (x : α) : (insR lt p x).Perm (x :: p) := by
  unfold insR
  refine List.perm_middle.trans ?_
  rw [List.take_append_drop]
theorem sortP_perm {α : Type} (lt : α → α → Bool) (l : List α) : (sortP lt l).Perm l := by
  have key : ∀ (m B : List α), (m.foldl (insR lt) B).Perm (B ++ m) := by
    intro m
    induction m with
    | nil => intro B; rw [List.append_nil]; exact List.Perm.refl _
    | cons x r ih =>
      intro B
      rw [List.foldl_cons]
      refine (ih _).trans ?_
      refine ((insR_perm lt B x).append_right r).trans ?_
      exact List.perm_middle.symm
  exact key l []
theorem order_perm (l : List Use) : (orderP l).Perm (List.range l.length) := sortP_perm _ _
theorem order_nodup (l : List Use) : (orderP l).Nodup := (order_perm l).nodup_iff.2 List.nodup_range
theorem order_sorted (l : List Use) {pre post : List Nat} {i : Nat} (h : orderP l = pre ++ i :: post) : (∀ j ∈ pre, frP l j ≤ frP l i) ∧ ∀ j ∈ post, frP l i ≤ frP l j := by
  have hs : Srtd (begP l) (orderP l) := srtd_sortP (sw_beg l) _
  rw [h, srtd_append] at hs
  obtain ⟨_, h2, h3⟩ := hs
  exact ⟨fun j hj => (begP_neg l i j).1 (h3 j hj i List.mem_cons_self), fun j hj => (begP_neg l j i).1 (h2.1 j hj)⟩
theorem idxP_mem_iff (q : Use → Bool) (l : List Use) (i j : Nat) : j ∈ idxP q l i ↔ ∃ (k : Nat) (h : k < l.length), j = i + k ∧ q l[k] = true := by
  induction l generalizing i with
  | nil => simp [idxP]
  | cons u r ih =>
    have hs : (∃ (k : Nat) (h : k < (u :: r).length), j = i + k ∧ q (u :: r)[k] = true) ↔ (j = i ∧ q u = true) ∨ ∃ (k : Nat) (h : k < r.length), j = i + 1 + k ∧ q r[k] = true := by
      constructor
      · rintro ⟨k, hk, h1, h2⟩
        cases k with
        | zero => exact .inl ⟨h1, h2⟩
        | succ k => exact .inr ⟨k, by simpa using hk, by omega, by simpa using h2⟩
      · rintro (⟨h1, h2⟩ | ⟨k, hk, h1, h2⟩)
        · exact ⟨0, by simp, h1, h2⟩
        · exact ⟨k + 1, by simpa using hk, by omega, by simpa using h2⟩
    rw [hs, idxP]
    split
    · rename_i hq
      rw [List.mem_cons, ih]
      simp [hq]
    · rename_i hq
      rw [ih]
      simp [hq]
theorem mem_atP (l : List Use) (t : Int) (j : Nat) : j ∈ atP l t ↔ j < l.length ∧ frP l j ≤ t ∧ t < ttP l j := by
  rw [atP, idxP_mem_iff]
  constructor
  · rintro ⟨k, hk, h1, h2⟩
    obtain rfl : j = k := by omega
    rw [frP_at l j hk, ttP_at l j hk]
    exact ⟨hk, (hasT_iff _ _).1 h2⟩
  · rintro ⟨h1, h2⟩
    refine ⟨j, h1, by omega, ?_⟩
    rw [frP_at l j h1, ttP_at l j h1] at h2
    exact (hasT_iff _ _).2 h2
theorem findA_some (u : List Int) (t : Int) (k f r : Nat) (h : findA u t k f = some r) : k ≤ r ∧ r < k + f ∧ u.getD r 0 ≤ t := by
  induction f generalizing k with
  | zero => simp [findA] at h
  | succ f ih =>
    rw [findA] at h
    split at h
    · injection h with h; subst h; exact ⟨Nat.le_refl _, by omega, by assumption⟩
    · have := ih (k + 1) h; omega
theorem findA_none (u : List Int) (t : Int) (k f : Nat) (h : findA u t k f = none) : ∀ r, k ≤ r → r < k + f → t < u.getD r 0 := by
  induction f generalizing k with
  | zero => intro r h1 h2; omega
  | succ f ih =>
    rw [findA] at h
    split at h
    · cases h
    · rename_i hn
      intro r h1 h2
      rcases Nat.eq_or_lt_of_le h1 with rfl | h1
      · omega
      · exact ih (k + 1) h r h1 (by omega)
theorem getI_set (l : List Int) (i j : Nat) (x : Int) (hi : i < l.length) : (l.set i x).getD j 0 = if i = j then x else l.getD j 0 := by
  rw [List.getD_eq_getElem?_getD, List.getElem?_set]
  by_cases h : i = j
  · subst h; simp [hi]
  · simp [h]
/-- What holds while antennas are given. -/
structure AsgI (l : List Use) (M : Nat) (pre : List Nat) (s : List Int × List Int) : Prop where
  lu : s.1.length = 8
  lg : s.2.length = l.length
  own : ∀ i ∈ pre, ∃ k : Nat, k < M ∧ s.2.getD i 0 = (k : Int) ∧ ttP l i ≤ s.1.getD k 0
  till : ∀ k, k < M → s.1.getD k 0 = 0 ∨ ∃ j ∈ pre, s.2.getD j 0 = (k : Int) ∧ s.1.getD k 0 = ttP l j
  apart : ∀ i ∈ pre, ∀ j ∈ pre, i ≠ j → frP l i < ttP l j → frP l j < ttP l i → s.2.getD i 0 ≠ s.2.getD j 0
theorem asg_step (l : List Use) (M : Nat) (hM : M ≤ 8) (pre : List Nat) (s : List Int × List Int) (i : Nat) (hi : i < l.length) (hv : ∀ u ∈ l, formedP u = true) (hc : cnt l (frP l i) ≤ M) (hpre : ∀ j ∈ pre, j < l.length ∧ frP l j ≤ frP l i) (hni : i ∉ pre) (h : AsgI l M pre s) : AsgI l M (pre ++ [i]) (stepA M l s i) := by
  have hfi := formed_lt (hv l[i] (List.getElem_mem hi))
  rw [← frP_at l i hi, ← ttP_at l i hi] at hfi
  cases hf : findA s.1 (frP l i) 0 M with
  | none =>
    exfalso
    have hn := findA_none _ _ _ _ hf
    have hsub : ∀ k ∈ List.range M, (k : Int) ∈ ((atP l (frP l i)).filter (fun j => decide (j ≠ i))).map (fun j => s.2.getD j 0) := by
      intro k hk
      rw [List.mem_range] at hk
      have h1 := hn k (by omega) (by omega)
      rcases h.till k hk with h0 | ⟨j, hj, h2, h3⟩
      · omega
      · rw [List.mem_map]
        refine ⟨j, List.mem_filter.2 ⟨(mem_atP _ _ _).2 ⟨(hpre j hj).1, (hpre j hj).2, by omega⟩, ?_⟩, h2⟩
        simp
        rintro rfl
        exact hni hj
    have hlen := nodup_sub_len ((List.range M).map (fun k : Nat => (k : Int))) _ (by
      rw [List.nodup_iff_pairwise_ne, List.pairwise_map]
      exact (List.nodup_iff_pairwise_ne.1 List.nodup_range).imp fun hab e => hab (by omega)) (fun x hx => by
      obtain ⟨k, hk, rfl⟩ := List.mem_map.1 hx
      exact hsub k hk)
    rw [List.length_map, List.length_map, List.length_range] at hlen
    have hlt : ((atP l (frP l i)).filter (fun j => decide (j ≠ i))).length < (atP l (frP l i)).length := by
      rcases Nat.lt_or_ge ((atP l (frP l i)).filter (fun j => decide (j ≠ i))).length (atP l (frP l i)).length with h1 | h1
      · exact h1
      · exfalso
        have he := List.filter_eq_self.1 ((List.filter_sublist).eq_of_length_le h1) i ((mem_atP _ _ _).2 ⟨hi, by omega, by omega⟩)
        simp at he
    rw [atP_len] at hlt
    omega
  | some k =>
    obtain ⟨_, hk, hle⟩ := findA_some _ _ _ _ _ hf
    have hkM : k < M := by omega
    have hk8 : k < s.1.length := by rw [h.lu]; omega
    have hig : i < s.2.length := by rw [h.lg]; exact hi
    have hst : stepA M l s i = (s.1.set k (ttP l i), s.2.set i (k : Int)) := by rw [stepA, hf]
    rw [hst]
    have hg : ∀ j ∈ pre, (s.2.set i (k : Int)).getD j 0 = s.2.getD j 0 := fun j hj => by
      rw [getI_set _ _ _ _ hig, if_neg]
      rintro rfl
      exact hni hj
    have hgi : (s.2.set i (k : Int)).getD i 0 = (k : Int) := by rw [getI_set _ _ _ _ hig, if_pos rfl]
    have hul : ∀ r, (s.1.set k (ttP l i)).getD r 0 = if k = r then ttP l i else s.1.getD r 0 := fun r => getI_set _ _ _ _ hk8
    have hend : ∀ j ∈ pre, s.2.getD j 0 = (k : Int) → ttP l j ≤ frP l i := fun j hj e => by
      obtain ⟨r, hr, h1, h2⟩ := h.own j hj
      have : r = k := by omega
      subst this
      omega
    refine ⟨by rw [List.length_set]; exact h.lu, by rw [List.length_set]; exact h.lg, fun j hj => ?_, fun r hr => ?_, fun a ha b hb hab h1 h2 => ?_⟩
    · rcases List.mem_append.1 hj with hj | hj
      · obtain ⟨r, hr, h1, h2⟩ := h.own j hj
        refine ⟨r, hr, by rw [hg j hj]; exact h1, ?_⟩
        rw [hul]
        split
        · rename_i e
          subst e
          have := hend j hj h1
          omega
        · exact h2
      · rw [List.mem_singleton.1 hj]
        exact ⟨k, hkM, hgi, by rw [hul, if_pos rfl]; exact Int.le_refl _⟩
    · rw [hul]
      split
      · rename_i e
        subst e
        exact .inr ⟨i, by simp, hgi, rfl⟩
      · rename_i e
        rcases h.till r hr with h0 | ⟨j, hj, h2, h3⟩
        · exact .inl h0
        · exact .inr ⟨j, List.mem_append_left _ hj, by rw [hg j hj]; exact h2, h3⟩
    · rcases List.mem_append.1 ha with ha' | ha' <;> rcases List.mem_append.1 hb with hb' | hb'
      · rw [hg a ha', hg b hb']
        exact h.apart a ha' b hb' hab h1 h2
      · rw [List.mem_singleton] at hb'
        subst hb'
        rw [hg a ha', hgi]
        intro e
        have := hend a ha' e
        omega
      · rw [List.mem_singleton] at ha'
        subst ha'
        rw [hg b hb', hgi]
        intro e
        have := hend b hb' e.symm
        omega
      · rw [List.mem_singleton] at ha' hb'
        exact absurd (ha'.trans hb'.symm) hab
theorem asg_all (l : List Use) (M : Nat) (hM : M ≤ 8) (hv : ∀ u ∈ l, formedP u = true) (hc : ∀ u ∈ l, cnt l u.fr ≤ M) : AsgI l M (orderP l) (assignL l M) := by
  have key : ∀ (post pre : List Nat) (s : List Int × List Int), orderP l = pre ++ post → AsgI l M pre s → AsgI l M (orderP l) (post.foldl (stepA M l) s) := by
    intro post
    induction post with
    | nil => intro pre s h1 h2; rw [List.append_nil] at h1; rw [h1]; exact h2
    | cons i r ih =>
      intro pre s h1 h2
      rw [List.foldl_cons]
      have hil : i < l.length := (mem_order l i).1 (by rw [h1]; simp)
      have hso := order_sorted l h1
      have hnd := order_nodup l
      rw [h1, List.nodup_append] at hnd
      refine ih (pre ++ [i]) _ (by rw [h1]; simp) (asg_step l M hM pre s i hil hv ?_ (fun j hj => ⟨(mem_order l j).1 (by rw [h1]; simp [hj]), hso.1 j hj⟩) (fun hi => hnd.2.2 i hi i List.mem_cons_self rfl) h2)
      have := hc l[i] (List.getElem_mem hil)
      rwa [← frP_at l i hil] at this
  refine key (orderP l) [] _ rfl ⟨by simp, by simp, fun i hi => by simp at hi, fun k hk => .inl ?_, fun i hi => by simp at hi⟩
  dsimp only
  rw [List.getD_eq_getElem?_getD, List.getElem?_replicate]
  split <;> rfl
/-- What Assign gives: an antenna to each, different ones to uses that meet. -/
theorem assign_good (l : List Use) (m : Int) (hv : validU l = true) (hm : inB m 0 8 = true) (hc : (clashP l m).1 = -1) : ∃ g : List Int, assignP l m = (g, true, 0) ∧ g.length = l.length ∧ (∀ i, i < l.length → 0 ≤ g.getD i 0 ∧ g.getD i 0 < m) ∧ ∀ i j, i < l.length → j < l.length → i ≠ j → frP l i < ttP l j → frP l j < ttP l i → g.getD i 0 ≠ g.getD j 0 := by
  obtain ⟨h0, _, h1⟩ := clash_iff l m hv hm
  obtain ⟨M, rfl, hM⟩ := inB_of hm
  have ha := asg_all l M hM ((validU_iff l).1 hv).2.1 (fun u hu => by have := h1.1 hc u hu; omega)
  refine ⟨(assignL l M).2, ?_, ha.lg, fun i hi => ?_, fun i j hi hj hij h2 h3 => ha.apart i ((mem_order l i).2 hi) j ((mem_order l j).2 hj) hij h2 h3⟩
  · rw [assignP, if_pos ⟨h0, by omega⟩, Int.toNat_natCast]
  · obtain ⟨k, hk, h2, _⟩ := ha.own i ((mem_order l i).2 hi)
    rw [h2]
    omega
theorem assign_bad (l : List Use) (m : Int) (hv : validU l = true) (hm : inB m 0 8 = true) (hc : (clashP l m).1 ≠ -1) : assignP l m = ([], false, 0) := by
  obtain ⟨h0, h2, _⟩ := clash_iff l m hv hm
  rw [assignP, if_neg (by omega), h0]
/-- The first minute of a clash: more uses than antennas are there, and at no use before it. -/
theorem clash_at (l : List Use) (m : Int) (hv : validU l = true) (hm : inB m 0 8 = true) (hc : (clashP l m).1 ≠ -1) : (clashP l m).2.1 = atP l (clashP l m).1 ∧ m < (cnt l (clashP l m).1 : Int) ∧ (∃ u ∈ l, u.fr = (clashP l m).1) ∧ ∀ u ∈ l, u.fr < (clashP l m).1 → (cnt l u.fr : Int) ≤ m := by
  unfold clashP at hc ⊢
  rw [hv, hm, Bool.true_and, if_pos rfl] at hc ⊢
  dsimp only at hc ⊢
  rcases scan_none l m (orderP l) with ⟨h1, _⟩ | ⟨pre, i, post, h1, h2, h3, h4⟩
  · exact absurd h1 hc
  · rw [h4]
    dsimp only
    have hil : i < l.length := (mem_order l i).1 (by rw [h1]; simp)
    refine ⟨rfl, h3, ⟨l[i], List.getElem_mem hil, (frP_at l i hil).symm⟩, fun u hu hlt => ?_⟩
    obtain ⟨j, hj, rfl⟩ := List.mem_iff_getElem.1 hu
    have hmem := (mem_order l j).2 hj
    have hso := order_sorted l h1
    rw [h1] at hmem
    rw [← frP_at l j hj] at hlt ⊢
    rcases List.mem_append.1 hmem with hmem | hmem
    · exact h2 j hmem
    · rcases List.mem_cons.1 hmem with rfl | hmem
      · omega
      · have := hso.2 j hmem; omega
theorem clash_early (l : List Use) (m : Int) (hv : validU l = true) (hm : inB m 0 8 = true) (hc : (clashP l m).1 ≠ -1) : (clashP (l.filter fun u => decide (u.fr < (clashP l m).1)) m).1 = -1 ∧ (clashP (l.filter fun u => decide (u.fr < (clashP l m).1)) m).2.2 = 0 := by
  have hsub : (l.filter fun u => decide (u.fr < (clashP l m).1)).Sublist l := List.filter_sublist
  obtain ⟨h0, _, h1⟩ := clash_iff _ m (valid_sub hsub hv) hm
  refine ⟨h1.2 fun u hu => ?_, h0⟩
  rw [List.mem_filter, decide_eq_true_eq] at hu
  have h2 := (clash_at l m hv hm hc).2.2.2 u hu.1 hu.2
  have h3 := cnt_sub hsub u.fr
  omega
end Go.Proofs.Ytgbfhkildbhhoaa
