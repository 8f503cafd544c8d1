/- Plain laws of uses: moved by some minutes, and turned around. -/
import Derived.Test.YtgbfhkildbhhoaaQ3
namespace Go.Proofs.Ytgbfhkildbhhoaa

theorem asc_ext : ∀ (a b : List Nat), a.Pairwise (· < ·) → b.Pairwise (· < ·) → (∀ x, x ∈ a ↔ x ∈ b) → a = b
  | [], [], _, _, _ => rfl
  | [], y :: s, _, _, h => absurd ((h y).2 List.mem_cons_self) (by simp)
  | x :: r, [], _, _, h => absurd ((h x).1 List.mem_cons_self) (by simp)
  | x :: r, y :: s, ha, hb, h => by
    rw [List.pairwise_cons] at ha hb
    have hxy : x = y := by
      rcases List.mem_cons.1 ((h x).1 List.mem_cons_self) with h1 | h1
      · exact h1
      · rcases List.mem_cons.1 ((h y).2 List.mem_cons_self) with h2 | h2
        · exact h2.symm
        · have := hb.1 x h1
          have := ha.1 y h2
          omega
    subst hxy
    rw [asc_ext r s ha.2 hb.2 fun z => ?_]
    constructor
    · intro hz
      have := ha.1 z hz
      rcases List.mem_cons.1 ((h z).1 (List.mem_cons_of_mem _ hz)) with h1 | h1
      · omega
      · exact h1
    · intro hz
      have := hb.1 z hz
      rcases List.mem_cons.1 ((h z).2 (List.mem_cons_of_mem _ hz)) with h1 | h1
      · omega
      · exact h1
def shU (d : Int) (u : Use) : Use := ⟨u.sat, u.fr + d, u.tt + d⟩
def movP (l : List Use) (k : Nat) (d : Int) : List Use := (l.drop k ++ l.take k).map (shU d)
def rotP (n k x : Nat) : Nat := (x + k) % n
theorem mov_perm (l : List Use) (k : Nat) (d : Int) : (movP l k d).Perm (l.map (shU d)) := by
  refine List.Perm.map _ ?_
  have h : (l.drop k ++ l.take k).Perm (l.take k ++ l.drop k) := List.perm_append_comm
  rwa [List.take_append_drop] at h
theorem mov_len (l : List Use) (k : Nat) (d : Int) : (movP l k d).length = l.length := by rw [(mov_perm l k d).length_eq, List.length_map]
theorem rot_lt {n k x : Nat} (h : x < n) : rotP n k x < n := Nat.mod_lt _ (by omega)
theorem rot_eq {n k x : Nat} (hk : k ≤ n) (h : x < n) : rotP n k x = if x + k < n then x + k else x + k - n := by
  unfold rotP
  split
  · rename_i h1; exact Nat.mod_eq_of_lt h1
  · rw [Nat.mod_eq_sub_mod (by omega)]
    exact Nat.mod_eq_of_lt (by omega)
theorem rot_surj {n k y : Nat} (hk : k ≤ n) (h : y < n) : ∃ x, x < n ∧ rotP n k x = y := by
  by_cases hy : k ≤ y
  · refine ⟨y - k, by omega, ?_⟩
    rw [rot_eq hk (by omega)]
    split <;> omega
  · refine ⟨y + n - k, by omega, ?_⟩
    rw [rot_eq hk (by omega)]
    split <;> omega
theorem mov_get (l : List Use) (k : Nat) (d : Int) (hk : k ≤ l.length) (x : Nat) (h : x < l.length) : frP (movP l k d) x = frP l (rotP l.length k x) + d ∧ ttP (movP l k d) x = ttP l (rotP l.length k x) + d := by
  have hr := rot_lt (k := k) h
  have hg : (movP l k d)[x]? = some (shU d l[rotP l.length k x]) := by
    unfold movP
    have he := rot_eq hk h
    rw [List.getElem?_map, List.getElem?_append, List.length_drop]
    split
    · rw [if_pos (by omega)] at he
      rw [List.getElem?_drop, show k + x = rotP l.length k x by omega, List.getElem?_eq_getElem hr]
      rfl
    · rw [if_neg (by omega)] at he
      rw [List.getElem?_take, if_pos (by omega), show x - (l.length - k) = rotP l.length k x by omega, List.getElem?_eq_getElem hr]
      rfl
  rw [frP_at _ _ hr, ttP_at _ _ hr, frP, ttP, hg]
  exact ⟨rfl, rfl⟩
theorem mov_cnt (l : List Use) (k : Nat) (d t : Int) : cnt (movP l k d) (t + d) = cnt l t := by
  unfold cnt
  rw [(mov_perm l k d).countP_eq, List.countP_map]
  congr 1
  funext u
  simp only [Function.comp, hasT, shU]
  rw [Bool.eq_iff_iff]
  simp
theorem mov_mem (l : List Use) (k : Nat) (d : Int) (v : Use) : v ∈ movP l k d ↔ ∃ u ∈ l, v = shU d u := by
  rw [(mov_perm l k d).mem_iff, List.mem_map]
  exact ⟨fun ⟨u, h1, h2⟩ => ⟨u, h1, h2.symm⟩, fun ⟨u, h1, h2⟩ => ⟨u, h1, h2.symm⟩⟩
theorem apart_iff (v u : Use) : ApartU v u ↔ (v.sat = u.sat → v.fr < u.tt → u.fr < v.tt → False) := by
  unfold ApartU meetP Use.spl
  simp
theorem formed_iff (u : Use) : formedP u = true ↔ 0 ≤ u.sat ∧ u.sat ≤ 23 ∧ 0 ≤ u.fr ∧ u.fr < u.tt ∧ u.tt ≤ 1000001 := by
  unfold formedP
  simp
  omega
theorem apart_symm {v u : Use} (h : ApartU v u) : ApartU u v := by
  rw [apart_iff] at h ⊢
  exact fun h1 h2 h3 => h h1.symm h3 h2
theorem mov_valid (l : List Use) (k : Nat) (d : Int) (hv : validU l = true) (hd : 0 ≤ d) (hs : ∀ u ∈ l, u.tt + d ≤ 1000001) : validU (movP l k d) = true := by
  rw [validU_iff] at hv ⊢
  refine ⟨by rw [mov_len]; exact hv.1, fun v hvm => ?_, ?_⟩
  · obtain ⟨u, hu, rfl⟩ := (mov_mem l k d v).1 hvm
    have h1 := hv.2.1 u hu
    have h2 := hs u hu
    rw [formed_iff] at h1 ⊢
    show 0 ≤ u.sat ∧ u.sat ≤ 23 ∧ 0 ≤ u.fr + d ∧ u.fr + d < u.tt + d ∧ u.tt + d ≤ 1000001
    omega
  · rw [(mov_perm l k d).pairwise_iff (fun h => apart_symm h), List.pairwise_map]
    refine hv.2.2.imp fun {a b} h => ?_
    rw [apart_iff] at h ⊢
    show a.sat = b.sat → a.fr + d < b.tt + d → b.fr + d < a.tt + d → False
    exact fun h1 h2 h3 => h h1 (by omega) (by omega)
theorem mov_most (l : List Use) (k : Nat) (d : Int) : mostP (movP l k d) (movP l k d) = mostP l l := by
  have hc : ∀ u, cnt (movP l k d) (shU d u).fr = cnt l u.fr := fun u => mov_cnt l k d u.fr
  apply Nat.le_antisymm
  · rw [most_iff]
    intro v hv
    obtain ⟨u, hu, rfl⟩ := (mov_mem l k d v).1 hv
    rw [hc]
    exact most_ge hu
  · rw [most_iff]
    intro u hu
    rw [← hc]
    exact most_ge ((mov_mem l k d _).2 ⟨u, hu, rfl⟩)
/-- The first minute of a clash moves with the uses. -/
theorem mov_clash (l : List Use) (k : Nat) (d m : Int) (hv : validU l = true) (hv2 : validU (movP l k d) = true) (hm : inB m 0 8 = true) : ((clashP l m).1 = -1 ↔ (clashP (movP l k d) m).1 = -1) ∧ ((clashP l m).1 ≠ -1 → (clashP (movP l k d) m).1 = (clashP l m).1 + d) := by
  obtain ⟨_, _, h1⟩ := clash_iff l m hv hm
  obtain ⟨_, _, h2⟩ := clash_iff (movP l k d) m hv2 hm
  have hc : ∀ u, cnt (movP l k d) (shU d u).fr = cnt l u.fr := fun u => mov_cnt l k d u.fr
  have hiff : (clashP l m).1 = -1 ↔ (clashP (movP l k d) m).1 = -1 := by
    rw [h1, h2]
    constructor
    · intro h v hvm
      obtain ⟨u, hu, rfl⟩ := (mov_mem l k d v).1 hvm
      rw [hc]
      exact h u hu
    · intro h u hu
      rw [← hc]
      exact h _ ((mov_mem l k d _).2 ⟨u, hu, rfl⟩)
  refine ⟨hiff, fun hne => ?_⟩
  obtain ⟨_, a1, ⟨u, hu, a2⟩, a3⟩ := clash_at l m hv hm hne
  obtain ⟨_, b1, ⟨v, hvm, b2⟩, b3⟩ := clash_at (movP l k d) m hv2 hm (fun e => hne (hiff.2 e))
  obtain ⟨u2, hu2, rfl⟩ := (mov_mem l k d v).1 hvm
  have hx : (shU d u2).fr = u2.fr + d := rfl
  have h4 := b3 (shU d u) ((mov_mem l k d _).2 ⟨u, hu, rfl⟩)
  have h5 := a3 u2 hu2
  rw [hc, show (shU d u).fr = u.fr + d from rfl, a2] at h4
  rw [← b2, hc] at b1
  rcases Int.lt_trichotomy ((clashP l m).1 + d) ((clashP (movP l k d) m).1) with h | h | h
  · have := h4 h; omega
  · exact h.symm
  · have := h5 (by omega); omega
/-- Who is there: the same uses, by other indices. -/
theorem mov_at (l : List Use) (k : Nat) (d t : Int) (hk : k ≤ l.length) (x : Nat) : x ∈ atP (movP l k d) (t + d) ↔ x < l.length ∧ rotP l.length k x ∈ atP l t := by
  rw [mem_atP, mem_atP, mov_len]
  constructor
  · rintro ⟨h1, h2, h3⟩
    obtain ⟨e1, e2⟩ := mov_get l k d hk x h1
    rw [e1] at h2
    rw [e2] at h3
    exact ⟨h1, rot_lt h1, by omega, by omega⟩
  · rintro ⟨h1, _, h2, h3⟩
    obtain ⟨e1, e2⟩ := mov_get l k d hk x h1
    rw [e1, e2]
    exact ⟨h1, by omega, by omega⟩
/-- Bits of some numbers. -/
def orP (L : List Nat) : Nat := L.foldl (fun a x => a ||| 2 ^ x) 0
theorem orP_snoc (L : List Nat) (x : Nat) : orP (L ++ [x]) = orP L ||| 2 ^ x := by rw [orP, List.foldl_append]; rfl
theorem orP_bit (L : List Nat) (j : Nat) : (orP L).testBit j = decide (j ∈ L) := by
  have key : ∀ (M : List Nat) (a : Nat), (M.foldl (fun a x => a ||| 2 ^ x) a).testBit j = (a.testBit j || decide (j ∈ M)) := by
    intro M
    induction M with
    | nil => intro a; simp
    | cons x r ih =>
      intro a
      rw [List.foldl_cons, ih, Nat.testBit_or, Nat.testBit_two_pow]
      by_cases h : x = j
      · subst h; simp
      · have h2 : ¬ j = x := fun e => h e.symm
        simp [h, h2]
  rw [orP, key]
  simp
theorem orP_lt (L : List Nat) (n : Nat) (h : ∀ x ∈ L, x < n) : orP L < 2 ^ n := by
  refine Nat.lt_pow_two_of_testBit _ fun j hj => ?_
  rw [orP_bit, decide_eq_false_iff_not]
  intro hm
  have := h j hm
  omega
theorem mov_bits (l : List Use) (k : Nat) (d t : Int) (hk : k ≤ l.length) : orP (atP l t) = orP ((atP (movP l k d) (t + d)).map (rotP l.length k)) := by
  refine Nat.eq_of_testBit_eq fun j => ?_
  rw [orP_bit, orP_bit, decide_eq_decide, List.mem_map]
  constructor
  · intro h
    have hj := ((mem_atP l t j).1 h).1
    obtain ⟨x, hx, e⟩ := rot_surj hk hj
    exact ⟨x, (mov_at l k d t hk x).2 ⟨hx, by rw [e]; exact h⟩, e⟩
  · rintro ⟨x, hx, rfl⟩
    exact ((mov_at l k d t hk x).1 hx).2
theorem sets_nodup (l : List Use) (hv : ∀ u ∈ l, formedP u = true) : (setsP l).Nodup := by
  have key : ∀ (post pre : List Nat) (s : Int × List (List Nat)), orderP l = pre ++ post → SetI l pre s → s.2.Nodup → (post.foldl (setStep l) s).2.Nodup := by
    intro post
    induction post with
    | nil => intro pre s _ _ h; exact h
    | cons i r ih =>
      intro pre s h1 h2 h3
      rw [List.foldl_cons]
      have hil : i < l.length := (mem_order l i).1 (by rw [h1]; simp)
      have hf := formed_lt (hv l[i] (List.getElem_mem hil))
      rw [← frP_at l i hil, ← ttP_at l i hil] at hf
      refine ih (pre ++ [i]) _ (by rw [h1]; simp) (set_step l pre s i hf.1 (order_sorted l h1).1 h2) ?_
      unfold setStep
      split
      · rename_i hlt
        rw [List.nodup_append]
        refine ⟨h3, by simp, fun a ha b hb e => ?_⟩
        rw [List.mem_singleton] at hb
        obtain ⟨j, hj, e2⟩ := h2.from_ a ha
        have hi : i ∈ a := by rw [e, hb]; exact (mem_atP _ _ _).2 ⟨hil, by omega, by omega⟩
        rw [e2] at hi
        have h4 := ((mem_atP _ _ _).1 hi).2.1
        have h5 := h2.le j hj
        omega
      · exact h3
  exact key (orderP l) [] _ rfl ⟨.inl ⟨rfl, rfl⟩, fun j hj => by simp at hj, fun j hj => by simp at hj, fun a ha => by simp at ha⟩ (by simp)
theorem mov_rows (l : List Use) (k : Nat) (d : Int) (hk : k ≤ l.length) (hv : validU l = true) (hv2 : validU (movP l k d) = true) : (rowsP (movP l k d)).1.length = (rowsP l).1.length ∧ (rowsP l).2 = 0 ∧ (rowsP (movP l k d)).2 = 0 := by
  have hf := ((validU_iff l).1 hv).2.1
  have hf2 := ((validU_iff (movP l k d)).1 hv2).2.1
  rw [rowsP, rowsP, if_pos hv, if_pos hv2]
  refine ⟨?_, rfl, rfl⟩
  dsimp only
  obtain ⟨f, hfd⟩ : ∃ f : List Nat → List Nat, f = fun s => (List.range l.length).filter fun x => s.contains (rotP l.length k x) := ⟨_, rfl⟩
  have hfa : ∀ t, f (atP l t) = atP (movP l k d) (t + d) := fun t => by
    rw [hfd]
    refine asc_ext _ _ (List.pairwise_lt_range.filter _) (idxP_sorted _ _ _) fun x => ?_
    rw [mov_at l k d t hk, List.mem_filter, List.mem_range]
    simp
  have hmem : ∀ b, b ∈ setsP (movP l k d) ↔ ∃ a ∈ setsP l, b = f a := fun b => by
    rw [mem_sets _ hf2]
    constructor
    · rintro ⟨v, hvm, rfl⟩
      obtain ⟨u, hu, rfl⟩ := (mov_mem l k d v).1 hvm
      exact ⟨atP l u.fr, (mem_sets l hf _).2 ⟨u, hu, rfl⟩, by rw [hfa]; rfl⟩
    · rintro ⟨a, ha, rfl⟩
      obtain ⟨u, hu, rfl⟩ := (mem_sets l hf _).1 ha
      exact ⟨shU d u, (mov_mem l k d _).2 ⟨u, hu, rfl⟩, by rw [hfa]; rfl⟩
  have hlen : ∀ a ∈ setsP l, (f a).length = a.length := fun a ha => by
    obtain ⟨u, hu, rfl⟩ := (mem_sets l hf _).1 ha
    rw [hfa, atP_len, atP_len, mov_cnt]
  have hbd : ∀ a ∈ setsP l, ∀ y ∈ a, y < l.length := fun a ha y hy => by
    obtain ⟨u, hu, rfl⟩ := (mem_sets l hf _).1 ha
    exact ((mem_atP _ _ _).1 hy).1
  have hin : ∀ a x, x ∈ f a ↔ x < l.length ∧ rotP l.length k x ∈ a := fun a x => by
    rw [hfd, List.mem_filter, List.mem_range]
    simp
  have hsub : ∀ a ∈ setsP l, ∀ b, (∀ x ∈ f a, x ∈ f b) ↔ ∀ y ∈ a, y ∈ b := fun a ha b => by
    constructor
    · intro h y hy
      obtain ⟨x, hx, e⟩ := rot_surj hk (hbd a ha y hy)
      have := h x ((hin a x).2 ⟨hx, by rw [e]; exact hy⟩)
      rw [← e]
      exact ((hin b x).1 this).2
    · intro h x hx
      obtain ⟨h1, h2⟩ := (hin a x).1 hx
      exact (hin b x).2 ⟨h1, h _ h2⟩
  have hkept : ∀ a ∈ setsP l, (((setsP (movP l k d)).any fun b => insideP (f a) b) = (setsP l).any fun b => insideP a b) := fun a ha => by
    rw [Bool.eq_iff_iff, List.any_eq_true, List.any_eq_true]
    constructor
    · rintro ⟨b, hb, h⟩
      obtain ⟨c, hc, rfl⟩ := (hmem b).1 hb
      rw [inside_iff, hlen a ha, hlen c hc, hsub a ha] at h
      exact ⟨c, hc, (inside_iff _ _).2 h⟩
    · rintro ⟨c, hc, h⟩
      rw [inside_iff] at h
      exact ⟨f c, (hmem _).2 ⟨c, hc, rfl⟩, by rw [inside_iff, hlen a ha, hlen c hc, hsub a ha]; exact h⟩
  have hinj : ∀ a ∈ setsP l, ∀ b ∈ setsP l, f a = f b → a = b := fun a ha b hb e => by
    have h1 : ∀ y ∈ a, y ∈ b := (hsub a ha b).1 (by rw [e]; exact fun x hx => hx)
    have h2 : ∀ y ∈ b, y ∈ a := (hsub b hb a).1 (by rw [e]; exact fun x hx => hx)
    obtain ⟨u, hu, rfl⟩ := (mem_sets l hf _).1 ha
    obtain ⟨v, hv, rfl⟩ := (mem_sets l hf _).1 hb
    exact asc_ext _ _ (idxP_sorted _ _ _) (idxP_sorted _ _ _) fun x => ⟨h1 x, h2 x⟩
  apply Nat.le_antisymm
  · have e9 : (((setsP l).filter (fun a => !((setsP l).any fun b => insideP a b))).map f).length = ((setsP l).filter (fun a => !((setsP l).any fun b => insideP a b))).length := List.length_map _
    rw [← e9]
    refine nodup_sub_len _ _ ((sets_nodup _ hf2).filter _) fun b hb => ?_
    obtain ⟨hb1, hb2⟩ := List.mem_filter.1 hb
    obtain ⟨a, ha, rfl⟩ := (hmem b).1 hb1
    rw [hkept a ha] at hb2
    exact List.mem_map.2 ⟨a, List.mem_filter.2 ⟨ha, hb2⟩, rfl⟩
  · have e9 : (((setsP l).filter (fun a => !((setsP l).any fun b => insideP a b))).map f).length = ((setsP l).filter (fun a => !((setsP l).any fun b => insideP a b))).length := List.length_map _
    rw [← e9]
    refine nodup_sub_len _ _ ?_ fun b hb => ?_
    · rw [List.nodup_iff_pairwise_ne, List.pairwise_map]
      refine List.Pairwise.imp_of_mem (fun ha hb hab e => hab ?_) (List.nodup_iff_pairwise_ne.1 ((sets_nodup _ hf).filter _))
      exact hinj _ (List.mem_filter.1 ha).1 _ (List.mem_filter.1 hb).1 e
    · obtain ⟨a, ha, rfl⟩ := List.mem_map.1 hb
      obtain ⟨ha1, ha2⟩ := List.mem_filter.1 ha
      rw [← hkept a ha1] at ha2
      exact List.mem_filter.2 ⟨(hmem _).2 ⟨a, ha1, rfl⟩, ha2⟩
theorem madeL_small (l : List T3) (out : List Use) (h : ∀ u ∈ out, u.tt ≤ 200) : ∀ u ∈ madeL l out, u.tt ≤ 200 := by
  induction l generalizing out with
  | nil => exact h
  | cons t r ih =>
    rw [madeL_cons]
    apply ih
    split
    · intro u hu
      rcases List.mem_append.1 hu with hu | hu
      · exact h u hu
      · rw [List.mem_singleton.1 hu]
        have h1 := pickI_bd t.a 100 (by omega)
        have h2 := pickI_bd t.c 40 (by omega)
        simp only [useOf]
        omega
    · exact h
theorem made_small (x : List T3) : ∀ u ∈ madeP x, u.tt ≤ 200 := madeL_small _ _ (fun u hu => by cases hu)
end Go.Proofs.Ytgbfhkildbhhoaa
