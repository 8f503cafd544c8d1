/- Deliveries in order (plain). -/
import Derived.Test.YtmlabgmigakcbaaT0
namespace Go.Proofs.Ytmlabgmigakcbaa

theorem cmpI_spec (a b : Int) : (cmpI a b < 0 ↔ a < b) ∧ (cmpI a b = 0 ↔ a = b) := by
  unfold cmpI
  split
  · omega
  · split <;> omega
theorem cmpEvt_lt (a b : Evt) : cmpEvt a b < 0 ↔ a.at_ < b.at_ ∨ a.at_ = b.at_ ∧ a.im < b.im := by
  have h1 := cmpI_spec a.at_ b.at_
  have h2 := cmpI_spec a.im b.im
  have e : cmpEvt a b = if (cmpI a.at_ b.at_ != 0) = true then cmpI a.at_ b.at_ else if (cmpI a.im b.im != 0) = true then cmpI a.im b.im else 0 := rfl
  rw [e]
  generalize cmpI a.at_ b.at_ = p at h1
  generalize cmpI a.im b.im = q at h2
  simp only [bne_iff_ne, ne_eq]
  split
  · omega
  · split <;> omega
theorem ltE (a b : Evt) : ltOf cmpEvt a b = decide (a.at_ < b.at_ ∨ a.at_ = b.at_ ∧ a.im < b.im) := by
  unfold ltOf
  rw [decide_eq_decide]
  exact cmpEvt_lt a b
theorem sw_evt : SW (ltOf cmpEvt) := by
  constructor
  · intro a b c h1 h2
    rw [ltE, decide_eq_true_eq] at *
    omega
  · intro a b h1
    rw [ltE, decide_eq_true_eq] at h1
    rw [ltE, decide_eq_false_iff_not]
    omega
  · intro a b c h1 h2
    rw [ltE, decide_eq_false_iff_not] at *
    omega
theorem srtd_next : ∀ (l : List Evt), Srtd (ltOf cmpEvt) l → ∀ (j : Nat) (h : j + 1 < l.length), (l[j]'(by omega)).at_ ≤ l[j + 1].at_
  | [], _ => fun j h => by simp at h
  | x :: r, hs => fun j h => by
    cases j with
    | zero =>
      simp only [List.getElem_cons_zero, List.getElem_cons_succ, List.length_cons] at h ⊢
      have h1 := hs.1 (r[0]'(by omega)) (List.getElem_mem _)
      rw [ltE, decide_eq_false_iff_not] at h1
      omega
    | succ j =>
      simp only [List.getElem_cons_succ, List.length_cons] at h ⊢
      exact srtd_next r hs.2 j (by omega)
theorem mem_sortP {l : List Evt} {y : Evt} : y ∈ sortP (ltOf cmpEvt) l ↔ y ∈ l := by
  unfold sortP
  have h : ∀ (l B : List Evt), y ∈ l.foldl (insR (ltOf cmpEvt)) B ↔ y ∈ l ∨ y ∈ B := by
    intro l
    induction l with
    | nil => intro B; simp
    | cons x l ih =>
      intro B
      rw [List.foldl_cons, ih, mem_insR, List.mem_cons]
      constructor
      · rintro (h | h | h)
        · exact .inl (.inr h)
        · exact .inl (.inl h)
        · exact .inr h
      · rintro ((h | h) | h)
        · exact .inr (.inl h)
        · exact .inl h
        · exact .inr (.inr h)
  rw [h]
  simp
/-- The deliveries of a case in which all notes were heard. -/
def logE (c : Cas) (t : Int) : List Evt := delP ((casO c).map (trueF c t (toldL c t [])))
theorem logE_next (c : Cas) (t : Int) (j : Nat) (h : j + 1 < (logE c t).length) : ((logE c t)[j]'(by omega)).at_ ≤ (logE c t)[j + 1].at_ := srtd_next _ (srtd_sortP sw_evt _) j h
theorem logE_mem (c : Cas) (t : Int) (o : Opp) (ho : o ∈ casO c) (hov : overO c t o) : (⟨ttAt o.l (zO c o).toNat, o.id⟩ : Evt) ∈ logE c t := by
  unfold logE delP
  rw [mem_sortP]
  unfold evtL
  refine List.mem_map.2 ⟨trueF c t (toldL c t []) o, List.mem_filter.2 ⟨List.mem_map_of_mem ho, ?_⟩, ?_⟩
  · rw [(log_fact c t o ho).1 hov]; rfl
  · rw [(log_fact c t o ho).1 hov]
theorem logE_len8 (c : Cas) (t : Int) : (logE c t).length ≤ 8 := by
  unfold logE delP
  rw [length_sortP]
  have := evtL_len ((casO c).map (trueF c t (toldL c t [])))
  rw [List.length_map] at this
  have := casO_len c
  omega
/-- How many were received, counted one after the other. -/
theorem log_count (c : Cas) (t : Int) : ∃ cK : Nat → Nat, cK 0 = 0 ∧ (∀ (k : Nat) (h : k < (casO c).length), cK (k + 1) = cK k + if overO c t (casO c)[k] then 1 else 0) ∧ cK (casO c).length = (logE c t).length ∧ ∀ k, cK k ≤ 8 := by
  refine ⟨fun k => (((casO c).take k).filter (fun o => decide (overO c t o))).length, by simp, fun k h => ?_, ?_, fun k => ?_⟩
  · dsimp only
    rw [List.take_succ_eq_append_getElem h, List.filter_append, List.length_append, List.filter_cons]
    congr 1
    by_cases hov : overO c t (casO c)[k]
    · rw [if_pos (decide_eq_true hov), if_pos hov]; rfl
    · rw [if_neg (by simpa using hov), if_neg hov]; rfl
  · dsimp only
    unfold logE delP
    rw [length_sortP, List.take_length]
    unfold evtL
    rw [List.length_map, List.filter_map, List.length_map]
    congr 1
    refine List.filter_congr fun o ho => ?_
    dsimp only [Function.comp]
    by_cases hov : overO c t o
    · rw [decide_eq_true hov, (log_fact c t o ho).1 hov]; rfl
    · rw [decide_eq_false hov]
      have := (log_fact c t o ho).2 hov
      simpa using this
  · have h1 : (((casO c).take k).filter (fun o => decide (overO c t o))).length ≤ ((casO c).take k).length := List.length_filter_le _ _
    have h2 : ((casO c).take k).length ≤ (casO c).length := by rw [List.length_take]; omega
    have := casO_len c
    dsimp only
    omega
/-- What the walk of the deliveries looks for. -/
def anyE (id ta : Int) (l : List Evt) : Bool := l.any (fun e => decide (e.im = id ∧ e.at_ = ta))
theorem anyE_cons (id ta : Int) (e : Evt) (l : List Evt) : anyE id ta (e :: l) = (decide (e.im = id ∧ e.at_ = ta) || anyE id ta l) := rfl
theorem anyE_mem {id ta : Int} {l : List Evt} (h : (⟨ta, id⟩ : Evt) ∈ l) : anyE id ta l = true := by
  unfold anyE
  rw [List.any_eq_true]
  exact ⟨_, h, decide_eq_true ⟨rfl, rfl⟩⟩
/-- What the walk of ReceiptLog looks at, for one option. -/
theorem log_at (c : Cas) (t : Int) (fs : List Fte) (os : List Opt) (k : Nat) (h1 : k < fs.length) (h2 : k < os.length) (e1 : fs.map (·.p) = (casO c).map (trueF c t (toldL c t []))) (e2 : os.map Opt.p = casO c) :
    ∃ z : Int, zO c os[k].p = z ∧ (z = -1 ∨ 0 ≤ z ∧ z < os[k].l.length) ∧ ((0 ≤ z ∧ ttAt os[k].l z.toNat ≤ t) → fs[k].p = ⟨os[k].id, 1, [z.toNat], ttAt os[k].l z.toNat, ttAt os[k].l z.toNat⟩ ∧ anyE os[k].id (ttAt os[k].l z.toNat) (logE c t) = true) ∧ (¬ (0 ≤ z ∧ ttAt os[k].l z.toNat ≤ t) → fs[k].p.st ≠ 1) ∧ (∀ cK : Nat → Nat, (∀ (k : Nat) (h : k < (casO c).length), cK (k + 1) = cK k + if overO c t (casO c)[k] then 1 else 0) → cK (k + 1) = cK k + if 0 ≤ z ∧ ttAt os[k].l z.toNat ≤ t then 1 else 0) := by
  obtain ⟨a, b⟩ := at_fate h1 h2 e1 e2
  have hf := log_fact c t os[k].p b
  rw [← a] at hf
  refine ⟨_, rfl, zO_bd c os[k].p, fun hov => ⟨hf.1 hov, anyE_mem (logE_mem c t _ b hov)⟩, hf.2, fun cK hK => ?_⟩
  have hk : k < (casO c).length := by rw [← e2, List.length_map]; exact h2
  have h := hK k hk
  have he : (casO c)[k] = os[k].p := by
    have h4 : (casO c)[k]? = some os[k].p := by rw [← e2, List.getElem?_map, List.getElem?_eq_getElem h2]; rfl
    rw [List.getElem?_eq_getElem hk] at h4
    injection h4
  rw [he] at h
  exact h
end Go.Proofs.Ytmlabgmigakcbaa
