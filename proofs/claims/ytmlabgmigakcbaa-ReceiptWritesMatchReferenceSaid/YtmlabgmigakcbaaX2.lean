/- Without receipts nothing is received (plain). -/
import Derived.Test.YtmlabgmigakcbaaX1
namespace Go.Proofs.Ytmlabgmigakcbaa

theorem nextP_zero (is_ : Bool) (slot : Nat) : nextP is_ 0 slot = 0 := by cases is_ <;> simp [nextP, clrB]
theorem noteP_zero (now : Int) (sl : List Slt) (id : Int) : ∀ (l : List Nte) (i slot : Nat) (done : Bool) (ds : List Dsc), (noteP now sl id i 0 slot done ds l).1 = 0
  | [], _, _, _, _ => by rw [noteP]
  | n :: l, i, slot, done, ds => by
    rw [noteP_cons]
    split
    · exact noteP_zero now sl id l _ _ _ _
    · split
      · rfl
      · split
        · exact noteP_zero now sl id l _ _ _ _
        · rw [nextP_zero]; exact noteP_zero now sl id l _ _ _ _
/-- A discord that notes tell. -/
def DsOK (m : Nat) (d : Dsc) : Prop := (d.kind = 3 ∨ d.kind = 4) ∧ 0 ≤ d.ix ∧ d.ix < m
theorem noteP_ds (now : Int) (sl : List Slt) (id : Int) (m : Nat) : ∀ (l : List Nte) (i left slot : Nat) (done : Bool) (ds : List Dsc), i + l.length ≤ m → (∀ d ∈ ds, DsOK m d) → ∀ d ∈ (noteP now sl id i left slot done ds l).2, DsOK m d
  | [], _, _, _, _, _, _, h => by rw [noteP]; exact h
  | n :: l, i, left, slot, done, ds, hi, h => by
    simp only [List.length_cons] at hi
    rw [noteP_cons]
    split
    · exact noteP_ds now sl id m l _ _ _ _ _ (by omega) h
    · split
      · intro d hd
        rcases List.mem_append.1 hd with hd | hd
        · exact h d hd
        · rw [List.mem_singleton.1 hd]; exact ⟨.inl rfl, by dsimp only; omega, by dsimp only; omega⟩
      · split
        · refine noteP_ds now sl id m l _ _ _ _ _ (by omega) (fun d hd => ?_)
          rcases List.mem_append.1 hd with hd | hd
          · exact h d hd
          · rw [List.mem_singleton.1 hd]; exact ⟨.inr rfl, by dsimp only; omega, by dsimp only; omega⟩
        · exact noteP_ds now sl id m l _ _ _ _ _ (by omega) h
/-- A fate without receipts. -/
def noneE (now : Int) (o : Opp) : FteP := fateE now o.l o.id 0
theorem recP_none (q : Opt → Rcp → Nat) (now : Int) (ns : List Nte) : ∀ (os : List Opp) (ds : List Dsc), (∀ d ∈ ds, DsOK ns.length d) → (recP q now [] ns ds (os.map toOpt)).1 = os.map (noneE now) ∧ ∀ d ∈ (recP q now [] ns ds (os.map toOpt)).2, DsOK ns.length d
  | [], ds, h => ⟨rfl, h⟩
  | o :: r, ds, h => by
    rw [List.map_cons, recP_cons]
    have e1 : fateP (q (toOpt o)) now (toOpt o).l (toOpt o).id [] ns ds = (fateE now o.l o.id (noteP now o.l o.id 0 0 0 false ds ns).1, (noteP now o.l o.id 0 0 0 false ds ns).2) := by
      unfold fateP
      rw [recvP]
      rfl
    rw [e1, noteP_zero]
    have h2 := noteP_ds now o.l o.id ns.length ns 0 0 0 false ds (by omega) h
    obtain ⟨i1, i2⟩ := recP_none q now ns r _ h2
    refine ⟨?_, i2⟩
    rw [i1]
    rfl
theorem recV_none (c : Cas) (ns : List Nte) (now : Int) (hn : ns.length ≤ 60) (h0 : 0 ≤ now ∧ now ≤ 1000000) : (recV ((casO c).map toOpt) (casP c) (casS c) [] ns now).2 = 0 ∧ (recV ((casO c).map toOpt) (casP c) (casS c) [] ns now).1.1 = (casO c).map (noneE now) ∧ ∀ d ∈ (recV ((casO c).map toOpt) (casP c) (casS c) [] ns now).1.2, DsOK ns.length d := by
  have hok : recOK ((casO c).map toOpt) (casP c) (casS c) [] ns now = true := by
    unfold recOK
    rw [cas_valid, decide_eq_true h0, decide_eq_true hn]
    rfl
  unfold recV
  rw [if_pos hok, strL]
  obtain ⟨h1, h2⟩ := recP_none (qOf (casP c) (skewF (casS c)) now) now ns (casO c) [] (fun d hd => by cases hd)
  exact ⟨rfl, h1, h2⟩
/-- Slots of an option of a case: there are some, and they end one behind the other. -/
theorem cas_slots (c : Cas) : ∀ o ∈ casO c, 0 < o.l.length ∧ o.l.length ≤ 6 ∧ slotsOK (casP c) 0 o.l = true := by
  intro o ho
  have hv := cas_valid c
  have h := (valid_vok hv).each (toOpt o) (List.mem_map_of_mem ho)
  have h3 := h.2.2
  unfold lossOK at h3
  rw [Bool.and_eq_true, decide_eq_true_eq] at h3
  have e : (toOpt o).l = o.l := rfl
  rw [e] at h3
  exact ⟨by omega, h3.1.2, h3.2⟩
theorem slots_tt (ps : List Pas) : ∀ (l : List Slt) (e : Int), slotsOK ps e l = true → ∀ (i j : Nat) (hi : i ≤ j) (hj : j < l.length), e < (l[i]'(by omega)).tt ∧ (l[i]'(by omega)).tt ≤ l[j].tt
  | [], _, _ => fun i j _ hj => by simp at hj
  | x :: r, e, h => by
    intro i j hi hj
    rw [slotsOK_cons, Bool.and_eq_true, Bool.and_eq_true] at h
    have hx : e < x.tt := by
      have := h.1.2
      cases hq : ps[x.p.toNat]? with
      | none => rw [hq] at this; cases this
      | some p =>
        rw [hq] at this
        simp only [Bool.and_eq_true, decide_eq_true_eq] at this
        omega
    cases j with
    | zero =>
      obtain rfl : i = 0 := by omega
      exact ⟨hx, Int.le_refl _⟩
    | succ j =>
      simp only [List.length_cons] at hj
      cases i with
      | zero =>
        have := slots_tt ps r x.tt h.2 0 j (by omega) (by omega)
        have h2 := slots_tt ps r x.tt h.2 j j (by omega) (by omega)
        simp only [List.getElem_cons_zero, List.getElem_cons_succ]
        omega
      | succ i =>
        have := slots_tt ps r x.tt h.2 i j (by omega) (by omega)
        simp only [List.getElem_cons_succ]
        omega
theorem openL_nil {ps : List Pas} {l : List Slt} {now : Int} (h : slotsOK ps 0 l = true) (hl : 0 < l.length) : openL now l = [] ↔ (l[l.length - 1]'(by omega)).tt ≤ now := by
  have hm : ∀ k, k ∈ openL now l ↔ k < l.length ∧ now < ttAt l k := fun k => by simp [openL]
  constructor
  · intro e
    by_cases hh : (l[l.length - 1]'(by omega)).tt ≤ now
    · exact hh
    · have : l.length - 1 ∈ openL now l := (hm _).2 ⟨by omega, by rw [ttAt_eq (by omega)]; omega⟩
      rw [e] at this
      cases this
  · intro hh
    cases hq : openL now l with
    | nil => rfl
    | cons k r =>
      have h1 := (hm k).1 (by rw [hq]; exact List.mem_cons_self)
      have h2 := (slots_tt ps l 0 h k (l.length - 1) (by omega) (by omega)).2
      rw [ttAt_eq h1.1] at h1
      omega
/-- The end of the last slot. -/
def lastT (o : Opp) : Int := (o.l.getD (o.l.length - 1) ⟨0, 0, 0⟩).tt
theorem noneE_st {c : Cas} {o : Opp} (ho : o ∈ casO c) (now : Int) : (noneE now o).st = (if lastT o ≤ now then 3 else 2) ∧ (lastT o ≤ now → (noneE now o).l = []) ∧ (¬ lastT o ≤ now → 0 < (noneE now o).l.length) ∧ (noneE now o).im = o.id := by
  obtain ⟨h1, h2, h3⟩ := cas_slots c o ho
  have hl : lastT o = (o.l[o.l.length - 1]'(by omega)).tt := by unfold lastT; rw [List.getD_eq_getElem?_getD, List.getElem?_eq_getElem (by omega)]; rfl
  have hop := openL_nil (now := now) h3 h1
  rw [← hl] at hop
  unfold noneE fateE
  rw [if_neg (by omega)]
  by_cases hh : lastT o ≤ now
  · rw [if_pos (hop.2 hh), if_pos hh]
    exact ⟨rfl, fun _ => rfl, fun h => absurd hh h, rfl⟩
  · have hne : ¬ openL now o.l = [] := fun e => hh (hop.1 e)
    rw [if_neg hne, if_neg hh]
    exact ⟨rfl, fun h => absurd h hh, fun _ => List.length_pos_iff.2 hne, rfl⟩
theorem lastT_bd {c : Cas} {o : Opp} (ho : o ∈ casO c) : 0 ≤ lastT o ∧ lastT o ≤ 10000 := by
  obtain ⟨h1, h2, h3⟩ := cas_slots c o ho
  have hl : lastT o = (o.l[o.l.length - 1]'(by omega)).tt := by unfold lastT; rw [List.getD_eq_getElem?_getD, List.getElem?_eq_getElem (by omega)]; rfl
  rw [hl]
  have h4 := slots_tt _ o.l 0 h3 (o.l.length - 1) (o.l.length - 1) (Nat.le_refl _) (by omega)
  refine ⟨by omega, ?_⟩
  exact slot_bd c.ps o.l 0 h3 _ (List.getElem_mem (by omega))
where slot_bd (xs : List Tri) : ∀ (l : List Slt) (e : Int), slotsOK (passP xs) e l = true → ∀ s ∈ l, s.tt ≤ 10000
  | [], _, _ => fun s hs => by cases hs
  | x :: r, e, h => by
    rw [slotsOK_cons, Bool.and_eq_true, Bool.and_eq_true] at h
    intro s hs
    rcases List.mem_cons.1 hs with rfl | hs
    · have := h.1.2
      cases hq : (passP xs)[s.p.toNat]? with
      | none => rw [hq] at this; cases this
      | some p =>
        rw [hq] at this
        simp only [Bool.and_eq_true, decide_eq_true_eq] at this
        have hb := passP_bd xs p (List.mem_of_getElem? hq)
        omega
    · exact slot_bd xs r x.tt h.2 s hs
theorem evt_none (c : Cas) (now : Int) : delP ((casO c).map (noneE now)) = [] := by
  unfold delP evtL
  have h : ((casO c).map (noneE now)).filter (fun f => f.st == 1) = [] := by
    rw [List.filter_eq_nil_iff]
    intro f hf
    obtain ⟨o, ho, rfl⟩ := List.mem_map.1 hf
    rw [(noneE_st ho now).1]
    split <;> simp
  rw [h]
  rfl
end Go.Proofs.Ytmlabgmigakcbaa
