/- Plain laws: the passes of one satellite and one station, in order without sorting. -/
import Derived.Test.YtlmpmhfbjblhnaaC9
import Derived.Test.YtlmpmhfbjblhnaaC8
import Derived.Test.YtlmpmhfbjblhnaaS0
import Derived.Test.YtlmpmhfbjblhnaaB5
namespace Go.Proofs.Ytlmpmhfbjblhnaa

/-- The maximal spells of [a, e) for which a predicate holds. -/
def SpOK (is : Int → Bool) (a e : Int) : List Spl → Prop
  | [] => ∀ t, a ≤ t → t < e → is t = false
  | s :: r => (a ≤ s.fr ∧ s.fr < s.tt ∧ s.tt ≤ e) ∧ (∀ t, a ≤ t → t < s.fr → is t = false) ∧ (∀ t, s.fr ≤ t → t < s.tt → is t = true) ∧ (s.tt = e ∨ is s.tt = false) ∧ SpOK is s.tt e r
theorem spells_ok (is : Int → Bool) (n : Nat) : ∀ a : Int, SpOK is a (a + n) (spellsP is a n) := by
  induction n with
  | zero => intro a t h1 h2; omega
  | succ n ih =>
    intro a
    have hi := ih (a + 1)
    rw [show a + 1 + (n : Int) = a + ((n + 1 : Nat) : Int) by omega] at hi
    have hn : a < a + ((n + 1 : Nat) : Int) := by omega
    rw [spells_cons]
    generalize a + ((n + 1 : Nat) : Int) = e at hi hn ⊢
    generalize spellsP is (a + 1) n = L at hi ⊢
    cases ha : is a
    · simp only [Bool.false_eq_true, if_false]
      cases L with
      | nil =>
        intro t h1 h2
        by_cases e1 : t = a
        · rw [e1]; exact ha
        · exact hi t (by omega) h2
      | cons s r =>
        obtain ⟨⟨h1, h2, h3⟩, h4, h5, h6, h7⟩ := hi
        refine ⟨⟨by omega, h2, h3⟩, fun t t1 t2 => ?_, h5, h6, h7⟩
        by_cases e1 : t = a
        · rw [e1]; exact ha
        · exact h4 t (by omega) t2
    · simp only [if_true]
      cases L with
      | nil =>
        refine ⟨⟨Int.le_refl _, by simp; omega, by simp; omega⟩, fun t t1 t2 => ?_, fun t t1 t2 => ?_, ?_, hi⟩
        · simp only at t2; omega
        · simp only at t1 t2
          have e1 : t = a := by omega
          rw [e1]; exact ha
        · by_cases e1 : a + 1 = e
          · exact .inl e1
          · exact .inr (hi (a + 1) (Int.le_refl _) (by omega))
      | cons s r =>
        obtain ⟨⟨h1, h2, h3⟩, h4, h5, h6, h7⟩ := hi
        simp only [consS]
        by_cases e1 : s.fr = a + 1
        · rw [if_pos e1]
          refine ⟨⟨Int.le_refl _, by simp only; omega, h3⟩, fun t t1 t2 => ?_, fun t t1 t2 => ?_, h6, h7⟩
          · simp only at t2; omega
          · simp only at t1 t2
            by_cases e2 : t = a
            · rw [e2]; exact ha
            · exact h5 t (by omega) t2
        · rw [if_neg e1]
          refine ⟨⟨Int.le_refl _, by simp only; omega, by simp only; omega⟩, fun t t1 t2 => ?_, fun t t1 t2 => ?_, .inr ?_, ⟨⟨h1, h2, h3⟩, h4, h5, h6, h7⟩⟩
          · simp only at t2; omega
          · simp only at t1 t2
            have e2 : t = a := by omega
            rw [e2]; exact ha
          · exact h4 (a + 1) (Int.le_refl _) (by omega)
variable {is : Int → Bool} {e : Int}
theorem sp_get : ∀ {L : List Spl} {a : Int}, SpOK is a e L → ∀ (i : Nat) (h : i < L.length), (a ≤ L[i].fr ∧ L[i].fr < L[i].tt ∧ L[i].tt ≤ e) ∧ (∀ t, L[i].fr ≤ t → t < L[i].tt → is t = true) ∧ (L[i].tt = e ∨ is L[i].tt = false) ∧ (L[i].fr = a ∨ is (L[i].fr - 1) = false)
  | [], _, _, i, h => by simp at h
  | s :: r, a, ⟨⟨h1, h2, h3⟩, h4, h5, h6, h7⟩, 0, _ => by
    refine ⟨⟨h1, h2, h3⟩, h5, h6, ?_⟩
    by_cases e1 : s.fr = a
    · exact .inl e1
    · exact .inr (h4 (s.fr - 1) (by omega) (by omega))
  | s :: r, a, ⟨⟨h1, h2, h3⟩, h4, h5, h6, h7⟩, i + 1, h => by
    obtain ⟨⟨k1, k2, k3⟩, k4, k5, k6⟩ := sp_get h7 i (by simpa using h)
    simp only [List.getElem_cons_succ]
    refine ⟨⟨by omega, k2, k3⟩, k4, k5, ?_⟩
    rcases k6 with k6 | k6
    · exfalso
      rcases h6 with h6 | h6
      · omega
      · rw [← k6, k4 _ (Int.le_refl _) k2] at h6; cases h6
    · exact .inr k6
theorem sp_next : ∀ {L : List Spl} {a : Int}, SpOK is a e L → ∀ (i : Nat) (h : i + 1 < L.length), L[i].tt < L[i + 1].fr
  | [], _, _, i, h => by simp at h
  | [s], _, _, i, h => by simp at h
  | s :: x :: r, a, ⟨⟨h1, h2, h3⟩, h4, h5, h6, h7⟩, 0, _ => by
    obtain ⟨⟨k1, k2, k3⟩, k4, k5, k6, k7⟩ := h7
    show s.tt < x.fr
    by_cases e1 : s.tt = x.fr
    · exfalso
      rcases h6 with h6 | h6
      · omega
      · rw [e1, k5 _ (Int.le_refl _) k2] at h6; cases h6
    · omega
  | s :: x :: r, a, ⟨_, _, _, _, h7⟩, i + 1, h => by
    have := sp_next h7 i (by simpa using h)
    simpa using this
theorem sp_gap : ∀ {L : List Spl} {a : Int}, SpOK is a e L → ∀ (k : Nat) (t : Int), a ≤ t → t < e → k ≤ L.length → (∀ (i : Nat) (h : i < L.length), i < k → L[i].tt ≤ t) → (∀ h : k < L.length, t < L[k].tt) →
    (∀ h : k < L.length, is t = decide (L[k].fr ≤ t)) ∧ (k = L.length → is t = false)
  | [], _, hs, k, t, h1, h2, hk, _, _ => ⟨fun h => by simp at h, fun _ => hs t h1 h2⟩
  | s :: r, a, ⟨⟨h1, h2, h3⟩, h4, h5, h6, h7⟩, 0, t, ha, hb, hk, _, hlt => by
    have ht : t < s.tt := hlt (by simp)
    refine ⟨fun h => ?_, fun h => by simp at h⟩
    show is t = decide (s.fr ≤ t)
    by_cases hf : s.fr ≤ t
    · rw [decide_eq_true hf]; exact h5 t hf ht
    · rw [decide_eq_false hf]; exact h4 t ha (by omega)
  | s :: r, a, ⟨⟨h1, h2, h3⟩, h4, h5, h6, h7⟩, k + 1, t, ha, hb, hk, hle, hlt => by
    have h0 := hle 0 (by simp) (by omega)
    have := sp_gap h7 k t (by simpa using h0) hb (by simpa using hk) (fun i hi hik => by have := hle (i + 1) (by simpa using hi) (by omega); simpa using this) (fun h => by have := hlt (by simpa using h); simpa using this)
    refine ⟨fun h => ?_, fun h => this.2 (by simpa using h)⟩
    have := this.1 (by simpa using h)
    simpa using this
theorem sp_mem : ∀ {L : List Spl} {a : Int}, SpOK is a e L → ∀ (p q : Int), a ≤ p → p < q → q ≤ e → (∀ t, p ≤ t → t < q → is t = true) → (p = a ∨ is (p - 1) = false) → (q = e ∨ is q = false) → (⟨p, q⟩ : Spl) ∈ L
  | [], _, hs, p, q, h1, h2, h3, h4, _, _ => by
    have := hs p h1 (by omega)
    rw [h4 p (Int.le_refl _) h2] at this
    cases this
  | s :: r, a, ⟨⟨h1, h2, h3⟩, h4, h5, h6, h7⟩, p, q, k1, k2, k3, k4, k5, k6 => by
    have hp := k4 p (Int.le_refl _) k2
    have hpf : s.fr ≤ p := by
      rcases Int.lt_or_le p s.fr with h | h
      · rw [h4 p k1 h] at hp; cases hp
      · exact h
    by_cases hpt : p < s.tt
    · have e1 : p = s.fr := by
        rcases k5 with k5 | k5
        · omega
        · by_cases e2 : p = s.fr
          · exact e2
          · rw [h5 (p - 1) (by omega) (by omega)] at k5; cases k5
      have e2 : q = s.tt := by
        rcases Int.lt_trichotomy q s.tt with h | h | h
        · exfalso
          rcases k6 with k6 | k6
          · omega
          · rw [h5 q (by omega) h] at k6; cases k6
        · exact h
        · exfalso
          rcases h6 with h6 | h6
          · omega
          · rw [k4 s.tt (by omega) h] at h6; cases h6
      rw [e1, e2]
      exact List.mem_cons_self ..
    · refine List.mem_cons_of_mem _ (sp_mem h7 p q (by omega) k2 k3 k4 ?_ k6)
      rcases k5 with k5 | k5
      · omega
      · exact .inr k5
end Go.Proofs.Ytlmpmhfbjblhnaa
namespace Go.Proofs.Ytlmpmhfbjblhnaa

theorem made_ok (x0 x1 x2 x3 x4 x5 x6 : Int) : orbOK (madeO x0 x1 x2 x3 x4 x5 x6) = true := by
  have q0 := pickI_bd x0 90 (by omega)
  have q1 := pickI_bd x1 (2 * (10 + pickI x0 90)) (by omega)
  have q2 := pickI_bd x2 10000 (by omega)
  have q3 := pickI_bd x3 10000 (by omega)
  have q4 := pickI_bd x4 48000 (by omega)
  have q5 := pickI_bd x5 1601 (by omega)
  have q6 := pickI_bd x6 4 (by omega)
  simp only [orbOK, madeO, Bool.and_eq_true, inB_iff, beq_iff_eq]
  refine ⟨⟨⟨⟨⟨⟨⟨⟨?_, ?_⟩, ?_⟩, ?_⟩, ?_⟩, ?_⟩, ?_⟩, ?_⟩, ?_⟩ <;> first | omega | exact decide_eq_true (by omega)
theorem made_slack (x0 x1 x2 x3 x4 x5 x6 : Int) : 0 ≤ (madeO x0 x1 x2 x3 x4 x5 x6).slack ∧ (madeO x0 x1 x2 x3 x4 x5 x6).slack ≤ 3 := by
  have q6 := pickI_bd x6 4 (by omega)
  simp only [madeO]
  omega
theorem stnP_ok (id x0 x1 x2 x3 : Int) : stnOK (stnP id x0 x1 x2 x3) = true := by
  have q0 := pickI_bd id 12 (by omega)
  have q1 := pickI_bd x0 48 (by omega)
  have q2 := pickI_bd x1 24 (by omega)
  have q3 := pickI_bd x2 5 (by omega)
  have q4 := pickI_bd x3 2 (by omega)
  have q5 := pickI_bd (x3.tdiv 2) 9 (by omega)
  simp only [stnOK, stnP, celOK, Bool.and_eq_true, inB_iff]
  omega
theorem view_shift {o : Orb} {s : Stn} {t la : Int} (h1 : 0 ≤ t ∧ t ≤ 1000000) (h2 : 0 ≤ t - la ∧ t - la ≤ 1000000) (h3 : -10 ≤ la ∧ la ≤ 10) : viewP o s t la = viewP o s (t - la) 0 := by
  have e1 : inB t 0 1000000 = true := inB_iff.2 h1
  have e2 : inB (t - la) 0 1000000 = true := inB_iff.2 h2
  have e3 : inB la (-10) 10 = true := inB_iff.2 h3
  have e4 : inB 0 (-10) 10 = true := by simp [inB]
  unfold viewP atP
  rw [e1, e2, e3, e4, show t - la - 0 = t - la by omega]
theorem shift_mem {is1 is0 : Int → Bool} {a la : Int} {n : Nat} {s : Spl} (hs : s ∈ spellsP is1 a n) (hf : a + 10 < s.fr) (ht : s.tt < a + n - 10) (h3 : -10 ≤ la ∧ la ≤ 10)
    (hsh : ∀ t, a ≤ t → t < a + n → a ≤ t - la → t - la < a + n → is1 t = is0 (t - la)) : (⟨s.fr - la, s.tt - la⟩ : Spl) ∈ spellsP is0 a n := by
  obtain ⟨i, hi, rfl⟩ := List.getElem_of_mem hs
  obtain ⟨⟨k1, k2, k3⟩, k4, k5, k6⟩ := sp_get (spells_ok is1 n a) i hi
  generalize (spellsP is1 a n)[i] = s at *
  refine sp_mem (spells_ok is0 n a) _ _ (by omega) (by omega) (by omega) (fun t t1 t2 => ?_) (.inr ?_) (.inr ?_)
  · have := hsh (t + la) (by omega) (by omega) (by omega) (by omega)
    rw [show t + la - la = t by omega] at this
    rw [← this]
    exact k4 _ (by omega) (by omega)
  · have := hsh (s.fr - 1) (by omega) (by omega) (by omega) (by omega)
    rw [show s.fr - la - 1 = s.fr - 1 - la by omega, ← this]
    rcases k6 with k6 | k6
    · omega
    · exact k6
  · have := hsh s.tt (by omega) (by omega) (by omega) (by omega)
    rw [← this]
    rcases k5 with k5 | k5
    · omega
    · exact k5
end Go.Proofs.Ytlmpmhfbjblhnaa
namespace Go.Proofs.Ytlmpmhfbjblhnaa
open Go.RowKit

/-- A three-way comparison that is a total preorder. -/
structure Cmp3 {α : Type} (c : α → α → Int) : Prop where
  sw : ∀ a b, c a b < 0 ↔ 0 < c b a
  tr : ∀ a b d, c a b ≤ 0 → c b d ≤ 0 → c a d ≤ 0
theorem Cmp3.key {α : Type} (f : α → Int) : Cmp3 (fun a b => cmpI (f a) (f b)) := by
  constructor
  · intro a b
    simp only [cmpI]
    repeat' split
    all_goals omega
  · intro a b d
    simp only [cmpI]
    repeat' split
    all_goals omega
theorem Cmp3.or {α : Type} {c d : α → α → Int} (h : Cmp3 c) (k : Cmp3 d) : Cmp3 (fun a b => orI (c a b) (d a b)) := by
  constructor
  · intro a b
    have h1 := h.sw a b
    have h2 := h.sw b a
    have h3 := k.sw a b
    simp only [orI]
    repeat' split
    all_goals omega
  · intro a b e
    have h1 := h.sw a b
    have h2 := h.sw b a
    have h3 := h.sw b e
    have h4 := h.sw e b
    have h5 := h.sw a e
    have h6 := h.sw e a
    have t1 := h.tr a b e
    have t2 := h.tr e a b
    have t3 := h.tr b e a
    have t4 := k.tr a b e
    simp only [orI]
    repeat' split
    all_goals omega
theorem Cmp3.strict {α : Type} {c : α → α → Int} (h : Cmp3 c) : SW (ltOf c) := by
  constructor
  · intro a b d h1 h2
    simp only [ltOf, decide_eq_true_eq] at h1 h2 ⊢
    have e1 := h.sw a b
    have e2 := h.sw a d
    have e3 := h.tr b d a
    omega
  · intro a b h1
    simp only [ltOf, decide_eq_true_eq, decide_eq_false_iff_not] at h1 ⊢
    have e1 := h.sw a b
    omega
  · intro a b d h1 h2
    simp only [ltOf, decide_eq_false_iff_not] at h1 h2 ⊢
    have e1 := h.sw a b
    have e2 := h.sw b d
    have e3 := h.sw a d
    have e4 := h.tr d b a
    omega
theorem sw_pas : SW (ltOf cmpPas) := (Cmp3.or (Cmp3.key (fun p : Pas => p.can.fr)) (Cmp3.or (Cmp3.key (fun p : Pas => p.sat)) (Cmp3.or (Cmp3.key (fun p : Pas => p.station)) (Cmp3.or (Cmp3.key (fun p : Pas => p.sure.fr)) (Cmp3.key (fun p : Pas => p.can.tt)))))).strict
theorem sortC_all : SortC 1000000 := fun base g n c l w h hn => sort_any 46 #[] cmpPas (enters_of Try.func46 (by kernel_rfl) rfl) (fun x y w => compare_x x y w) sw_pas base g n c hn l w h
/-- Passes, without a bound on the lists. -/
theorem Passes_all (sats : List St) (stns : List Stn) (SA TA : Option Addr) (sn sc tn tc : Nat) (a b : Int) (w : World) (hS : RA satCells 21 w w.heap.size SA sn sc sats) (hT : RA stnCells 6 w w.heap.size TA tn tc stns) :
    Calls Try.prog 31 #[.slice SA sn sc, .slice TA tn tc, .agg #[.int .i64 a, .int .i64 b]] w (PassesRet (passesP sats stns ⟨a, b⟩) w) :=
  callsIn_wide.1 (Passes_in 1000000 sortC_all sats stns SA TA sn sc tn tc a b w hS hT (fun h => by omega))
/-- What Passes hands back is sorted. -/
theorem passes_sorted {sats : List St} {stns : List Stn} {s : Spl} : Srtd (ltOf cmpPas) (sortP (ltOf cmpPas) (allP sats stns s)) := srtd_sortP sw_pas _

end Go.Proofs.Ytlmpmhfbjblhnaa
namespace Go.Proofs.Ytlmpmhfbjblhnaa

theorem satP_ok (id x0 x1 x2 x3 x4 x5 x6 y0 y1 y2 y3 : Int) : satOK (satP id x0 x1 x2 x3 x4 x5 x6 y0 y1 y2 y3) = true := by
  have h0 := made_ok x0 x1 x2 x3 x4 x5 x6
  have q0 := pickI_bd id 24 (by omega)
  have q1 := pickI_bd y0 4 (by omega)
  have q2 := pickI_bd y1 200 (by omega)
  have q3 := pickI_bd y1 2000 (by omega)
  have q4 := pickI_bd y2 12 (by omega)
  have q5 := pickI_bd y2 4 (by omega)
  have q6 := pickI_bd y2 30 (by omega)
  have q7 := pickI_bd y3 20 (by omega)
  have q8 := pickI_bd y3 9 (by omega)
  have q9 := pickI_bd y3 4 (by omega)
  have qa := pickI_bd y1 60 (by omega)
  have qb := pickI_bd (y0.tdiv 4) 4 (by omega)
  have qc := pickI_bd y2 9 (by omega)
  unfold satP
  generalize madeO x0 x1 x2 x3 x4 x5 x6 = o at h0 ⊢
  simp only [satOK, h0, Bool.true_and, Bool.and_eq_true, inB_iff]
  omega
def noSlack (s : St) : St := { s with orbit := { s.orbit with slack := 0 } }
theorem noSlack_orb {o : Orb} (h : orbOK o = true) : orbOK { o with slack := 0 } = true := by
  simp only [orbOK, Bool.and_eq_true, inB_iff] at h ⊢
  exact ⟨h.1, by omega⟩
theorem noSlack_ok {s : St} (h : satOK s = true) : satOK (noSlack s) = true := by
  obtain ⟨id, ow, o, wi, st, ch, su, idl, sh, se, wa, co, ho, sw, ra⟩ := s
  simp only [satOK, noSlack, Bool.and_eq_true] at h ⊢
  have h1 := h.1.1.1.1.1.1.1.1.1.1.1.1.1.1
  rw [noSlack_orb h1]
  simp only [h1, true_and] at h ⊢
  exact h
theorem noSlack_cells (s : St) : (satCells s).toArray.setIfInBounds 8 (.int .i64 0) = (satCells (noSlack s)).toArray := by simp [satCells, noSlack]
theorem pickI_small {c n : Int} (h : 0 ≤ c ∧ c < n) : pickI c n = c := by
  unfold pickI
  rw [if_neg (by omega)]
  exact Int.emod_eq_of_lt h.1 h.2
theorem satA_ok (i : Nat) (a : A7) (b : A4) : satOK (satA i a b) = true := satP_ok _ _ _ _ _ _ _ _ _ _ _ _
theorem satA_id (i : Nat) (a : A7) (b : A4) (h : i < 3) : (satA i a b).id = 2 * (i : Int) + 1 := pickI_small ⟨by omega, by omega⟩
theorem stnA_ok (i : Nat) (a : A4) : stnOK (stnA i a) = true := stnP_ok _ _ _ _ _
theorem stnA_id (i : Nat) (a : A4) (h : i < 3) : (stnA i a).id = 3 * (i : Int) := pickI_small ⟨by omega, by omega⟩

end Go.Proofs.Ytlmpmhfbjblhnaa
namespace Go.Proofs.Ytlmpmhfbjblhnaa

theorem view_plain {o : Orb} {y : Stn} (ho : orbOK o = true) (hy : stnOK y = true) {t la : Int} (h1 : 0 ≤ t ∧ t ≤ 1000000) (h2 : -10 ≤ la ∧ la ≤ 10) : viewP o y t la = some (plainP o y (t - la)) := by
  have h3 : (inB t 0 1000000 && inB la (-10) 10 && orbOK o) = true := by
    rw [ho, Bool.and_true, Bool.and_eq_true, inB_iff, inB_iff]
    omega
  rw [viewP, atP, if_pos h3]
  dsimp only
  rw [if_pos hy]
  rfl
theorem spells_congr {is is' : Int → Bool} : ∀ (n : Nat) (a : Int), (∀ t, a ≤ t → t < a + n → is t = is' t) → spellsP is a n = spellsP is' a n
  | 0, _, _ => rfl
  | n + 1, a, h => by
    rw [spellsP, spellsP, spells_congr n (a + 1) (fun t h1 h2 => h t (by omega) (by omega)), h a (by omega) (by omega)]
theorem sortP_sorted {α : Type} {lt : α → α → Bool} (l : List α) (hs : Srtd lt l) : sortP lt l = l := by
  suffices h : ∀ (r B : List α), Srtd lt (B ++ r) → r.foldl (insR lt) B = B ++ r by simpa [sortP] using h l [] hs
  intro r
  induction r with
  | nil => intro B _; simp
  | cons x r ih =>
    intro B hB
    have h0 := (srtd_append.1 hB).2.2
    rw [List.foldl_cons, show insR lt B x = B ++ [x] by
      have := insR_stop lt B [] x (fun y hy => h0 y (List.mem_of_getLast? hy) x (by simp)) (fun _ h => by cases h)
      simpa using this]
    rw [ih (B ++ [x]) (by simpa using hB)]
    simp
theorem wider_bd {x span : Spl} {k : Int} (h : 0 ≤ span.fr) : 0 ≤ (widerP x k span).fr := by
  unfold widerP
  dsimp only
  split
  · exact Int.le_refl 0
  · show 0 ≤ max (x.fr - k) span.fr; omega
theorem passOne_lt {s : St} {y : Stn} {span u v : Spl} (hs0 : 0 ≤ s.orbit.slack) (hsp : 0 ≤ span.fr ∧ span.fr < span.tt) (hu : u.fr < u.tt) (huv : u.tt < v.fr) (hv : v.fr < v.tt) (hb : span.fr - s.orbit.slack ≤ u.fr ∧ v.tt ≤ span.tt + s.orbit.slack) : ltOf cmpPas (passOne s y span v) (passOne s y span u) = false := by
  generalize hk : s.orbit.slack = k at hs0 hb
  have hw := wider_bd (x := v) (k := -k) hsp.1
  simp only [ltOf, decide_eq_false_iff_not]
  unfold passOne cmpPas
  rw [hk]
  dsimp only
  have e1 : (widerP u k span).fr = max (u.fr - k) span.fr := by unfold widerP; dsimp only; rw [if_neg (by omega)]
  have e2 : (widerP v k span).fr = max (v.fr - k) span.fr := by unfold widerP; dsimp only; rw [if_neg (by omega)]
  have e3 : (widerP u k span).tt = min (u.tt + k) span.tt := by unfold widerP; dsimp only; rw [if_neg (by omega)]
  have e4 : (widerP v k span).tt = min (v.tt + k) span.tt := by unfold widerP; dsimp only; rw [if_neg (by omega)]
  rw [e1, e2, e3, e4]
  by_cases hc : max (v.fr - k) span.fr = max (u.fr - k) span.fr
  · have e5 : (widerP u (-k) span).fr = 0 := by unfold widerP; dsimp only; rw [if_pos (by omega)]
    rw [e5]
    generalize (widerP v (-k) span).fr = z at hw
    simp only [orI, cmpI]
    repeat' split
    all_goals omega
  · simp only [orI, cmpI]
    repeat' split
    all_goals omega
theorem sp_chain {is : Int → Bool} {e a : Int} {L : List Spl} (h : SpOK is a e L) : ∀ (i j : Nat) (hi : i < L.length) (hj : j < L.length), i < j → L[i].tt < L[j].fr := by
  intro i j hi hj hij
  obtain ⟨d, rfl⟩ : ∃ d, j = i + 1 + d := ⟨j - i - 1, by omega⟩
  induction d with
  | zero => exact sp_next h i hj
  | succ d ih =>
    have h1 := ih (by omega) (by omega)
    have h2 := (sp_get h (i + 1 + d) (by omega)).1
    have h3 := sp_next h (i + 1 + d) hj
    have h4 : L[i + 1 + d].tt < L[i + 1 + (d + 1)].fr := h3
    omega
theorem srtd_of {α : Type} {lt : α → α → Bool} (l : List α) (h : ∀ (i j : Nat) (hi : i < l.length) (hj : j < l.length), i < j → lt l[j] l[i] = false) : Srtd lt l := by
  induction l with
  | nil => trivial
  | cons x r ih =>
    refine ⟨fun y hy => ?_, ih fun i j hi hj hij => h (i + 1) (j + 1) (by simpa using hi) (by simpa using hj) (by omega)⟩
    obtain ⟨j, hj, rfl⟩ := List.mem_iff_getElem.1 hy
    exact h 0 (j + 1) (by simp) (by simpa using hj) (by omega)
/-- The passes of one satellite and one station stand in order. -/
theorem pair_sorted {s : St} {y : Stn} {span : Spl} (hs0 : 0 ≤ s.orbit.slack) (hsp : 0 ≤ span.fr ∧ span.fr < span.tt) : Srtd (ltOf cmpPas) (pairP s span y) := by
  obtain ⟨L, hL⟩ : ∃ L, L = spellsP (plainP s.orbit y) (span.fr - s.orbit.slack) (span.tt - span.fr + 2 * s.orbit.slack).toNat := ⟨_, rfl⟩
  have hok := spells_ok (plainP s.orbit y) (span.tt - span.fr + 2 * s.orbit.slack).toNat (span.fr - s.orbit.slack)
  rw [← hL] at hok
  have he : span.fr - s.orbit.slack + ((span.tt - span.fr + 2 * s.orbit.slack).toNat : Int) = span.tt + s.orbit.slack := by omega
  rw [he] at hok
  unfold pairP
  rw [← hL]
  refine srtd_of _ fun i j hi hj hij => ?_
  rw [List.getElem_map, List.getElem_map]
  simp only [List.length_map] at hi hj
  have h1 := (sp_get hok i hi).1
  have h2 := (sp_get hok j hj).1
  exact passOne_lt hs0 hsp h1.2.1 (sp_chain hok i j hi hj hij) h2.2.1 ⟨h1.1, h2.2.2⟩
/-- Passes of one satellite and one station. -/
theorem passes_one {s : St} {y : Stn} {span : Spl} (hs : satOK s = true) (hy : stnOK y = true) (hsp : spanOK span = true) (hsl : 0 ≤ s.orbit.slack) (hb : 0 ≤ span.fr ∧ span.fr < span.tt) : passesP [s] [y] span = if (pairP s span y).length ≤ 64 then some (pairP s span y) else none := by
  have e : allP [s] [y] span = pairP s span y := by simp [allP]
  have h1 : satsOK [s] = true := by simp [satsOK, listOK, hs]
  have h2 : stnsOK [y] = true := by simp [stnsOK, listOK, hy]
  rw [passesP, e, hsp, h1, h2, sortP_sorted _ (pair_sorted hsl hb)]
  rfl
/-- Without Slack the passes are the contacts. -/
theorem pair_plain {s : St} {y : Stn} {span : Spl} (ho : orbOK s.orbit = true) (hy : stnOK y = true) (hsl : s.orbit.slack = 0) (hb : 0 ≤ span.fr ∧ span.fr < span.tt ∧ span.tt ≤ 1000001) : pairP s span y = (spellsP (fun t => viewP s.orbit y t 0 == some true) span.fr (span.tt - span.fr).toNat).map fun x => ⟨s.id, y.id, x, x⟩ := by
  unfold pairP
  rw [hsl, show span.fr - 0 = span.fr by omega, show span.tt - span.fr + 2 * 0 = span.tt - span.fr by omega]
  rw [spells_congr (is := plainP s.orbit y) (is' := fun t => viewP s.orbit y t 0 == some true) (span.tt - span.fr).toNat span.fr (fun t h1 h2 => by
    rw [view_plain ho hy ⟨by omega, by omega⟩ ⟨by omega, by omega⟩, show t - 0 = t by omega]
    cases plainP s.orbit y t <;> rfl)]
  have hok := spells_ok (fun t => viewP s.orbit y t 0 == some true) (span.tt - span.fr).toNat span.fr
  refine List.map_congr_left fun x hx => ?_
  obtain ⟨i, hi, rfl⟩ := List.mem_iff_getElem.1 hx
  have h1 := (sp_get hok i hi).1
  generalize (spellsP (fun t => viewP s.orbit y t 0 == some true) span.fr (span.tt - span.fr).toNat)[i] = x at h1
  obtain ⟨f, t⟩ := x
  have hw : widerP ⟨f, t⟩ 0 span = ⟨f, t⟩ := by
    unfold widerP
    dsimp only at h1 ⊢
    rw [if_neg (by omega)]
    congr 1 <;> omega
  unfold passOne
  rw [hsl, hw, show -(0 : Int) = 0 from rfl, hw]

end Go.Proofs.Ytlmpmhfbjblhnaa
