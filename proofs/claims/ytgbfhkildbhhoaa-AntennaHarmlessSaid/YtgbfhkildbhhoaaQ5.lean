/- Plain laws of requests: Kuhn's search and Hall's theorem. -/
import Derived.Test.YtgbfhkildbhhoaaQ2
import Derived.Test.YtgbfhkildbhhoaaK4
namespace Go.Proofs.Ytgbfhkildbhhoaa

/-- Owners of passes, but for some passes: edges, no request twice, and exactly these have one. -/
structure Mtch (ps : Nat → List Int) (o : Int → Option Nat) (X : Int → Bool) (D : Nat → Prop) : Prop where
  edge : ∀ p j, X p = false → o p = some j → p ∈ ps j ∧ D j
  one : ∀ p q j, X p = false → X q = false → o p = some j → o q = some j → p = q
  has : ∀ j, D j → ∃ p, X p = false ∧ o p = some j
/-- What a search does. -/
def GSpec (ps : Nat → List Int) (rec : Nat → (Int → Option Nat) → (Int → Bool) → KR) : Prop :=
  ∀ (i : Nat) (o : Int → Option Nat) (t X : Int → Bool) (D : Nat → Prop), (∀ p, X p = true → t p = true) → Mtch ps o X D → ¬ D i → (rec i o t).ok = true → Mtch ps (rec i o t).o X (fun j => D j ∨ j = i) ∧ ∀ p, t p = true → (rec i o t).o p = o p
theorem updO_same (o : Int → Option Nat) (p : Int) (i : Nat) : updO o p i p = some i := by unfold updO; rw [if_pos rfl]
theorem updO_ne (o : Int → Option Nat) {p q : Int} (i : Nat) (h : q ≠ p) : updO o p i q = o q := by unfold updO; rw [if_neg h]
theorem giveL_fail (rec : Nat → (Int → Option Nat) → (Int → Bool) → KR) (hrec : ∀ k o t, (rec k o t).ok = false → (rec k o t).o = o) (i : Nat) : ∀ l o t, (giveL rec i l o t).ok = false → (giveL rec i l o t).o = o
  | [], o, t, _ => by rw [giveL]
  | p :: r, o, t, h => by
    rw [giveL_cons] at h ⊢
    split at h
    · rename_i ht
      rw [if_pos ht]
      exact giveL_fail rec hrec i r o t h
    · rename_i ht
      rw [if_neg ht]
      split at h
      · cases h
      · rename_i k hk
        split at h
        · cases h
        · rename_i hn
          rw [if_neg hn]
          have e := hrec k o (updT t p) (by simpa using hn)
          rw [e] at h ⊢
          exact giveL_fail rec hrec i r o _ h
theorem giveF_fail (ps : Nat → List Int) (f : Nat) : ∀ i o t, (giveF ps f i o t).ok = false → (giveF ps f i o t).o = o := by
  induction f with
  | zero => intro i o t _; rfl
  | succ f ih => intro i o t h; rw [giveF] at h ⊢; exact giveL_fail _ (fun k o t h => ih k o t h) i _ o t h
theorem giveL_ok (ps : Nat → List Int) (rec : Nat → (Int → Option Nat) → (Int → Bool) → KR) (hs : GSpec ps rec) (hm : ∀ k o t p, t p = true → (rec k o t).t p = true) (hf : ∀ k o t, (rec k o t).ok = false → (rec k o t).o = o) (i : Nat) :
    ∀ l, (∀ p ∈ l, p ∈ ps i) → ∀ (o : Int → Option Nat) (t X : Int → Bool) (D : Nat → Prop), (∀ p, X p = true → t p = true) → Mtch ps o X D → ¬ D i → (giveL rec i l o t).ok = true → Mtch ps (giveL rec i l o t).o X (fun j => D j ∨ j = i) ∧ ∀ p, t p = true → (giveL rec i l o t).o p = o p
  | [], _, o, t, X, D, _, _, _, h => by rw [giveL] at h; cases h
  | p :: r, hl, o, t, X, D, hX, hM, hD, h => by
    have hlr : ∀ q ∈ r, q ∈ ps i := fun q hq => hl q (List.mem_cons_of_mem _ hq)
    rw [giveL_cons] at h ⊢
    split at h
    · rename_i ht
      rw [if_pos ht]
      exact giveL_ok ps rec hs hm hf i r hlr o t X D hX hM hD h
    · rename_i ht
      rw [if_neg ht]
      have hXp : X p = false := by
        cases hx : X p
        · rfl
        · exact absurd (hX p hx) ht
      split at h
      · rename_i hp
        dsimp only
        refine ⟨⟨fun q j hq hj => ?_, fun q q' j hq hq' hj hj' => ?_, fun j hj => ?_⟩, fun q hq => ?_⟩
        · by_cases hqp : q = p
          · subst hqp
            rw [updO_same] at hj
            injection hj with hj
            subst hj
            exact ⟨hl q List.mem_cons_self, .inr rfl⟩
          · rw [updO_ne o i hqp] at hj
            exact ⟨(hM.edge q j hq hj).1, .inl (hM.edge q j hq hj).2⟩
        · by_cases hqp : q = p
          · by_cases hqp' : q' = p
            · rw [hqp, hqp']
            · exfalso
              rw [hqp, updO_same] at hj
              injection hj with hj
              rw [updO_ne o i hqp', ← hj] at hj'
              exact hD (hM.edge q' i hq' hj').2
          · by_cases hqp' : q' = p
            · exfalso
              rw [hqp', updO_same] at hj'
              injection hj' with hj'
              rw [updO_ne o i hqp, ← hj'] at hj
              exact hD (hM.edge q i hq hj).2
            · rw [updO_ne o i hqp] at hj
              rw [updO_ne o i hqp'] at hj'
              exact hM.one q q' j hq hq' hj hj'
        · rcases hj with hj | rfl
          · obtain ⟨q, hq, hqj⟩ := hM.has j hj
            refine ⟨q, hq, ?_⟩
            rw [updO_ne o i (fun e => by rw [e, hp] at hqj; cases hqj)]
            exact hqj
          · exact ⟨p, hXp, updO_same _ _ _⟩
        · have hqp : q ≠ p := fun e => ht (by rw [← e]; exact hq)
          exact updO_ne o i hqp
      · rename_i k hk
        have hkp := hM.edge p k hXp hk
        have hX' : ∀ q, (X q || decide (q = p)) = false ↔ X q = false ∧ q ≠ p := fun q => by simp
        have hM' : Mtch ps o (fun q => X q || decide (q = p)) (fun j => D j ∧ j ≠ k) := by
          refine ⟨fun q j hq hj => ?_, fun q q' j hq hq' hj hj' => ?_, fun j hj => ?_⟩
          · obtain ⟨h1, h2⟩ := (hX' q).1 hq
            obtain ⟨e1, e2⟩ := hM.edge q j h1 hj
            exact ⟨e1, e2, fun e => h2 (hM.one q p j h1 hXp hj (by rw [hk, e]))⟩
          · exact hM.one q q' j ((hX' q).1 hq).1 ((hX' q').1 hq').1 hj hj'
          · obtain ⟨q, hq, hqj⟩ := hM.has j hj.1
            refine ⟨q, (hX' q).2 ⟨hq, fun e => ?_⟩, hqj⟩
            rw [e, hk] at hqj
            injection hqj with hqj
            exact hj.2 hqj.symm
        have hXt : ∀ q, (X q || decide (q = p)) = true → updT t p q = true := fun q hq => by
          rw [Bool.or_eq_true, decide_eq_true_eq] at hq
          rcases hq with hq | rfl
          · exact updT_mono _ _ _ (hX q hq)
          · unfold updT; rw [if_pos rfl]
        have hS := hs k o (updT t p) (fun q => X q || decide (q = p)) (fun j => D j ∧ j ≠ k) hXt hM' (fun e => e.2 rfl)
        split at h
        · rename_i hok
          rw [if_pos hok]
          obtain ⟨hN, hkeep⟩ := hS hok
          generalize (rec k o (updT t p)).o = o1 at hN hkeep ⊢
          dsimp only
          refine ⟨⟨fun q j hq hj => ?_, fun q q' j hq hq' hj hj' => ?_, fun j hj => ?_⟩, fun q hq => ?_⟩
          · by_cases hqp : q = p
            · subst hqp
              rw [updO_same] at hj
              injection hj with hj
              subst hj
              exact ⟨hl q List.mem_cons_self, .inr rfl⟩
            · rw [updO_ne o1 i hqp] at hj
              obtain ⟨e1, e2⟩ := hN.edge q j ((hX' q).2 ⟨hq, hqp⟩) hj
              refine ⟨e1, .inl ?_⟩
              rcases e2 with e2 | rfl
              · exact e2.1
              · exact hkp.2
          · by_cases hqp : q = p
            · by_cases hqp' : q' = p
              · rw [hqp, hqp']
              · exfalso
                rw [hqp, updO_same] at hj
                injection hj with hj
                rw [updO_ne o1 i hqp', ← hj] at hj'
                rcases (hN.edge q' i ((hX' q').2 ⟨hq', hqp'⟩) hj').2 with e2 | e2
                · exact hD e2.1
                · exact hD (e2 ▸ hkp.2)
            · by_cases hqp' : q' = p
              · exfalso
                rw [hqp', updO_same] at hj'
                injection hj' with hj'
                rw [updO_ne o1 i hqp, ← hj'] at hj
                rcases (hN.edge q i ((hX' q).2 ⟨hq, hqp⟩) hj).2 with e2 | e2
                · exact hD e2.1
                · exact hD (e2 ▸ hkp.2)
              · rw [updO_ne o1 i hqp] at hj
                rw [updO_ne o1 i hqp'] at hj'
                exact hN.one q q' j ((hX' q).2 ⟨hq, hqp⟩) ((hX' q').2 ⟨hq', hqp'⟩) hj hj'
          · rcases hj with hj | rfl
            · obtain ⟨q, hq, hqj⟩ := hN.has j (by
                by_cases hjk : j = k
                · exact .inr hjk
                · exact .inl ⟨hj, hjk⟩)
              obtain ⟨h1, h2⟩ := (hX' q).1 hq
              exact ⟨q, h1, by rw [updO_ne o1 i h2]; exact hqj⟩
            · exact ⟨p, hXp, updO_same _ _ _⟩
          · have hqp : q ≠ p := fun e => ht (by rw [← e]; exact hq)
            rw [updO_ne o1 i hqp]
            exact hkeep q (updT_mono _ _ _ hq)
        · rename_i hok
          rw [if_neg hok]
          have e := hf k o (updT t p) (by simpa using hok)
          have hmt : ∀ q, t q = true → (rec k o (updT t p)).t q = true := fun q hq => hm _ _ _ q (updT_mono _ _ _ hq)
          rw [e] at h ⊢
          obtain ⟨r1, r2⟩ := giveL_ok ps rec hs hm hf i r hlr o _ X D (fun q hq => hmt q (hX q hq)) hM hD h
          exact ⟨r1, fun q hq => r2 q (hmt q hq)⟩
theorem giveF_ok (ps : Nat → List Int) (f : Nat) : GSpec ps (giveF ps f) := by
  induction f with
  | zero => intro i o t X D _ _ _ h; cases h
  | succ f ih =>
    intro i o t X D hX hM hD h
    rw [giveF] at h ⊢
    exact giveL_ok ps _ ih (giveF_mono ps f) (giveF_fail ps f) i _ (fun p hp => hp) o t X D hX hM hD h
/-- Where a search fails, what it tried is closed. -/
def Clsd (ps : Nat → List Int) (o : Int → Option Nat) (t' : Int → Bool) (p : Int) : Prop := ∃ k, o p = some k ∧ ∀ q ∈ ps k, t' q = true
theorem Clsd.mono {ps : Nat → List Int} {o : Int → Option Nat} {t t' : Int → Bool} {p : Int} (h : Clsd ps o t p) (ht : ∀ q, t q = true → t' q = true) : Clsd ps o t' p := by
  obtain ⟨k, h1, h2⟩ := h
  exact ⟨k, h1, fun q hq => ht q (h2 q hq)⟩
theorem giveL_closed (ps : Nat → List Int) (N f : Nat) (hps : ∀ j, j < N → ∀ p ∈ ps j, 0 ≤ p ∧ p ≤ 63) (i : Nat)
    (hr : ∀ k o t, k < N → (∀ p j, o p = some j → j < N) → unt t < f → (giveF ps f k o t).ok = false → (∀ p ∈ ps k, (giveF ps f k o t).t p = true) ∧ ∀ p, (giveF ps f k o t).t p = true → t p = true ∨ Clsd ps o (giveF ps f k o t).t p) :
    ∀ l, (∀ p ∈ l, 0 ≤ p ∧ p ≤ 63) → ∀ o t, (∀ p j, o p = some j → j < N) → unt t < f + 1 → (giveL (giveF ps f) i l o t).ok = false → (∀ p ∈ l, (giveL (giveF ps f) i l o t).t p = true) ∧ ∀ p, (giveL (giveF ps f) i l o t).t p = true → t p = true ∨ Clsd ps o (giveL (giveF ps f) i l o t).t p
  | [], _, o, t, _, _, _ => by rw [giveL]; exact ⟨fun p hp => absurd hp (by simp), fun p hp => .inl hp⟩
  | p :: r, hl, o, t, ho, hu, h => by
    have hlr : ∀ q ∈ r, 0 ≤ q ∧ q ≤ 63 := fun q hq => hl q (List.mem_cons_of_mem _ hq)
    have hmono := giveL_mono (giveF ps f) i (fun k o t p h => giveF_mono ps f k o t p h)
    rw [giveL_cons] at h ⊢
    split at h
    · rename_i ht
      rw [if_pos ht]
      obtain ⟨h1, h2⟩ := giveL_closed ps N f hps i hr r hlr o t ho hu h
      refine ⟨fun q hq => ?_, h2⟩
      rcases List.mem_cons.1 hq with rfl | hq
      · exact hmono q r o t ht
      · exact h1 q hq
    · rename_i ht
      rw [if_neg ht]
      split at h
      · cases h
      · rename_i k hk
        split at h
        · cases h
        · rename_i hok
          rw [if_neg hok]
          have hok' : (giveF ps f k o (updT t p)).ok = false := by simpa using hok
          have hp := hl p List.mem_cons_self
          have hut : unt (updT t p) < f := by have := unt_upd (t := t) (p := p) (by simpa using ht) hp.1 hp.2; omega
          obtain ⟨a1, a2⟩ := hr k o (updT t p) (ho p k hk) ho hut hok'
          have e := giveF_fail ps f k o (updT t p) hok'
          have hm1 := giveF_mono ps f k o (updT t p)
          rw [e] at h ⊢
          generalize (giveF ps f k o (updT t p)).t = t1 at a1 a2 h hm1
          have hu1 : unt t1 < f + 1 := by
            have := unt_le (t := updT t p) (t' := t1) hm1
            omega
          obtain ⟨b1, b2⟩ := giveL_closed ps N f hps i hr r hlr o t1 ho hu1 h
          have hm2 : ∀ q, t1 q = true → (giveL (giveF ps f) i r o t1).t q = true := fun q hq => hmono q r o t1 hq
          have hpc : Clsd ps o (giveL (giveF ps f) i r o t1).t p := ⟨k, hk, fun q hq => hm2 q (a1 q hq)⟩
          refine ⟨fun q hq => ?_, fun q hq => ?_⟩
          · rcases List.mem_cons.1 hq with rfl | hq
            · exact hm2 q (hm1 q (by unfold updT; rw [if_pos rfl]))
            · exact b1 q hq
          · rcases b2 q hq with h3 | h3
            · rcases a2 q h3 with h4 | h4
              · by_cases hqp : q = p
                · rw [hqp]; exact .inr hpc
                · unfold updT at h4
                  rw [if_neg hqp] at h4
                  exact .inl h4
              · exact .inr (h4.mono hm2)
            · exact .inr h3
theorem giveF_closed (ps : Nat → List Int) (N : Nat) (hps : ∀ j, j < N → ∀ p ∈ ps j, 0 ≤ p ∧ p ≤ 63) (f : Nat) : ∀ k o t, k < N → (∀ p j, o p = some j → j < N) → unt t < f → (giveF ps f k o t).ok = false → (∀ p ∈ ps k, (giveF ps f k o t).t p = true) ∧ ∀ p, (giveF ps f k o t).t p = true → t p = true ∨ Clsd ps o (giveF ps f k o t).t p := by
  induction f with
  | zero => intro k o t _ _ h; omega
  | succ f ih =>
    intro k o t hk ho hu h
    rw [giveF] at h ⊢
    exact giveL_closed ps N f hps k ih (ps k) (hps k hk) o t ho hu h
/-- Requests with fewer passes together than they are. -/
def Viol (ps : Nat → List Int) (D : Nat → Prop) : Prop := ∃ (V : List Nat) (T : List Int), V.Nodup ∧ (∀ v ∈ V, D v) ∧ (∀ v ∈ V, ∀ p ∈ ps v, p ∈ T) ∧ T.length < V.length
def noX : Int → Bool := fun _ => false
theorem viol_not (ps : Nat → List Int) (D : Nat → Prop) (hv : Viol ps D) : ¬ ∃ o, Mtch ps o noX D := by
  rintro ⟨o, hM⟩
  obtain ⟨V, T, h1, h2, h3, h4⟩ := hv
  have hsub : ∀ v ∈ V, v ∈ T.map (fun p => (o p).getD 0) := fun v hv => by
    obtain ⟨p, hp, e⟩ := hM.has v (h2 v hv)
    exact List.mem_map.2 ⟨p, h3 v hv p (hM.edge p v hp e).1, by rw [e]; rfl⟩
  have := nodup_sub_len V _ h1 hsub
  rw [List.length_map] at this
  omega
theorem give_viol (ps : Nat → List Int) (N : Nat) (hps : ∀ j, j < N → ∀ p ∈ ps j, 0 ≤ p ∧ p ≤ 63) (i : Nat) (hi : i < N) (o : Int → Option Nat) (D : Nat → Prop) (hD : ∀ j, D j → j < N) (hM : Mtch ps o noX D) (hni : ¬ D i) (h : (giveF ps 65 i o (fun _ => false)).ok = false) : Viol ps (fun j => D j ∨ j = i) := by
  obtain ⟨h1, h2⟩ := giveF_closed ps N hps 65 i o (fun _ => false) hi (fun p j e => hD j (hM.edge p j rfl e).2) (by decide) h
  generalize (giveF ps 65 i o (fun _ => false)).t = t at h1 h2
  have hcl : ∀ p, t p = true → Clsd ps o t p := fun p hp => by
    rcases h2 p hp with h3 | h3
    · cases h3
    · exact h3
  obtain ⟨TL, hTL⟩ : ∃ TL : List Int, TL = ((List.range 64).filter (fun q : Nat => t (q : Int))).map (fun q : Nat => (q : Int)) := ⟨_, rfl⟩
  have hmT : ∀ p, p ∈ TL ↔ t p = true := fun p => by
    rw [hTL, List.mem_map]
    constructor
    · rintro ⟨q, hq, rfl⟩
      exact (List.mem_filter.1 hq).2
    · intro hp
      obtain ⟨k, hk, _⟩ := hcl p hp
      obtain ⟨e1, e2⟩ := hM.edge p k rfl hk
      have hb := hps k (hD k e2) p e1
      refine ⟨p.toNat, List.mem_filter.2 ⟨List.mem_range.2 (by omega), ?_⟩, by omega⟩
      rw [Int.toNat_of_nonneg hb.1]
      exact hp
  have hTn : TL.Nodup := by
    rw [hTL, List.nodup_iff_pairwise_ne, List.pairwise_map]
    exact (List.nodup_iff_pairwise_ne.1 (List.nodup_range.filter _)).imp fun hab e => hab (by omega)
  have how : ∀ p ∈ TL, ∃ k, o p = some k ∧ D k ∧ ∀ q ∈ ps k, q ∈ TL := fun p hp => by
    obtain ⟨k, hk, hq⟩ := hcl p ((hmT p).1 hp)
    exact ⟨k, hk, (hM.edge p k rfl hk).2, fun q hq' => (hmT q).2 (hq q hq')⟩
  refine ⟨i :: TL.map (fun p => (o p).getD 0), TL, ?_, fun v hv => ?_, fun v hv p hp => ?_, by simp⟩
  · rw [List.nodup_cons]
    refine ⟨fun hm => ?_, ?_⟩
    · obtain ⟨p, hp, e⟩ := List.mem_map.1 hm
      obtain ⟨k, hk, hDk, _⟩ := how p hp
      rw [hk] at e
      exact hni (by rw [← e]; exact hDk)
    · rw [List.nodup_iff_pairwise_ne, List.pairwise_map]
      refine List.Pairwise.imp_of_mem (fun {a b} ha hb hab e => hab ?_) (List.nodup_iff_pairwise_ne.1 hTn)
      obtain ⟨k, hk, _⟩ := how a ha
      obtain ⟨k', hk', _⟩ := how b hb
      rw [hk, hk'] at e
      have : k = k' := e
      subst this
      exact hM.one a b k rfl rfl hk hk'
  · rcases List.mem_cons.1 hv with rfl | hv
    · exact .inr rfl
    · obtain ⟨p, hp, rfl⟩ := List.mem_map.1 hv
      obtain ⟨k, hk, hDk, _⟩ := how p hp
      rw [hk]
      exact .inl hDk
  · rcases List.mem_cons.1 hv with rfl | hv
    · exact (hmT p).2 (h1 p hp)
    · obtain ⟨p', hp', rfl⟩ := List.mem_map.1 hv
      obtain ⟨k, hk, _, hq⟩ := how p' hp'
      rw [hk] at hp
      exact hq p hp
theorem Viol.mono {ps : Nat → List Int} {D D' : Nat → Prop} (h : Viol ps D) (hs : ∀ j, D j → D' j) : Viol ps D' := by
  obtain ⟨V, T, h1, h2, h3, h4⟩ := h
  exact ⟨V, T, h1, fun v hv => hs v (h2 v hv), h3, h4⟩
theorem Mtch.congr {ps : Nat → List Int} {o : Int → Option Nat} {X : Int → Bool} {D D' : Nat → Prop} (h : Mtch ps o X D) (hs : ∀ j, D j ↔ D' j) : Mtch ps o X D' :=
  ⟨fun p j hp e => ⟨(h.edge p j hp e).1, (hs j).1 (h.edge p j hp e).2⟩, h.one, fun j hj => h.has j ((hs j).2 hj)⟩
/-- The requests of a set. -/
def inS (n S : Nat) : Nat → Prop := fun j => j < n ∧ bitP S j = true
theorem fits_hall (ps : Nat → List Int) (n S : Nat) (hps : ∀ j, j < n → ∀ p ∈ ps j, 0 ≤ p ∧ p ≤ 63) : (fitsP ps n S = true → ∃ o, Mtch ps o noX (inS n S)) ∧ (fitsP ps n S = false → Viol ps (inS n S)) := by
  have key : ∀ (m : Nat), m ≤ n → ∀ o, Mtch ps o noX (fun j => j < n - m ∧ bitP S j = true) → (fitsR ps S ((List.range n).drop (n - m)) o = true → ∃ o, Mtch ps o noX (inS n S)) ∧ (fitsR ps S ((List.range n).drop (n - m)) o = false → Viol ps (inS n S)) := by
    intro m
    induction m with
    | zero =>
      intro _ o hM
      rw [Nat.sub_zero, List.drop_of_length_le (by rw [List.length_range]; omega), fitsR]
      exact ⟨fun _ => ⟨o, hM⟩, fun h => by cases h⟩
    | succ m ih =>
      intro hm o hM
      have hk : n - (m + 1) < (List.range n).length := by rw [List.length_range]; omega
      rw [List.drop_eq_getElem_cons hk, List.getElem_range, fitsR_cons, show n - (m + 1) + 1 = n - m by omega]
      obtain ⟨k, hkd⟩ : ∃ k, k = n - (m + 1) := ⟨_, rfl⟩
      rw [← hkd] at hM ⊢
      have hnm : n - m = k + 1 := by omega
      have hni : ¬ (k < k ∧ bitP S k = true) := by omega
      cases hb : bitP S k
      · rw [if_neg (by simp)]
        refine ih (by omega) o (hM.congr fun j => ?_)
        rw [hnm]
        constructor
        · rintro ⟨h1, h2⟩; exact ⟨by omega, h2⟩
        · rintro ⟨h1, h2⟩
          refine ⟨?_, h2⟩
          rcases Nat.lt_or_ge j k with h | h
          · exact h
          · have : j = k := by omega
            rw [this, hb] at h2; cases h2
      · rw [if_pos rfl]
        have hiff : ∀ j, ((j < k ∧ bitP S j = true) ∨ j = k) ↔ (j < n - m ∧ bitP S j = true) := fun j => by
          rw [hnm]
          constructor
          · rintro (⟨h1, h2⟩ | rfl)
            · exact ⟨by omega, h2⟩
            · exact ⟨by omega, hb⟩
          · rintro ⟨h1, h2⟩
            rcases Nat.lt_or_ge j k with h | h
            · exact .inl ⟨h, h2⟩
            · exact .inr (by omega)
        cases hg : (giveF ps 65 k o (fun _ => false)).ok
        · rw [if_neg (by simp)]
          refine ⟨fun h => (by cases h), fun _ => ?_⟩
          have hv := give_viol ps n hps k (by omega) o _ (fun j hj => by omega) hM hni hg
          exact hv.mono fun j hj => by
            obtain ⟨h1, h2⟩ := (hiff j).1 hj
            exact ⟨by omega, h2⟩
        · rw [if_pos rfl]
          obtain ⟨hN, _⟩ := giveF_ok ps 65 k o (fun _ => false) noX _ (fun p hp => by cases hp) hM hni hg
          exact ih (by omega) _ (hN.congr hiff)
  have h0 := key n (Nat.le_refl _) (fun _ => none) ⟨fun p j _ e => (by cases e), fun p q j _ _ e => (by cases e), fun j hj => (by omega)⟩
  rw [Nat.sub_self] at h0
  exact h0
/-- All fit exactly if passes can be had. -/
theorem fits_iff (ps : Nat → List Int) (n S : Nat) (hps : ∀ j, j < n → ∀ p ∈ ps j, 0 ≤ p ∧ p ≤ 63) : fitsP ps n S = true ↔ ∃ o, Mtch ps o noX (inS n S) := by
  obtain ⟨h1, h2⟩ := fits_hall ps n S hps
  refine ⟨h1, fun h => ?_⟩
  cases hf : fitsP ps n S
  · exact absurd h (viol_not ps _ (h2 hf))
  · rfl
end Go.Proofs.Ytgbfhkildbhhoaa
