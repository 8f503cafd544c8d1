/- Plain laws of requests: what Fit returns is right; a further pass, and a request less, do no harm. -/
import Derived.Test.YtgbfhkildbhhoaaQ5
namespace Go.Proofs.Ytgbfhkildbhhoaa

theorem Mtch.part {ps : Nat → List Int} {o : Int → Option Nat} {D D' : Nat → Prop} (h : Mtch ps o noX D) (hs : ∀ j, D' j → D j) : ∃ o', Mtch ps o' noX D' := by
  classical
  refine ⟨fun p => match o p with | some j => if D' j then some j else none | none => none, ?_⟩
  have key : ∀ p j, (match o p with | some j => if D' j then some j else none | none => none) = some j → o p = some j ∧ D' j := by
    intro p j e
    split at e
    · rename_i k hk
      split at e
      · rename_i hd
        injection e with e
        subst e
        exact ⟨hk, hd⟩
      · cases e
    · cases e
  refine ⟨fun p j hp e => ?_, fun p q j hp hq e e' => ?_, fun j hj => ?_⟩
  · obtain ⟨h1, h2⟩ := key p j e
    exact ⟨(h.edge p j hp h1).1, h2⟩
  · exact h.one p q j hp hq (key p j e).1 (key q j e').1
  · obtain ⟨p, hp, e⟩ := h.has j (hs j hj)
    refine ⟨p, hp, ?_⟩
    rw [e]
    exact if_pos hj
theorem fits_mono (ps : Nat → List Int) (n S T : Nat) (hps : ∀ j, j < n → ∀ p ∈ ps j, 0 ≤ p ∧ p ≤ 63) (h : fitsP ps n S = true) (hs : ∀ j, bitP T j = true → bitP S j = true) : fitsP ps n T = true := by
  obtain ⟨o, hM⟩ := (fits_iff ps n S hps).1 h
  exact (fits_iff ps n T hps).2 (hM.part fun j hj => ⟨hj.1, hs j hj.2⟩)
theorem full_bit (n j : Nat) : bitP (2 ^ n - 1) j = decide (j < n) := by rw [bitP_test, Nat.testBit_two_pow_sub_one]
theorem fitStep_spec (rs : List Req) (n : Nat) (out : List Int) : ∀ l, (∃ p ∈ l, fitsP (psP rs (out ++ [p])) n (2 ^ n - 1) = true) → ∃ p ∈ l, fitStep rs n out l = out ++ [p] ∧ fitsP (psP rs (out ++ [p])) n (2 ^ n - 1) = true
  | [], h => by obtain ⟨p, hp, _⟩ := h; cases hp
  | p :: r, h => by
    rw [fitStep_cons]
    split
    · rename_i hp
      exact ⟨p, List.mem_cons_self, rfl, hp⟩
    · rename_i hp
      obtain ⟨q, hq, hf⟩ := h
      rcases List.mem_cons.1 hq with rfl | hq
      · exact absurd hf hp
      · obtain ⟨x, hx, h1, h2⟩ := fitStep_spec rs n out r ⟨q, hq, hf⟩
        exact ⟨x, List.mem_cons_of_mem _ hx, h1, h2⟩
theorem psP_lt (rs : List Req) (os : List Int) (j : Nat) (h : j < os.length) : psP rs os j = [os[j]] := by
  rw [psP, if_pos h, List.getD_eq_getElem?_getD, List.getElem?_eq_getElem h]; rfl
theorem psP_ge (rs : List Req) (os : List Int) (j : Nat) (h : os.length ≤ j) : psP rs os j = psP rs [] j := by
  unfold psP
  rw [if_neg (by omega), if_neg (by simp)]
theorem psP_nil (rs : List Req) (j : Nat) (h : j < rs.length) : psP rs [] j = rs[j].l := by
  rw [psP, if_neg (by simp), List.getElem?_eq_getElem h]
/-- One pass more is chosen. -/
theorem fit_next (rs : List Req) (hr : rightP rs = true) (out : List Int) (k : Nat) (hk : k < rs.length) (ho : out.length = k) (hb : ∀ p ∈ out, 0 ≤ p ∧ p ≤ 63) (hf : fitsP (psP rs out) rs.length (2 ^ rs.length - 1) = true) :
    ∃ p ∈ rs[k].l, fitStep rs rs.length out rs[k].l = out ++ [p] ∧ fitsP (psP rs (out ++ [p])) rs.length (2 ^ rs.length - 1) = true := by
  refine fitStep_spec rs _ out _ ?_
  obtain ⟨o, hM⟩ := (fits_iff _ _ _ (rightP_ps hr hb)).1 hf
  obtain ⟨p, hp, e⟩ := hM.has k ⟨hk, by rw [full_bit]; simpa using hk⟩
  have hpe := (hM.edge p k hp e).1
  rw [psP_ge rs out k (by omega), psP_nil rs k hk] at hpe
  have hpb := rightP_ps (os := []) hr (fun p hp => by cases hp) k hk p (by rw [psP_nil rs k hk]; exact hpe)
  refine ⟨p, hpe, (fits_iff _ _ _ (rightP_ps hr fun q hq => ?_)).2 ⟨o, ⟨fun q j hq hj => ?_, hM.one, hM.has⟩⟩⟩
  · rcases List.mem_append.1 hq with hq | hq
    · exact hb q hq
    · rw [List.mem_singleton.1 hq]; exact hpb
  · obtain ⟨h1, h2⟩ := hM.edge q j hq hj
    refine ⟨?_, h2⟩
    rcases Nat.lt_trichotomy j k with h | h | h
    · rw [psP_lt rs out j (by omega)] at h1
      rw [psP_lt rs (out ++ [p]) j (by simp; omega), List.getElem_append_left (by omega)]
      exact h1
    · subst h
      have := hM.one q p j hq hp hj e
      subst this
      rw [psP_lt rs (out ++ [q]) j (by simp; omega), List.getElem_append_right (by omega)]
      simp [ho]
    · rw [psP_ge rs out j (by omega)] at h1
      rw [psP_ge rs (out ++ [p]) j (by simp; omega)]
      exact h1
theorem fitOut_good (rs : List Req) (hr : rightP rs = true) (hf : fitsN rs rs.length (2 ^ rs.length - 1) = true) :
    (fitOut rs rs.length).length = rs.length ∧ (∀ i (h : i < rs.length), (fitOut rs rs.length).getD i 0 ∈ rs[i].l) ∧ ∀ i k, i < rs.length → k < i → (fitOut rs rs.length).getD k 0 ≠ (fitOut rs rs.length).getD i 0 := by
  have key : ∀ k, k ≤ rs.length → ∃ out, out = (rs.take k).foldl (fun out r => fitStep rs rs.length out r.l) [] ∧ out.length = k ∧ (∀ i (h : i < out.length) (h' : i < rs.length), out[i] ∈ rs[i].l) ∧ fitsP (psP rs out) rs.length (2 ^ rs.length - 1) = true := by
    intro k
    induction k with
    | zero => exact fun _ => ⟨[], rfl, rfl, fun i h => absurd h (by simp), hf⟩
    | succ k ih =>
      intro hk
      obtain ⟨out, h1, h2, h3, h4⟩ := ih (by omega)
      have hb : ∀ p ∈ out, 0 ≤ p ∧ p ≤ 63 := fun p hp => by
        obtain ⟨i, hi, rfl⟩ := List.mem_iff_getElem.1 hp
        have := h3 i hi (by omega)
        exact rightP_ps (os := []) hr (fun p hp => by cases hp) i (by omega) _ (by rw [psP_nil rs i (by omega)]; exact this)
      obtain ⟨p, hp, h5, h6⟩ := fit_next rs hr out k (by omega) h2 hb h4
      refine ⟨out ++ [p], ?_, by simp [h2], fun i hi hi' => ?_, h6⟩
      · rw [List.take_succ_eq_append_getElem (by omega), List.foldl_append, ← h1]
        exact h5.symm
      · by_cases hik : i < out.length
        · rw [List.getElem_append_left hik]; exact h3 i hik hi'
        · have : i = k := by simp at hi; omega
          subst this
          rw [List.getElem_append_right (by omega)]
          simpa [h2] using hp
  obtain ⟨out, h1, h2, h3, h4⟩ := key rs.length (Nat.le_refl _)
  rw [List.take_length] at h1
  have he : fitOut rs rs.length = out := h1.symm
  rw [he]
  have hb : ∀ p ∈ out, 0 ≤ p ∧ p ≤ 63 := fun p hp => by
    obtain ⟨i, hi, rfl⟩ := List.mem_iff_getElem.1 hp
    have := h3 i hi (by omega)
    exact rightP_ps (os := []) hr (fun p hp => by cases hp) i (by omega) _ (by rw [psP_nil rs i (by omega)]; exact this)
  obtain ⟨o, hM⟩ := (fits_iff _ _ _ (rightP_ps hr hb)).1 h4
  have hown : ∀ i (h : i < out.length), o out[i] = some i := fun i h => by
    obtain ⟨p, hp, e⟩ := hM.has i ⟨by omega, by rw [full_bit]; simp; omega⟩
    have := (hM.edge p i hp e).1
    rw [psP_lt rs out i h] at this
    rw [← List.mem_singleton.1 this]
    exact e
  have hg : ∀ i (h : i < out.length), out.getD i 0 = out[i] := fun i h => by
    rw [List.getD_eq_getElem?_getD, List.getElem?_eq_getElem h]; rfl
  refine ⟨h2, fun i h => by rw [hg i (by omega)]; exact h3 i (by omega) h, fun i k hi hk e => ?_⟩
  rw [hg i (by omega), hg k (by omega)] at e
  have e1 := hown i (by omega)
  have e2 := hown k (by omega)
  rw [e, e1] at e2
  injection e2 with e2
  omega

theorem up_spec (f : Nat → Bool) : ∀ m k, f (2 ^ (k + m) - 1) = false → f (2 ^ upP f m k - 1) = false ∧ upP f m k ≤ k + m
  | 0, k, h => by rw [upP]; exact ⟨h, by omega⟩
  | m + 1, k, h => by
    rw [upP]
    split
    · rename_i hk
      have := up_spec f m (k + 1) (by rw [show k + 1 + m = k + (m + 1) by omega]; exact h)
      exact ⟨this.1, by omega⟩
    · rename_i hk
      exact ⟨by simpa using hk, by omega⟩
theorem down_spec (f : Nat → Bool) (hmono : ∀ S T, f S = true → (∀ j, bitP T j = true → bitP S j = true) → f T = true) : ∀ i S, i ≤ 63 → S < 2 ^ 64 → f S = false → f (downP f i S) = false ∧ (∀ j, bitP (downP f i S) j = true → bitP S j = true) ∧ downP f i S < 2 ^ 64 ∧ ∀ j, j < i → bitP (downP f i S) j = true → f (clrP (downP f i S) j) = true
  | 0, S, _, hS, h => by rw [downP]; exact ⟨h, fun _ h => h, hS, fun j hj => by omega⟩
  | i + 1, S, hi, hS, h => by
    rw [downP]
    by_cases hc : (bitP S i && !f (clrP S i)) = true
    · rw [if_pos hc]
      rw [Bool.and_eq_true, Bool.not_eq_true'] at hc
      have hle := clrP_le S i
      obtain ⟨a1, a2, a3, a4⟩ := down_spec f hmono i (clrP S i) (by omega) (by omega) hc.2
      have hsub : ∀ j, bitP (clrP S i) j = true → bitP S j = true ∧ ¬ i = j := fun j hj => by
        rw [clrP_bit S i j (by omega) hS] at hj
        simpa using hj
      refine ⟨a1, fun j hj => (hsub j (a2 j hj)).1, a3, fun j hj hb => ?_⟩
      have := (hsub j (a2 j hb)).2
      exact a4 j (by omega) hb
    · rw [if_neg hc]
      obtain ⟨a1, a2, a3, a4⟩ := down_spec f hmono i S (by omega) hS h
      refine ⟨a1, a2, a3, fun j hj hb => ?_⟩
      by_cases hji : j = i
      · subst hji
        have hbS := a2 j hb
        have hfS : f (clrP S j) = true := by
          rw [hbS] at hc
          simpa using hc
        refine hmono _ _ hfS fun k hk => ?_
        rw [clrP_bit _ j k (by omega) a3] at hk
        rw [clrP_bit S j k (by omega) hS]
        simp only [Bool.and_eq_true] at hk ⊢
        exact ⟨a2 k hk.1, hk.2⟩
      · exact a4 j (by omega) hb
theorem bitsP_filter (S : Nat) (l : List Nat) : bitsP S l = l.filter (fun j => bitP S j) := by
  induction l with
  | nil => rfl
  | cons x r ih => rw [bitsP, ih, List.filter_cons]
/-- Requests that lack passes. -/
theorem lack_good (rs : List Req) (hr : rightP rs = true) (hf : fitsN rs rs.length (2 ^ rs.length - 1) = false) :
    (bitsP (lackP rs rs.length) (List.range rs.length)).Pairwise (· < ·) ∧ (∀ v ∈ bitsP (lackP rs rs.length) (List.range rs.length), v < rs.length) ∧ ∃ T : List Int, (∀ v ∈ bitsP (lackP rs rs.length) (List.range rs.length), ∀ p ∈ psP rs [] v, p ∈ T) ∧ T.length < (bitsP (lackP rs rs.length) (List.range rs.length)).length := by
  have hps := rightP_ps (os := []) hr (fun p hp => by cases hp)
  have hlen := rightP_len hr
  have hn : 1 ≤ rs.length := by
    rcases Nat.eq_zero_or_pos rs.length with h | h
    · rw [h] at hf
      exact absurd hf (by simp [fitsN, fitsP, fitsR])
    · exact h
  have hmono : ∀ S T, fitsN rs rs.length S = true → (∀ j, bitP T j = true → bitP S j = true) → fitsN rs rs.length T = true := fun S T => fits_mono _ _ S T hps
  obtain ⟨u1, u2⟩ := up_spec (fitsN rs rs.length) (rs.length - 1) 1 (by rw [show 1 + (rs.length - 1) = rs.length by omega]; exact hf)
  have hK : 2 ^ upP (fitsN rs rs.length) (rs.length - 1) 1 ≤ 2 ^ 16 := Nat.pow_le_pow_right (by decide) (by omega)
  obtain ⟨d1, d2, d3, d4⟩ := down_spec (fitsN rs rs.length) hmono rs.length _ (by omega) (by omega) u1
  have hF : downP (fitsN rs rs.length) rs.length (2 ^ upP (fitsN rs rs.length) (rs.length - 1) 1 - 1) = lackP rs rs.length := rfl
  rw [hF] at d1 d2 d3 d4
  generalize lackP rs rs.length = F at d1 d2 d3 d4
  rw [bitsP_filter]
  obtain ⟨V, T, v1, v2, v3, v4⟩ := (fits_hall _ _ F hps).2 d1
  have hall : ∀ j, j < rs.length → bitP F j = true → j ∈ V := fun j hj hb => by
    by_cases hjV : j ∈ V
    · exact hjV
    · exfalso
      obtain ⟨o, hM⟩ := (fits_iff _ _ _ hps).1 (d4 j hj hb)
      refine viol_not _ _ ⟨V, T, v1, fun v hv => ?_, v3, v4⟩ ⟨o, hM⟩
      obtain ⟨e1, e2⟩ := v2 v hv
      refine ⟨e1, ?_⟩
      rw [clrP_bit F j v (by omega) d3, e2]
      have : ¬ j = v := fun e => hjV (by rw [e]; exact hv)
      simp [this]
  have hmem : ∀ v, v ∈ (List.range rs.length).filter (fun j => bitP F j) ↔ v < rs.length ∧ bitP F v = true := fun v => by rw [List.mem_filter, List.mem_range]
  refine ⟨(List.pairwise_lt_range).filter _, fun v hv => ((hmem v).1 hv).1, T, fun v hv p hp => ?_, ?_⟩
  · obtain ⟨e1, e2⟩ := (hmem v).1 hv
    exact v3 v (hall v e1 e2) p hp
  · exact Nat.lt_of_lt_of_le v4 (nodup_sub_len V _ v1 fun v hv => (hmem v).2 (v2 v hv))

theorem passOK_iff (l : List Int) : ∀ o, passOK o l = true ↔ (∀ p ∈ l, 0 ≤ p ∧ p ≤ 63) ∧ l.Pairwise (· < ·) ∧ (∀ q, o = some q → ∀ p ∈ l, q < p) := by
  induction l with
  | nil => intro o; cases o <;> simp [passOK]
  | cons x r ih =>
    intro o
    have h := ih (some x)
    have e : passOK o (x :: r) = true ↔ (inB x 0 63 = true ∧ passOK (some x) r = true) ∧ ∀ q, o = some q → q < x := by
      cases o with
      | none => simp [passOK]
      | some q =>
        simp only [passOK, Bool.and_eq_true, decide_eq_true_eq]
        constructor
        · rintro ⟨⟨h1, h2⟩, h3⟩
          exact ⟨⟨h1, h3⟩, fun q' e => by injection e with e; rw [← e]; exact h2⟩
        · rintro ⟨⟨h1, h3⟩, h2⟩
          exact ⟨⟨h1, h2 q rfl⟩, h3⟩
    rw [e, h, inB_iff, List.pairwise_cons]
    constructor
    · rintro ⟨⟨h1, h2, h3, h4⟩, h5⟩
      refine ⟨fun p hp => ?_, ⟨h4 x rfl, h3⟩, fun q hq p hp => ?_⟩
      · rcases List.mem_cons.1 hp with rfl | hp
        · exact h1
        · exact h2 p hp
      · rcases List.mem_cons.1 hp with rfl | hp
        · exact h5 q hq
        · have a := h5 q hq
          have b := h4 x rfl p hp
          omega
    · rintro ⟨h1, ⟨h2, h3⟩, h4⟩
      exact ⟨⟨h1 x List.mem_cons_self, fun p hp => h1 p (List.mem_cons_of_mem _ hp), h3, fun q e p hp => by injection e with e; rw [← e]; exact h2 p hp⟩, fun q hq => h4 q hq x List.mem_cons_self⟩
/-- A request that is right by itself. -/
def okR (r : Req) : Prop := (0 ≤ r.im ∧ r.im ≤ 63) ∧ r.l.length ≤ 12 ∧ (∀ p ∈ r.l, 0 ≤ p ∧ p ≤ 63) ∧ r.l.Pairwise (· < ·)
theorem rightR_iff (l : List Req) : ∀ s : List Bool, s.length = 64 → (rightR s l = true ↔ (∀ r ∈ l, okR r) ∧ l.Pairwise (fun a b => a.im ≠ b.im) ∧ ∀ r ∈ l, s.getD r.im.toNat false = false) := by
  induction l with
  | nil => intro s _; simp [rightR]
  | cons x l ih =>
    intro s hs
    rw [rightR_cons]
    simp only [Bool.and_eq_true, decide_eq_true_eq, Bool.not_eq_true', inB_iff, ih (s.set x.im.toNat true) (by simpa using hs), passOK_iff, List.pairwise_cons]
    have hset : ∀ j, 0 ≤ x.im → x.im ≤ 63 → (s.set x.im.toNat true).getD j false = if x.im.toNat = j then true else s.getD j false := fun j h1 h2 => by
      rw [List.getD_eq_getElem?_getD, List.getElem?_set, List.getD_eq_getElem?_getD]
      split
      · rename_i e
        subst e
        rw [if_pos (by omega)]
        rfl
      · rfl
    constructor
    · rintro ⟨⟨⟨⟨h1, h2⟩, h3⟩, h4, h5, _⟩, h6, h7, h8⟩
      refine ⟨fun r hr => ?_, ⟨fun r hr e => ?_, h7⟩, fun r hr => ?_⟩
      · rcases List.mem_cons.1 hr with rfl | hr
        · exact ⟨h1, h3, h4, h5⟩
        · exact h6 r hr
      · have := h8 r hr
        rw [hset _ h1.1 h1.2, e, if_pos rfl] at this
        cases this
      · rcases List.mem_cons.1 hr with rfl | hr
        · exact h2
        · have := h8 r hr
          rw [hset _ h1.1 h1.2] at this
          split at this
          · cases this
          · exact this
    · rintro ⟨h1, ⟨h2, h3⟩, h4⟩
      obtain ⟨a1, a2, a3, a4⟩ := h1 x List.mem_cons_self
      refine ⟨⟨⟨⟨a1, h4 x List.mem_cons_self⟩, a2⟩, a3, a4, fun q e => by cases e⟩, fun r hr => h1 r (List.mem_cons_of_mem _ hr), h3, fun r hr => ?_⟩
      obtain ⟨⟨b1, b2⟩, _⟩ := h1 r (List.mem_cons_of_mem _ hr)
      have hne := h2 r hr
      rw [hset _ a1.1 a1.2, if_neg (by omega)]
      exact h4 r (List.mem_cons_of_mem _ hr)
theorem rightP_iff (l : List Req) : rightP l = true ↔ (∀ r ∈ l, okR r) ∧ l.Pairwise (fun a b => a.im ≠ b.im) ∧ l.length ≤ 16 := by
  unfold rightP
  rw [Bool.and_eq_true, decide_eq_true_eq, rightR_iff l _ (by simp)]
  constructor
  · rintro ⟨⟨h1, h2, _⟩, h3⟩; exact ⟨h1, h2, h3⟩
  · rintro ⟨h1, h2, h3⟩
    refine ⟨⟨h1, h2, fun r _ => ?_⟩, h3⟩
    rw [List.getD_eq_getElem?_getD, List.getElem?_replicate]
    split <;> rfl
/-- All that Fit says. -/
theorem fit_lack (rs : List Req) (hr : rightP rs = true) : (fitP rs).2.2 = 0 ∧ ((fitP rs).2.1 = [] ↔ ∃ o, Mtch (psP rs []) o noX (fun j => j < rs.length)) := by
  have hps := rightP_ps (os := []) hr (fun p hp => by cases hp)
  have hin : ∀ j, inS rs.length (2 ^ rs.length - 1) j ↔ j < rs.length := fun j => by
    unfold inS
    rw [full_bit]
    simp
  unfold fitP
  rw [if_pos hr]
  cases hf : fitsN rs rs.length (2 ^ rs.length - 1)
  · rw [if_neg (by simp)]
    refine ⟨rfl, ?_⟩
    obtain ⟨_, _, T, _, h4⟩ := lack_good rs hr hf
    constructor
    · intro h
      dsimp only at h
      rw [h] at h4
      simp at h4
    · rintro ⟨o, hM⟩
      exfalso
      exact viol_not _ _ ((fits_hall _ _ _ hps).2 hf) ⟨o, hM.congr fun j => (hin j).symm⟩
  · rw [if_pos rfl]
    refine ⟨rfl, fun _ => ?_, fun _ => rfl⟩
    obtain ⟨o, hM⟩ := (fits_iff _ _ _ hps).1 hf
    exact ⟨o, hM.congr hin⟩
/-- A pass more. -/
theorem fit_more (rs rs' : List Req) (hl : rs'.length = rs.length) (hs : ∀ j, ∀ p ∈ psP rs [] j, p ∈ psP rs' [] j) (h : ∃ o, Mtch (psP rs []) o noX (fun j => j < rs.length)) : ∃ o, Mtch (psP rs' []) o noX (fun j => j < rs'.length) := by
  obtain ⟨o, hM⟩ := h
  rw [hl]
  exact ⟨o, fun p j hp e => ⟨hs j p (hM.edge p j hp e).1, (hM.edge p j hp e).2⟩, hM.one, hM.has⟩
/-- A request less. -/
theorem fit_less (rs : List Req) (i : Nat) (hi : i < rs.length) (h : ∃ o, Mtch (psP rs []) o noX (fun j => j < rs.length)) : ∃ o, Mtch (psP (rs.take i ++ rs.drop (i + 1)) []) o noX (fun j => j < (rs.take i ++ rs.drop (i + 1)).length) := by
  obtain ⟨o, hM⟩ := h
  have hlen : (rs.take i ++ rs.drop (i + 1)).length = rs.length - 1 := by simp; omega
  have hps : ∀ j, psP (rs.take i ++ rs.drop (i + 1)) [] j = psP rs [] (if j < i then j else j + 1) := fun j => by
    unfold psP
    rw [if_neg (by simp), if_neg (by simp)]
    have : (rs.take i ++ rs.drop (i + 1))[j]? = rs[if j < i then j else j + 1]? := by
      rw [List.getElem?_append]
      simp only [List.length_take, List.getElem?_take, List.getElem?_drop]
      by_cases hj : j < i
      · rw [if_pos (by omega), if_pos hj, if_pos hj]
      · rw [if_neg (by omega), if_neg hj]
        congr 1
        omega
    rw [this]
  rw [hlen]
  refine ⟨fun p => match o p with | some j => if j < i then some j else if j = i then none else some (j - 1) | none => none, ?_⟩
  have key : ∀ p j, (match o p with | some j => if j < i then some j else if j = i then none else some (j - 1) | none => none) = some j → o p = some (if j < i then j else j + 1) := by
    intro p j e
    split at e
    · rename_i k hk
      split at e
      · rename_i h1
        injection e with e
        subst e
        rw [if_pos h1, hk]
      · split at e
        · cases e
        · injection e with e
          subst e
          rw [if_neg (by omega), hk]
          congr 1
          omega
    · cases e
  refine ⟨fun p j hp e => ?_, fun p q j hp hq e e' => ?_, fun j hj => ?_⟩
  · have h1 := key p j e
    obtain ⟨h2, h3⟩ := hM.edge p _ hp h1
    rw [hps]
    refine ⟨h2, ?_⟩
    split at h3 <;> omega
  · exact hM.one p q _ hp hq (key p j e) (key q j e')
  · obtain ⟨p, hp, e⟩ := hM.has (if j < i then j else j + 1) (by split <;> omega)
    refine ⟨p, hp, ?_⟩
    rw [e]
    dsimp only
    by_cases hji : j < i
    · rw [if_pos hji, if_pos hji]
    · rw [if_neg hji, if_neg (by omega), if_neg (by omega)]
      congr 1
theorem right_less (rs : List Req) (i : Nat) (hr : rightP rs = true) : rightP (rs.take i ++ rs.drop (i + 1)) = true := by
  rw [rightP_iff] at hr ⊢
  have hsub : (rs.take i ++ rs.drop (i + 1)).Sublist rs := by
    have h1 : (rs.take i ++ rs.drop (i + 1)).Sublist (rs.take i ++ rs.drop i) := List.Sublist.append (List.Sublist.refl _) (by rw [show rs.drop (i + 1) = (rs.drop i).drop 1 by rw [List.drop_drop]]; exact List.drop_sublist _ _)
    rwa [List.take_append_drop] at h1
  exact ⟨fun r h => hr.1 r (hsub.subset h), hr.2.1.sublist hsub, Nat.le_trans hsub.length_le hr.2.2⟩
/-- A pass laid into passes in order. -/
def insQ (p : Int) : Bool → List Int → List Int
  | d, [] => if d then [] else [p]
  | d, q :: r => (if decide (p ≤ q) && !d then [p] else []) ++ ((if q = p then [] else [q]) ++ insQ p (d || decide (p ≤ q)) r)
theorem insQ_cons (p : Int) (d : Bool) (q : Int) (r : List Int) : insQ p d (q :: r) = (if decide (p ≤ q) && !d then [p] else []) ++ ((if q = p then [] else [q]) ++ insQ p (d || decide (p ≤ q)) r) := by rw [insQ]
theorem insQ_done (p : Int) (l : List Int) (h : ∀ q ∈ l, p < q) : insQ p true l = l := by
  induction l with
  | nil => rfl
  | cons x r ih =>
    have h1 := h x List.mem_cons_self
    rw [insQ_cons, Bool.true_or, ih fun q hq => h q (List.mem_cons_of_mem _ hq), if_neg (by simp), if_neg (by omega)]
    rfl
theorem insQ_mem (p : Int) (l : List Int) (hl : l.Pairwise (· < ·)) (q : Int) : q ∈ insQ p false l ↔ q = p ∨ q ∈ l := by
  induction l with
  | nil => simp [insQ]
  | cons x r ih =>
    rw [List.pairwise_cons] at hl
    rw [insQ_cons]
    by_cases hx : p ≤ x
    · have hx1 : decide (p ≤ x) = true := by simpa using hx
      rw [hx1, Bool.false_or, insQ_done p r fun q hq => by have := hl.1 q hq; omega]
      by_cases e : x = p
      · subst e; simp
      · simp [e]
    · have hx1 : decide (p ≤ x) = false := by simpa using hx
      have hx2 : ¬ x = p := by omega
      rw [hx1, Bool.false_or]
      simp [hx2, ih hl.2]
      constructor
      · rintro (h | h | h) <;> simp [h]
      · rintro (h | h | h) <;> simp [h]
theorem insQ_asc (p : Int) (l : List Int) (hl : l.Pairwise (· < ·)) : (insQ p false l).Pairwise (· < ·) := by
  induction l with
  | nil => simp [insQ]
  | cons x r ih =>
    rw [List.pairwise_cons] at hl
    rw [insQ_cons]
    by_cases hx : p ≤ x
    · have hx1 : decide (p ≤ x) = true := by simpa using hx
      rw [hx1, Bool.false_or, insQ_done p r fun q hq => by have := hl.1 q hq; omega]
      by_cases e : x = p
      · subst e
        simpa using hl
      · have hpx : p < x := by omega
        simp [e, hl.2, hpx]
        exact ⟨fun q hq => by have := hl.1 q hq; omega, hl.1⟩
    · have hx1 : decide (p ≤ x) = false := by simpa using hx
      have hx2 : ¬ x = p := by omega
      rw [hx1, Bool.false_or]
      simp [hx2, ih hl.2]
      intro q hq
      rcases (insQ_mem p r hl.2 q).1 hq with h | h
      · omega
      · exact hl.1 q h
theorem insQ_len (p : Int) (d : Bool) (l : List Int) : (insQ p d l).length ≤ l.length + 1 - d.toNat := by
  induction l generalizing d with
  | nil => cases d <;> simp [insQ]
  | cons x r ih =>
    rw [insQ_cons]
    have h1 := ih (d || decide (p ≤ x))
    simp only [List.length_append]
    have h2 : (if x = p then [] else [x]).length ≤ 1 := by split <;> simp
    generalize decide (p ≤ x) = b at h1 ⊢
    cases d <;> cases b <;> simp at h1 ⊢ <;> omega
/-- One request is replaced by one with a pass more. -/
theorem psP_set (rs : List Req) (i : Nat) (r : Req) (p : Int) (hi : i < rs.length) (hr : rightP rs = true) (hl : r.l = insQ p false rs[i].l) : ∀ j, ∀ q ∈ psP rs [] j, q ∈ psP (rs.set i r) [] j := by
  intro j q hq
  by_cases hj : j < rs.length
  · rw [psP_nil _ j hj] at hq
    rw [psP_nil _ j (by simpa using hj), List.getElem_set]
    split
    · rename_i e
      subst e
      have := ((rightP_iff rs).1 hr).1 rs[i] (List.getElem_mem hi)
      rw [hl, insQ_mem p _ this.2.2.2]
      exact .inr hq
    · exact hq
  · rw [psP, if_neg (by simp), List.getElem?_eq_none (by omega)] at hq
    cases hq
theorem pairwise_set {α : Type} {R : α → α → Prop} (l : List α) (i : Nat) (x : α) (hi : i < l.length) (h : l.Pairwise R) (h1 : ∀ y, R y l[i] → R y x) (h2 : ∀ y, R l[i] y → R x y) : (l.set i x).Pairwise R := by
  rw [List.pairwise_iff_getElem] at h ⊢
  intro a b ha hb hab
  rw [List.length_set] at ha hb
  rw [List.getElem_set, List.getElem_set]
  have hR := h a b ha hb hab
  split
  · rename_i e
    subst e
    rw [if_neg (by omega)]
    exact h2 _ hR
  · split
    · rename_i e
      subst e
      exact h1 _ hR
    · exact hR
theorem right_more (rs : List Req) (i : Nat) (r : Req) (p : Int) (hi : i < rs.length) (hr : rightP rs = true) (hl : r.l = insQ p false rs[i].l) (him : r.im = rs[i].im) (hp : 0 ≤ p ∧ p ≤ 63) (h11 : rs[i].l.length ≤ 11) : rightP (rs.set i r) = true := by
  rw [rightP_iff] at hr ⊢
  obtain ⟨h1, h2, h3⟩ := hr
  obtain ⟨a1, a2, a3, a4⟩ := h1 rs[i] (List.getElem_mem hi)
  refine ⟨fun x hx => ?_, pairwise_set rs i r hi h2 (fun y hy => by rw [him]; exact hy) (fun y hy => by rw [him]; exact hy), by simpa using h3⟩
  rcases List.mem_or_eq_of_mem_set hx with hx | rfl
  · exact h1 x hx
  · refine ⟨by rw [him]; exact a1, ?_, fun q hq => ?_, ?_⟩
    · have := insQ_len p false rs[i].l
      rw [hl]
      simp at this
      omega
    · rw [hl] at hq
      rcases (insQ_mem p _ a4 q).1 hq with rfl | hq
      · exact hp
      · exact a3 q hq
    · rw [hl]
      exact insQ_asc p _ a4
end Go.Proofs.Ytgbfhkildbhhoaa
