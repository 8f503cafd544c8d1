/- Lists of structs in memory: a slice whose elements are so many cells each. -/
import Derived.Test.YtikphbgfcpamgaaP02
import Derived.Test.YtikphbgfcpamgaaP01
import Derived.Test.YtikphbgfcpamgaaProg
import Derived.WalkKit
import Derived.WalkSpells
import Derived.WalkLawsBesides
import Derived.Lib.Hide
import Derived.Deep.RegionHeld3
import Derived.Deep.QuietTactic
import Derived.BigQuiet
import Derived.Deep.AppendLies
import Derived.Deep.Draws
import Derived.Deep.LoopGhost
import Derived.Deep.DeepFit
import Derived.Deep.DeepCutAuto
import Derived.Deep.OwnRows
import Derived.Maps.AppendAt
import Derived.Laws.CopyOwn
import Derived.KernelRfl
namespace Go.Proofs.Ytikphbgfcpamgaa

theorem okR_iff {sat : Int} : ∀ {l : List Op} {seen : List Int}, okR sat seen l = true ↔ (∀ o ∈ l, canP o = true ∧ o.sat = sat ∧ (o.l.all (fun s => inB s.p 0 63)) = true ∧ o.id ∉ seen) ∧ (l.map (·.id)).Nodup := by
  intro l
  induction l with
  | nil => intro seen; simp [okR]
  | cons x r ih =>
    intro seen
    rw [okR, Bool.and_eq_true, Bool.and_eq_true, Bool.and_eq_true, Bool.and_eq_true, ih]
    simp only [decide_eq_true_eq, Bool.not_eq_true', decide_eq_false_iff_not, List.map_cons, List.nodup_cons]
    constructor
    · rintro ⟨⟨⟨⟨h1, h2⟩, h3⟩, h4⟩, h5, h6⟩
      refine ⟨fun o ho => ?_, fun hm => ?_, h6⟩
      · rcases List.mem_cons.1 ho with rfl | ho
        · exact ⟨h1, h2, h4, h3⟩
        · obtain ⟨e1, e2, e3, e4⟩ := h5 o ho
          exact ⟨e1, e2, e3, fun e => e4 (by simp [e])⟩
      · obtain ⟨o, ho, e⟩ := List.mem_map.1 hm
        exact (h5 o ho).2.2.2 (by simp [e])
    · rintro ⟨h1, h2, h3⟩
      obtain ⟨e1, e2, e3, e4⟩ := h1 x (by simp)
      refine ⟨⟨⟨⟨e1, e2⟩, e4⟩, e3⟩, fun o ho => ?_, h3⟩
      obtain ⟨f1, f2, f3, f4⟩ := h1 o (by simp [ho])
      refine ⟨f1, f2, f3, fun e => ?_⟩
      rcases List.mem_append.1 e with e | e
      · exact f4 e
      · exact h2 (List.mem_map.2 ⟨o, ho, by simpa using e⟩)
theorem okL_sub {l r : List Op} (h : okL l = true) (hs : r.Sublist l) : okL r = true := by
  cases l with
  | nil => rw [List.sublist_nil.1 hs]; exact h
  | cons x l =>
    simp only [okL, Bool.and_eq_true, decide_eq_true_eq] at h
    obtain ⟨h1, h2⟩ := h
    obtain ⟨h3, h4⟩ := okR_iff.1 h2
    unfold okL
    rw [Bool.and_eq_true, decide_eq_true_eq]
    refine ⟨Nat.le_trans hs.length_le h1, ?_⟩
    cases r with
    | nil => rfl
    | cons y r =>
      have hy := (h3 y (hs.subset (by simp))).2.1
      refine okR_iff.2 ⟨fun o ho => ?_, h4.sublist (hs.map _)⟩
      obtain ⟨e1, e2, e3, _⟩ := h3 o (hs.subset ho)
      exact ⟨e1, by rw [e2, hy], e3, by simp⟩
def newI (k i : Nat) : Nat := if i > k then i - 1 else i
def newP (k : Nat) (p : Plc) : Plc := ⟨newI k p.opt, p.slot, p.fr, p.tt⟩
def offP (k : Nat) (ps : List Plc) : List Plc := (ps.filter (fun p => !decide (p.opt = k))).map (newP k)
theorem newI_inj {k i j : Nat} (hi : i ≠ k) (hj : j ≠ k) (h : newI k i = newI k j) : i = j := by
  unfold newI at h
  split at h <;> split at h <;> omega
theorem aprt_map (k : Nat) : ∀ {ps : List Plc}, Aprt ps → Aprt (ps.map (newP k)) := by
  intro ps
  induction ps with
  | nil => intro _; trivial
  | cons p r ih =>
    intro h
    refine ⟨fun q hq => ?_, ih h.2⟩
    obtain ⟨z, hz, rfl⟩ := List.mem_map.1 hq
    exact h.1 z hz
theorem erase_get {l : List Op} {k i : Nat} (_ : k < l.length) (hi : i ≠ k) : (l.eraseIdx k)[newI k i]? = l[i]? := by
  rw [List.getElem?_eraseIdx]
  unfold newI
  split <;> split <;> first | rfl | (exfalso; omega) | (congr 1; omega)
theorem isPlc_erase {l : List Op} {k : Nat} (hk : k < l.length) {q : Plc} : isPlc (l.eraseIdx k) q ↔ ∃ p, isPlc l p ∧ p.opt ≠ k ∧ newP k p = q := by
  constructor
  · rintro ⟨o, s, h1, h2, h3, h4⟩
    let i := if q.opt < k then q.opt else q.opt + 1
    have hi : i ≠ k := by dsimp only [i]; split <;> omega
    have hn : newI k i = q.opt := by dsimp only [i, newI]; split <;> split <;> omega
    refine ⟨⟨i, q.slot, q.fr, q.tt⟩, ⟨o, s, ?_, h2, h3, h4⟩, hi, ?_⟩
    · rw [← erase_get hk hi, hn]; exact h1
    · rw [newP, hn]
  · rintro ⟨p, ⟨o, s, h1, h2, h3, h4⟩, hp, rfl⟩
    exact ⟨o, s, by rw [newP, erase_get hk hp]; exact h1, h2, h3, h4⟩
theorem srt_erase {l : List Op} (h : carP l = true) {k : Nat} (hk : k < l.length) : carP (l.eraseIdx k) = true ∧ srt (l.eraseIdx k) = offP k (srt l) := by
  obtain ⟨hok, ha⟩ := carP_iff.1 h
  have hok2 := okL_sub hok (List.eraseIdx_sublist l k)
  have hoff : Aprt (offP k (srt l)) := aprt_map k (aprt_filter _ ha)
  have hmem : ∀ q, q ∈ srt (l.eraseIdx k) ↔ q ∈ offP k (srt l) := by
    intro q
    rw [mem_srt, isPlc_erase hk, offP, List.mem_map]
    constructor
    · rintro ⟨p, h1, h2, h3⟩
      exact ⟨p, List.mem_filter.2 ⟨mem_srt.2 h1, by simpa using h2⟩, h3⟩
    · rintro ⟨p, h1, h3⟩
      obtain ⟨h1, h2⟩ := List.mem_filter.1 h1
      exact ⟨p, mem_srt.1 h1, by simpa using h2, h3⟩
  have hap : Aprt (srt (l.eraseIdx k)) := by
    refine srtd_aprt _ (srt_nodup _) (srtd_sortP swP _) (fun p hp => (plc_ok hok2 (mem_srt.1 hp)).2.1) fun p hp q hq hne => ?_
    exact aprt_sep hoff p ((hmem p).1 hp) q ((hmem q).1 hq) hne
  exact ⟨carP_iff.2 ⟨hok2, hap⟩, plc_unique hap hoff (fun p hp => (plc_ok hok2 (mem_srt.1 hp)).2.1) hmem⟩
def offA (k : Nat) : List Ack → List Ack
  | [] => []
  | a :: r => if a.opt = (k : Int) then offA k r else ⟨if a.opt > (k : Int) then a.opt - 1 else a.opt, a.slot, a.is_⟩ :: offA k r
def Rel (k d d' : Nat) : Prop := ∀ i, i ≠ k → d'.testBit (newI k i) = d.testBit i
theorem Rel.or {k d d' i : Nat} (h : Rel k d d') (hi : i ≠ k) : Rel k (d ||| 2 ^ i) (d' ||| 2 ^ newI k i) := by
  intro j hj
  rw [tb_or, tb_or, h j hj]
  congr 1
  rw [decide_eq_decide]
  exact ⟨fun e => newI_inj hi hj e, fun e => by rw [e]⟩
theorem Rel.orK {k d d' : Nat} (h : Rel k d d') : Rel k (d ||| 2 ^ k) d' := by
  intro j hj
  rw [tb_or, h j hj, decide_eq_false (fun e => hj e.symm), Bool.or_false]
theorem newI_int {k i : Nat} (_ : i ≠ k) : (if (i : Int) > (k : Int) then (i : Int) - 1 else (i : Int)) = ((newI k i : Nat) : Int) := by
  unfold newI
  split <;> split <;> omega
theorem run_off {q q' : Int → Int → Bool} {k : Nat} (hq : ∀ i s : Nat, i ≠ k → q' (newI k i) s = q i s) : ∀ (ps : List Plc) (d d' : Nat), Rel k d d' → offA k (runP q ps d) = runP q' (offP k ps) d' := by
  intro ps
  induction ps with
  | nil => intro d d' _; rfl
  | cons p r ih =>
    intro d d' h
    rw [runP]
    by_cases hpk : p.opt = k
    · have e : offP k (p :: r) = offP k r := by rw [offP, List.filter_cons, if_neg (by simp [hpk])]; rfl
      rw [e]
      split
      · exact ih d d' h
      · rw [offA, if_pos (by rw [hpk])]
        refine ih _ _ ?_
        split
        · rw [hpk]; exact h.orK
        · exact h
    · have e : offP k (p :: r) = newP k p :: offP k r := by rw [offP, List.filter_cons, if_pos (by simp [hpk])]; rfl
      rw [e, runP]
      by_cases hd : d.testBit p.opt = true
      · rw [if_pos hd, if_pos (show d'.testBit (newP k p).opt = true from (h p.opt hpk).trans hd)]
        exact ih d d' h
      · rw [if_neg hd, if_neg (show ¬ d'.testBit (newP k p).opt = true from fun e => hd ((h p.opt hpk).symm.trans e))]
        rw [show q' ((newP k p).opt : Int) ((newP k p).slot : Int) = q p.opt p.slot from hq p.opt p.slot hpk, offA, if_neg (by simp; omega)]
        dsimp only
        rw [newI_int hpk]
        congr 1
        refine ih _ _ ?_
        split
        · exact h.or hpk
        · exact h
def erD (k : Nat) : DT → DT
  | .leaf => .leaf
  | .node a o s n y => if o = (k : Int) then erD k n else .node a (if o > (k : Int) then o - 1 else o) s (erD k n) (erD k y)
theorem erD_dt {k : Nat} : ∀ (ps : List Plc) (d d' : Nat), Rel k d d' → erD k (dt ps d) = dt (offP k ps) d' := by
  intro ps
  induction ps with
  | nil => intro d d' _; rfl
  | cons p r ih =>
    intro d d' h
    rw [dt]
    by_cases hpk : p.opt = k
    · have e : offP k (p :: r) = offP k r := by rw [offP, List.filter_cons, if_neg (by simp [hpk])]; rfl
      rw [e]
      split
      · exact ih d d' h
      · rw [erD, if_pos (by rw [hpk])]
        exact ih d d' h
    · have e : offP k (p :: r) = newP k p :: offP k r := by rw [offP, List.filter_cons, if_pos (by simp [hpk])]; rfl
      rw [e, dt]
      by_cases hd : d.testBit p.opt = true
      · rw [if_pos hd, if_pos (show d'.testBit (newP k p).opt = true from (h p.opt hpk).trans hd)]
        exact ih d d' h
      · rw [if_neg hd, if_neg (show ¬ d'.testBit (newP k p).opt = true from fun e => hd ((h p.opt hpk).symm.trans e))]
        simp only [newP]
        rw [erD, if_neg (by omega), newI_int hpk, ih d d' h, ih _ _ (h.or hpk)]
theorem erD_subs {k : Nat} : ∀ (D : DT), ∀ X ∈ subs (erD k D), ∃ Y ∈ subs D, erD k Y = X := by
  intro D
  induction D with
  | leaf => intro X h; cases h
  | node a o s n y h1 h2 =>
    intro X hX
    rw [erD] at hX
    split at hX
    · obtain ⟨Y, e1, e2⟩ := h1 X hX
      exact ⟨Y, by simp [subs, e1], e2⟩
    · rename_i ho
      rcases List.mem_cons.1 hX with rfl | hX
      · exact ⟨.node a o s n y, by simp [subs], by rw [erD, if_neg ho]⟩
      · rcases List.mem_append.1 hX with hX | hX
        · obtain ⟨Y, e1, e2⟩ := h1 X hX
          exact ⟨Y, by simp [subs, e1], e2⟩
        · obtain ⟨Y, e1, e2⟩ := h2 X hX
          exact ⟨Y, by simp [subs, e1], e2⟩
theorem qP_erase {l : List Op} {lost : List Int} {k : Nat} (hk : k < l.length) (i s : Nat) (hi : i ≠ k) : qP (l.eraseIdx k) lost (newI k i) s = qP l lost i s := by
  unfold qP slotAt
  rw [if_pos (by omega), if_pos (by omega)]
  simp only [Int.toNat_natCast, erase_get hk hi]
theorem apart_plain {l : List Op} {lost : List Int} (h : carP l = true) {k : Nat} (hk : k < l.length) :
    offA k (runP (qP l lost) (srt l) 0) = runP (qP (l.eraseIdx k) lost) (srt (l.eraseIdx k)) 0 ∧ (treeP (l.eraseIdx k)).1.length ≤ (treeP l).1.length := by
  have h0 : Rel k 0 0 := fun i _ => by simp
  rw [treeP, treeP, (srt_erase h hk).2]
  refine ⟨run_off (fun i s hi => qP_erase hk i s hi) _ _ _ h0, ?_⟩
  rw [← erD_dt (srt l) 0 0 h0]
  exact bld_len (erD k) (erD_subs _)
theorem slotsAt_len (i : Nat) : ∀ (l : List Slt) (k : Nat), (slotsAt i k l).length = l.length := by
  intro l
  induction l with
  | nil => intro k; rfl
  | cons s r ih => intro k; rw [slotsAt, List.length_cons, List.length_cons, ih]
theorem rawF_len : ∀ (l : List Op) (i : Nat), (∀ o ∈ l, o.l.length ≤ 6) → (rawF i l).length ≤ 6 * l.length := by
  intro l
  induction l with
  | nil => intro i _; simp [rawF]
  | cons o r ih =>
    intro i h
    have h1 := h o (by simp)
    have h2 := ih (i + 1) fun x hx => h x (by simp [hx])
    rw [rawF, List.length_append, slotsAt_len, List.length_cons]
    omega
theorem srt_len {l : List Op} (h : okL l = true) : (srt l).length ≤ 6 * l.length ∧ l.length ≤ 8 := by
  have h8 : l.length ≤ 8 := by simp only [okL, Bool.and_eq_true, decide_eq_true_eq] at h; exact h.1
  refine ⟨?_, h8⟩
  rw [srt, (sortP_perm ltP (raw l)).length_eq]
  exact rawF_len l 0 fun o ho => (can_chain (okL_can h o ho).1).2.2.2.2
end Go.Proofs.Ytikphbgfcpamgaa
namespace Go.Proofs.Ytikphbgfcpamgaa

structure Six where
  a0 : Int
  a1 : Int
  a2 : Int
  a3 : Int
  a4 : Int
  a5 : Int
def bgO (x : Six) (k : Nat) (e : Int) : Int := e + pickP (x.a4.tdiv (1 + 11 * (k : Int))) 60
def enO (x : Six) (k : Nat) (e : Int) : Int := bgO x k e + 1 + pickP (x.a5.tdiv (1 + 7 * (k : Int))) 10
def slO (x : Six) : Nat → Int → Nat → List Slt
  | _, _, 0 => []
  | k, e, f + 1 => ⟨k, bgO x k e, enO x k e⟩ :: slO x (k + 1) (enO x k e) f
def frO (x : Six) : Int := pickP x.a0 200
def toO (x : Six) : Int := frO x + 1 + pickP x.a1 20
def cntO (x : Six) : Nat := (pickP x.a3 4).toNat + 1
def optO (i : Nat) (x : Six) : Op := ⟨i, 0, frO x, toO x, 1 + pickP x.a2 60, slO x 0 (toO x) (cntO x)⟩
def optsO : Nat → List Six → List Op
  | _, [] => []
  | i, x :: r => optO i x :: optsO (i + 1) r
def psO (x : Six) : Nat → List Slt → List Slt
  | _, [] => []
  | k, s :: r => ⟨pickP (x.a1.tdiv (1 + 3 * (k : Int))) 4, s.fr, s.tt⟩ :: psO x (k + 1) r
def pasO (x : Six) (o : Op) : Op := ⟨o.id, o.sat, o.sf, o.st, o.size, psO x 0 o.l⟩
def madeR : List Op → Nat → List Six → List Op
  | out, _, [] => out
  | out, i, x :: r => if out.length < 6 then madeR (if refL (out ++ [pasO x (optO i x)]) = true then out ++ [pasO x (optO i x)] else out) (i + 1) r else out
def madeP (l : List Six) : List Op := madeR [] 0 (l.take 8)
theorem pickP_bd' (c : Int) {n : Int} (hn : 0 < n) : 0 ≤ pickP c n ∧ pickP c n < n := ⟨Int.emod_nonneg _ (by omega), Int.emod_lt_of_pos _ hn⟩
theorem slO_len (x : Six) : ∀ (f k : Nat) (e : Int), (slO x k e f).length = f := by
  intro f
  induction f with
  | zero => intro k e; rfl
  | succ f ih => intro k e; simp [slO, ih]
theorem psO_len (x : Six) : ∀ (l : List Slt) (k : Nat), (psO x k l).length = l.length := by
  intro l
  induction l with
  | nil => intro k; rfl
  | cons s r ih => intro k; simp [psO, ih]
theorem psO_pass (x : Six) : ∀ (l : List Slt) (k : Nat), ∀ s ∈ psO x k l, 0 ≤ s.p ∧ s.p ≤ 3 := by
  intro l
  induction l with
  | nil => intro k s h; cases h
  | cons t r ih =>
    intro k s h
    rw [psO] at h
    rcases List.mem_cons.1 h with rfl | h
    · have := pickP_bd' (x.a1.tdiv (1 + 3 * (k : Int))) (n := 4) (by omega)
      dsimp only
      omega
    · exact ih _ s h
theorem cntO_le (x : Six) : cntO x ≤ 4 := by
  have := pickP_bd' x.a3 (n := 4) (by omega)
  unfold cntO
  omega
def MadeI (l : List Op) : Prop := refL l = true ∧ l.length ≤ 6 ∧ ∀ o ∈ l, o.l.length ≤ 4 ∧ ∀ s ∈ o.l, 0 ≤ s.p ∧ s.p ≤ 3
theorem madeR_facts : ∀ (xs : List Six) (i : Nat) (out : List Op), MadeI out → MadeI (madeR out i xs) := by
  intro xs
  induction xs with
  | nil => intro i out h; exact h
  | cons x r ih =>
    intro i out h
    rw [madeR]
    split
    · rename_i hl
      refine ih _ _ ?_
      split
      · rename_i hr
        refine ⟨hr, by simp; omega, fun o ho => ?_⟩
        rcases List.mem_append.1 ho with ho | ho
        · exact h.2.2 o ho
        · rw [List.mem_singleton.1 ho]
          refine ⟨?_, psO_pass x _ 0⟩
          show (psO x 0 (slO x 0 (toO x) (cntO x))).length ≤ 4
          rw [psO_len, slO_len]
          exact cntO_le x
      · exact h
    · exact h
theorem made_facts (l : List Six) : MadeI (madeP l) := madeR_facts _ _ _ ⟨rfl, Nat.zero_le _, fun o h => by cases h⟩
theorem made_car (l : List Six) : carP (madeP l) = true := by rw [← refL_eq]; exact (made_facts l).1

theorem dt_subs : ∀ (ps : List Plc) (d : Nat), d < 64 → (∀ p ∈ ps, p.opt < 6) → ∀ X ∈ subs (dt ps d), ∃ j e, j < ps.length ∧ e < 64 ∧ X = dt (ps.drop j) e := by
  intro ps
  induction ps with
  | nil => intro d _ _ X h; cases h
  | cons p r ih =>
    intro d hd ho X h
    have hr : ∀ (d : Nat), d < 64 → X ∈ subs (dt r d) → ∃ j e, j < (p :: r).length ∧ e < 64 ∧ X = dt ((p :: r).drop j) e := fun d hd h => by
      obtain ⟨j, e, h1, h2, h3⟩ := ih d hd (fun q hq => ho q (by simp [hq])) X h
      exact ⟨j + 1, e, by simp; omega, h2, by rw [List.drop_succ_cons]; exact h3⟩
    have hp := ho p (by simp)
    have hor : d ||| 2 ^ p.opt < 64 := Nat.or_lt_two_pow (n := 6) hd (Nat.pow_lt_pow_right (by omega) hp)
    by_cases hb : d.testBit p.opt = true
    · rw [dt, if_pos hb] at h
      exact hr d hd h
    · have e : dt (p :: r) d = .node p.fr p.opt p.slot (dt r d) (dt r (d ||| 2 ^ p.opt)) := by rw [dt, if_neg hb]
      rw [e] at h
      rcases List.mem_cons.1 h with rfl | h
      · exact ⟨0, d, by simp, hd, by rw [List.drop_zero]; exact e.symm⟩
      · rcases List.mem_append.1 h with h | h
        · exact hr d hd h
        · exact hr _ hor h
theorem dt_subs0 (p : Plc) (r : List Plc) (ho : ∀ q ∈ p :: r, q.opt < 6) : ∀ X ∈ subs (dt (p :: r) 0), X = dt (p :: r) 0 ∨ ∃ j e, j < r.length ∧ e < 64 ∧ X = dt (r.drop j) e := by
  intro X h
  have hp := ho p (by simp)
  have e : dt (p :: r) 0 = .node p.fr p.opt p.slot (dt r 0) (dt r (0 ||| 2 ^ p.opt)) := by rw [dt, if_neg (by simp)]
  have hq : ∀ q ∈ r, q.opt < 6 := fun q hq => ho q (by simp [hq])
  have hor : 0 ||| 2 ^ p.opt < 64 := Nat.or_lt_two_pow (n := 6) (by omega) (Nat.pow_lt_pow_right (by omega) hp)
  rw [e] at h
  rcases List.mem_cons.1 h with rfl | h
  · exact .inl e.symm
  · rcases List.mem_append.1 h with h | h
    · exact .inr (dt_subs r 0 (by omega) hq X h)
    · exact .inr (dt_subs r _ hor hq X h)
theorem len_inj {n m : Nat} (f : Nat → Nat) (h1 : ∀ i, i < n → f i < m) (h2 : ∀ i j, i < n → j < n → f i = f j → i = j) : n ≤ m := by
  have := nodup_len ((List.range n).map f) (List.range m) ?_ ?_
  · simpa using this
  · rw [List.nodup_iff_pairwise_ne, List.pairwise_map]
    refine List.Pairwise.imp_of_mem ?_ List.nodup_range
    intro a b ha hb hne e
    exact hne (h2 a b (List.mem_range.1 ha) (List.mem_range.1 hb) e)
  · intro x hx
    obtain ⟨a, ha, rfl⟩ := List.mem_map.1 hx
    exact List.mem_range.2 (h1 a (List.mem_range.1 ha))
theorem dt_len {ps : List Plc} (ho : ∀ p ∈ ps, p.opt < 6) (hl : ps.length ≤ 24) : (bld [] (dt ps 0)).1.length ≤ 1500 := by
  cases ps with
  | nil => simp [dt, bld]
  | cons p r =>
    have hE := built_from (dt (p :: r) 0)
    have hn := bld_nodup (dt (p :: r) 0) [] List.nodup_nil
    generalize (bld [] (dt (p :: r) 0)).1 = T at hE hn ⊢
    have H : ∀ i : Nat, ∃ m : Nat, i < T.length → m < 1473 ∧ ∃ X, Rep T (i : Int) X ∧ X = (if m = 0 then dt (p :: r) 0 else dt (r.drop ((m - 1) / 64)) ((m - 1) % 64)) := by
      intro i
      by_cases hi : i < T.length
      · obtain ⟨X, h1, h2⟩ := hE i hi
        rcases dt_subs0 p r ho X h2 with h3 | ⟨j, e, h3, h4, h5⟩
        · exact ⟨0, fun _ => ⟨by omega, X, h1, by rw [if_pos rfl]; exact h3⟩⟩
        · have hj : j < 23 := by simp at hl; omega
          refine ⟨j * 64 + e + 1, fun _ => ⟨by omega, X, h1, ?_⟩⟩
          rw [if_neg (by omega), show (j * 64 + e + 1 - 1) / 64 = j by omega, show (j * 64 + e + 1 - 1) % 64 = e by omega]
          exact h5
      · exact ⟨0, fun h => absurd h hi⟩
    obtain ⟨g, hg⟩ := Classical.axiomOfChoice H
    have := len_inj (n := T.length) (m := 1473) g (fun i hi => (hg i hi).1) fun i j hi hj e => by
      obtain ⟨_, X, r1, e1⟩ := hg i hi
      obtain ⟨_, Y, r2, e2⟩ := hg j hj
      rw [e] at e1
      rw [e1, ← e2] at r1
      have := r1.inj hn r2
      omega
    omega
theorem made_len (l : List Six) : (treeP (madeP l)).1.length ≤ 1500 := by
  have hf := made_facts l
  have hc := made_car l
  have hok := (carP_iff.1 hc).1
  refine dt_len (fun p hp => ?_) ?_
  · obtain ⟨o, s, h1, _⟩ := mem_srt.1 hp
    have := (List.getElem?_eq_some_iff.1 h1).1
    have := hf.2.1
    omega
  · have hr : ∀ (l : List Op) (i : Nat), (∀ o ∈ l, o.l.length ≤ 4) → (rawF i l).length ≤ 4 * l.length := by
      intro l
      induction l with
      | nil => intro i _; simp [rawF]
      | cons o r ih =>
        intro i h
        have h1 := h o (by simp)
        have h2 := ih (i + 1) (fun x hx => h x (by simp [hx]))
        rw [rawF, List.length_append, slotsAt_len, List.length_cons]
        omega
    have h1 := (sortP_perm ltP (raw (madeP l))).length_eq
    have h2 := hr (madeP l) 0 (fun o ho => (hf.2.2 o ho).1)
    have h3 := hf.2.1
    have h4 : (srt (madeP l)).length = (raw (madeP l)).length := h1
    rw [h4]
    show (rawF 0 (madeP l)).length ≤ 24
    omega
end Go.Proofs.Ytikphbgfcpamgaa
namespace Go.Proofs.Ytikphbgfcpamgaa
open Go.RowKit
theorem block_of_add (a : Addr) (n : Nat) : (a.add n).block = a.block := by unfold Addr.add; split <;> rfl
theorem add_of_add (a : Addr) (i j : Nat) : (a.add i).add j = a.add (i + j) := by
  unfold Addr.add
  by_cases hi : i = 0 <;> by_cases hj : j = 0 <;> simp [hi, hj, Nat.add_assoc]

def Reads (w : World) (B size : Nat) (A : Option Addr) (n : Nat) (xs : List Value) : Prop :=
  xs.length = n * size ∧ (0 < n → ∃ b o, A = some ⟨b, o, none⟩ ∧ b < B ∧ ∀ j u, xs[j]? = some u → w.cell? ⟨b, o + j, none⟩ = some u)

section
variable {w w' : World} {B B' size n : Nat} {A : Option Addr} {xs : List Value}
theorem Reads.none_ : Reads w B size A 0 [] := ⟨by simp, fun h => absurd h (by omega)⟩
theorem Reads.at_ {k : Nat} (h : Reads w B 1 A n xs) (hk : k < n) : ∃ b o u, A = some ⟨b, o, none⟩ ∧ b < B ∧ xs[k]? = some u ∧ w.cell? ⟨b, o + k, none⟩ = some u := by
  obtain ⟨b, o, e, hb, hc⟩ := h.2 (by omega)
  have hl : k < xs.length := by have := h.1; omega
  exact ⟨b, o, xs[k], e, hb, List.getElem?_eq_getElem hl, hc k _ (List.getElem?_eq_getElem hl)⟩
theorem Reads.keep (h : Reads w B size A n xs) (hk : ∀ p : Addr, p.block < B → w'.cell? p = w.cell? p) : Reads w' B size A n xs :=
  ⟨h.1, fun hn => by
    obtain ⟨b, o, e, hb, hc⟩ := h.2 hn
    exact ⟨b, o, e, hb, fun j u hu => (hk _ hb).trans (hc j u hu)⟩⟩
theorem Reads.more (h : Reads w B size A n xs) (hB : B ≤ B') : Reads w B' size A n xs :=
  ⟨h.1, fun hn => by
    obtain ⟨b, o, e, hb, hc⟩ := h.2 hn
    exact ⟨b, o, e, by omega, hc⟩⟩
theorem Reads.below (h : Reads w B size A n xs) (hb : Below B w w') : Reads w' B size A n xs := h.keep fun _ hp => hb.cell hp
theorem Reads.drew (h : Reads w B size A n xs) : Reads w.drew B size A n xs := h
theorem Reads.drewN (h : Reads w B size A n xs) (k : Nat) : Reads (w.drewN k) B size A n xs := h
theorem Reads.alloc (h : Reads w B size A n xs) (hB : B ≤ w.heap.size) (o : Obj) : Reads (w.alloc o) B size A n xs := h.keep fun p hp => World.cell?_alloc_lt w o p (by omega)
theorem Reads.setCell (h : Reads w B size A n xs) {p : Addr} (hB : B ≤ p.block) (u : Value) : Reads (w.setCell p u) B size A n xs :=
  h.keep fun q hq => World.cell?_setCell_other w p q u (fun e => by subst e; omega)
theorem Reads.grown (h : Reads w B size A n xs) {row : Option Nat} (hg : w.grownBy w' row) (hB : B ≤ w.heap.size) (hr : ∀ g, row = some g → B ≤ g) : Reads w' B size A n xs :=
  h.keep fun p hp => World.cell?_of_block (hg.block p.block (by omega) (fun e => by have := hr _ e.symm; omega))
theorem Reads.cut (h : Reads w B size A n xs) {k cap : Nat} (hk : k ≤ n) (hc : n ≤ cap) :
    Reads w B size (if cap = k then A else A.map (·.add (k * size))) (n - k) (xs.drop (k * size)) := by
  refine ⟨by rw [List.length_drop, h.1, Nat.sub_mul], fun hn => ?_⟩
  obtain ⟨b, o, rfl, hb, hcell⟩ := h.2 (by omega)
  rw [if_neg (by omega)]
  refine ⟨b, o + k * size, by simp [Addr.add_lit], hb, fun j u hu => ?_⟩
  rw [Nat.add_assoc]
  exact hcell _ u (by rw [← hu, List.getElem?_drop])
theorem Reads.upto (h : Reads w B size A n xs) {k : Nat} (hk : k ≤ n) : Reads w B size A k (xs.take (k * size)) := by
  refine ⟨by rw [List.length_take, h.1]; have := Nat.mul_le_mul_right size hk; omega, fun hn => ?_⟩
  obtain ⟨b, o, rfl, hb, hcell⟩ := h.2 (by omega)
  refine ⟨b, o, rfl, hb, fun j u hu => ?_⟩
  rw [List.getElem?_take] at hu
  split at hu
  · exact hcell j u hu
  · cases hu
theorem Reads.of_own {base : Nat} {e : TypeId} {c : Nat} (h : w.ownsRow base e size (.slice A n c) n xs) : Reads w w.heap.size size A n xs := by
  refine ⟨h.1, fun hn => ?_⟩
  obtain ⟨g, cap, hv, _, hlt⟩ := h.form hn
  have hA : A = some ⟨g, 0, none⟩ := by injection hv
  subst hA
  exact ⟨_, _, rfl, hlt, fun j u hu => by have := h.cells (g := g) rfl j u hu; rwa [Addr.add_lit] at this⟩
end
def Blk (w : World) (g : Nat) (t : TypeId) (cs : Array Value) : Prop := w.heap[g]? = some (.cells cs t (0, 0))

section
variable {w w' : World} {g : Nat} {t : TypeId} {cs : Array Value}
theorem Blk.lt (h : Blk w g t cs) : g < w.heap.size := by
  rcases Nat.lt_or_ge g w.heap.size with hlt | hge
  · exact hlt
  · unfold Blk at h; rw [Array.getElem?_eq_none hge] at h; cases h
theorem Blk.cell (h : Blk w g t cs) (i : Nat) : w.cell? ⟨g, i, none⟩ = cs[i]? := cell_of_row w g i cs t (0, 0) h
theorem Blk.frozen (h : Blk w g t cs) (i : Nat) : w.frozen? ⟨g, i, none⟩ = false := by
  unfold Blk at h
  simp [World.frozen?, h]
theorem Blk.new (w : World) (t : TypeId) (cs : Array Value) : Blk (w.alloc (.cells cs t)) w.heap.size t cs := heap_alloc_new w _
theorem Blk.drew (h : Blk w g t cs) : Blk w.drew g t cs := h
theorem Blk.drewN (h : Blk w g t cs) (n : Nat) : Blk (w.drewN n) g t cs := h
theorem Blk.alloc (h : Blk w g t cs) (o : Obj) : Blk (w.alloc o) g t cs := (Below.heap_alloc w o g h.lt).trans h
theorem Blk.set_ (h : Blk w g t cs) (i : Nat) (u : Value) : Blk (w.setCell ⟨g, i, none⟩ u) g t (cs.setIfInBounds i u) := by
  unfold Blk at h ⊢
  simp [World.setCell, Array.getElem?_modify, h]
theorem Blk.far (h : Blk w g t cs) {p : Addr} (hp : g ≠ p.block) (u : Value) : Blk (w.setCell p u) g t cs := (Below.heap_setCell w p u g hp).trans h
theorem Blk.below {B : Nat} (h : Blk w g t cs) (hb : Below B w w') (hg : g < B) : Blk w' g t cs := (hb.block g hg).trans h
theorem Blk.grown {row : Option Nat} (h : Blk w g t cs) (hb : w.grownBy w' row) (hg : some g ≠ row) : Blk w' g t cs := (hb.block g h.lt hg).trans h
theorem Blk.ne_ {g' : Nat} {t' : TypeId} {cs' : Array Value} (h : Blk w g t cs) (h' : Blk w g' t' cs') (hne : t ≠ t') : g ≠ g' := by
  rintro rfl
  unfold Blk at h h'
  rw [h] at h'
  injection h' with h'
  injection h' with _ ht
  exact hne ht
theorem own_blk_ne {base : Nat} {e : TypeId} {size n : Nat} {v : Value} {xs : List Value} (h : w.ownsRow base e size v n xs) (hg : Blk w g t cs) (hne : e ≠ t) : v.ownBlock ≠ some g := by
  rcases h.2 with ⟨rfl, _⟩ | ⟨g', cap, cur, rfl, _, hh, _⟩
  · simp [Value.ownBlock]
  · intro he
    have : g' = g := by simpa [Value.ownBlock] using he
    subst this
    exact Blk.ne_ (t := e) hh hg hne rfl
end
section
variable {P : Program} (w : World)

theorem run_append_of_nil (base : Nat) (t ty e : TypeId) (i : TypeInfo) (size : Nat) (ht : P.underlying t = some (.slice e)) (hi : P.info? e = some i)
    (v : Value) (n : Nat) (xs : List Value) (hown : w.ownsRow base e size v n xs) (c : Nat) : (Builtin.append_ #[t, t] ty #[v, .slice none 0 c]).run P w = .ok v w := by
  rcases hown.2 with ⟨rfl, rfl⟩ | ⟨g, cap, cur, rfl, _, _, hnc, _⟩
  · simp [Builtin.append_, run_underlying ht, sizeOf, typeInfo, hi, Builtin.lenOf, Builtin.firstCells]
  · simp [Builtin.append_, run_underlying ht, sizeOf, typeInfo, hi, Builtin.lenOf, Builtin.firstCells, hnc, storeCells]

theorem run_append_any (base : Nat) (t ty e : TypeId) (i : TypeInfo) (z : Value) (size bytes : Nat) (ht : P.underlying t = some (.slice e)) (hi : P.info? e = some i) (hz : i.zero = some z)
    (hsize : i.size = size) (hby : i.bytes = bytes) (hzs : z.cells.size = size) (hsz : 0 < size)
    (v : Value) (n : Nat) (xs : List Value) (hown : w.ownsRow base e size v n xs)
    (B : Nat) (A : Option Addr) (m c : Nat) (news : List Value) (hr : Reads w B size A m news) (h1 : ∀ u ∈ news, u.oneCell' = true)
    (h63 : n + m ≤ maxLen) (hbytes : (n + m) * bytes ≤ 140737488355328) (hbase : base ≤ w.heap.size) :
    ∃ v' w', (Builtin.append_ #[t, t] ty #[v, .slice A m c]).run P w = .ok v' w' ∧ w'.ownsRow base e size v' (n + m) (xs ++ news) ∧ w.grownBy w' v.ownBlock ∧
      (v'.ownBlock = v.ownBlock ∨ v'.ownBlock = some w.heap.size) := by
  rcases A with _ | ad
  · have hm : m = 0 := by
      rcases Nat.eq_zero_or_pos m with h0 | h0
      · exact h0
      · obtain ⟨_, _, h, _⟩ := hr.2 h0
        cases h
    subst hm
    have hn : news = [] := List.eq_nil_of_length_eq_zero (by simpa using hr.1)
    subst hn
    exact ⟨v, w, run_append_of_nil w base t ty e i size ht hi v n xs hown c, by simpa using hown, World.grownBy.refl w _, .inl rfl⟩
  · have hcells : ∀ j u, news[j]? = some u → w.cell? (ad.add j) = some u := by
      intro j u hu
      rcases Nat.eq_zero_or_pos m with h0 | h0
      · subst h0
        have hn : news = [] := List.eq_nil_of_length_eq_zero (by simpa using hr.1)
        subst hn
        simp at hu
      · obtain ⟨b, o, h, _, hc⟩ := hr.2 h0
        injection h with h
        subst h
        rw [Addr.add_lit]
        exact hc j u hu
    obtain ⟨v', w', hrun, h2, h3, _, h5⟩ := run_append_own_at (P := P) w base t ty e i z size bytes ht hi hz hsize hby hzs hsz v n xs hown ad m c news hr.1 hcells h1 h63 hbytes hbase
    exact ⟨v', w', hrun, h2, h3, h5⟩

theorem wp_append_any {o : Oper} {a : Act} {K : Act → World → Prop} {Q : Exit → Act → World → Prop} (s x : Operand) (t : TypeId)
    (ho : o.op = .call { callee := .builtin .append, args := #[s, x], argTypes := #[t, t] })
    (base : Nat) (e : TypeId) (i : TypeInfo) (z : Value) (size bytes : Nat) (ht : P.underlying t = some (.slice e)) (hi : P.info? e = some i) (hz : i.zero = some z)
    (hsize : i.size = size) (hby : i.bytes = bytes) (hzs : z.cells.size = size) (hsz : 0 < size)
    (v : Value) (n : Nat) (xs : List Value) (hs : a.eval s = v) (hown : w.ownsRow base e size v n xs)
    (B : Nat) (A : Option Addr) (m c : Nat) (news : List Value) (hx : a.eval x = .slice A m c) (hr : Reads w B size A m news) (h1 : ∀ u ∈ news, u.oneCell' = true)
    (h63 : n + m ≤ maxLen) (hbytes : (n + m) * bytes ≤ 140737488355328) (hbase : base ≤ w.heap.size)
    (h : ∀ v' w', w'.ownsRow base e size v' (n + m) (xs ++ news) → w.grownBy w' v.ownBlock → (v'.ownBlock = v.ownBlock ∨ v'.ownBlock = some w.heap.size) → K (a.put o.dst v') w') : o.wp P a w K Q := by
  obtain ⟨v', w', hrun, h2, h3, h4⟩ := run_append_any (P := P) w base t o.type e i z size bytes ht hi hz hsize hby hzs hsz v n xs hown B A m c news hr h1 h63 hbytes hbase
  unfold Oper.wp execOp
  simp only [ho, resolve, invoke, builtin, Sem.run_bind, Sem.run_pure, Result.andThen_ok, List.map_toArray, List.map_cons, List.map_nil, hs, hx, hrun]
  exact h v' w' h2 h3 h4

theorem wpList_append_any {ops : Array Oper} {rest : List Oper} {o : Oper} {a : Act} {Q : Exit → Act → World → Prop} (hgd : o.guard = none) (s x : Operand) (t : TypeId)
    (ho : o.op = .call { callee := .builtin .append, args := #[s, x], argTypes := #[t, t] })
    (base : Nat) (e : TypeId) (i : TypeInfo) (z : Value) (size bytes : Nat) (ht : P.underlying t = some (.slice e)) (hi : P.info? e = some i) (hz : i.zero = some z)
    (hsize : i.size = size) (hby : i.bytes = bytes) (hzs : z.cells.size = size) (hsz : 0 < size)
    (v : Value) (n : Nat) (xs : List Value) (hs : a.eval s = v) (hown : w.ownsRow base e size v n xs)
    (B : Nat) (A : Option Addr) (m c : Nat) (news : List Value) (hx : a.eval x = .slice A m c) (hr : Reads w B size A m news) (h1 : ∀ u ∈ news, u.oneCell' = true)
    (h63 : n + m ≤ maxLen) (hbytes : (n + m) * bytes ≤ 140737488355328) (hbase : base ≤ w.heap.size)
    (h : ∀ v' w', w'.ownsRow base e size v' (n + m) (xs ++ news) → w.grownBy w' v.ownBlock → (v'.ownBlock = v.ownBlock ∨ v'.ownBlock = some w.heap.size) → wpList P ops Q rest (a.put o.dst v') w') : wpList P ops Q (o :: rest) a w :=
  wpList_plain hgd fun _ hK => wp_append_any w s x t ho base e i z size bytes ht hi hz hsize hby hzs hsz v n xs hs hown B A m c news hx hr h1 h63 hbytes hbase fun v' w' h2 h3 h4 => hK _ _ (h v' w' h2 h3 h4)

theorem step_append_any {ops : Array Oper} {o : Oper} {a : Act} {K : Act → World → Prop} {Q : Exit → Act → World → Prop} {E : Prop} (hgd : o.guard = none) (s x : Operand) (t : TypeId)
    (ho : o.op = .call { callee := .builtin .append, args := #[s, x], argTypes := #[t, t] })
    (base : Nat) (e : TypeId) (i : TypeInfo) (z : Value) (size bytes : Nat) (ht : P.underlying t = some (.slice e)) (hi : P.info? e = some i) (hz : i.zero = some z)
    (hsize : i.size = size) (hby : i.bytes = bytes) (hzs : z.cells.size = size) (hsz : 0 < size)
    (v : Value) (n : Nat) (xs : List Value) (hs : a.eval s = v) (hown : w.ownsRow base e size v n xs)
    (B : Nat) (A : Option Addr) (m c : Nat) (news : List Value) (hx : a.eval x = .slice A m c) (hr : Reads w B size A m news) (h1 : ∀ u ∈ news, u.oneCell' = true)
    (h63 : n + m ≤ maxLen) (hbytes : (n + m) * bytes ≤ 140737488355328) (hbase : base ≤ w.heap.size)
    (h : ∀ v' w', w'.ownsRow base e size v' (n + m) (xs ++ news) → w.grownBy w' v.ownBlock → (v'.ownBlock = v.ownBlock ∨ v'.ownBlock = some w.heap.size) → K (a.put o.dst v') w') :
    if Region.wanted o (yielded ops a.tmps) = true then Oper.wp P o a w K Q else E := by
  have hw : Region.wanted o (yielded ops a.tmps) = true := by simp [Region.wanted, hgd]
  rw [if_pos hw]
  exact wp_append_any w s x t ho base e i z size bytes ht hi hz hsize hby hzs hsz v n xs hs hown B A m c news hx hr h1 h63 hbytes hbase h
end
theorem quiet_add {P : Program} {f : FuncId} {args : Array Value} {w : World} {a n : Nat} {v : Value}
    (h : Calls P f args (w.drewN (a + n)) fun e w' => e = .returned v ∧ ∃ m, w' = (w.drewN (a + n)).drewN m) :
    Calls P f args (w.drewN (a + n)) fun e w'' => e = .returned v ∧ ∃ m, w'' = w.drewN (a + m) :=
  h.mono fun _ _ ⟨he, m, hm⟩ => ⟨he, n + m, by rw [hm, World.drewN_drewN, Nat.add_assoc]⟩
theorem quiet_add_same {P : Program} {f : FuncId} {args : Array Value} {w : World} {a n : Nat} {v : Value}
    (h : Calls P f args (w.drewN (a + n)) fun e w' => e = .returned v ∧ w' = w.drewN (a + n)) :
    Calls P f args (w.drewN (a + n)) fun e w'' => e = .returned v ∧ ∃ m, w'' = w.drewN (a + m) :=
  h.mono fun _ _ ⟨he, hm⟩ => ⟨he, n, hm⟩
theorem quiet_add_left {P : Program} {f : FuncId} {args : Array Value} {w : World} {a n : Nat} {v : Value}
    (h : Calls P f args (w.drewN (a + n)) fun e w' => e = .returned v ∧ w.drewN (a + n) = w') :
    Calls P f args (w.drewN (a + n)) fun e w'' => e = .returned v ∧ ∃ m, w'' = w.drewN (a + m) :=
  h.mono fun _ _ ⟨he, hm⟩ => ⟨he, n, hm.symm⟩
theorem quiet_left {P : Program} {f : FuncId} {args : Array Value} {w : World} {n : Nat} {v : Value}
    (h : Calls P f args (w.drewN n) fun e w' => e = .returned v ∧ w.drewN n = w') : Calls P f args (w.drewN n) fun e w'' => e = .returned v ∧ ∃ m, w'' = w.drewN m :=
  h.mono fun _ _ ⟨he, hm⟩ => ⟨he, n, hm.symm⟩
theorem below_drewN {B : Nat} {a w : World} (h : Below B a w) (n : Nat) : Below B a (w.drewN n) := ⟨h.os, h.tape, h.output, h.size, h.block⟩
theorem rowIs_drewN {w : World} {b : Nat} {t : TypeId} {n : Nat} {f : Nat → Value} (h : w.rowIs b t n f) (k : Nat) : (w.drewN k).rowIs b t n f := h
theorem grown_trans {a b c : World} (h : Grown a b) (k : Grown b c) : Grown a c :=
  ⟨World.keptBut_trans h.1 k.1, fun x => (k.2.1 x).trans (h.2.1 x), Nat.le_trans h.2.2 k.2.2⟩

theorem only_drewN {a w : World} {row : Option Nat} (h : a.grownBy w row) (n : Nat) : a.grownBy (w.drewN n) row := ⟨h.os, h.tape, h.output, h.size, h.block⟩
theorem only_drew {a w : World} {row : Option Nat} (h : a.grownBy w row) : a.grownBy w.drew row := ⟨h.os, h.tape, h.output, h.size, h.block⟩
theorem only_alloc {a w : World} {row : Option Nat} (h : a.grownBy w row) (o : Obj) : a.grownBy (w.alloc o) row :=
  ⟨h.os, h.tape, h.output, Nat.le_trans h.size (by simp), fun i hi hne => (Below.heap_alloc w o i (Nat.lt_of_lt_of_le hi h.size)).trans (h.block i hi hne)⟩
theorem only_setCell {a w : World} {g : Nat} (h : a.grownBy w (some g)) {p : Addr} (hp : p.block = g ∨ a.heap.size ≤ p.block) (u : Value) : a.grownBy (w.setCell p u) (some g) :=
  ⟨h.os, h.tape, h.output, by simpa [World.setCell] using h.size, fun i hi hne => (Below.heap_setCell w p u i (by
    rintro rfl
    rcases hp with hp | hp
    · exact hne (by rw [hp])
    · omega)).trans (h.block i hi hne)⟩
theorem only_of_below {a w : World} (h : Below a.heap.size a w) (row : Option Nat) : a.grownBy w row := ⟨h.os, h.tape, h.output, h.size, fun i hi _ => h.block i hi⟩
theorem run_make_rowN {P : Program} (t e : TypeId) (i : TypeInfo) (z : Value) (ht : P.underlying t = some (.slice e)) (hi : P.info? e = some i) (hz : i.zero = some z)
    (kl kc : IntKind) (n c : Nat) (hnc : n ≤ c) (hbytes : i.bytes * c ≤ 281474976710656) (h63 : c ≤ 9223372036854775807) (w : World) :
    (Instr.makeSlice t (.int kl (n : Int)) (.int kc (c : Int))).run P w = .ok (.slice (some ⟨w.heap.size, 0, none⟩) n c) (w.alloc (.cells (madeCells z.cells (c * i.size)) e)) := by
  have hb : (i.bytes : Int) * (c : Int) ≤ 281474976710656 := by
    have h : ((i.bytes * c : Nat) : Int) ≤ 281474976710656 := by omega
    rwa [Int.natCast_mul] at h
  have hr := run_make (P := P) w t e i z ht hi hz kl kc n c (by omega) (by omega) hb (by omega)
  simp only [Int.toNat_natCast] at hr
  exact hr
theorem run_makeMap_hint {P : Program} (t k e : TypeId) (kd : IntKind) (n : Int) (ht : P.underlying t = some (.map k e)) (w : World) :
    (Instr.makeMap t (some (.int kd n))).run P w = .ok (.map (some w.heap.size)) (w.alloc (.map #[] 0)) := by
  simp [Instr.makeMap, run_underlying ht]; rfl

theorem bl_alloc {a w : World} (h : Below a.heap.size a w) (o : Obj) : Below a.heap.size a (w.alloc o) := h.alloc h.size o
theorem bl_then {a b c : World} (h : Below a.heap.size a b) (k : Below b.heap.size b c) : Below a.heap.size a c := h.trans (k.mono h.size)

end Go.Proofs.Ytikphbgfcpamgaa
namespace Go.Proofs.Ytikphbgfcpamgaa
open Go.RowKit

section
variable {α : Type} {cells : α → List Value} {s : Nat}
theorem flat_len (hs : ∀ x, (cells x).length = s) (l : List α) : (l.flatMap cells).length = l.length * s := by
  induction l with
  | nil => simp
  | cons x r ih => rw [List.flatMap_cons, List.length_append, ih, hs, List.length_cons, Nat.succ_mul]; omega
theorem flat_at (hs : ∀ x, (cells x).length = s) (l : List α) (k : Nat) (h : k < l.length) (j : Nat) (hj : j < s) : (l.flatMap cells)[k * s + j]? = (cells l[k])[j]? := by
  induction l generalizing k with
  | nil => simp at h
  | cons x r ih =>
    rw [List.flatMap_cons]
    cases k with
    | zero => rw [Nat.zero_mul, Nat.zero_add, List.getElem?_append_left (by rw [hs]; exact hj)]; rfl
    | succ k =>
      rw [List.getElem?_append_right (by rw [hs, Nat.succ_mul]; omega), hs, show (k + 1) * s + j - s = k * s + j by rw [Nat.succ_mul]; omega]
      exact ih k (by simpa using h)

structure RA (cells : α → List Value) (s : Nat) (w : World) (B : Nat) (A : Option Addr) (n c : Nat) (l : List α) : Prop where
  rd : Reads w B s A n (l.flatMap cells)
  len : l.length = n
  cap : n ≤ c
  capM : c ≤ maxLen
  le : n ≤ 9223372036854775807

variable {w w' : World} {B B' n c : Nat} {A : Option Addr} {l : List α}
theorem RA.keep (h : RA cells s w B A n c l) (hk : ∀ p : Addr, p.block < B → w'.cell? p = w.cell? p) : RA cells s w' B A n c l := ⟨h.rd.keep hk, h.len, h.cap, h.capM, h.le⟩
theorem RA.below (h : RA cells s w B A n c l) (hb : Below B w w') : RA cells s w' B A n c l := ⟨h.rd.below hb, h.len, h.cap, h.capM, h.le⟩
theorem RA.more (h : RA cells s w B A n c l) (hb : B ≤ B') : RA cells s w B' A n c l := ⟨h.rd.more hb, h.len, h.cap, h.capM, h.le⟩
theorem RA.alloc (h : RA cells s w B A n c l) (hB : B ≤ w.heap.size) (o : Obj) : RA cells s (w.alloc o) B A n c l := ⟨h.rd.alloc hB o, h.len, h.cap, h.capM, h.le⟩
theorem RA.at_ (hs : ∀ x, (cells x).length = s) (h : RA cells s w B A n c l) {k : Nat} (hk : k < n) :
    ∃ (b o : Nat) (hz : k < l.length), A = some ⟨b, o, none⟩ ∧ b < B ∧ ∀ j, j < s → w.cell? ⟨b, o + k * s + j, none⟩ = (cells l[k])[j]? := by
  obtain ⟨b, o, e, hb, hc⟩ := h.rd.2 (by omega)
  have hz : k < l.length := by rw [h.len]; exact hk
  refine ⟨b, o, hz, e, hb, fun j hj => ?_⟩
  have hu : (cells l[k])[j]? = some ((cells l[k])[j]'(by rw [hs]; exact hj)) := List.getElem?_eq_getElem _
  rw [hu, Nat.add_assoc]
  exact hc _ _ (by rw [flat_at hs l k hz j hj]; exact hu)
end

def plcCells (x : Plc) : List Value := [.int .i64 x.opt, .int .i64 x.slot, .int .i64 x.fr, .int .i64 x.tt]
def sltCells (s : Slt) : List Value := [.int .i64 s.p, .int .i64 s.fr, .int .i64 s.tt]
def brnCells (b : Brn) : List Value := [.int .i64 b.at_, .int .i64 b.opt, .int .i64 b.slot, .int .i64 b.yes, .int .i64 b.no]
def ackCells (a : Ack) : List Value := [.int .i64 a.opt, .int .i64 a.slot, .bool a.is_]
def intCells (n : Int) : List Value := [.int .i64 n]
def natCells (n : Nat) : List Value := [.int .i64 n]
theorem plc_len (x : Plc) : (plcCells x).length = 4 := rfl
theorem slt_len (x : Slt) : (sltCells x).length = 3 := rfl
theorem brn_len (x : Brn) : (brnCells x).length = 5 := rfl
theorem ack_len (x : Ack) : (ackCells x).length = 3 := rfl
theorem int_len (x : Int) : (intCells x).length = 1 := rfl
theorem nat_len (x : Nat) : (natCells x).length = 1 := rfl
theorem plc_size : (Try.prog.info? 83).map (·.size) = some 4 := by kernel_rfl
end Go.Proofs.Ytikphbgfcpamgaa
