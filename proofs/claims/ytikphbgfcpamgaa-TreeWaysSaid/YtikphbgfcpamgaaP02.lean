/- Plain laws of trees: what is left behind some acks, the ways, the number of branches, an option left out. -/
import Derived.Test.YtikphbgfcpamgaaP01
namespace Go.Proofs.Ytikphbgfcpamgaa

theorem plc_unique : ∀ {a b : List Plc}, Aprt a → Aprt b → (∀ p ∈ a, p.fr < p.tt) → (∀ p, p ∈ a ↔ p ∈ b) → a = b := by
  intro a
  induction a with
  | nil =>
    intro b _ _ _ h
    cases b with
    | nil => rfl
    | cons y r => exact absurd ((h y).2 (by simp)) (by simp)
  | cons x r ih =>
    intro b ha hb hl h
    cases b with
    | nil => exact absurd ((h x).1 (by simp)) (by simp)
    | cons y s =>
      have hly : y.fr < y.tt := hl y ((h y).2 (by simp))
      have hlx : x.fr < x.tt := hl x (by simp)
      have hxy : x = y := by
        rcases List.mem_cons.1 ((h x).1 (by simp)) with e | e
        · exact e
        · rcases List.mem_cons.1 ((h y).2 (by simp)) with e2 | e2
          · exact e2.symm
          · have h1 := hb.1 x e
            have h2 := ha.1 y e2
            omega
      subst hxy
      have hr : r = s := by
        refine ih ha.2 hb.2 (fun p hp => hl p (by simp [hp])) fun p => ?_
        constructor
        · intro hp
          rcases List.mem_cons.1 ((h p).1 (by simp [hp])) with e | e
          · subst e
            have := ha.1 p hp
            omega
          · exact e
        · intro hp
          rcases List.mem_cons.1 ((h p).2 (by simp [hp])) with e | e
          · subst e
            have := hb.1 p hp
            omega
          · exact e
      rw [hr]
theorem aprt_filter (q : Plc → Bool) : ∀ {ps : List Plc}, Aprt ps → Aprt (ps.filter q) := by
  intro ps
  induction ps with
  | nil => intro _; trivial
  | cons p r ih =>
    intro h
    rw [List.filter_cons]
    split
    · exact ⟨fun z hz => h.1 z (List.mem_filter.1 hz).1, ih h.2⟩
    · exact ih h.2
theorem aprt_slots {i : Nat} : ∀ {l : List Slt} {e : Int} (k : Nat), chainP e l = true → Aprt (slotsAt i k l) := by
  intro l
  induction l with
  | nil => intro e k _; trivial
  | cons s r ih =>
    intro e k h
    simp only [chainP, Bool.and_eq_true] at h
    refine ⟨fun z hz => ?_, ih _ h.2⟩
    obtain ⟨j, t, h1, rfl⟩ := (mem_slotsAt _ _).1 hz
    exact (chain_ge h.2 t (List.mem_of_getElem? h1)).1
theorem srt_filter {l : List Op} (h : carP l = true) {i : Nat} {o : Op} (hi : l[i]? = some o) : (srt l).filter (fun p => decide (p.opt = i)) = slotsAt i 0 o.l := by
  obtain ⟨hok, ha⟩ := carP_iff.1 h
  have hc := (can_chain (okL_can hok o (List.mem_of_getElem? hi)).1).1
  refine plc_unique (aprt_filter _ ha) (aprt_slots 0 hc) (fun p hp => (plc_ok hok (mem_srt.1 (List.mem_filter.1 hp).1)).2.1) fun p => ?_
  rw [List.mem_filter, mem_srt, mem_slotsAt, decide_eq_true_eq]
  constructor
  · rintro ⟨⟨o', s, h1, h2, h3, h4⟩, rfl⟩
    rw [hi] at h1
    injection h1 with h1
    subst h1
    exact ⟨p.slot, s, h2, by cases p; simp_all⟩
  · rintro ⟨j, s, h1, rfl⟩
    exact ⟨⟨o, s, hi, by simpa using h1, rfl, rfl⟩, rfl⟩
def runI (q : Int → Int → Bool) : List Plc → List Ack
  | [] => []
  | p :: r => ⟨p.opt, p.slot, q p.opt p.slot⟩ :: (if q p.opt p.slot then [] else runI q r)
theorem run_filter (q : Int → Int → Bool) (i : Nat) : ∀ (ps : List Plc) (d : Nat), (runP q ps d).filter (fun a => decide (a.opt = (i : Int))) = if d.testBit i then [] else runI q (ps.filter (fun p => decide (p.opt = i))) := by
  intro ps
  induction ps with
  | nil => intro d; simp [runP, runI]
  | cons p r ih =>
    intro d
    rw [runP]
    by_cases hpi : p.opt = i
    · subst hpi
      by_cases hd : d.testBit p.opt = true
      · rw [if_pos hd, ih, if_pos hd, if_pos hd]
      · rw [if_neg hd, if_neg hd]
        simp only [List.filter_cons, decide_true, if_true, runI, ih]
        congr 1
        cases hq : q p.opt p.slot
        · simp [hd]
        · simp
    · have e0 : (p :: r).filter (fun p => decide (p.opt = i)) = r.filter (fun p => decide (p.opt = i)) := by rw [List.filter_cons, if_neg (show ¬ decide (p.opt = i) = true by simpa using hpi)]
      rw [e0]
      by_cases hd : d.testBit p.opt = true
      · rw [if_pos hd, ih]
      · rw [if_neg hd, List.filter_cons, if_neg (by simp; omega), ih]
        have : (if q p.opt p.slot = true then d ||| 2 ^ p.opt else d).testBit i = d.testBit i := by
          split
          · rw [tb_or]; simp [hpi]
          · rfl
        rw [this]
theorem run_opt {q : Int → Int → Bool} {l : List Op} (h : carP l = true) {i : Nat} {o : Op} (hi : l[i]? = some o) : (runP q (srt l) 0).filter (fun a => decide (a.opt = (i : Int))) = runI q (slotsAt i 0 o.l) := by
  rw [run_filter, srt_filter h hi]
  simp
theorem run_mem {q : Int → Int → Bool} : ∀ {ps : List Plc} {d : Nat} {a : Ack}, a ∈ runP q ps d → ∃ p ∈ ps, a = ⟨p.opt, p.slot, q p.opt p.slot⟩ := by
  intro ps
  induction ps with
  | nil => intro d a h; cases h
  | cons p r ih =>
    intro d a h
    rw [runP] at h
    split at h
    · obtain ⟨x, hx, e⟩ := ih h; exact ⟨x, by simp [hx], e⟩
    · rcases List.mem_cons.1 h with e | h
      · exact ⟨p, by simp, e⟩
      · obtain ⟨x, hx, e⟩ := ih h; exact ⟨x, by simp [hx], e⟩

def Later (a : Int) : DT → Prop
  | .leaf => True
  | .node b _ _ _ _ => a < b
def NoOpt (o : Int) : DT → Prop
  | .leaf => True
  | .node _ p _ n y => p ≠ o ∧ NoOpt o n ∧ NoOpt o y
def Good (l : List Op) : DT → Prop
  | .leaf => True
  | .node a o s n y => (0 ≤ o ∧ 0 ≤ s ∧ ∃ t, isPlc l ⟨o.toNat, s.toNat, a, t⟩) ∧ Later a n ∧ Later a y ∧ NoOpt o y ∧ Good l n ∧ Good l y
theorem dt_later {a : Int} : ∀ {ps : List Plc} {d : Nat}, (∀ p ∈ ps, a < p.fr) → Later a (dt ps d) := by
  intro ps
  induction ps with
  | nil => intro d _; trivial
  | cons p r ih =>
    intro d h
    rw [dt]
    split
    · exact ih fun q hq => h q (by simp [hq])
    · exact h p (by simp)
theorem dt_noOpt {o : Nat} : ∀ {ps : List Plc} {d : Nat}, d.testBit o = true → NoOpt o (dt ps d) := by
  intro ps
  induction ps with
  | nil => intro d _; trivial
  | cons p r ih =>
    intro d h
    rw [dt]
    split
    · exact ih h
    · rename_i hd
      exact ⟨fun e => hd (by rw [Int.ofNat.inj e]; exact h), ih h, ih (by rw [tb_or, h]; rfl)⟩
theorem dt_good {l : List Op} : ∀ {ps : List Plc} {d : Nat}, Aprt ps → (∀ p ∈ ps, p.fr < p.tt ∧ isPlc l p) → Good l (dt ps d) := by
  intro ps
  induction ps with
  | nil => intro d _ _; trivial
  | cons p r ih =>
    intro d ha hl
    have hr := fun d => ih (d := d) ha.2 (fun q hq => hl q (by simp [hq]))
    have hlat : ∀ q ∈ r, p.fr < q.fr := fun q hq => by have h1 := ha.1 q hq; have h2 := (hl p (by simp)).1; omega
    rw [dt]
    split
    · exact hr d
    · exact ⟨⟨by omega, by omega, p.tt, by simpa using (hl p (by simp)).2⟩, dt_later hlat, dt_later hlat, dt_noOpt (by rw [tb_or]; simp), hr _, hr _⟩
def atB (T : List Brn) (k : Int) : Int := match T[k.toNat]? with
  | some b => b.at_
  | none => 0
def slotB (l : List Op) (b : Brn) : Bool := inB b.opt 0 ((l.length : Int) - 1) && (match l[b.opt.toNat]? with
  | none => false
  | some o => inB b.slot 0 ((o.l.length : Int) - 1) && (match o.l[b.slot.toNat]? with
    | none => false
    | some s => decide (b.at_ = s.fr)))
def mkB (O : List Nat) (b : Brn) : Nat := 2 ^ b.opt.toNat ||| (if b.no = -1 then 0 else O.getD b.no.toNat 0) ||| (if b.yes = -1 then 0 else O.getD b.yes.toNat 0)
def okB (l : List Op) (T : List Brn) (O : List Nat) (b : Brn) : Bool := slotB l b && (inB b.no (-1) ((O.length : Int) - 1) && (decide (b.no = -1) || decide (b.at_ < atB T b.no))) && (inB b.yes (-1) ((O.length : Int) - 1) && (decide (b.yes = -1) || (decide (b.at_ < atB T b.yes) && !((O.getD b.yes.toNat 0).testBit b.opt.toNat))))
def chkR (l : List Op) (T : List Brn) : List Nat → List Brn → Bool
  | _, [] => true
  | O, b :: r => okB l T O b && chkR l T (O ++ [mkB O b]) r
def validP (l : List Op) (T : List Brn) (k : Int) : Bool := carP l && decide (T.length ≤ 1500) && inB k (-1) ((T.length : Int) - 1) && chkR l T [] T && decide (bld [] (unf T k) = (T, k))
def maskD : DT → Nat
  | .leaf => 0
  | .node _ o _ n y => 2 ^ o.toNat ||| maskD n ||| maskD y
theorem noOpt_mask {l : List Op} {o : Int} (ho : 0 ≤ o) : ∀ {D : DT}, Good l D → NoOpt o D → (maskD D).testBit o.toNat = false := by
  intro D
  induction D with
  | leaf => intro _ _; simp [maskD]
  | node a p s n y h1 h2 =>
    intro hg hn
    obtain ⟨⟨q1, _, _⟩, _, _, _, g1, g2⟩ := hg
    rw [maskD, Nat.testBit_or, Nat.testBit_or, tb_pow, h1 g1 hn.2.1, h2 g2 hn.2.2, decide_eq_false (by have := hn.1; omega)]
    rfl
def AllGood (l : List Op) (T : List Brn) : Prop := ∀ (i : Nat), i < T.length → ∃ D, Rep T (i : Int) D ∧ Good l D
theorem AllGood.put {l : List Op} {T : List Brn} (h : AllGood l T) {b : Brn} {n y : DT} (hn : Rep T b.no n) (hy : Rep T b.yes y) (hg : Good l (.node b.at_ b.opt b.slot n y)) : AllGood l (put T b) := by
  unfold Go.Proofs.Ytikphbgfcpamgaa.put
  split
  · exact h
  · intro i hi
    by_cases hl : i < T.length
    · obtain ⟨D, h1, h2⟩ := h i hl
      exact ⟨D, h1.app _, h2⟩
    · have : i = T.length := by simp at hi; omega
      subst this
      exact ⟨_, Rep.node (by simp) (hn.app _) (hy.app _), hg⟩
theorem bld_good {l : List Op} : ∀ (D : DT) (T : List Brn), Good l D → AllGood l T → Down T → AllGood l (bld T D).1 := by
  intro D
  induction D with
  | leaf => intro T _ h _; exact h
  | node a o s n y h1 h2 =>
    intro T hg h hd
    have g3 := h2 (bld T n).1 hg.2.2.2.2.2 (h1 T hg.2.2.2.2.1 h hd) (bld_down n T hd)
    have r1 := (bld_rep n T).grow (bld_ext y (bld T n).1)
    have r2 := bld_rep y (bld T n).1
    rw [bld]
    exact g3.put (b := ⟨a, o, s, (bld (bld T n).1 y).2, (bld T n).2⟩) r1 r2 hg
theorem later_at {T : List Brn} {a k : Int} {D : DT} (h : Rep T k D) (hl : Later a D) (hk : k ≠ -1) : a < atB T k := by
  cases h with
  | leaf => exact absurd rfl hk
  | node h1 _ _ => unfold atB; simp only [Int.toNat_natCast, h1]; exact hl
theorem slotB_of {l : List Op} {b : Brn} {t : Int} (h1 : 0 ≤ b.opt) (h2 : 0 ≤ b.slot) (h : isPlc l ⟨b.opt.toNat, b.slot.toNat, b.at_, t⟩) : slotB l b = true := by
  obtain ⟨o, s, e1, e2, e3, _⟩ := h
  dsimp only at e1 e2 e3
  have l1 := (List.getElem?_eq_some_iff.1 e1).1
  have l2 := (List.getElem?_eq_some_iff.1 e2).1
  unfold slotB
  rw [e1]
  dsimp only
  rw [e2]
  dsimp only
  rw [inB_iff.2 (by omega), inB_iff.2 (by omega), decide_eq_true e3]
  rfl
theorem chk_good {l : List Op} {T : List Brn} (hd : Down T) (hg : AllGood l T) : ∀ (r : List Brn) (O : List Nat), T.drop O.length = r → (∀ (i : Nat), i < O.length → ∀ D, Rep T (i : Int) D → O.getD i 0 = maskD D) → chkR l T O r = true := by
  intro r
  induction r with
  | nil => intro O _ _; rfl
  | cons b r ih =>
    intro O hO hm
    have hlen : O.length < T.length := by
      have := congrArg List.length hO
      simp at this
      omega
    have hb : T[O.length]? = some b := by
      have := congrArg (·[0]?) hO
      simpa using this
    obtain ⟨D, hD, hgD⟩ := hg _ hlen
    obtain ⟨b', n, y, e1, rn, ry, rfl⟩ := hD.inv
    rw [hb] at e1
    injection e1 with e1
    subst e1
    obtain ⟨⟨q1, q2, t, q3⟩, l1, l2, l3, g1, g2⟩ := hgD
    obtain ⟨⟨b1, b2⟩, b3, b4⟩ := hd _ _ hb
    have hmask : ∀ (k : Int) (X : DT), Rep T k X → -1 ≤ k → k < O.length → (if k = -1 then 0 else O.getD k.toNat 0) = maskD X := by
      intro k X hX h1 h2
      by_cases hk : k = -1
      · rw [if_pos hk]; rw [hk] at hX; rw [hX.neg]; rfl
      · rw [if_neg hk]
        exact hm k.toNat (by omega) X (by rw [Int.toNat_of_nonneg (by omega)]; exact hX)
    rw [chkR, Bool.and_eq_true]
    constructor
    · unfold okB
      rw [slotB_of q1 q2 q3, inB_iff.2 (by omega), inB_iff.2 (by omega)]
      have c1 : (decide (b.no = -1) || decide (b.at_ < atB T b.no)) = true := by
        by_cases hk : b.no = -1
        · simp [hk]
        · have := later_at rn l1 hk
          simp [this]
      have c2 : (decide (b.yes = -1) || (decide (b.at_ < atB T b.yes) && !((O.getD b.yes.toNat 0).testBit b.opt.toNat))) = true := by
        by_cases hk : b.yes = -1
        · simp [hk]
        · have h1 := later_at ry l2 hk
          have h2 := hmask _ _ ry b3 b4
          rw [if_neg hk] at h2
          rw [h2, noOpt_mask q1 g2 l3, decide_eq_true h1]
          simp
      rw [c1, c2]
      rfl
    · refine ih (O ++ [mkB O b]) ?_ ?_
      · rw [List.length_append, List.length_singleton, ← List.drop_drop, hO]; rfl
      · intro i hi X hX
        by_cases hil : i < O.length
        · rw [← hm i hil X hX]
          simp only [List.getD_eq_getElem?_getD]
          rw [List.getElem?_append_left hil]
        · have : i = O.length := by simp at hi; omega
          subst this
          rw [hX.fn hD]
          simp only [List.getD_eq_getElem?_getD]
          rw [List.getElem?_append_right (Nat.le_refl _), Nat.sub_self]
          simp only [List.getElem?_cons_zero, Option.getD_some, maskD, mkB]
          rw [hmask _ _ rn b1 b2, hmask _ _ ry b3 b4]
theorem built_valid {l : List Op} (hc : carP l = true) {D : DT} (hg : Good l D) (hlen : (bld [] D).1.length ≤ 1500) : validP l (bld [] D).1 (bld [] D).2 = true := by
  have hr := bld_rep D []
  have hd := bld_down D [] down_nil
  have hn := bld_nodup D [] List.nodup_nil
  have hlo := hr.lo
  have hchk := chk_good hd (bld_good D [] hg (fun i h => by simp at h) down_nil) (bld [] D).1 [] rfl (fun i h => by simp at h)
  unfold validP
  rw [hc, decide_eq_true hlen, inB_iff.2 (by omega), hchk, unf_rep hd hr, decide_eq_true rfl]
  rfl
end Go.Proofs.Ytikphbgfcpamgaa
namespace Go.Proofs.Ytikphbgfcpamgaa

def slotAt (l : List Op) (o s : Int) : Option Slt := if 0 ≤ o ∧ 0 ≤ s then (match l[o.toNat]? with | some x => x.l[s.toNat]? | none => none) else none
def qP (l : List Op) (lost : List Int) (o s : Int) : Bool := match slotAt l o s with
  | some x => !decide (x.p ∈ lost)
  | none => false
def seqOK (l : List Op) (lost : List Int) : Int → List Ack → Bool
  | _, [] => true
  | last, a :: r => match slotAt l a.opt a.slot with
    | none => false
    | some s => decide (last ≤ s.fr) && (a.is_ == !decide (s.p ∈ lost)) && seqOK l lost s.tt r
theorem plc_slot {l : List Op} {p : Plc} (h : isPlc l p) : ∃ s, slotAt l p.opt p.slot = some s ∧ s.fr = p.fr ∧ s.tt = p.tt := by
  obtain ⟨o, s, h1, h2, h3, h4⟩ := h
  refine ⟨s, ?_, h3.symm, h4.symm⟩
  unfold slotAt
  rw [if_pos (by omega)]
  simp only [Int.toNat_natCast, h1, h2]
theorem run_seq {l : List Op} {lost : List Int} : ∀ {ps : List Plc} {d : Nat} {last : Int}, Aprt ps → (∀ p ∈ ps, isPlc l p ∧ last ≤ p.fr) → seqOK l lost last (runP (qP l lost) ps d) = true := by
  intro ps
  induction ps with
  | nil => intro d last _ _; rfl
  | cons p r ih =>
    intro d last ha hp
    rw [runP]
    obtain ⟨s, e1, e2, e3⟩ := plc_slot (hp p (by simp)).1
    split
    · exact ih ha.2 fun q hq => hp q (by simp [hq])
    · rw [seqOK, e1]
      dsimp only
      rw [decide_eq_true (by have := (hp p (by simp)).2; omega), ih ha.2 (fun q hq => ⟨(hp q (by simp [hq])).1, by have := ha.1 q hq; omega⟩), qP, e1]
      simp
def leadN (lost : List Int) : List Slt → Nat
  | [] => 0
  | s :: r => if s.p ∈ lost then leadN lost r + 1 else 0
def scanO (i : Int) : Nat → List Ack → Option Nat
  | n, [] => some n
  | n, a :: r => if a.opt ≠ i then scanO i n r else if a.slot ≠ (n : Int) then none else scanO i (n + 1) r
theorem scan_filter (i : Int) : ∀ (l : List Ack) (n : Nat), scanO i n l = scanO i n (l.filter (fun a => decide (a.opt = i))) := by
  intro l
  induction l with
  | nil => intro n; rfl
  | cons a r ih =>
    intro n
    by_cases h : a.opt = i
    · have e : (a :: r).filter (fun a => decide (a.opt = i)) = a :: r.filter (fun a => decide (a.opt = i)) := by rw [List.filter_cons, if_pos (decide_eq_true h)]
      rw [e, scanO, scanO, ih n, ih (n + 1)]
    · have e : (a :: r).filter (fun a => decide (a.opt = i)) = r.filter (fun a => decide (a.opt = i)) := by rw [List.filter_cons, if_neg (by simpa using h)]
      rw [e, scanO, if_pos h, ih]
theorem scan_runI {l : List Op} {lost : List Int} {i : Nat} {o : Op} (hi : l[i]? = some o) : ∀ (r : List Slt) (n : Nat), o.l.drop n = r → scanO (i : Int) n (runI (qP l lost) (slotsAt i n r)) = some (n + min (leadN lost r + 1) r.length) := by
  intro r
  induction r with
  | nil => intro n _; simp [slotsAt, runI, scanO]
  | cons s r ih =>
    intro n hn
    have hs : o.l[n]? = some s := by have := congrArg (·[0]?) hn; simpa using this
    have hq : qP l lost (i : Int) (n : Int) = !decide (s.p ∈ lost) := by
      unfold qP slotAt
      rw [if_pos (by omega)]
      simp only [Int.toNat_natCast, hi, hs]
    have ih2 := ih (n + 1) (by rw [← List.drop_drop, hn]; rfl)
    rw [slotsAt, runI, scanO, if_neg (by simp), if_neg (by simp)]
    dsimp only
    rw [hq, leadN]
    by_cases hm : s.p ∈ lost
    · rw [if_neg (by simp [hm]), ih2, if_pos hm]
      simp only [List.length_cons, Option.some.injEq]
      omega
    · rw [if_pos (by simp [hm]), if_neg hm]
      simp only [List.length_cons, scanO, Option.some.injEq]
      omega
theorem sends_plain {l : List Op} {lost : List Int} (h : carP l = true) : seqOK l lost (-1) (runP (qP l lost) (srt l) 0) = true ∧ ∀ (i : Nat) (o : Op), l[i]? = some o → scanO (i : Int) 0 (runP (qP l lost) (srt l) 0) = some (min (leadN lost o.l + 1) o.l.length) := by
  obtain ⟨hok, ha⟩ := carP_iff.1 h
  refine ⟨run_seq ha fun p hp => ⟨mem_srt.1 hp, by have := plc_ok hok (mem_srt.1 hp); omega⟩, fun i o hi => ?_⟩
  rw [scan_filter, run_opt h hi, scan_runI hi o.l 0 rfl, Nat.zero_add]

def gotR : Nat → List Ack → Nat
  | d, [] => d
  | d, a :: r => gotR (if a.is_ then d ||| 2 ^ a.opt.toNat else d) r
def gotP (l : List Ack) : Nat := gotR 0 l
theorem gotR_bit (j : Nat) : ∀ (l : List Ack) (d : Nat), (∀ a ∈ l, 0 ≤ a.opt) → (gotR d l).testBit j = (d.testBit j || (l.filter (fun a => decide (a.opt = (j : Int)))).any (·.is_)) := by
  intro l
  induction l with
  | nil => intro d _; simp [gotR]
  | cons a r ih =>
    intro d h
    have h0 := h a (by simp)
    rw [gotR, ih _ (fun b hb => h b (by simp [hb]))]
    by_cases hj : a.opt = (j : Int)
    · have e : (a :: r).filter (fun a => decide (a.opt = (j : Int))) = a :: r.filter (fun a => decide (a.opt = (j : Int))) := by rw [List.filter_cons, if_pos (decide_eq_true hj)]
      rw [e, List.any_cons]
      cases a.is_
      · simp
      · rw [if_pos rfl, tb_or, decide_eq_true (by omega)]; simp
    · have e : (a :: r).filter (fun a => decide (a.opt = (j : Int))) = r.filter (fun a => decide (a.opt = (j : Int))) := by rw [List.filter_cons, if_neg (by simpa using hj)]
      rw [e]
      congr 1
      split
      · rw [tb_or, decide_eq_false (by omega), Bool.or_false]
      · rfl
theorem runI_any {l : List Op} {lost : List Int} {i : Nat} {o : Op} (hi : l[i]? = some o) : ∀ (r : List Slt) (n : Nat), o.l.drop n = r → (runI (qP l lost) (slotsAt i n r)).any (·.is_) = r.any (fun s => !decide (s.p ∈ lost)) := by
  intro r
  induction r with
  | nil => intro n _; rfl
  | cons s r ih =>
    intro n hn
    have hs : o.l[n]? = some s := by have := congrArg (·[0]?) hn; simpa using this
    have hq : qP l lost (i : Int) (n : Int) = !decide (s.p ∈ lost) := by
      unfold qP slotAt
      rw [if_pos (by omega)]
      simp only [Int.toNat_natCast, hi, hs]
    have ih2 := ih (n + 1) (by rw [← List.drop_drop, hn]; rfl)
    rw [slotsAt, runI, List.any_cons, List.any_cons]
    dsimp only
    rw [hq]
    cases decide (s.p ∈ lost)
    · rfl
    · simpa using ih2
theorem run_opts {q : Int → Int → Bool} {l : List Op} (h : carP l = true) : ∀ a ∈ runP q (srt l) 0, 0 ≤ a.opt ∧ a.opt < l.length ∧ 0 ≤ a.slot ∧ a.slot < 6 := by
  intro a ha
  obtain ⟨p, hp, rfl⟩ := run_mem ha
  have := plc_ok (carP_iff.1 h).1 (mem_srt.1 hp)
  dsimp only
  omega
theorem got_bit {l : List Op} {lost : List Int} (h : carP l = true) {i : Nat} {o : Op} (hi : l[i]? = some o) : (gotP (runP (qP l lost) (srt l) 0)).testBit i = o.l.any (fun s => !decide (s.p ∈ lost)) := by
  rw [gotP, gotR_bit _ _ _ (fun a ha => (run_opts h a ha).1), run_opt h hi, runI_any hi o.l 0 rfl]
  simp
theorem got_lt {q : Int → Int → Bool} {l : List Op} (h : carP l = true) : gotP (runP q (srt l) 0) < 2 ^ l.length := by
  refine Nat.lt_pow_two_of_testBit _ fun j hj => ?_
  rw [gotP, gotR_bit _ _ _ (fun a ha => (run_opts h a ha).1)]
  simp only [Nat.zero_testBit, Bool.false_or, List.any_eq_false]
  intro a ha
  have h1 := (List.mem_filter.1 ha).2
  have h2 := run_opts h a (List.mem_filter.1 ha).1
  simp only [decide_eq_true_eq] at h1
  omega
def pickP (c n : Int) : Int := (if c < 0 then -(c + 1) else c) % n
def diffP : List Int → List Slt → List Int
  | m, [] => m
  | m, s :: r => diffP (if pickP s.p 6 ∈ m then m else m ++ [pickP s.p 6]) r
theorem diff_nodup : ∀ (l : List Slt) (m : List Int), m.Nodup → (diffP m l).Nodup := by
  intro l
  induction l with
  | nil => intro m h; exact h
  | cons s r ih =>
    intro m h
    refine ih _ ?_
    split
    · exact h
    · rename_i hn
      rw [List.nodup_append]
      exact ⟨h, by simp, fun x hx y hy e => hn (by simp at hy; rw [← hy, ← e]; exact hx)⟩
theorem diff_mem : ∀ (l : List Slt) (m : List Int) (x : Int), x ∈ diffP m l → x ∈ m ∨ ∃ s ∈ l, x = pickP s.p 6 := by
  intro l
  induction l with
  | nil => intro m x h; exact .inl h
  | cons s r ih =>
    intro m x h
    rcases ih _ x h with h | ⟨t, ht, e⟩
    · split at h
      · exact .inl h
      · rcases List.mem_append.1 h with h | h
        · exact .inl h
        · exact .inr ⟨s, by simp, by simpa using h⟩
    · exact .inr ⟨t, by simp [ht], e⟩
theorem nodup_len {α : Type} [DecidableEq α] : ∀ (A B : List α), A.Nodup → (∀ x ∈ A, x ∈ B) → A.length ≤ B.length := by
  intro A
  induction A with
  | nil => intro B _ _; simp
  | cons x r ih =>
    intro B h1 h2
    obtain ⟨h3, h4⟩ := List.nodup_cons.1 h1
    have hx := h2 x (by simp)
    have := ih (B.erase x) h4 fun y hy => (List.mem_erase_of_ne (fun e => h3 (by rw [← e]; exact hy))).2 (h2 y (by simp [hy]))
    rw [List.length_erase_of_mem hx] at this
    have hb : 0 < B.length := List.length_pos_of_mem hx
    simp only [List.length_cons]
    omega
theorem diff_saved {lost : List Int} {l : List Slt} (h : lost.length < (diffP [] l).length) : l.any (fun s => !decide (s.p ∈ lost)) = true := by
  cases h0 : l.any (fun s => !decide (s.p ∈ lost))
  case true => rfl
  exfalso
  rw [List.any_eq_false] at h0
  have := nodup_len (diffP [] l) (lost.map (fun p => pickP p 6)) (diff_nodup l [] List.nodup_nil) fun x hx => by
    rcases diff_mem l [] x hx with h1 | ⟨s, hs, rfl⟩
    · cases h1
    · have := h0 s hs
      simp at this
      exact List.mem_map.2 ⟨s.p, this, rfl⟩
  rw [List.length_map] at this
  omega
end Go.Proofs.Ytikphbgfcpamgaa
namespace Go.Proofs.Ytikphbgfcpamgaa

def subs : DT → List DT
  | .leaf => []
  | .node a o s n y => .node a o s n y :: (subs n ++ subs y)
theorem subs_self {D : DT} (h : D ≠ .leaf) : D ∈ subs D := by
  cases D with
  | leaf => exact absurd rfl h
  | node => simp [subs]
theorem subs_trans : ∀ {D X Y : DT}, X ∈ subs D → Y ∈ subs X → Y ∈ subs D := by
  intro D
  induction D with
  | leaf => intro X Y h; cases h
  | node a o s n y h1 h2 =>
    intro X Y hX hY
    rcases List.mem_cons.1 hX with rfl | hX
    · exact hY
    · rw [subs]
      rcases List.mem_append.1 hX with hX | hX
      · exact List.mem_cons_of_mem _ (List.mem_append.2 (.inl (h1 hX hY)))
      · exact List.mem_cons_of_mem _ (List.mem_append.2 (.inr (h2 hX hY)))
theorem rep_sub {T : List Brn} {k : Int} {D : DT} (h : Rep T k D) : ∀ X ∈ subs D, ∃ i : Nat, i < T.length ∧ Rep T (i : Int) X := by
  induction h with
  | leaf => intro X hX; cases hX
  | @node j b n y hk r1 r2 h1 h2 =>
    intro X hX
    rcases List.mem_cons.1 hX with rfl | hX
    · exact ⟨j, (List.getElem?_eq_some_iff.1 hk).1, .node hk r1 r2⟩
    · rcases List.mem_append.1 hX with hX | hX
      · exact h1 X hX
      · exact h2 X hX
def FromP (P : DT → Prop) (T : List Brn) : Prop := ∀ i : Nat, i < T.length → ∃ D, Rep T (i : Int) D ∧ P D
theorem bld_from {P : DT → Prop} : ∀ (D : DT) (T : List Brn), (∀ X ∈ subs D, P X) → FromP P T → FromP P (bld T D).1 := by
  intro D
  induction D with
  | leaf => intro T _ h; exact h
  | node a o s n y h1 h2 =>
    intro T hp h
    have g3 := h2 (bld T n).1 (fun X hX => hp X (by simp [subs, hX])) (h1 T (fun X hX => hp X (by simp [subs, hX])) h)
    have r1 := (bld_rep n T).grow (bld_ext y (bld T n).1)
    have r2 := bld_rep y (bld T n).1
    rw [bld]
    generalize bld (bld T n).1 y = q at g3 r1 r2 ⊢
    generalize (bld T n).2 = m at r1 ⊢
    intro i hi
    dsimp only at hi ⊢
    unfold put at hi ⊢
    by_cases hm : (⟨a, o, s, q.2, m⟩ : Brn) ∈ q.1
    · rw [if_pos hm] at hi ⊢
      exact g3 i hi
    · rw [if_neg hm] at hi ⊢
      by_cases hl : i < q.1.length
      · obtain ⟨D, e1, e2⟩ := g3 i hl
        exact ⟨D, e1.app _, e2⟩
      · have : i = q.1.length := by simp at hi; omega
        subst this
        exact ⟨_, Rep.node (b := ⟨a, o, s, q.2, m⟩) (by simp) (r1.app _) (r2.app _), hp _ (by simp [subs])⟩
theorem built_from (D : DT) : FromP (fun X => X ∈ subs D) (bld [] D).1 := bld_from D [] (fun _ h => h) (fun i h => by simp at h)
theorem bld_len {D E : DT} (f : DT → DT) (h : ∀ X ∈ subs E, ∃ Y ∈ subs D, f Y = X) : (bld [] E).1.length ≤ (bld [] D).1.length := by
  have hE := built_from E
  have hD := rep_sub (bld_rep D [])
  have hnE := bld_nodup E [] List.nodup_nil
  have H : ∀ i : Nat, ∃ j : Nat, i < (bld [] E).1.length → j < (bld [] D).1.length ∧ ∃ Y, Rep (bld [] D).1 (j : Int) Y ∧ Rep (bld [] E).1 (i : Int) (f Y) := by
    intro i
    by_cases hi : i < (bld [] E).1.length
    · obtain ⟨X, h1, h2⟩ := hE i hi
      obtain ⟨Y, h3, h4⟩ := h X h2
      obtain ⟨j, h5, h6⟩ := hD Y h3
      exact ⟨j, fun _ => ⟨h5, Y, h6, by rw [h4]; exact h1⟩⟩
    · exact ⟨0, fun h => absurd h hi⟩
  obtain ⟨g, hg⟩ := Classical.axiomOfChoice H
  have := nodup_len ((List.range (bld [] E).1.length).map g) (List.range (bld [] D).1.length) ?_ ?_
  · simpa using this
  · rw [List.nodup_iff_pairwise_ne, List.pairwise_map]
    refine List.Pairwise.imp_of_mem ?_ List.nodup_range
    intro a b ha hb hne e
    obtain ⟨_, Y, r1, r2⟩ := hg a (List.mem_range.1 ha)
    obtain ⟨_, Z, r3, r4⟩ := hg b (List.mem_range.1 hb)
    rw [e] at r1
    rw [r1.fn r3] at r2
    have := r2.inj hnE r4
    omega
  · intro x hx
    obtain ⟨a, ha, rfl⟩ := List.mem_map.1 hx
    exact List.mem_range.2 (hg a (List.mem_range.1 ha)).1
theorem bld_len_sub {D E : DT} (h : ∀ X ∈ subs E, X ∈ subs D) : (bld [] E).1.length ≤ (bld [] D).1.length := bld_len id fun X hX => ⟨X, h X hX, rfl⟩
theorem good_sub {l : List Op} : ∀ {D : DT}, Good l D → ∀ X ∈ subs D, Good l X := by
  intro D
  induction D with
  | leaf => intro _ X h; cases h
  | node a o s n y h1 h2 =>
    intro hg X hX
    rcases List.mem_cons.1 hX with rfl | hX
    · exact hg
    · rcases List.mem_append.1 hX with hX | hX
      · exact h1 hg.2.2.2.2.1 X hX
      · exact h2 hg.2.2.2.2.2 X hX

def prnT (T : List Brn) : List Ack → Int → Option Int
  | [], k => some k
  | a :: r, k => if k = -1 then none else match T[k.toNat]? with
    | none => none
    | some b => if a.opt = b.opt ∧ a.slot = b.slot then prnT T r (if a.is_ then b.yes else b.no) else none
theorem prn_take {T : List Brn} {q : Int → Int → Bool} : ∀ (j : Nat) (k : Int) (D : DT), Rep T k D → j ≤ (folD q D).length → ∃ k' D', prnT T ((folD q D).take j) k = some k' ∧ Rep T k' D' ∧ folD q D' = (folD q D).drop j ∧ (∀ X ∈ subs D', X ∈ subs D) ∧ ∀ a, (folD q D)[j]? = some a → prnT T ((folD q D).take j ++ [⟨a.opt, a.slot + 1, a.is_⟩]) k = none := by
  intro j
  induction j with
  | zero =>
    intro k D h _
    refine ⟨k, D, rfl, h, rfl, fun _ h => h, fun a ha => ?_⟩
    cases h with
    | leaf => simp [folD] at ha
    | @node i b n y hk r1 r2 =>
      rw [folD] at ha
      simp at ha
      subst ha
      simp only [List.take_zero, List.nil_append, prnT, Int.toNat_natCast, hk]
      rw [if_neg (by omega), if_neg (by rintro ⟨_, e⟩; omega)]
  | succ j ih =>
    intro k D h hl
    cases h with
    | leaf => simp [folD] at hl
    | @node i b n y hk r1 r2 =>
      rw [folD] at hl ⊢
      have hstep : ∀ r, prnT T (⟨b.opt, b.slot, q b.opt b.slot⟩ :: r) (i : Int) = prnT T r (if q b.opt b.slot then b.yes else b.no) := by
        intro r
        rw [prnT, if_neg (by omega)]
        simp only [Int.toNat_natCast, hk]
        rw [if_pos ⟨trivial, trivial⟩]
      simp only [List.take_succ_cons, List.drop_succ_cons, List.cons_append, hstep, List.getElem?_cons_succ]
      cases hq : q b.opt b.slot
      · rw [hq] at hl
        simp only [Bool.false_eq_true, if_false] at hl ⊢
        obtain ⟨k', D', e1, e2, e3, e4, e5⟩ := ih _ _ r1 (by simp at hl; omega)
        exact ⟨k', D', e1, e2, e3, fun X hX => by simp [subs, e4 X hX], e5⟩
      · rw [hq] at hl
        simp only [if_true] at hl ⊢
        obtain ⟨k', D', e1, e2, e3, e4, e5⟩ := ih _ _ r2 (by simp at hl; omega)
        exact ⟨k', D', e1, e2, e3, fun X hX => by simp [subs, e4 X hX], e5⟩
theorem rep_good {l : List Op} {T : List Brn} {k k' : Int} {D D' : DT} (hg : Good l D) (_ : Rep T k D) (_ : Rep T k' D') (hs : ∀ X ∈ subs D', X ∈ subs D) : Good l D' := by
  cases D' with
  | leaf => trivial
  | node a o s n y => exact good_sub hg _ (hs _ (by simp [subs]))

def waysD : DT → Nat
  | .leaf => 1
  | .node _ _ _ n y => waysD n + waysD y
def upd (nx : Int → Int) (o v : Int) : Int → Int := fun j => if j = o then v else nx j
def wlk : DT → Nat → (Int → Int) → Option Nat
  | .leaf, _, _ => some 1
  | .node _ o s n y, c, nx => if o < 0 ∨ o ≥ 8 ∨ c.testBit o.toNat ∨ nx o ≠ s then none else
      match wlk n c (upd nx o (s + 1)), wlk y (c ||| 2 ^ o.toNat) (upd nx o (s + 1)) with
      | some a, some b => some (a + b)
      | _, _ => none
def depth : DT → Nat
  | .leaf => 0
  | .node _ _ _ n y => max (depth n) (depth y) + 1
theorem dt_depth : ∀ (ps : List Plc) (d : Nat), depth (dt ps d) ≤ ps.length := by
  intro ps
  induction ps with
  | nil => intro d; simp [dt, depth]
  | cons p r ih =>
    intro d
    rw [dt]
    split
    · have := ih d; simp; omega
    · have h1 := ih d; have h2 := ih (d ||| 2 ^ p.opt); simp [depth]; omega
theorem ways_le : ∀ (D : DT), waysD D ≤ 2 ^ depth D := by
  intro D
  induction D with
  | leaf => simp [waysD, depth]
  | node a o s n y h1 h2 =>
    have e1 : 2 ^ depth n ≤ 2 ^ max (depth n) (depth y) := Nat.pow_le_pow_right (by decide) (by omega)
    have e2 : 2 ^ depth y ≤ 2 ^ max (depth n) (depth y) := Nat.pow_le_pow_right (by decide) (by omega)
    have e3 : 2 ^ (max (depth n) (depth y) + 1) = 2 ^ max (depth n) (depth y) * 2 := Nat.pow_succ _ _
    simp only [waysD, depth]
    omega
def Nexts (ps : List Plc) (c : Nat) (nx : Int → Int) : Prop := ∀ i : Nat, c.testBit i = false → ∀ (j : Nat) (p : Plc), (ps.filter (fun p => decide (p.opt = i)))[j]? = some p → (p.slot : Int) = nx i + j
theorem wlk_dt : ∀ (ps : List Plc) (c : Nat) (nx : Int → Int), (∀ p ∈ ps, p.opt < 8) → Nexts ps c nx → wlk (dt ps c) c nx = some (waysD (dt ps c)) := by
  intro ps
  induction ps with
  | nil => intro c nx _ _; rfl
  | cons p r ih =>
    intro c nx hp hn
    have hpr : ∀ q ∈ r, q.opt < 8 := fun q hq => hp q (by simp [hq])
    rw [dt]
    by_cases hc : c.testBit p.opt = true
    · rw [if_pos hc]
      refine ih c nx hpr fun i hi j q hq => hn i hi j q ?_
      rw [List.filter_cons, if_neg (by simp; intro e; rw [e, hi] at hc; cases hc)]
      exact hq
    · rw [if_neg hc]
      have hcf : c.testBit p.opt = false := by simpa using hc
      have h0 := hn p.opt hcf 0 p (by rw [List.filter_cons, if_pos (by simp)]; rfl)
      have hN : ∀ c' : Nat, (∀ i : Nat, c'.testBit i = false → c.testBit i = false) → Nexts r c' (upd nx p.opt (p.slot + 1)) := by
        intro c' hcc i hi j q hq
        unfold upd
        by_cases hip : i = p.opt
        · subst hip
          rw [if_pos rfl]
          have := hn p.opt hcf (j + 1) q (by rw [List.filter_cons, if_pos (by simp)]; simpa using hq)
          omega
        · rw [if_neg (by omega)]
          refine hn i (hcc i hi) j q ?_
          rw [List.filter_cons, if_neg (by simp; omega)]
          exact hq
      have hno := ih c (upd nx p.opt (p.slot + 1)) hpr (hN c fun _ h => h)
      have hye := ih (c ||| 2 ^ p.opt) (upd nx p.opt (p.slot + 1)) hpr (hN _ fun i hi => by rw [tb_or] at hi; simp at hi; exact hi.1)
      have hp8 := hp p (by simp)
      rw [wlk, if_neg (by simp [hcf]; omega)]
      simp only [Int.toNat_natCast]
      rw [hno, hye, waysD]
theorem ways_plain {l : List Op} (h : carP l = true) : wlk (dt (srt l) 0) 0 (fun _ => 0) = some (waysD (dt (srt l) 0)) := by
  obtain ⟨hok, _⟩ := carP_iff.1 h
  refine wlk_dt _ _ _ (fun p hp => (plc_ok hok (mem_srt.1 hp)).2.2.2.2.2) fun i _ j p hj => ?_
  have hm := List.mem_of_getElem? hj
  have h1 := mem_srt.1 (List.mem_filter.1 hm).1
  have h2 : p.opt = i := by simpa using (List.mem_filter.1 hm).2
  obtain ⟨o, s, e1, _⟩ := h1
  rw [h2] at e1
  rw [srt_filter h e1] at hj
  have H : ∀ (r : List Slt) (k j : Nat), (slotsAt i k r)[j]? = some p → p.slot = k + j := by
    intro r
    induction r with
    | nil => intro k j h; simp [slotsAt] at h
    | cons s r ih =>
      intro k j h
      cases j with
      | zero => simp [slotsAt] at h; rw [← h]; rfl
      | succ j => have := ih (k + 1) j (by simpa [slotsAt] using h); omega
  have := H _ _ _ hj
  omega
theorem dt_label : ∀ (ps : List Plc) (p : Plc), p ∈ ps → ∃ n y, DT.node p.fr p.opt p.slot n y ∈ subs (dt ps 0) := by
  intro ps
  induction ps with
  | nil => intro p h; cases h
  | cons x r ih =>
    intro p h
    rw [dt, if_neg (by simp)]
    rcases List.mem_cons.1 h with rfl | h
    · exact ⟨_, _, by simp [subs]; exact .inl ⟨rfl, rfl⟩⟩
    · obtain ⟨n, y, h2⟩ := ih p h
      exact ⟨n, y, by simp [subs, h2]⟩
theorem slots_there {l : List Op} {p : Plc} (h : isPlc l p) : ∃ b ∈ (treeP l).1, b.opt = p.opt ∧ b.slot = p.slot ∧ b.at_ = p.fr := by
  obtain ⟨n, y, h1⟩ := dt_label (srt l) p (mem_srt.2 h)
  obtain ⟨i, _, h3⟩ := rep_sub (bld_rep (dt (srt l) 0) []) _ h1
  obtain ⟨b, n', y', e1, _, _, e2⟩ := h3.inv
  injection e2 with a1 a2 a3
  exact ⟨b, List.mem_of_getElem? e1, a2.symm, a3.symm, a1.symm⟩
end Go.Proofs.Ytikphbgfcpamgaa
