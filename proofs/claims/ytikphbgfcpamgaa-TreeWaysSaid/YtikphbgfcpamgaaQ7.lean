/- The law TreeWays of the tree layer: for every input the call returns true and each argument reads afterwards as it read before: the ways through a tree. No condition. -/
import Derived.Test.YtikphbgfcpamgaaP33
import Derived.Deep.CutRange
import Derived.Laws.Small
namespace Go.Proofs.Ytikphbgfcpamgaa
open Go.RowKit

/-- What is left after j acks. -/
structure Left (l : List Op) (lost : List Int) (T : List Brn) (st : Int) (acks : List Ack) (j : Nat) (P : List Brn) (k : Int) : Prop where
  prn : prunP l T st (acks.take j) = some (P, k)
  valid : validP l P k = true
  fol : folP l P k lost = some (acks.drop j)
  len : P.length ≤ T.length
  fin : j = acks.length → k = -1 ∧ P = []
  wrong : ∀ a, acks[j]? = some a → prunP l T st (acks.take j ++ [⟨a.opt, a.slot + 1, a.is_⟩]) = none
theorem made_left (xs : List Six) (x : Int) (j : Nat) (hj : j ≤ (runP (qP (madeP xs) (lossP x)) (srt (madeP xs)) 0).length) :
    ∃ P k, Left (madeP xs) (lossP x) (treeP (madeP xs)).1 (treeP (madeP xs)).2 (runP (qP (madeP xs) (lossP x)) (srt (madeP xs)) 0) j P k := by
  have hc := made_car xs
  have hv := made_valid xs
  have hlen := made_len xs
  have hg := car_good hc
  have hdn : Down (treeP (madeP xs)).1 := bld_down _ [] down_nil
  have hrp : Rep (treeP (madeP xs)).1 (treeP (madeP xs)).2 (dt (srt (madeP xs)) 0) := bld_rep _ []
  rw [← folD_dt] at hj ⊢
  obtain ⟨k', D', h1, h2, h3, h4, h5⟩ := prn_take j _ _ hrp hj
  have hD : D' = .leaf ∨ D' ∈ subs (dt (srt (madeP xs)) 0) := by
    by_cases h : D' = .leaf
    · exact .inl h
    · exact .inr (h4 _ (subs_self h))
  have hg' : Good (madeP xs) D' := by
    rcases hD with h | h
    · rw [h]; trivial
    · exact good_sub hg _ h
  have hl' : (bld [] D').1.length ≤ (treeP (madeP xs)).1.length := bld_len_sub h4
  have hv' := built_valid hc hg' (Nat.le_trans hl' hlen)
  refine ⟨(bld [] D').1, (bld [] D').2, ?_, hv', ?_, hl', ?_, ?_⟩
  · unfold prunP
    rw [if_pos hv, h1, Option.map_some, unf_rep hdn h2]
  · unfold folP
    rw [hv', loss_ok, unf_rep (bld_down _ [] down_nil) (bld_rep _ []), h3]
    rfl
  · intro h
    rw [h, List.drop_of_length_le (Nat.le_refl _)] at h3
    cases D' with
    | leaf => exact ⟨rfl, rfl⟩
    | node a o s n y => simp [folD] at h3
  · intro a ha
    unfold prunP
    rw [if_pos hv, h5 a ha]
    rfl
theorem made_none (xs : List Six) : prunP (madeP xs) (treeP (madeP xs)).1 (treeP (madeP xs)).2 [] = some ((treeP (madeP xs)).1, (treeP (madeP xs)).2) := by
  unfold prunP
  rw [if_pos (made_valid xs), prnT, Option.map_some, made_unf]
  rfl
theorem made_slots (xs : List Six) (x : Int) : ∀ a ∈ runP (qP (madeP xs) (lossP x)) (srt (madeP xs)) 0, 0 ≤ a.slot ∧ a.slot < 6 := fun a ha => by
  have h := run_opts (made_car xs) a ha
  exact ⟨h.2.2.1, h.2.2.2⟩
theorem flat_take {α : Type} {cells : α → List Value} {s : Nat} (hs : ∀ x, (cells x).length = s) (l : List α) (k : Nat) : (l.take k).flatMap cells = (l.flatMap cells).take (k * s) := by
  induction l generalizing k with
  | nil => simp
  | cons x r ih =>
    cases k with
    | zero => simp
    | succ k =>
      rw [List.take_succ_cons, List.flatMap_cons, List.flatMap_cons, ih, List.take_append, hs, Nat.succ_mul, List.take_of_length_le (l := cells x) (i := k * s + s) (by rw [hs]; omega), Nat.add_sub_cancel]
theorem flat_drop {α : Type} {cells : α → List Value} {s : Nat} (hs : ∀ x, (cells x).length = s) (l : List α) (k : Nat) : (l.drop k).flatMap cells = (l.flatMap cells).drop (k * s) := by
  induction l generalizing k with
  | nil => simp
  | cons x r ih =>
    cases k with
    | zero => simp
    | succ k =>
      rw [List.drop_succ_cons, List.flatMap_cons, ih, List.drop_append, hs, Nat.succ_mul, List.drop_of_length_le (l := cells x) (i := k * s + s) (by rw [hs]; omega), List.nil_append, Nat.add_sub_cancel]
theorem RA.cut {α : Type} {cells : α → List Value} {s : Nat} (hs : ∀ x, (cells x).length = s) {w : World} {B n c : Nat} {A : Option Addr} {l : List α} (h : RA cells s w B A n c l) (k : Nat) (hk : k ≤ n) : RA cells s w B A k c (l.take k) := by
  refine ⟨?_, by rw [List.length_take, h.len]; omega, Nat.le_trans hk h.cap, h.capM, Nat.le_trans hk h.le⟩
  rw [flat_take hs]
  exact h.rd.upto hk
theorem RA.tail {α : Type} {cells : α → List Value} {s : Nat} (hs : ∀ x, (cells x).length = s) {w : World} {B n c : Nat} {A : Option Addr} {l : List α} (h : RA cells s w B A n c l) (k : Nat) (hk : k ≤ n) : RA cells s w B (if c = k then A else A.map (·.add (k * s))) (n - k) (c - k) (l.drop k) := by
  have hc := h.cap
  have hm := h.capM
  have hl := h.le
  refine ⟨?_, by rw [List.length_drop, h.len], by omega, by omega, by omega⟩
  rw [flat_drop hs]
  exact h.rd.cut hk h.cap
/-- An own row's slice: its parts, and what a nil one is. -/
theorem own_slice2 {w : World} {base : Nat} {e : TypeId} {size : Nat} {v : Value} {n : Nat} {xs : List Value} (h : w.ownsRow base e size v n xs) : ∃ A c, v = .slice A n c ∧ (A = none → n = 0 ∧ c = 0) := by
  rcases h.2 with ⟨rfl, h0⟩ | ⟨g, cap, cur, rfl, _⟩
  · first | exact ⟨none, 0, by rw [h0], fun _ => ⟨h0, rfl⟩⟩ | (have := h.1; exact ⟨none, 0, by simp_all, fun _ => by simp_all⟩)
  · exact ⟨_, _, rfl, fun h => by cases h⟩
theorem fol_made2 (xs : List Six) (x : Int) (os : List Opt) (A TA LA : Option Addr) (n c tn tc ln lc : Nat) (w : World) (ho : opsP os = madeP xs) (h : Ops w w.heap.size A n c os) (hT : RA brnCells 5 w w.heap.size TA tn tc (treeP (madeP xs)).1) (hL : RA intCells 1 w w.heap.size LA ln lc (lossP x)) :
    Calls Try.prog 24 #[.agg #[.int .i64 (treeP (madeP xs)).2, .slice TA tn tc], .slice A n c, .slice LA ln lc] w fun e w' => ∃ QA qc, e = .returned (.tuple #[.slice QA (runP (qP (madeP xs) (lossP x)) (srt (madeP xs)) 0).length qc, .int .i64 0]) ∧ RA ackCells 3 w' w'.heap.size QA (runP (qP (madeP xs) (lossP x)) (srt (madeP xs)) 0).length qc (runP (qP (madeP xs) (lossP x)) (srt (madeP xs)) 0) ∧ (QA = none → (runP (qP (madeP xs) (lossP x)) (srt (madeP xs)) 0).length = 0 ∧ qc = 0) ∧ Ext w w' := by
  have hb := follow_any _ TA tn tc (treeP (madeP xs)).2 os A n c LA ln lc (lossP x) w hT h hL
  rw [ho, made_fol] at hb
  refine hb.mono ?_
  rintro e w' ⟨v, rfl, ho, hx⟩
  obtain ⟨A', c', rfl, hn⟩ := own_slice2 ho
  exact ⟨A', c', rfl, RA.of_own2 ho rfl, hn, hx⟩
theorem prune_l {l : List Op} (T : List Brn) (st : Int) (P : List Brn) (k : Int) (known : List Ack) (os : List Opt) (A TA KA : Option Addr) (n c tn tc kn kc : Nat) (w : World) (ho : opsP os = l) (h : Ops w w.heap.size A n c os) (hT : RA brnCells 5 w w.heap.size TA tn tc T) (hK : RA ackCells 3 w w.heap.size KA kn kc known) (hp : prunP l T st known = some (P, k)) :
    Calls Try.prog 28 #[.agg #[.int .i64 st, .slice TA tn tc], .slice A n c, .slice KA kn kc] w fun e w' => ∃ A c, e = .returned (.tuple #[.agg #[.int .i64 k, .slice A P.length c], .int .i64 0]) ∧ RA brnCells 5 w' w'.heap.size A P.length c P ∧ Ext w w' := by
  have hb := prune_any T TA tn tc st os A n c KA kn kc known w hT h hK
  rw [ho, hp] at hb
  exact hb.mono fun e w' hr => pruneRet_some hr
theorem prune_no {l : List Op} (T : List Brn) (st : Int) (known : List Ack) (os : List Opt) (A TA KA : Option Addr) (n c tn tc kn kc : Nat) (w : World) (ho : opsP os = l) (h : Ops w w.heap.size A n c os) (hT : RA brnCells 5 w w.heap.size TA tn tc T) (hK : RA ackCells 3 w w.heap.size KA kn kc known) (hp : prunP l T st known = none) :
    Calls Try.prog 28 #[.agg #[.int .i64 st, .slice TA tn tc], .slice A n c, .slice KA kn kc] w fun e w' => e = .returned (.tuple #[.agg #[.int .i64 0, .slice none 0 0], .int .i64 200]) ∧ Ext w w' := by
  have hb := prune_any T TA tn tc st os A n c KA kn kc known w hT h hK
  rw [ho, hp] at hb
  exact hb
theorem valid_l {l : List Op} (P : List Brn) (k : Int) (os : List Opt) (A TA : Option Addr) (n c tn tc : Nat) (w : World) (ho : opsP os = l) (h : Ops w w.heap.size A n c os) (hT : RA brnCells 5 w w.heap.size TA tn tc P) (hv : validP l P k = true) :
    Calls Try.prog 18 #[.agg #[.int .i64 k, .slice TA tn tc], .slice A n c] w fun e w' => e = .returned (.bool true) ∧ Ext w w' := by
  have hb := valid_any P TA tn tc k os A n c w hT h
  rw [ho, hv] at hb
  exact hb
theorem fol_l {l : List Op} (P : List Brn) (k : Int) (lost : List Int) (r : List Ack) (os : List Opt) (A TA LA : Option Addr) (n c tn tc ln lc : Nat) (w : World) (ho : opsP os = l) (h : Ops w w.heap.size A n c os) (hT : RA brnCells 5 w w.heap.size TA tn tc P) (hL : RA intCells 1 w w.heap.size LA ln lc lost) (hf : folP l P k lost = some r) :
    Calls Try.prog 24 #[.agg #[.int .i64 k, .slice TA tn tc], .slice A n c, .slice LA ln lc] w fun e w' => ∃ QA qc, e = .returned (.tuple #[.slice QA r.length qc, .int .i64 0]) ∧ RA ackCells 3 w' w'.heap.size QA r.length qc r ∧ Ext w w' := by
  have hb := follow_any P TA tn tc k os A n c LA ln lc lost w hT h hL
  rw [ho, hf] at hb
  exact hb.mono fun e w' hr => ackRet_some hr
end Go.Proofs.Ytikphbgfcpamgaa
namespace Go.Proofs.Ytikphbgfcpamgaa
open Go.RowKit

theorem cntD_ways : ∀ (D : DT), depth D ≤ 50 → cntD D = (waysD D : Int) := by
  intro D
  induction D with
  | leaf => intro _; rfl
  | node a o s n y h1 h2 =>
    intro h
    have hw := ways_le (.node a o s n y)
    have e : 2 ^ depth (.node a o s n y) ≤ 2 ^ 50 := Nat.pow_le_pow_right (by decide) h
    rw [depth] at h
    rw [cntD, h1 (by omega), h2 (by omega)]
    rw [waysD] at hw ⊢
    have e2 : (2 : Nat) ^ 50 = 1125899906842624 := by decide
    have e4 : wrap64 ((waysD n : Int) + (waysD y : Int)) = (waysD n : Int) + (waysD y : Int) := IntWalk.wrap64_in _ (by omega)
    rw [e4]
    omega
theorem wlk_le : ∀ (D : DT) (c : Nat) (nx : Int → Int) (N : Nat), wlk D c nx = some N → N ≤ 2 ^ depth D := by
  intro D
  induction D with
  | leaf => intro c nx N h; rw [wlk] at h; injection h with h; subst h; simp [depth]
  | node a o s n y h1 h2 =>
    intro c nx N h
    rw [wlk] at h
    split at h
    · cases h
    · split at h
      · rename_i e1 e2
        injection h with h
        subst h
        have k1 := h1 _ _ _ e1
        have k2 := h2 _ _ _ e2
        have e1 : 2 ^ depth n ≤ 2 ^ max (depth n) (depth y) := Nat.pow_le_pow_right (by decide) (by omega)
        have e2 : 2 ^ depth y ≤ 2 ^ max (depth n) (depth y) := Nat.pow_le_pow_right (by decide) (by omega)
        have e3 : 2 ^ (max (depth n) (depth y) + 1) = 2 ^ max (depth n) (depth y) * 2 := Nat.pow_succ _ _
        rw [depth]
        omega
      · cases h
theorem made_srt (l : List Six) : (srt (madeP l)).length ≤ 24 := by
  have hf := made_facts l
  have hr : ∀ (l : List Op) (i : Nat), (∀ o ∈ l, o.l.length ≤ 4) → (rawF i l).length ≤ 4 * l.length := by
    intro l
    induction l with
    | nil => intro i _; simp [rawF]
    | cons o r ih =>
      intro i h
      have h1 := h o (by simp)
      have h2 := ih (i + 1) (fun x hx => h x (by simp [hx]))
      rw [rawF, List.length_append, slotsAt_len, List.length_cons]
      omega
  have h1 := (sortP_perm ltP (raw (madeP l))).length_eq
  have h2 := hr (madeP l) 0 (fun o ho => (hf.2.2 o ho).1)
  have h3 : (raw (madeP l)).length = (rawF 0 (madeP l)).length := rfl
  have h4 : (srt (madeP l)).length = (sortP ltP (raw (madeP l))).length := rfl
  have := hf.2.1
  omega
/-- How many ways a tree that is made has. -/
theorem made_ways (l : List Six) : ∃ N : Nat, N ≤ 2 ^ 24 ∧ pathsP (madeP l) (treeP (madeP l)).1 (treeP (madeP l)).2 = some (N : Int) ∧ wlk (dt (srt (madeP l)) 0) 0 (fun _ => 0) = some N ∧ depth (dt (srt (madeP l)) 0) ≤ 24 := by
  have hd : depth (dt (srt (madeP l)) 0) ≤ 24 := Nat.le_trans (dt_depth _ _) (made_srt l)
  refine ⟨waysD (dt (srt (madeP l)) 0), Nat.le_trans (ways_le _) (Nat.pow_le_pow_right (by decide) hd), ?_, ways_plain (made_car l), hd⟩
  unfold pathsP
  rw [if_pos (made_valid l), made_unf, cntD_ways _ (by omega)]
/-- Is the branch the one of a slot? -/
def isB (i k : Nat) (fr : Int) (b : Brn) : Bool := b.opt == (i : Int) && b.slot == (k : Int) && b.at_ == fr
theorem made_there (xs : List Six) : ∀ (i k : Nat) (o : Op) (s : Slt), (madeP xs)[i]? = some o → o.l[k]? = some s → (treeP (madeP xs)).1.any (isB i k s.fr) = true := by
  intro i k o s h1 h2
  obtain ⟨b, hb, e1, e2, e3⟩ := slots_there (l := madeP xs) (p := ⟨i, k, s.fr, s.tt⟩) ⟨o, s, h1, h2, rfl, rfl⟩
  refine List.any_eq_true.2 ⟨b, hb, ?_⟩
  unfold isB
  dsimp only at e1 e2 e3
  rw [e1, e2, e3]
  simp
theorem any_step {T : List Brn} {m : Nat} {b : Brn} {f : Brn → Bool} (h : T[m]? = some b) : (T.take (m + 1)).any f = ((T.take m).any f || f b) := by
  have hk := (List.getElem?_eq_some_iff.1 h).1
  rw [List.take_succ_eq_append_getElem hk, (List.getElem?_eq_some_iff.1 h).2, List.any_append]
  simp
theorem upd_bd {nx : Int → Int} {o : Int} {d e : Nat} (h : ∀ j, 0 ≤ nx j ∧ nx j + (d : Int) ≤ 1000) (he : e + 1 ≤ d) : ∀ j, 0 ≤ upd nx o (nx o + 1) j ∧ upd nx o (nx o + 1) j + (e : Int) ≤ 1000 := fun j => by
  unfold upd
  have h1 := h j
  have h2 := h o
  split <;> omega
/-- What comes next of each option. -/
def nxC (nx : Int → Int) : Array Value := #[.int .i64 (nx 0), .int .i64 (nx 1), .int .i64 (nx 2), .int .i64 (nx 3), .int .i64 (nx 4), .int .i64 (nx 5), .int .i64 (nx 6), .int .i64 (nx 7)]
theorem nx_at (nx : Int → Int) {q : Nat} (hq : q < 8) : (nxC nx)[q]? = some (.int .i64 (nx (q : Int))) := by
  match q, hq with
  | 0, _ => rfl
  | 1, _ => rfl
  | 2, _ => rfl
  | 3, _ => rfl
  | 4, _ => rfl
  | 5, _ => rfl
  | 6, _ => rfl
  | 7, _ => rfl
theorem nx_set (nx : Int → Int) {q : Nat} (hq : q < 8) (v : Int) : (nxC nx).setIfInBounds q (.int .i64 v) = nxC (upd nx (q : Int) v) := by
  refine Array.ext_getElem? fun i => ?_
  rw [Array.getElem?_setIfInBounds]
  rcases Nat.lt_or_ge i 8 with hi | hi
  · rw [nx_at _ hi, nx_at _ hi]
    unfold upd
    by_cases h : q = i
    · subst h
      rw [if_pos rfl, if_pos (by exact hq), if_pos rfl]
    · rw [if_neg h, if_neg (by omega)]
  · have e1 : (nxC nx)[i]? = none := Array.getElem?_eq_none hi
    have e2 : (nxC (upd nx (q : Int) v))[i]? = none := Array.getElem?_eq_none hi
    rw [e1, e2, if_neg (by omega)]
theorem bit8w : ∀ (S : Fin 256) (i : Fin 8), (((S.val : Int) / 2 ^ i.val).tmod 2 == 1) = S.val.testBit i.val := by decide +kernel
theorem pow8 {p : Nat} (hp : p < 8) : ∃ z : Nat, z = 2 ^ p ∧ z < 256 ∧ IntKind.i64.wrap ((2 : Int) ^ p) = (z : Int) := by
  have h1 : (2 : Nat) ^ p ≤ 128 := Nat.le_trans (Nat.pow_le_pow_right (by decide) (show p ≤ 7 by omega)) (by decide)
  obtain ⟨z, hz⟩ : ∃ z : Nat, z = 2 ^ p := ⟨_, rfl⟩
  rw [← hz] at h1
  refine ⟨z, hz, by omega, ?_⟩
  have h2 : ((2 : Int) ^ p) = ((2 ^ p : Nat) : Int) := by simp
  rw [h2, ← hz]
  exact IntWalk.i64_in _ (by omega)
/-- A node, with what it asks for. -/
theorem wlk_node {a o s : Int} {n y : DT} {c : Nat} {nx : Int → Int} {N : Nat} (h : wlk (.node a o s n y) c nx = some N) : ∃ (p N1 N2 : Nat), o = (p : Int) ∧ p < 8 ∧ c.testBit p = false ∧ nx p = s ∧ wlk n c (upd nx p (s + 1)) = some N1 ∧ wlk y (c ||| 2 ^ p) (upd nx p (s + 1)) = some N2 ∧ N = N1 + N2 := by
  rw [wlk] at h
  split at h
  · cases h
  · rename_i hc
    split at h
    · rename_i N1 N2 e1 e2
      injection h with h
      have ho : o = (o.toNat : Int) := by omega
      refine ⟨o.toNat, N1, N2, ho, by omega, by simpa using (fun e => hc (.inr (.inr (.inl e)))), ?_, ?_, ?_, h.symm⟩
      · rw [← ho]
        exact Classical.byContradiction fun e => hc (.inr (.inr (.inr e)))
      · rw [← ho]; exact e1
      · rw [← ho]; exact e2
    · cases h
theorem paths_l {l : List Op} {T : List Brn} {st N : Int} (os : List Opt) (A TA : Option Addr) (n c tn tc : Nat) (w : World) (ho : opsP os = l) (h : Ops w w.heap.size A n c os) (hT : RA brnCells 5 w w.heap.size TA tn tc T) (hp : pathsP l T st = some N) :
    Calls Try.prog 22 #[.agg #[.int .i64 st, .slice TA tn tc], .slice A n c] w fun e w' => e = .returned (.tuple #[.int .i64 N, .int .i64 0]) ∧ Ext w w' := by
  have h1 := paths_any T TA tn tc st os A n c w hT h
  rw [ho, hp] at h1
  exact h1
end Go.Proofs.Ytikphbgfcpamgaa
namespace Go.Proofs.Ytikphbgfcpamgaa
open Go.RowKit

set_option maxRecDepth 100000 in
set_option maxHeartbeats 4000000 in
theorem walked_any (T : List Brn) (TA : Option Addr) (tn tc : Nat) (st : Int) : ∀ (D : DT) (k : Int) (c : Nat) (nx : Int → Int) (s N : Nat) (w : World), Rep T k D → depth D + s ≤ 41 → c < 256 → (∀ j, 0 ≤ nx j ∧ nx j + (depth D : Int) ≤ 1000) → wlk D c nx = some N → RA brnCells 5 w w.heap.size TA tn tc T →
    Calls Try.prog 31 #[.agg #[.int .i64 st, .slice TA tn tc], .int .i64 k, .int .i64 (c : Int), .agg (nxC nx), .int .i64 (s : Int)] w fun e w' => e = .returned (.int .i64 (N : Int)) ∧ Ext w w' := by
  intro D
  induction D with
  | leaf =>
    intro k c nx s N w hrep hd hc hnx hw hT
    cases hrep
    rw [wlk] at hw
    injection hw with hw
    subst hw
    clear hnx hT hd
    have hxa : Ext w ((w.alloc (.cells #[.int .i64 st, .slice TA tn tc] 33)).alloc (.cells (nxC nx) 68)) := bl_alloc (bl_alloc (Below.refl _ _) _) _
    have HXA := Lib.hid hxa
    clear hxa
    go_enter Try.func31, Try.ntmps31
    go_wp2_with fail
    go_ret
    exact ⟨rfl, HXA.out⟩
  | node a o sl n y ih1 ih2 =>
    intro k c nx s N w hrep hd hc hnx hw hT
    cases hrep with
    | @node j b _ _ hj rn ry =>
    obtain ⟨p, N1, N2, ho, hp, hbt, hnp, hw1, hw2, rfl⟩ := wlk_node hw
    have hj' := (List.getElem?_eq_some_iff.1 hj)
    have hjn : j < tn := by rw [← hT.len]; exact hj'.1
    have htn := hT.le
    obtain ⟨tb, to_, hz, hA, _, hcell⟩ := hT.at_ brn_len hjn
    have hbe : T[j] = b := hj'.2
    rw [hbe] at hcell
    obtain ⟨ba, bo, bs, by_, bn⟩ := b
    dsimp only at rn ry ho hnp hw1 hw2 hw
    subst ho hA
    have c0 : w.cell? ⟨tb, to_ + j * 5, none⟩ = some (.int .i64 ba) := hcell 0 (by omega)
    have c1 : w.cell? ⟨tb, to_ + j * 5 + 1, none⟩ = some (.int .i64 (p : Int)) := hcell 1 (by omega)
    have c2 : w.cell? ⟨tb, to_ + j * 5 + 2, none⟩ = some (.int .i64 bs) := hcell 2 (by omega)
    have c3 : w.cell? ⟨tb, to_ + j * 5 + 3, none⟩ = some (.int .i64 by_) := hcell 3 (by omega)
    have c4 : w.cell? ⟨tb, to_ + j * 5 + 4, none⟩ = some (.int .i64 bn) := hcell 4 (by omega)
    have hl1 := wlk_le _ _ _ _ hw1
    have hl2 := wlk_le _ _ _ _ hw2
    rw [depth] at hd hnx
    have hdn : depth n ≤ 40 := by omega
    have hdy : depth y ≤ 40 := by omega
    have hN1 : N1 ≤ 2 ^ 40 := Nat.le_trans hl1 (Nat.pow_le_pow_right (by decide) hdn)
    have hN2 : N2 ≤ 2 ^ 40 := Nat.le_trans hl2 (Nat.pow_le_pow_right (by decide) hdy)
    have e40 : (2 : Nat) ^ 40 = 1099511627776 := by decide
    rw [e40] at hN1 hN2
    have hsum : wrap64 ((N1 : Int) + (N2 : Int)) = ((N1 + N2 : Nat) : Int) := by
      rw [Int.natCast_add]
      exact IntWalk.wrap64_in _ (by omega)
    have hs40 : s ≤ 40 := by omega
    have hw1s : IntKind.i64.wrap ((s : Int) + 1) = ((s + 1 : Nat) : Int) := by rw [Int.natCast_add]; exact IntWalk.i64_in _ (by omega)
    have hbd1 : ∀ j, 0 ≤ upd nx p (bs + 1) j ∧ upd nx p (bs + 1) j + (depth n : Int) ≤ 1000 := by rw [← hnp]; exact upd_bd hnx (by omega)
    have hbd2 : ∀ j, 0 ≤ upd nx p (bs + 1) j ∧ upd nx p (bs + 1) j + (depth y : Int) ≤ 1000 := by rw [← hnp]; exact upd_bd hnx (by omega)
    have hbs := hnx p
    rw [hnp] at hbs
    have HT := Lib.hid hT
    have H1 : Hid (∀ W, Ext w W → Calls Try.prog 31 #[.agg #[.int .i64 st, .slice (some ⟨tb, to_, none⟩) tn tc], .int .i64 bn, .int .i64 (c : Int), .agg (nxC (upd nx p (bs + 1))), .int .i64 ((s + 1 : Nat) : Int)] W fun e w' => e = .returned (.int .i64 (N1 : Int)) ∧ Ext W w') := Lib.hid (fun W hx => ih1 bn c _ (s + 1) N1 W rn (by omega) hc hbd1 hw1 (ra_ext HT.out hx))
    obtain ⟨z, hz1, hz2, hz3⟩ := pow8 hp
    rw [← hz1] at hw2
    have hcz : c ||| z < 256 := Nat.or_lt_two_pow (n := 8) hc hz2
    have hor := or2_i64 hc hz2
    have H2 : Hid (∀ W, Ext w W → Calls Try.prog 31 #[.agg #[.int .i64 st, .slice (some ⟨tb, to_, none⟩) tn tc], .int .i64 by_, .int .i64 ((c ||| z : Nat) : Int), .agg (nxC (upd nx p (bs + 1))), .int .i64 ((s + 1 : Nat) : Int)] W fun e w' => e = .returned (.int .i64 (N2 : Int)) ∧ Ext W w') := Lib.hid (fun W hx => ih2 by_ _ _ (s + 1) N2 W ry (by omega) hcz hbd2 hw2 (ra_ext HT.out hx))
    have hb8 := bit8w ⟨c, hc⟩ ⟨p, hp⟩
    dsimp only at hb8
    rw [hbt] at hb8
    have hjz : (j : Int) < (tn : Int) := by omega
    have hsz : ¬ (40 : Int) < (s : Int) := by omega
    have hpz : ¬ (8 : Int) ≤ (p : Int) := by omega
    have hpz2 : (p : Int) < 8 := by omega
    have hnxp := nx_at nx hp
    rw [hnp] at hnxp
    have hset := nx_set nx hp (bs + 1)
    generalize hX1 : nxC (upd nx (p : Int) (bs + 1)) = X1 at H1 H2 hset
    have hX1s : X1 = #[.int .i64 (upd nx p (bs + 1) 0), .int .i64 (upd nx p (bs + 1) 1), .int .i64 (upd nx p (bs + 1) 2), .int .i64 (upd nx p (bs + 1) 3), .int .i64 (upd nx p (bs + 1) 4), .int .i64 (upd nx p (bs + 1) 5), .int .i64 (upd nx p (bs + 1) 6), .int .i64 (upd nx p (bs + 1) 7)] := hX1.symm
    generalize upd nx p (bs + 1) 0 = y0 at hX1s
    generalize upd nx p (bs + 1) 1 = y1 at hX1s
    generalize upd nx p (bs + 1) 2 = y2 at hX1s
    generalize upd nx p (bs + 1) 3 = y3 at hX1s
    generalize upd nx p (bs + 1) 4 = y4 at hX1s
    generalize upd nx p (bs + 1) 5 = y5 at hX1s
    generalize upd nx p (bs + 1) 6 = y6 at hX1s
    generalize upd nx p (bs + 1) 7 = y7 at hX1s
    subst hX1s
    generalize nxC nx = X0 at hnxp hset ⊢
    clear hX1
    have hxa : Ext w ((w.alloc (.cells #[.int .i64 st, .slice (some ⟨tb, to_, none⟩) tn tc] 33)).alloc (.cells X0 68)) := bl_alloc (bl_alloc (Below.refl _ _) _) _
    have J5 := (Blk.new w 33 #[.int .i64 st, .slice (some ⟨tb, to_, none⟩) tn tc]).ext (bl_alloc (Below.refl _ _) (.cells X0 68))
    have J8 := Blk.new (w.alloc (.cells #[.int .i64 st, .slice (some ⟨tb, to_, none⟩) tn tc] 33)) 68 X0
    rw [World.size_alloc] at J8
    have hne58 : w.heap.size ≠ w.heap.size + 1 := by omega
    have hg8 : w.heap.size ≤ w.heap.size + 1 := by omega
    clear ih1 ih2 hw hT hcell hz hbe hj hj' rn ry hw1 hw2 hbd1 hbd2 hl1 hl2 e40 hd hnx hbt hz1
    go_enter Try.func31, Try.ntmps31
    go_upto_region 1 with (fail)
    generalize (w.alloc (.cells #[.int .i64 st, .slice (some ⟨tb, to_, none⟩) tn tc] 33)).alloc (.cells X0 68) = W1 at J5 J8 hxa ⊢
    have c0 := ext_cell hxa c0
    have c1 := ext_cell hxa c1
    have c2 := ext_cell hxa c2
    have c3 := ext_cell hxa c3
    have c4 := ext_cell hxa c4
    generalize w.heap.size + 1 = g8 at J8 hg8 hne58 ⊢
    obtain ⟨N0, hN0⟩ : ∃ N0, N0 = w.heap.size := ⟨_, rfl⟩
    rw [← hN0] at hg8
    have HN0 := Lib.hid hN0
    clear hN0
    generalize w.heap.size = g5 at J5 hne58 ⊢
    have t1 : W1.cell? ⟨g5, 1, none⟩ = some (.slice (some ⟨tb, to_, none⟩) tn tc) := J5.cell 1
    have hjz0 : ¬ (j : Int) = -1 := by omega
    have hjz1 : ¬ (j : Int) < 0 := by omega
    have hjz2 : ¬ (tn : Int) ≤ (j : Int) := by omega
    have hxb : Ext w (W1.alloc (.cells #[.int .i64 ba, .int .i64 (p : Int), .int .i64 bs, .int .i64 by_, .int .i64 bn] 30)) := bl_alloc hxa _
    have hxc : Ext W1 (W1.alloc (.cells #[.int .i64 ba, .int .i64 (p : Int), .int .i64 bs, .int .i64 by_, .int .i64 bn] 30)) := bl_alloc (Below.refl _ _) _
    have J11 := Blk.new W1 30 #[.int .i64 ba, .int .i64 (p : Int), .int .i64 bs, .int .i64 by_, .int .i64 bn]
    have hl8 := J8.lt
    go_upto_region 6 with (fail)
    obtain ⟨g11, hg11⟩ : ∃ g, g = W1.heap.size := ⟨_, rfl⟩
    rw [← hg11] at J11 hl8 ⊢
    clear hg11
    generalize W1.alloc (.cells #[.int .i64 ba, .int .i64 (p : Int), .int .i64 bs, .int .i64 by_, .int .i64 bn] 30) = W2 at J11 hxb hxc ⊢
    have J5 := J5.ext hxc
    have J8 := J8.ext hxc
    clear c0 c1 c2 c3 c4 t1 hxa hxc hjz hjz0 hjz1 hjz2 hsz
    have b1 : W2.cell? ⟨g11, 1, none⟩ = some (.int .i64 (p : Int)) := J11.cell 1
    have b2 : W2.cell? ⟨g11, 2, none⟩ = some (.int .i64 bs) := J11.cell 2
    have n1 : W2.cell? ⟨g8, p, none⟩ = some (.int .i64 bs) := by rw [J8.cell]; exact hnxp
    have hp0 : ¬ (p : Int) < 0 := by omega
    have hp00 : (0 : Int) ≤ (p : Int) := by omega
    have hp64 : (p : Int) ≤ 64 := by omega
    go_upto_region 8 with (fail)
    go_quiet (fail)
    have hxn : Ext W2 (W2.drewN nq) := (by repeat (first | exact Below.refl _ _ | assumption | refine Below.drew ?_ | refine below_drewN ?_ _ | refine bl_alloc ?_ _ | refine Below.setCell ?_ (by first | (simp; done) | omega | (simp; omega)) _ | refine bl_then ?_ (by assumption)))
    have hwb : IntKind.i64.wrap (bs + 1) = bs + 1 := IntWalk.i64_in _ (by omega)
    go_upto_region 10 with (fail)
    generalize W2.drewN nq = W3 at hxn ⊢
    have J5 := J5.ext hxn
    have J8 := J8.ext hxn
    have J11 := J11.ext hxn
    have hx3 := Ext.trans hxb hxn
    clear b1 b2 n1 hxn hxb
    have b1 : W3.cell? ⟨g11, 1, none⟩ = some (.int .i64 (p : Int)) := J11.cell 1
    have n1 : W3.cell? ⟨g8, p, none⟩ = some (.int .i64 bs) := by rw [J8.cell]; exact hnxp
    have hfz := J8.frozen p
    have hJ8 := J8.set_ p (.int .i64 (bs + 1))
    rw [hset] at hJ8
    have hx4 : Ext w (W3.setCell ⟨g8, p, none⟩ (.int .i64 (bs + 1))) := Below.setCell hx3 (by rw [HN0.out] at hg8; exact hg8) _
    have hJ5 := J5.far (p := ⟨g8, p, none⟩) hne58 (.int .i64 (bs + 1))
    have hJ11 := J11.far (p := ⟨g8, p, none⟩) (show g11 ≠ g8 by omega) (.int .i64 (bs + 1))
    go_upto_region 11 with (fail)
    generalize W3.setCell ⟨g8, p, none⟩ (.int .i64 (bs + 1)) = W4 at hx4 hJ8 hJ5 hJ11 ⊢
    clear b1 n1 J5 J8 J11 hfz hx3 hset hnxp hwb
    have t0 : W4.cell? ⟨g5, 0, none⟩ = some (.int .i64 st) := hJ5.cell 0
    have t1 : W4.cell? ⟨g5, 1, none⟩ = some (.slice (some ⟨tb, to_, none⟩) tn tc) := hJ5.cell 1
    have b4 : W4.cell? ⟨g11, 4, none⟩ = some (.int .i64 bn) := hJ11.cell 4
    have n0 : W4.cell? ⟨g8, 0, none⟩ = some (.int .i64 y0) := hJ8.cell 0
    have n1 : W4.cell? ⟨g8, 1, none⟩ = some (.int .i64 y1) := hJ8.cell 1
    have n2 : W4.cell? ⟨g8, 2, none⟩ = some (.int .i64 y2) := hJ8.cell 2
    have n3 : W4.cell? ⟨g8, 3, none⟩ = some (.int .i64 y3) := hJ8.cell 3
    have n4 : W4.cell? ⟨g8, 4, none⟩ = some (.int .i64 y4) := hJ8.cell 4
    have n5 : W4.cell? ⟨g8, 5, none⟩ = some (.int .i64 y5) := hJ8.cell 5
    have n6 : W4.cell? ⟨g8, 6, none⟩ = some (.int .i64 y6) := hJ8.cell 6
    have n7 : W4.cell? ⟨g8, 7, none⟩ = some (.int .i64 y7) := hJ8.cell 7
    go_wp2_with fail
    refine (H1.out W4 hx4).mono ?_
    rintro e W5 ⟨rfl, hy⟩
    have hx5 := Ext.trans hx4 hy
    have t0 := ext_cell hy t0
    have t1 := ext_cell hy t1
    have b1 : W5.cell? ⟨g11, 1, none⟩ = some (.int .i64 (p : Int)) := (hJ11.ext hy).cell 1
    have b3 : W5.cell? ⟨g11, 3, none⟩ = some (.int .i64 by_) := (hJ11.ext hy).cell 3
    have n0 := ext_cell hy n0
    have n1 := ext_cell hy n1
    have n2 := ext_cell hy n2
    have n3 := ext_cell hy n3
    have n4 := ext_cell hy n4
    have n5 := ext_cell hy n5
    have n6 := ext_cell hy n6
    have n7 := ext_cell hy n7
    clear hy b4 hJ5 hJ8 hJ11 H1
    have H5 : Hid (∀ W, Ext W5 W → Calls Try.prog 31 #[.agg #[.int .i64 st, .slice (some ⟨tb, to_, none⟩) tn tc], .int .i64 by_, .int .i64 ((c ||| z : Nat) : Int), .agg #[.int .i64 y0, .int .i64 y1, .int .i64 y2, .int .i64 y3, .int .i64 y4, .int .i64 y5, .int .i64 y6, .int .i64 y7], .int .i64 ((s + 1 : Nat) : Int)] W fun e w' => e = .returned (.int .i64 (N2 : Int)) ∧ Ext W w') := Lib.hid (fun W hx => H2.out W (Ext.trans hx5 hx))
    generalize c ||| z = cz at H5 hor
    generalize s + 1 = s1 at H5 hw1s
    clear H2
    go_upto_region 12 with (fail)
    refine wp_region_obl 12 (fun ix vals v w1 => match ix with | 0 => v = .agg #[.int .i64 st, .slice (some ⟨tb, to_, none⟩) tn tc] | 1 => v = .pointer (some ⟨g11, 3, none⟩) | 2 => v = .int .i64 by_ | 3 => v = .int .i64 (c : Int) | 4 => v = .pointer (some ⟨g11, 1, none⟩) | 5 => v = .int .i64 (p : Int) | 6 => v = .int .i64 (z : Int) | 7 => v = .int .i64 (cz : Int) | 8 => v = .agg #[.int .i64 y0, .int .i64 y1, .int .i64 y2, .int .i64 y3, .int .i64 y4, .int .i64 y5, .int .i64 y6, .int .i64 y7] | 9 => v = .int .i64 (s : Int) | 10 => v = .int .i64 (s1 : Int) | _ => v = .int .i64 (N2 : Int)) (by kernel_rfl) (by kernel_rfl) ?_ ?_ ?_ ?_
    · intro ix vals v w1 w2 hi hr hx
      match ix, hr with
      | 0, hr => exact hr
      | 1, hr => exact hr
      | 2, hr => exact hr
      | 3, hr => exact hr
      | 4, hr => exact hr
      | 5, hr => exact hr
      | 6, hr => exact hr
      | 7, hr => exact hr
      | 8, hr => exact hr
      | 9, hr => exact hr
      | 10, hr => exact hr
      | (kx + 11), hr => exact hr
    · intro ix vals vals_ v w1 hi hv hr
      exact hr
    · refine ⟨?_, ?_, ?_, ?_, ?_, ?_, ?_, ?_, ?_, ?_, ?_, ?_, trivial⟩
      · intro vals w1 hx hd ha
        clear hd ha
        simp only [Lf]
        have t0 := ext_cell hx t0; have t1 := ext_cell hx t1
        go_wp2
        exact ⟨rfl, Ext.refl _, rfl⟩
      · intro vals w1 hx hd ha
        clear hd ha
        simp only [Lf, dstAt, Act.put, List.getElem?_toArray, List.getElem?_cons_zero, Option.bind_some, List.setIfInBounds_toArray, List.set_cons_zero, List.set_cons_succ]
        go_wp2
        exact ⟨rfl, Ext.refl _, rfl⟩
      · intro vals w1 hx hd ha
        have e1 : vals 1 = .pointer (some ⟨g11, 3, none⟩) := hd 1 (by decide)
        clear hd ha
        simp only [Lf, dstAt, Act.put, List.getElem?_toArray, List.getElem?_cons_zero, List.getElem?_cons_succ, Option.bind_some, List.setIfInBounds_toArray, List.set_cons_zero, List.set_cons_succ]
        simp only [e1]
        clear e1
        have b3 := ext_cell hx b3
        go_wp2
        exact ⟨rfl, Ext.refl _, rfl⟩
      · intro vals w1 hx hd ha
        clear hd ha
        simp only [Lf, dstAt, Act.put, List.getElem?_toArray, List.getElem?_cons_zero, List.getElem?_cons_succ, Option.bind_some, List.setIfInBounds_toArray, List.set_cons_zero, List.set_cons_succ]
        go_wp2
        exact ⟨rfl, Ext.refl _, rfl⟩
      · intro vals w1 hx hd ha
        clear hd ha
        simp only [Lf, dstAt, Act.put, List.getElem?_toArray, List.getElem?_cons_zero, List.getElem?_cons_succ, Option.bind_some, List.setIfInBounds_toArray, List.set_cons_zero, List.set_cons_succ]
        go_wp2
        exact ⟨rfl, Ext.refl _, rfl⟩
      · intro vals w1 hx hd ha
        have e4 : vals 4 = .pointer (some ⟨g11, 1, none⟩) := hd 4 (by decide)
        clear hd ha
        simp only [Lf, dstAt, Act.put, List.getElem?_toArray, List.getElem?_cons_zero, List.getElem?_cons_succ, Option.bind_some, List.setIfInBounds_toArray, List.set_cons_zero, List.set_cons_succ]
        simp only [e4]
        clear e4
        have b1 := ext_cell hx b1
        go_wp2
        exact ⟨rfl, Ext.refl _, rfl⟩
      · intro vals w1 hx hd ha
        have e5 : vals 5 = .int .i64 (p : Int) := hd 5 (by decide)
        clear hd ha
        simp only [Lf, dstAt, Act.put, List.getElem?_toArray, List.getElem?_cons_zero, List.getElem?_cons_succ, Option.bind_some, List.setIfInBounds_toArray, List.set_cons_zero, List.set_cons_succ]
        simp only [e5]
        clear e5
        go_wp2
        exact ⟨rfl, Ext.refl _, rfl⟩
      · intro vals w1 hx hd ha
        have e3 : vals 3 = .int .i64 (c : Int) := hd 3 (by decide)
        have e6 : vals 6 = .int .i64 (z : Int) := hd 6 (by decide)
        clear hd ha
        simp only [Lf, dstAt, Act.put, List.getElem?_toArray, List.getElem?_cons_zero, List.getElem?_cons_succ, Option.bind_some, List.setIfInBounds_toArray, List.set_cons_zero, List.set_cons_succ]
        simp only [e3, e6]
        clear e3 e6
        go_wp2
        exact ⟨rfl, Ext.refl _, rfl⟩
      · intro vals w1 hx hd ha
        clear hd ha
        simp only [Lf, dstAt, Act.put, List.getElem?_toArray, List.getElem?_cons_zero, List.getElem?_cons_succ, Option.bind_some, List.setIfInBounds_toArray, List.set_cons_zero, List.set_cons_succ]
        have n0 := ext_cell hx n0; have n1 := ext_cell hx n1; have n2 := ext_cell hx n2; have n3 := ext_cell hx n3
        have n4 := ext_cell hx n4; have n5 := ext_cell hx n5; have n6 := ext_cell hx n6; have n7 := ext_cell hx n7
        go_wp2
        exact ⟨rfl, Ext.refl _, rfl⟩
      · intro vals w1 hx hd ha
        clear hd ha
        simp only [Lf, dstAt, Act.put, List.getElem?_toArray, List.getElem?_cons_zero, List.getElem?_cons_succ, Option.bind_some, List.setIfInBounds_toArray, List.set_cons_zero, List.set_cons_succ]
        go_wp2
        exact ⟨rfl, Ext.refl _, rfl⟩
      · intro vals w1 hx hd ha
        have e9 : vals 9 = .int .i64 (s : Int) := hd 9 (by decide)
        clear hd ha
        simp only [Lf, dstAt, Act.put, List.getElem?_toArray, List.getElem?_cons_zero, List.getElem?_cons_succ, Option.bind_some, List.setIfInBounds_toArray, List.set_cons_zero, List.set_cons_succ]
        simp only [e9]
        clear e9
        go_wp2
        exact ⟨rfl, Ext.refl _, rfl⟩
      · intro vals w1 hx hd ha
        have e0 : vals 0 = .agg #[.int .i64 st, .slice (some ⟨tb, to_, none⟩) tn tc] := hd 0 (by decide)
        have e2 : vals 2 = .int .i64 by_ := hd 2 (by decide)
        have e7 : vals 7 = .int .i64 (cz : Int) := hd 7 (by decide)
        have e8 : vals 8 = .agg #[.int .i64 y0, .int .i64 y1, .int .i64 y2, .int .i64 y3, .int .i64 y4, .int .i64 y5, .int .i64 y6, .int .i64 y7] := hd 8 (by decide)
        have e10 : vals 10 = .int .i64 (s1 : Int) := hd 10 (by decide)
        clear hd ha
        simp only [Lf, dstAt, Act.put, List.getElem?_toArray, List.getElem?_cons_zero, List.getElem?_cons_succ, Option.bind_some, List.setIfInBounds_toArray, List.set_cons_zero, List.set_cons_succ]
        simp only [e0]
        simp only [e2]
        simp only [e7]
        simp only [e8]
        simp only [e10]
        clear e0 e2 e7 e8 e10
        go_wp2_with fail
        refine (H5.out w1 hx.undrew).mono ?_
        rintro e w2 ⟨rfl, hb2⟩
        go_wp2
        exact ⟨rfl, hb2, rfl⟩
    intro vals W6 hy hf
    have v11 : vals 11 = .int .i64 (N2 : Int) := hf 11 (by omega)
    have hy := hy.undrew
    refine tail1 12 _ (by kernel_rfl) (by kernel_rfl) rfl ?_
    simp only [Lf, dstAt, Act.put, List.getElem?_toArray, List.getElem?_cons_zero, List.getElem?_cons_succ, Option.bind_some, List.setIfInBounds_toArray, List.set_cons_zero, List.set_cons_succ]
    rw [v11]
    have HX := Lib.hid (Ext.trans hx5 hy)
    clear hf v11 t0 t1 b1 b3 n0 n1 n2 n3 n4 n5 n6 n7 H5 hy
    have hz1 : ¬ (N1 : Int) < 0 := Int.not_lt.2 (Int.natCast_nonneg _)
    have hz2' : ¬ (N2 : Int) < 0 := Int.not_lt.2 (Int.natCast_nonneg _)
    go_wp2_with fail
    go_ret
    exact ⟨rfl, HX.out⟩
end Go.Proofs.Ytikphbgfcpamgaa
namespace Go.Proofs.Ytikphbgfcpamgaa
open Go.RowKit

set_option maxRecDepth 100000 in
set_option maxHeartbeats 1000000 in
theorem ways_walk (z0 : List Six) (a0 : Option Addr) (len0 cap0 : Nat) (w : World) (g0 : RA sixCells 6 w w.heap.size a0 len0 cap0 z0) (o0 : ∀ x ∈ z0, x.ok) :
    Calls Try.prog 7 #[.slice a0 len0 cap0] w fun e w' => e = .returned (.bool true) ∧ Below w.heap.size w w' := by
  have HSANE := Lib.hid (fun W : World => sane_any W)
  have hcap := g0.cap
  have hle := g0.le
  obtain ⟨q, hq⟩ : ∃ q, q = min len0 4 := ⟨_, rfl⟩
  have hq1 : q ≤ len0 := by omega
  obtain ⟨xs, hxs⟩ : ∃ xs, xs = z0.take q := ⟨_, rfl⟩
  have hmin : (if (4 : Int) < (len0 : Int) then (4 : Int) else (len0 : Int)) = (q : Int) := by split <;> omega
  have hqc : q ≤ cap0 := by omega
  clear hq
  have gq := g0.cut six_len q hq1
  rw [← hxs] at gq
  have oq : ∀ x ∈ xs, x.ok := fun x hx => o0 x (by rw [hxs] at hx; exact List.mem_of_mem_take hx)
  clear g0 o0 hxs z0
  obtain ⟨N, hN, hpth, hwlk, hdep⟩ := made_ways xs
  have hN2 : N ≤ 16777216 := by have e : (2 : Nat) ^ 24 = 16777216 := by decide
                                rw [e] at hN; exact hN
  have HMADE := Lib.hid (fun (W : World) (hW : Ext w W) => made_ops xs a0 q cap0 W (ra_ext gq hW) oq)
  have HBLD := Lib.hid (fun (W : World) (os : List Opt) (A : Option Addr) (n c : Nat) ho h => build_made xs os A n c W ho h)
  have HTHR := Lib.hid (made_there xs)
  have hfew := made_few xs
  have hlen := made_len xs
  have hrep : Rep (treeP (madeP xs)).1 (treeP (madeP xs)).2 (dt (srt (madeP xs)) 0) := bld_rep _ []
  have hsix : ∀ (i : Nat) (o : Op), (madeP xs)[i]? = some o → o.l.length ≤ 6 := fun i o h => car_six (made_car xs) h
  generalize dt (srt (madeP xs)) 0 = D at hwlk hdep hrep
  generalize (treeP (madeP xs)).1 = T at HBLD HTHR hlen hrep hpth
  generalize (treeP (madeP xs)).2 = st at HBLD hrep hpth
  generalize madeP xs = l at HMADE HBLD HTHR hfew hsix hpth
  have HPTH := Lib.hid (fun (W : World) (os : List Opt) (A TA : Option Addr) (n c tn tc : Nat) (ho : opsP os = l) h hT => paths_l os A TA n c tn tc W ho h hT hpth)
  have HWLK := Lib.hid (fun (W : World) (TA : Option Addr) (tn tc : Nat) (hT : RA brnCells 5 W W.heap.size TA tn tc T) => walked_any T TA tn tc st D st 0 (fun _ => 0) 0 N W hrep (by omega) (by omega) (fun j => by omega) hwlk hT)
  have HSIX := Lib.hid hsix
  clear hN hpth hwlk hdep hrep hsix gq oq
  go_enter Try.func7, Try.ntmps7
  go_wp2_with fail
  refine (HSANE.out _).mono ?_
  rintro e W1 ⟨rfl, hx1⟩
  go_wp2_with fail
  refine (HMADE.out W1 hx1).mono ?_
  rintro e W2 ⟨A, c, os, hos, rfl, hops, hy⟩
  have hx2 := Ext.trans hx1 hy
  have HOPS := Lib.hid hops
  clear hx1 hy hops HMADE HSANE hmin hqc hq1 hcap hle
  go_wp2_with fail
  refine (HBLD.out W2 os A _ c hos HOPS.out).mono ?_
  rintro e W3 ⟨TA, tc, rfl, hT, hy⟩
  have hx3 := Ext.trans hx2 hy
  have HOPS := Lib.hid (HOPS.out.ext hy)
  have HT := Lib.hid hT
  clear hx2 hy hT HBLD
  obtain ⟨tn, htn⟩ : ∃ n, n = T.length := ⟨_, rfl⟩
  obtain ⟨n, hn⟩ : ∃ n, n = os.length := ⟨_, rfl⟩
  have hol := opsP_len hos
  rw [← htn] at HT hlen ⊢
  rw [← hn] at HOPS hol ⊢
  rw [← hol] at hfew
  have HTN := Lib.hid htn
  have HN := Lib.hid hn
  have HOS := Lib.hid hos
  clear htn hn hos hol
  have hxa : Ext W3 (W3.alloc (.cells #[.int .i64 st, .slice TA tn tc] 33)) := bl_alloc (Below.refl _ _) _
  have J := Blk.new W3 33 #[.int .i64 st, .slice TA tn tc]
  go_upto_region 6 with (fail)
  generalize W3.heap.size = gT at J ⊢
  generalize W3.alloc (.cells #[.int .i64 st, .slice TA tn tc] 33) = W4 at hxa J ⊢
  have hx4 := Ext.trans hx3 hxa
  have HOPS := Lib.hid (HOPS.out.ext hxa)
  have HT := Lib.hid (ra_ext HT.out hxa)
  have HJ := Lib.hid J
  clear hx3 hxa J
  have t0 : W4.cell? ⟨gT, 0, none⟩ = some (.int .i64 st) := HJ.out.cell 0
  have t1 : W4.cell? ⟨gT, 1, none⟩ = some (.slice TA tn tc) := HJ.out.cell 1
  go_wp2_with fail
  refine (HPTH.out W4 os A TA n c tn tc HOS.out HOPS.out HT.out).mono ?_
  rintro e W5 ⟨rfl, hy⟩
  have hx5 := Ext.trans hx4 hy
  have HOPS := Lib.hid (HOPS.out.ext hy)
  have HT := Lib.hid (ra_ext HT.out hy)
  have HJ := Lib.hid (HJ.out.ext hy)
  have HX5 := Lib.hid hx5
  clear hx4 hy HPTH t0 t1 hx5
  go_wp2_with fail
  go_loopw [9] (fun x wr => ∃ i : Nat, i ≤ n ∧ x = .int .i64 i ∧ Ext W5 wr) (fun x _ => n - (intOf x).toNat)
  case atStart => exact ⟨0, Nat.zero_le _, rfl, Ext.refl _⟩
  case round =>
    obtain ⟨i, hi, rfl, hxq⟩ := hrel
    by_cases hin : i < n
    · have hkl : i < os.length := by rw [← HN.out]; exact hin
      have hxe : os[i]? = some os[i] := List.getElem?_eq_getElem hkl
      have hops := HOPS.out
      obtain ⟨b2, o2, hz2, hA2, _, hc2⟩ := hops.out.at_ opt_len hin
      have hsl := hops.each os[i] (List.getElem_mem hkl)
      have hlx := ops_at HOS.out hxe
      have hthr := fun (k : Nat) (s : Slt) => HTHR.out i k _ s hlx
      have h6 := HSIX.out i _ hlx
      generalize os[i] = x at hc2 hsl hthr h6
      have c8 : W5.cell? ⟨b2, o2 + i * 9 + 8, none⟩ = some (.slice x.a x.n x.c) := hc2 8 (by omega)
      obtain ⟨oi, oi1, oi2, osa, osf, ost, oi6, osz, oa, on, oc, ol⟩ := x
      dsimp only [Opt.op] at hsl hthr h6 c8
      have hlen2 := hsl.len
      rw [hlen2] at h6
      have hiz : (i : Int) < (n : Int) := by omega
      subst hA2
      have HSL := Lib.hid hsl
      have HTH := Lib.hid hthr
      have HC8 : Hid (∀ W, Ext W5 W → W.cell? ⟨b2, o2 + i * 9 + 8, none⟩ = some (.slice oa on oc)) := Lib.hid (fun W hx => ext_cell hx c8)
      clear hz2 hc2 hsl hlen2 hthr hlx hxe hops c8 hkl
      go_wp2_with fail
      go_loopw [10] (fun x w3 => ∃ k : Nat, k ≤ on ∧ x = .int .i64 k ∧ Ext W5 w3) (fun x _ => on - (intOf x).toNat)
      case atStart => exact ⟨0, Nat.zero_le _, rfl, hxq⟩
      case round =>
        clear hxq
        obtain ⟨k, hk, rfl, hx3⟩ := hrel
        have c8 := HC8.out wr hx3
        by_cases hko : k < on
        · obtain ⟨b3, o3, hz3, hA3, _, hc3⟩ := HSL.out.at_ slt_len hko
          have hthr := HTH.out k ol[k] (List.getElem?_eq_getElem hz3)
          generalize ol[k] = s at hc3 hthr
          have s1 : W5.cell? ⟨b3, o3 + k * 3 + 1, none⟩ = some (.int .i64 s.fr) := hc3 1 (by omega)
          have hkz : (k : Int) < (on : Int) := by omega
          generalize s.fr = sf at s1 hthr
          have HTHK := Lib.hid hthr
          have HS1 : Hid (∀ W, Ext W5 W → W.cell? ⟨b3, o3 + k * 3 + 1, none⟩ = some (.int .i64 sf)) := Lib.hid (fun W hx => ext_cell hx s1)
          subst hA3
          clear hc3 hz3 hthr s1
          have HT0 : Hid (false = (T.take 0).any (isB i k sf)) := Lib.hid rfl
          go_wp2_with fail
          go_loopw [11, 12] (fun y x w4 => ∃ (r : Nat) (th : Bool), r ≤ tn ∧ x = .int .i64 r ∧ y = .bool th ∧ Hid (th = (T.take r).any (isB i k sf)) ∧ Ext W5 w4) (fun _ x _ => tn - (intOf x).toNat)
          case atStart => exact ⟨0, false, Nat.zero_le _, rfl, rfl, HT0, hx3⟩
          case round =>
            clear HT0 hx3 c8
            obtain ⟨r, th, hr, rfl, rfl, HG, hx4⟩ := hrel
            have t1 : wr.cell? ⟨gT, 1, none⟩ = some (.slice TA tn tc) := (HJ.out.ext hx4).cell 1
            by_cases hrt : r < tn
            · obtain ⟨b4, o4, hz4, hA4, _, hc4⟩ := (ra_ext HT.out hx4).at_ brn_len hrt
              have hst := any_step (f := isB i k sf) (List.getElem?_eq_getElem hz4)
              generalize T[r] = b at hc4 hst
              obtain ⟨ba, bo, bs, by_, bn⟩ := b
              have q0 : wr.cell? ⟨b4, o4 + r * 5, none⟩ = some (.int .i64 ba) := hc4 0 (by omega)
              have q1 : wr.cell? ⟨b4, o4 + r * 5 + 1, none⟩ = some (.int .i64 bo) := hc4 1 (by omega)
              have q2 : wr.cell? ⟨b4, o4 + r * 5 + 2, none⟩ = some (.int .i64 bs) := hc4 2 (by omega)
              have c8 := HC8.out wr hx4
              have s1 := HS1.out wr hx4
              have hrz : (r : Int) < (tn : Int) := by omega
              rw [← HG.out] at hst
              have HST := Lib.hid hst
              subst hA4
              clear hc4 hz4 hst HG
              cases th
              · by_cases h1 : bo = (i : Int)
                · by_cases h2 : bs = (k : Int)
                  · have h1b : (bo == (i : Int)) = true := by simpa using h1
                    have h2b : (bs == (k : Int)) = true := by simpa using h2
                    by_cases h3 : ba = sf
                    · have h3b : (ba == sf) = true := by simpa using h3
                      have HR : Hid (true = (T.take (r + 1)).any (isB i k sf)) := Lib.hid (by rw [HST.out]; simp [isB, h1, h2, h3])
                      clear h1 h2 h3 HST
                      go_upto_region 19 with (fail)
                      go_quiet (fail)
                      have hxn : Ext W5 (wr.drewN nq) := below_drewN hx4 nq
                      go_wp2
                      go_roundw
                      case rel => exact ⟨r + 1, true, by omega, by go_num, rfl, HR, hxn⟩
                      case measure => simp [intOf]; omega
                    · have h3b : (ba == sf) = false := by simpa using h3
                      have HR : Hid (false = (T.take (r + 1)).any (isB i k sf)) := Lib.hid (by rw [HST.out]; simp [isB, h3])
                      clear h1 h2 h3 HST
                      go_upto_region 19 with (fail)
                      go_quiet (fail)
                      have hxn : Ext W5 (wr.drewN nq) := below_drewN hx4 nq
                      go_wp2
                      go_roundw
                      case rel => exact ⟨r + 1, false, by omega, by go_num, rfl, HR, hxn⟩
                      case measure => simp [intOf]; omega
                  · have h1b : (bo == (i : Int)) = true := by simpa using h1
                    have h2b : (bs == (k : Int)) = false := by simpa using h2
                    have HR : Hid (false = (T.take (r + 1)).any (isB i k sf)) := Lib.hid (by rw [HST.out]; simp [isB, h2])
                    clear h1 h2 HST s1 c8
                    go_upto_region 19 with (fail)
                    go_quiet (fail)
                    have hxn : Ext W5 (wr.drewN nq) := below_drewN hx4 nq
                    go_wp2
                    go_roundw
                    case rel => exact ⟨r + 1, false, by omega, by go_num, rfl, HR, hxn⟩
                    case measure => simp [intOf]; omega
                · have h1b : (bo == (i : Int)) = false := by simpa using h1
                  have HR : Hid (false = (T.take (r + 1)).any (isB i k sf)) := Lib.hid (by rw [HST.out]; simp [isB, h1])
                  clear h1 HST s1 c8
                  go_upto_region 19 with (fail)
                  go_quiet (fail)
                  have hxn : Ext W5 (wr.drewN nq) := below_drewN hx4 nq
                  go_wp2
                  go_roundw
                  case rel => exact ⟨r + 1, false, by omega, by go_num, rfl, HR, hxn⟩
                  case measure => simp [intOf]; omega
              · have HR : Hid (true = (T.take (r + 1)).any (isB i k sf)) := Lib.hid (by rw [HST.out]; simp)
                clear HST s1 c8 q0 q1 q2
                go_upto_region 19 with (fail)
                go_quiet (fail)
                have hxn : Ext W5 (wr.drewN nq) := below_drewN hx4 nq
                go_wp2
                go_roundw
                case rel => exact ⟨r + 1, true, by omega, by go_num, rfl, HR, hxn⟩
                case measure => simp [intOf]; omega
            · obtain rfl : r = tn := by omega
              obtain rfl : th = true := by
                rw [HG.out, List.take_of_length_le (by rw [HTN.out]; exact Nat.le_refl _)]
                exact HTHK.out
              have hrz : ¬ (r : Int) < (r : Int) := by omega
              clear HG HTHK
              go_wp2_with fail
              go_roundw
              case rel => exact ⟨k + 1, by omega, by go_num, hx4⟩
              case measure => simp [intOf]; omega
        · have hkz : ¬ (k : Int) < (on : Int) := by omega
          go_wp2_with fail
          go_roundw
          case rel => exact ⟨i + 1, by omega, by go_num, hx3⟩
          case measure => simp [intOf]; omega
    · have hiz : ¬ (i : Int) < (n : Int) := by omega
      have t0 : wr.cell? ⟨gT, 0, none⟩ = some (.int .i64 st) := (HJ.out.ext hxq).cell 0
      have t1 : wr.cell? ⟨gT, 1, none⟩ = some (.slice TA tn tc) := (HJ.out.ext hxq).cell 1
      have HX := Lib.hid (Ext.trans HX5.out hxq)
      have HWL : Hid (Calls Try.prog 31 #[.agg #[.int .i64 st, .slice TA tn tc], .int .i64 st, .int .i64 0, .agg #[.int .i64 0, .int .i64 0, .int .i64 0, .int .i64 0, .int .i64 0, .int .i64 0, .int .i64 0, .int .i64 0], .int .i64 0] wr fun e w' => e = .returned (.int .i64 (N : Int)) ∧ Ext wr w') := Lib.hid (HWLK.out wr TA tn tc (ra_ext HT.out hxq))
      clear HWLK
      go_wp2_with fail
      refine HWL.out.mono ?_
      rintro e W6 ⟨rfl, hy⟩
      have HX6 := Lib.hid (Ext.trans HX.out hy)
      clear hy HWL t0 t1
      go_wp2_with fail
      go_ret
      exact ⟨rfl, HX6.out⟩
end Go.Proofs.Ytikphbgfcpamgaa
namespace Go.Proofs.Ytikphbgfcpamgaa
open Go.ChangeShapes Go.WideShapes Go.ChangeAt Go.RowKit Go.Deep
set_option linter.unusedVariables false
set_option maxRecDepth 100000 in
theorem treeWays_lifted (os : Os) (started : os.Started) (H : Type) (enc : TypeId × Value → H) :
    ReturnsInHanded {} Try.checked os 7 .any (Rows.treeWaysSpec.pre6 enc Try.prog Try.f7 Rows.treeWaysRow.domain false) (Rows.treeWaysSpec.post enc Try.prog Try.f7 false true false false) := by
  refine returnsInHanded_of_change (C := Try.checked) ownKn started (by kernel_rfl) Try.func7
    (ChangeSpec.witness6 (enc := enc) (C := Try.checked) false ⟨#[], #[.slice none 0 0], []⟩ 8 (by kernel_rfl) (by kernel_rfl) (by kernel_rfl) (by kernel_rfl)) ?_
  intro W base args ds gs before hval0 hW hcnd _
  have hval : ∀ (j : Nat) t v, Try.f7.params[j]? = some t → args[j]? = some v → Value.okWide Try.prog W .any base t v := hval0
  have hW' := hW
  obtain ⟨p, q, hA0, hV, rfl, hfz, hnd⟩ := hW
  have hA : DataW.TrodAll enc Try.prog W 0 (fun _ => true) true Try.f7.params.toList args.toList ds p := hA0
  rw [Try.params7] at hA hval
  obtain ⟨v0, vs0, d0, ds0, p0, q0, hargs, rfl, rfl, h0, r0⟩ := trodAll_cons hA
  obtain ⟨rfl, rfl, rfl⟩ := trodAll_nil r0
  obtain rfl : args = #[v0] := by cases args; simp_all
  obtain ⟨rfl, rfl⟩ := trodVars_none hV
  obtain ⟨a0, len0, cap0, rfl⟩ := okWide_slice Try.underlying22 (hval 0 22 v0 rfl rfl)
  have k0 := h0
  obtain ⟨z0, g0, o0⟩ := open_Sixs h0
  have lt0 : ∀ x ∈ p0, x.block < W.heap.size := by obtain ⟨m, hm⟩ := k0; exact DataW.trod_lt m _ _ _ hm
  clear hA0 hval0
  refine (ways_walk z0 a0 len0 cap0 W g0 o0).mono fun e W' ⟨he, bel⟩ => ?_
  subst he
  exact ⟨_, rfl, _, _, _, [], _, [], hW', trodAll_mk1 (shut_bool Try.underlying4 _), (trodAll_cons_mk (Below.trod laidOut (by kernel_rfl) (of_decide_eq_true (by kernel_rfl)) k0 bel lt0) trodAll_mk0), rfl, bel.frame _, fun h => by cases h⟩

theorem treeWays_over : Rows.treeWaysRow.holds Try.pinned (OpenSpec.ofChange Rows.treeWaysSpec) :=
  OpenClaim.holds_of_wide 7 Try.f7 rfl rfl rfl rfl rfl rfl rfl ⟨rfl, rfl, rfl, rfl, rfl⟩ rfl rfl rfl rfl rfl (by kernel_rfl) Try.func7 (by kernel_rfl)
    (of_decide_eq_true (by kernel_rfl)) (by unfold Func.isWrapper; first | (rw [if_pos (by decide +kernel)]; kernel_rfl) | (rw [if_neg (by decide +kernel)]; exact ⟨rfl, rfl⟩))
    (fun os started H enc _ => treeWays_lifted os started H enc)

theorem treeWays_proved : Rows.TreeWaysSaid := treeWays_over
end Go.Proofs.Ytikphbgfcpamgaa
