/- The law TreeApart of the tree layer: for every input the call returns true and each argument reads afterwards as it read before: options apart. No condition. -/
import Derived.Test.YtikphbgfcpamgaaP33
import Derived.Deep.CutRange
namespace Go.Proofs.Ytikphbgfcpamgaa
open Go.RowKit

/-- What is left after j acks. -/
structure Left (l : List Op) (lost : List Int) (T : List Brn) (st : Int) (acks : List Ack) (j : Nat) (P : List Brn) (k : Int) : Prop where
  prn : prunP l T st (acks.take j) = some (P, k)
  valid : validP l P k = true
  fol : folP l P k lost = some (acks.drop j)
  len : P.length ≤ T.length
  fin : j = acks.length → k = -1 ∧ P = []
  wrong : ∀ a, acks[j]? = some a → prunP l T st (acks.take j ++ [⟨a.opt, a.slot + 1, a.is_⟩]) = none
theorem made_left (xs : List Six) (x : Int) (j : Nat) (hj : j ≤ (runP (qP (madeP xs) (lossP x)) (srt (madeP xs)) 0).length) :
    ∃ P k, Left (madeP xs) (lossP x) (treeP (madeP xs)).1 (treeP (madeP xs)).2 (runP (qP (madeP xs) (lossP x)) (srt (madeP xs)) 0) j P k := by
  have hc := made_car xs
  have hv := made_valid xs
  have hlen := made_len xs
  have hg := car_good hc
  have hdn : Down (treeP (madeP xs)).1 := bld_down _ [] down_nil
  have hrp : Rep (treeP (madeP xs)).1 (treeP (madeP xs)).2 (dt (srt (madeP xs)) 0) := bld_rep _ []
  rw [← folD_dt] at hj ⊢
  obtain ⟨k', D', h1, h2, h3, h4, h5⟩ := prn_take j _ _ hrp hj
  have hD : D' = .leaf ∨ D' ∈ subs (dt (srt (madeP xs)) 0) := by
    by_cases h : D' = .leaf
    · exact .inl h
    · exact .inr (h4 _ (subs_self h))
  have hg' : Good (madeP xs) D' := by
    rcases hD with h | h
    · rw [h]; trivial
    · exact good_sub hg _ h
  have hl' : (bld [] D').1.length ≤ (treeP (madeP xs)).1.length := bld_len_sub h4
  have hv' := built_valid hc hg' (Nat.le_trans hl' hlen)
  refine ⟨(bld [] D').1, (bld [] D').2, ?_, hv', ?_, hl', ?_, ?_⟩
  · unfold prunP
    rw [if_pos hv, h1, Option.map_some, unf_rep hdn h2]
  · unfold folP
    rw [hv', loss_ok, unf_rep (bld_down _ [] down_nil) (bld_rep _ []), h3]
    rfl
  · intro h
    rw [h, List.drop_of_length_le (Nat.le_refl _)] at h3
    cases D' with
    | leaf => exact ⟨rfl, rfl⟩
    | node a o s n y => simp [folD] at h3
  · intro a ha
    unfold prunP
    rw [if_pos hv, h5 a ha]
    rfl
theorem made_none (xs : List Six) : prunP (madeP xs) (treeP (madeP xs)).1 (treeP (madeP xs)).2 [] = some ((treeP (madeP xs)).1, (treeP (madeP xs)).2) := by
  unfold prunP
  rw [if_pos (made_valid xs), prnT, Option.map_some, made_unf]
  rfl
theorem made_slots (xs : List Six) (x : Int) : ∀ a ∈ runP (qP (madeP xs) (lossP x)) (srt (madeP xs)) 0, 0 ≤ a.slot ∧ a.slot < 6 := fun a ha => by
  have h := run_opts (made_car xs) a ha
  exact ⟨h.2.2.1, h.2.2.2⟩
theorem flat_take {α : Type} {cells : α → List Value} {s : Nat} (hs : ∀ x, (cells x).length = s) (l : List α) (k : Nat) : (l.take k).flatMap cells = (l.flatMap cells).take (k * s) := by
  induction l generalizing k with
  | nil => simp
  | cons x r ih =>
    cases k with
    | zero => simp
    | succ k =>
      rw [List.take_succ_cons, List.flatMap_cons, List.flatMap_cons, ih, List.take_append, hs, Nat.succ_mul, List.take_of_length_le (l := cells x) (i := k * s + s) (by rw [hs]; omega), Nat.add_sub_cancel]
theorem flat_drop {α : Type} {cells : α → List Value} {s : Nat} (hs : ∀ x, (cells x).length = s) (l : List α) (k : Nat) : (l.drop k).flatMap cells = (l.flatMap cells).drop (k * s) := by
  induction l generalizing k with
  | nil => simp
  | cons x r ih =>
    cases k with
    | zero => simp
    | succ k =>
      rw [List.drop_succ_cons, List.flatMap_cons, ih, List.drop_append, hs, Nat.succ_mul, List.drop_of_length_le (l := cells x) (i := k * s + s) (by rw [hs]; omega), List.nil_append, Nat.add_sub_cancel]
theorem RA.cut {α : Type} {cells : α → List Value} {s : Nat} (hs : ∀ x, (cells x).length = s) {w : World} {B n c : Nat} {A : Option Addr} {l : List α} (h : RA cells s w B A n c l) (k : Nat) (hk : k ≤ n) : RA cells s w B A k c (l.take k) := by
  refine ⟨?_, by rw [List.length_take, h.len]; omega, Nat.le_trans hk h.cap, h.capM, Nat.le_trans hk h.le⟩
  rw [flat_take hs]
  exact h.rd.upto hk
theorem RA.tail {α : Type} {cells : α → List Value} {s : Nat} (hs : ∀ x, (cells x).length = s) {w : World} {B n c : Nat} {A : Option Addr} {l : List α} (h : RA cells s w B A n c l) (k : Nat) (hk : k ≤ n) : RA cells s w B (if c = k then A else A.map (·.add (k * s))) (n - k) (c - k) (l.drop k) := by
  have hc := h.cap
  have hm := h.capM
  have hl := h.le
  refine ⟨?_, by rw [List.length_drop, h.len], by omega, by omega, by omega⟩
  rw [flat_drop hs]
  exact h.rd.cut hk h.cap
/-- An own row's slice: its parts, and what a nil one is. -/
theorem own_slice2 {w : World} {base : Nat} {e : TypeId} {size : Nat} {v : Value} {n : Nat} {xs : List Value} (h : w.ownsRow base e size v n xs) : ∃ A c, v = .slice A n c ∧ (A = none → n = 0 ∧ c = 0) := by
  rcases h.2 with ⟨rfl, h0⟩ | ⟨g, cap, cur, rfl, _⟩
  · first | exact ⟨none, 0, by rw [h0], fun _ => ⟨h0, rfl⟩⟩ | (have := h.1; exact ⟨none, 0, by simp_all, fun _ => by simp_all⟩)
  · exact ⟨_, _, rfl, fun h => by cases h⟩
theorem fol_made2 (xs : List Six) (x : Int) (os : List Opt) (A TA LA : Option Addr) (n c tn tc ln lc : Nat) (w : World) (ho : opsP os = madeP xs) (h : Ops w w.heap.size A n c os) (hT : RA brnCells 5 w w.heap.size TA tn tc (treeP (madeP xs)).1) (hL : RA intCells 1 w w.heap.size LA ln lc (lossP x)) :
    Calls Try.prog 24 #[.agg #[.int .i64 (treeP (madeP xs)).2, .slice TA tn tc], .slice A n c, .slice LA ln lc] w fun e w' => ∃ QA qc, e = .returned (.tuple #[.slice QA (runP (qP (madeP xs) (lossP x)) (srt (madeP xs)) 0).length qc, .int .i64 0]) ∧ RA ackCells 3 w' w'.heap.size QA (runP (qP (madeP xs) (lossP x)) (srt (madeP xs)) 0).length qc (runP (qP (madeP xs) (lossP x)) (srt (madeP xs)) 0) ∧ (QA = none → (runP (qP (madeP xs) (lossP x)) (srt (madeP xs)) 0).length = 0 ∧ qc = 0) ∧ Ext w w' := by
  have hb := follow_any _ TA tn tc (treeP (madeP xs)).2 os A n c LA ln lc (lossP x) w hT h hL
  rw [ho, made_fol] at hb
  refine hb.mono ?_
  rintro e w' ⟨v, rfl, ho, hx⟩
  obtain ⟨A', c', rfl, hn⟩ := own_slice2 ho
  exact ⟨A', c', rfl, RA.of_own2 ho rfl, hn, hx⟩
theorem prune_l {l : List Op} (T : List Brn) (st : Int) (P : List Brn) (k : Int) (known : List Ack) (os : List Opt) (A TA KA : Option Addr) (n c tn tc kn kc : Nat) (w : World) (ho : opsP os = l) (h : Ops w w.heap.size A n c os) (hT : RA brnCells 5 w w.heap.size TA tn tc T) (hK : RA ackCells 3 w w.heap.size KA kn kc known) (hp : prunP l T st known = some (P, k)) :
    Calls Try.prog 28 #[.agg #[.int .i64 st, .slice TA tn tc], .slice A n c, .slice KA kn kc] w fun e w' => ∃ A c, e = .returned (.tuple #[.agg #[.int .i64 k, .slice A P.length c], .int .i64 0]) ∧ RA brnCells 5 w' w'.heap.size A P.length c P ∧ Ext w w' := by
  have hb := prune_any T TA tn tc st os A n c KA kn kc known w hT h hK
  rw [ho, hp] at hb
  exact hb.mono fun e w' hr => pruneRet_some hr
theorem prune_no {l : List Op} (T : List Brn) (st : Int) (known : List Ack) (os : List Opt) (A TA KA : Option Addr) (n c tn tc kn kc : Nat) (w : World) (ho : opsP os = l) (h : Ops w w.heap.size A n c os) (hT : RA brnCells 5 w w.heap.size TA tn tc T) (hK : RA ackCells 3 w w.heap.size KA kn kc known) (hp : prunP l T st known = none) :
    Calls Try.prog 28 #[.agg #[.int .i64 st, .slice TA tn tc], .slice A n c, .slice KA kn kc] w fun e w' => e = .returned (.tuple #[.agg #[.int .i64 0, .slice none 0 0], .int .i64 200]) ∧ Ext w w' := by
  have hb := prune_any T TA tn tc st os A n c KA kn kc known w hT h hK
  rw [ho, hp] at hb
  exact hb
theorem valid_l {l : List Op} (P : List Brn) (k : Int) (os : List Opt) (A TA : Option Addr) (n c tn tc : Nat) (w : World) (ho : opsP os = l) (h : Ops w w.heap.size A n c os) (hT : RA brnCells 5 w w.heap.size TA tn tc P) (hv : validP l P k = true) :
    Calls Try.prog 18 #[.agg #[.int .i64 k, .slice TA tn tc], .slice A n c] w fun e w' => e = .returned (.bool true) ∧ Ext w w' := by
  have hb := valid_any P TA tn tc k os A n c w hT h
  rw [ho, hv] at hb
  exact hb
theorem fol_l {l : List Op} (P : List Brn) (k : Int) (lost : List Int) (r : List Ack) (os : List Opt) (A TA LA : Option Addr) (n c tn tc ln lc : Nat) (w : World) (ho : opsP os = l) (h : Ops w w.heap.size A n c os) (hT : RA brnCells 5 w w.heap.size TA tn tc P) (hL : RA intCells 1 w w.heap.size LA ln lc lost) (hf : folP l P k lost = some r) :
    Calls Try.prog 24 #[.agg #[.int .i64 k, .slice TA tn tc], .slice A n c, .slice LA ln lc] w fun e w' => ∃ QA qc, e = .returned (.tuple #[.slice QA r.length qc, .int .i64 0]) ∧ RA ackCells 3 w' w'.heap.size QA r.length qc r ∧ Ext w w' := by
  have hb := follow_any P TA tn tc k os A n c LA ln lc lost w hT h hL
  rw [ho, hf] at hb
  exact hb.mono fun e w' hr => ackRet_some hr
end Go.Proofs.Ytikphbgfcpamgaa
namespace Go.Proofs.Ytikphbgfcpamgaa
open Go.RowKit

theorem car_build {l : List Op} (h : carP l = true) (hl : (treeP l).1.length ≤ 1500) : buildP l = ((treeP l).1, (treeP l).2, 0) := by
  unfold buildP
  rw [h, decide_eq_true hl]
  rfl
theorem car_fol {l : List Op} (h : carP l = true) (hl : (treeP l).1.length ≤ 1500) (x : Int) : folP l (treeP l).1 (treeP l).2 (lossP x) = some (runP (qP l (lossP x)) (srt l) 0) := by
  unfold folP
  have hv : validP l (treeP l).1 (treeP l).2 = true := built_valid h (car_good h) hl
  rw [hv, loss_ok, made_unf, folD_dt]
  rfl
theorem tree_nil : (treeP []).1 = [] ∧ (treeP []).2 = -1 := ⟨rfl, rfl⟩
theorem opsP_erase {os : List Opt} {l : List Op} (h : opsP os = l) (k : Nat) : opsP (os.eraseIdx k) = l.eraseIdx k := by
  subst h
  unfold opsP
  rw [List.eraseIdx_eq_take_drop_succ, List.eraseIdx_eq_take_drop_succ, List.map_append, List.map_take, List.map_drop]
theorem erase_cells (os : List Opt) (k : Nat) : (os.take k).flatMap optCells ++ (os.drop (k + 1)).flatMap optCells = (os.eraseIdx k).flatMap optCells := by
  rw [List.eraseIdx_eq_take_drop_succ, List.flatMap_append]
theorem offA_app (k : Nat) : ∀ (a b : List Ack), offA k (a ++ b) = offA k a ++ offA k b := by
  intro a
  induction a with
  | nil => intro b; rfl
  | cons x r ih =>
    intro b
    rw [List.cons_append, offA, offA, ih]
    split
    · rfl
    · rw [List.cons_append]
theorem offA_len (k : Nat) : ∀ (a : List Ack), (offA k a).length ≤ a.length := by
  intro a
  induction a with
  | nil => exact Nat.le_refl _
  | cons x r ih => rw [offA]; split <;> simp <;> omega
theorem offA_step (k : Nat) {l : List Ack} {j : Nat} {a : Ack} (ha : l[j]? = some a) : offA k (l.take (j + 1)) = offA k (l.take j) ++ if a.opt = (k : Int) then [] else [⟨if a.opt > (k : Int) then a.opt - 1 else a.opt, a.slot, a.is_⟩] := by
  have hk := (List.getElem?_eq_some_iff.1 ha).1
  have he := (List.getElem?_eq_some_iff.1 ha).2
  rw [List.take_succ_eq_append_getElem hk, he, offA_app]
  rw [offA]
  congr 1
/-- What is built without an option. -/
structure Apt (l : List Op) (lost : List Int) (acks : List Ack) (n : Nat) (K : Nat) : Prop where
  bld : buildP (l.eraseIdx K) = ((treeP (l.eraseIdx K)).1, (treeP (l.eraseIdx K)).2, 0)
  fol : folP (l.eraseIdx K) (treeP (l.eraseIdx K)).1 (treeP (l.eraseIdx K)).2 lost = some (offA K acks)
  len : (treeP (l.eraseIdx K)).1.length ≤ n
theorem made_apt (xs : List Six) (x : Int) (K : Nat) (hK : K < (madeP xs).length) : Apt (madeP xs) (lossP x) (runP (qP (madeP xs) (lossP x)) (srt (madeP xs)) 0) (treeP (madeP xs)).1.length K := by
  have hc := made_car xs
  have h1 := (srt_erase hc hK).1
  obtain ⟨h2, h3⟩ := apart_plain (lost := lossP x) hc hK
  have h4 := Nat.le_trans h3 (made_len xs)
  exact ⟨car_build h1 h4, by rw [car_fol h1 h4, h2], h3⟩
theorem made_bd (xs : List Six) (x : Int) : ∀ a ∈ runP (qP (madeP xs) (lossP x)) (srt (madeP xs)) 0, 0 ≤ a.opt ∧ a.opt < 8 := fun a ha => by
  have h := run_opts (made_car xs) a ha
  have := made_few xs
  exact ⟨h.1, by have := h.2.1; omega⟩
theorem build_l {l : List Op} {T : List Brn} {st : Int} (os : List Opt) (A : Option Addr) (n c : Nat) (w : World) (ho : opsP os = l) (h : Ops w w.heap.size A n c os) (hb : buildP l = (T, st, 0)) :
    Calls Try.prog 13 #[.slice A n c] w fun e w' => ∃ TA c', e = .returned (.tuple #[.agg #[.int .i64 st, .slice TA T.length c'], .int .i64 0]) ∧ RA brnCells 5 w' w'.heap.size TA T.length c' T ∧ Ext w w' := by
  have h1 := build_any os A n c w h
  rw [ho, hb] at h1
  exact h1.mono fun e w' hr => buildRet_ra hr
def OwnK (W : World) (b : Nat) (v : Value) (l : List Ack) : Prop := W.ownsRow b 60 3 v l.length (l.flatMap ackCells)
theorem info_ack8 : (Try.prog.info? 60).map (fun i => (i.zero, i.size, i.bytes)) = some (some (.agg #[.int .i64 0, .int .i64 0, .bool false]), 3, 24) := by kernel_rfl
theorem ack_snoc {w : World} (ty : TypeId) (l : List Ack) (v : Value) (x : Ack) (base gx : Nat) (jx : Blk w gx 60 #[.int .i64 x.opt, .int .i64 x.slot, .bool x.is_]) (h : OwnK w base v l) (hl : l.length ≤ 900) (hb : base ≤ w.heap.size) :
    ∃ v' w', (Builtin.append_ #[35, 35] ty #[v, .slice (some ⟨gx, 0, none⟩) 1 1]).run Try.prog w = .ok v' w' ∧ w.grownBy w' v.ownBlock ∧ OwnK w' base v' (l ++ [x]) := by
  obtain ⟨i0, hi0, hz0, hz1, hz2⟩ := info_parts info_ack8
  obtain ⟨v2, W7, hr, hrow2, hg2, -⟩ := run_append_own (P := Try.prog) w base 35 ty 60 i0 _ 3 24 Try.underlying35 hi0 hz0 hz1 hz2 rfl (by omega) _ _ _ h ⟨gx, 0, none⟩ 1 1 (ackCells x) rfl (by intro i u hu; rw [Addr.add_lit, Nat.zero_add, jx.cell]; simpa [ackCells] using hu) (by simp [ackCells, Value.oneCell']) (by unfold maxLen; omega) (by omega) hb
  refine ⟨v2, W7, hr, hg2, ?_⟩
  unfold OwnK
  rw [List.length_append, List.flatMap_append]
  simpa using hrow2
theorem OwnK.ra {W : World} {b : Nat} {A : Option Addr} {n c : Nat} {l : List Ack} (h : OwnK W b (.slice A n c) l) (hn : n = l.length) : RA ackCells 3 W W.heap.size A n c l := by
  subst hn
  exact RA.of_own2 h rfl
end Go.Proofs.Ytikphbgfcpamgaa
namespace Go.Proofs.Ytikphbgfcpamgaa
open Go.RowKit

theorem info_opt8 : (Try.prog.info? 27).map (fun i => (i.zero, i.size, i.bytes)) = some (some (.agg #[.int .i64 0, .int .i64 0, .int .i64 0, .int .i64 0, .int .i64 0, .int .i64 0, .int .i64 0, .int .i64 0, .slice none 0 0]), 9, 88) := by kernel_rfl
set_option maxRecDepth 100000 in
set_option maxHeartbeats 1000000 in
theorem apart_walk (z0 : List Six) (a0 : Option Addr) (len0 cap0 : Nat) (a1 a2 : Int) (w : World) (g0 : RA sixCells 6 w w.heap.size a0 len0 cap0 z0) (o0 : ∀ x ∈ z0, x.ok) (g1 : I64ok a1) (g2 : I64ok a2) :
    Calls Try.prog 8 #[.slice a0 len0 cap0, .int .i64 a1, .int .i64 a2] w fun e w' => e = .returned (.bool true) ∧ Below w.heap.size w w' := by
  have HSANE := Lib.hid (fun W : World => sane_any W)
  have HMADE := Lib.hid (fun (W : World) (hW : Ext w W) => made_ops z0 a0 len0 cap0 W (ra_ext g0 hW) o0)
  have HLOSS := Lib.hid (fun (W : World) => loss_ra a2 W g2)
  have HBLD := Lib.hid (fun (W : World) (os : List Opt) (A : Option Addr) (n c : Nat) ho h => build_made z0 os A n c W ho h)
  have HFOL := Lib.hid (fun (W : World) (os : List Opt) (A TA LA : Option Addr) (n c tn tc ln lc : Nat) ho h hT hL => fol_made z0 a2 os A TA LA n c tn tc ln lc W ho h hT hL)
  have hfew := made_few z0
  have hak := made_acks z0 a2
  have hbd := made_bd z0 a2
  have hapt := made_apt z0 a2
  have hnil : madeP z0 = [] → (treeP (madeP z0)).1 = [] ∧ (treeP (madeP z0)).2 = -1 := fun h => by rw [h]; exact tree_nil
  clear g0 o0 g2
  generalize lossP a2 = lost at HLOSS HFOL hak hbd hapt
  generalize runP (qP (madeP z0) lost) (srt (madeP z0)) 0 = acks at HFOL hak hbd hapt
  generalize (treeP (madeP z0)).1 = T at HBLD HFOL hapt hnil
  generalize (treeP (madeP z0)).2 = st at HBLD HFOL hnil
  generalize madeP z0 = l at HMADE HBLD HFOL hfew hapt hnil
  obtain ⟨n, hn⟩ : ∃ n, n = l.length := ⟨_, rfl⟩
  rw [← hn] at hfew
  have HN := Lib.hid hn
  have HAPT := Lib.hid hapt
  have HNIL := Lib.hid hnil
  have HBD := Lib.hid hbd
  clear hn hapt hnil hbd
  go_enter Try.func8, Try.ntmps8
  go_wp2_with fail
  refine (HSANE.out _).mono ?_
  rintro e W1 ⟨rfl, hx1⟩
  go_wp2_with fail
  refine (HMADE.out W1 hx1).mono ?_
  rintro e W2 ⟨A, c, os, hos, rfl, hops, hy⟩
  have hx2 := Ext.trans hx1 hy
  have hol : n = os.length := by rw [HN.out, ← opsP_len hos]
  rw [← hol] at hops ⊢
  have HOL := Lib.hid hol
  have HOPS := Lib.hid hops
  have HOS := Lib.hid hos
  clear hx1 hy hops HMADE HSANE hol hos
  by_cases hn0 : n = 0
  · have hl0 : l = [] := List.eq_nil_of_length_eq_zero (by rw [← HN.out]; exact hn0)
    obtain ⟨e1, e2⟩ := HNIL.out hl0
    subst e1 e2
    clear hl0 HAPT HFOL HLOSS HBD HNIL
    have hnz : (n : Int) = 0 := by omega
    clear hn0
    go_wp2_with fail
    refine (HBLD.out W2 os A _ c HOS.out HOPS.out).mono ?_
    rintro e W4 ⟨TA, tc, rfl, hT, hy⟩
    have hx4 := Ext.trans hx2 hy
    clear hx2 hy hT HBLD HOPS
    rw [List.length_nil]
    have hxa : Ext W4 (W4.alloc (.cells #[.int .i64 (-1), .slice TA 0 tc] 33)) := bl_alloc (Below.refl _ _) _
    have J := Blk.new W4 33 #[.int .i64 (-1), .slice TA 0 tc]
    go_upto_region 7 with (fail)
    generalize W4.heap.size = gT at J ⊢
    generalize W4.alloc (.cells #[.int .i64 (-1), .slice TA 0 tc] 33) = W5 at hxa J ⊢
    have hx5 := Ext.trans hx4 hxa
    have t0 : W5.cell? ⟨gT, 0, none⟩ = some (.int .i64 (-1)) := J.cell 0
    have t1 : W5.cell? ⟨gT, 1, none⟩ = some (.slice TA 0 tc) := J.cell 1
    have HX5 := Lib.hid hx5
    clear hx4 hxa J hx5
    go_wp2_with fail
    go_ret
    exact ⟨rfl, HX5.out⟩
  · have hnz : ¬ (n : Int) = 0 := by omega
    have pk := fun W => pickl_any a1 (n : Int) W g1.1 g1.2 (by omega) (by omega)
    have hpb := pickP_bd a1 (n : Int) (by omega)
    obtain ⟨K, hKp⟩ : ∃ K : Nat, pickP a1 (n : Int) = (K : Int) := ⟨(pickP a1 (n : Int)).toNat, by omega⟩
    rw [hKp] at pk hpb
    have PK := Lib.hid pk
    have hKn : K < n := by omega
    have hA := HAPT.out K (by rw [← HN.out]; exact hKn)
    clear pk hKp hpb HAPT HNIL
    have hab := hA.bld
    have haf := hA.fol
    have hal := hA.len
    obtain ⟨l', hl'⟩ : ∃ l', l' = l.eraseIdx K := ⟨_, rfl⟩
    rw [← hl'] at hab haf hal
    have HL' := Lib.hid hl'
    clear hl' hA
    generalize (treeP l').1 = T' at hab haf hal
    generalize (treeP l').2 = st' at hab haf
    have HAB := Lib.hid hab
    have HAF := Lib.hid haf
    clear hab haf
    go_wp2_with fail
    refine (HLOSS.out W2).mono ?_
    rintro e W3 ⟨LA, lc, rfl, hl, hy⟩
    have hx3 := Ext.trans hx2 hy
    have HOPS := Lib.hid (HOPS.out.ext hy)
    have HL := Lib.hid hl
    clear hx2 hy hl HLOSS
    obtain ⟨ln, hln⟩ : ∃ n, n = lost.length := ⟨_, rfl⟩
    rw [← hln] at HL ⊢
    clear hln
    go_wp2_with fail
    refine (PK.out _).mono ?_
    rintro e w1 ⟨rfl, rfl⟩
    clear PK
    obtain ⟨b, o, hzz, hAA, hzb, hzc⟩ := HOPS.out.out.at_ opt_len hKn
    subst hAA
    clear hzc hzb hzz
    have hnc := HOPS.out.out.cap
    have hKc : K ≤ c := by omega
    obtain ⟨K1, hK1⟩ : ∃ K1, K1 = K + 1 := ⟨_, rfl⟩
    have hw1 : IntKind.i64.wrap ((K : Int) + 1) = (K1 : Int) := by rw [hK1]; exact IntWalk.i64_in _ (by omega)
    have hK1n : K1 ≤ n := by omega
    obtain ⟨N0, hN0⟩ : ∃ N0, N0 = W3.heap.size := ⟨_, rfl⟩
    have HROW : Hid (∀ W, Below N0 W3 W → RA optCells 9 W N0 (some ⟨b, o, none⟩) n c os) := Lib.hid (fun W hbl => by
      have h := HOPS.out.out
      rw [← hN0] at h
      exact h.below hbl)
    have HTK : Hid (∀ W, Below N0 W3 W → RA optCells 9 W N0 (some ⟨b, o, none⟩) K c (os.take K)) := Lib.hid (fun W hbl => (HROW.out W hbl).cut opt_len K (by omega))
    have HDR : Hid (∀ W, Below N0 W3 W → RA optCells 9 W N0 (if c = K1 then (some ⟨b, o, none⟩ : Option Addr) else (some (⟨b, o, none⟩ : Addr)).map (·.add (K1 * 9))) (n - K1) (c - K1) (os.drop K1)) := Lib.hid (fun W hbl => (HROW.out W hbl).tail opt_len K1 hK1n)
    have HNW : Hid (∀ W, TP N0 ((os.take K).flatMap optCells ++ (os.drop K1).flatMap optCells) 9 W3 W → N0 ≤ W.heap.size) := Lib.hid (fun W h => by rw [hN0]; exact h.size)
    have hT := tp_tr N0 ((os.take K).flatMap optCells ++ (os.drop K1).flatMap optCells) 9
    obtain ⟨i0, hi0, hz0, hz1, hz2⟩ := info_parts info_opt8
    have HN0 := Lib.hid hN0
    have HK1 := Lib.hid hK1
    clear hN0 hK1
    have hb1 : ∀ m : Nat, m ≤ n → m ≤ 2000 := fun m h => by omega
    have HB1 := Lib.hid hb1
    clear hb1
    go_upto_region 10 with (fail)
    refine RB.wp_region_obl (T := _) hT 10 (fun ix vals v w1 => match ix with | 0 => ∃ gx, v = .slice (some ⟨gx, 0, none⟩) 0 0 ∧ N0 ≤ gx ∧ Blk w1 gx 27 #[] | 1 => v = .slice (some ⟨b, o, none⟩) n c | 2 => v = .int .i64 (K : Int) | 3 => v = .slice (some ⟨b, o, none⟩) K c | 4 => ∃ g k, v = .slice (some ⟨g, 0, none⟩) K k ∧ (K = 0 → k = 0) ∧ w1.ownsRow N0 27 9 (.slice (some ⟨g, 0, none⟩) K k) K ((os.take K).flatMap optCells) | 5 => v = .slice (some ⟨b, o, none⟩) n c | 6 => v = .int .i64 (K : Int) | 7 => v = .int .i64 (K1 : Int) | 8 => ∃ A' c', v = .slice A' (n - K1) c' ∧ RA optCells 9 w1 N0 A' (n - K1) c' (os.drop K1) | _ => ∃ g k, v = .slice (some ⟨g, 0, none⟩) (K + (n - K1)) k ∧ w1.ownsRow N0 27 9 (.slice (some ⟨g, 0, none⟩) (K + (n - K1)) k) (K + (n - K1)) ((os.take K).flatMap optCells ++ (os.drop K1).flatMap optCells)) (by kernel_rfl) (by kernel_rfl) ?_ ?_ ?_ ?_
    · intro ix vals v w1 w2 hi hr hx
      match ix, hr with
      | 0, hr => obtain ⟨gx, h1, h2, h3⟩ := hr; exact ⟨gx, h1, h2, hx.blk h3 (by simp)⟩
      | 1, hr => exact hr
      | 2, hr => exact hr
      | 3, hr => exact hr
      | 4, hr => obtain ⟨g, k, h1, h2, h3⟩ := hr; exact ⟨g, k, h1, h2, hx.own h3 (List.prefix_append _ _)⟩
      | 5, hr => exact hr
      | 6, hr => exact hr
      | 7, hr => exact hr
      | 8, hr => obtain ⟨A', c', h1, h2⟩ := hr; exact ⟨A', c', h1, h2.keep (fun p hp => World.cell?_of_block (hx.low.block p.block hp))⟩
      | (kx + 9), hr => obtain ⟨g, k, h1, h3⟩ := hr; exact ⟨g, k, h1, hx.own h3 (List.prefix_refl _)⟩
    · intro ix vals vals_ v w1 hi hv hr
      exact hr
    · refine ⟨?_, ?_, ?_, ?_, ?_, ?_, ?_, ?_, ?_, ?_, trivial⟩
      · intro vals w1 hx hd ha
        clear hd ha
        simp only [Lf]
        have hz := HNW.out _ hx.undrew
        go_wp2
        exact ⟨rfl, TP.ext (bl_alloc (Below.refl _ _) _) hz, _, rfl, hz, Blk.new _ _ _⟩
      · intro vals w1 hx hd ha
        clear hd ha
        simp only [Lf, dstAt, Act.put, List.getElem?_toArray, List.getElem?_cons_zero, Option.bind_some, List.setIfInBounds_toArray, List.set_cons_zero, List.set_cons_succ]
        go_wp2
        exact ⟨rfl, hT.refl _, rfl⟩
      · intro vals w1 hx hd ha
        clear hd ha
        simp only [Lf, dstAt, Act.put, List.getElem?_toArray, List.getElem?_cons_zero, List.getElem?_cons_succ, Option.bind_some, List.setIfInBounds_toArray, List.set_cons_zero, List.set_cons_succ]
        go_wp2
        exact ⟨rfl, hT.refl _, rfl⟩
      · intro vals w1 hx hd ha
        have e1 : vals 1 = .slice (some ⟨b, o, none⟩) n c := hd 1 (by decide)
        have e2 : vals 2 = .int .i64 (K : Int) := hd 2 (by decide)
        clear hd ha
        simp only [Lf, dstAt, Act.put, List.getElem?_toArray, List.getElem?_cons_zero, List.getElem?_cons_succ, Option.bind_some, List.setIfInBounds_toArray, List.set_cons_zero, List.set_cons_succ]
        simp only [e1, e2]
        clear e1 e2
        go_wp2
        exact ⟨rfl, hT.refl _, rfl⟩
      · intro vals w1 hx hd ha
        have r0 : (fun v w1 => ∃ gx, v = .slice (some ⟨gx, 0, none⟩) 0 0 ∧ N0 ≤ gx ∧ Blk w1 gx 27 #[]) (vals 0) w1 := hd 0 (by decide)
        dsimp only at r0
        have e3 : vals 3 = .slice (some ⟨b, o, none⟩) K c := hd 3 (by decide)
        clear hd ha
        simp only [Lf, dstAt, Act.put, List.getElem?_toArray, List.getElem?_cons_zero, List.getElem?_cons_succ, Option.bind_some, List.setIfInBounds_toArray, List.set_cons_zero, List.set_cons_succ]
        simp only [e3]
        clear e3
        obtain ⟨gx, e_0, hgx, jx⟩ := r0
        rw [e_0]
        have hz := HNW.out _ hx.undrew
        obtain ⟨g, k, w9, hrun, hxe, _, hk0, hown⟩ := copy_row (by decide) Try.underlying28 hi0 hz0 hz1 hz2 rfl (by decide) 28 (os.take K) N0 gx K c (some ⟨b, o, none⟩) N0 jx hgx (HB1.out K (by omega)) (HTK.out w1 hx.undrew.low)
        have hown := Lib.hid hown
        clear jx
        refine wpList_append_run_ rfl _ _ _ rfl rfl rfl hrun ?_
        clear hrun
        go_wp2
        exact ⟨rfl, TP.ext hxe hz, g, k, rfl, (by intro h; exact hk0 (by first | exact h | (rw [h]; rfl))), hown.out⟩
      · intro vals w1 hx hd ha
        clear hd ha
        simp only [Lf, dstAt, Act.put, List.getElem?_toArray, List.getElem?_cons_zero, List.getElem?_cons_succ, Option.bind_some, List.setIfInBounds_toArray, List.set_cons_zero, List.set_cons_succ]
        go_wp2
        exact ⟨rfl, hT.refl _, rfl⟩
      · intro vals w1 hx hd ha
        clear hd ha
        simp only [Lf, dstAt, Act.put, List.getElem?_toArray, List.getElem?_cons_zero, List.getElem?_cons_succ, Option.bind_some, List.setIfInBounds_toArray, List.set_cons_zero, List.set_cons_succ]
        go_wp2
        exact ⟨rfl, hT.refl _, rfl⟩
      · intro vals w1 hx hd ha
        have e6 : vals 6 = .int .i64 (K : Int) := hd 6 (by decide)
        clear hd ha
        simp only [Lf, dstAt, Act.put, List.getElem?_toArray, List.getElem?_cons_zero, List.getElem?_cons_succ, Option.bind_some, List.setIfInBounds_toArray, List.set_cons_zero, List.set_cons_succ]
        simp only [e6]
        clear e6
        go_wp2
        exact ⟨rfl, hT.refl _, rfl⟩
      · intro vals w1 hx hd ha
        have e5 : vals 5 = .slice (some ⟨b, o, none⟩) n c := hd 5 (by decide)
        have e7 : vals 7 = .int .i64 (K1 : Int) := hd 7 (by decide)
        clear hd ha
        simp only [Lf, dstAt, Act.put, List.getElem?_toArray, List.getElem?_cons_zero, List.getElem?_cons_succ, Option.bind_some, List.setIfInBounds_toArray, List.set_cons_zero, List.set_cons_succ]
        simp only [e5]
        simp only [e7]
        clear e5 e7
        have hq := Lib.hid (HDR.out w1 hx.undrew.low)
        have hz := HNW.out _ hx.undrew
        by_cases hck : c = K1
        · rw [if_pos hck, show c - K1 = 0 by omega] at hq; go_wp2; exact ⟨rfl, hT.refl _, _, _, rfl, hq.out⟩
        · rw [if_neg hck] at hq; go_wp2; exact ⟨rfl, hT.refl _, _, _, rfl, by first | exact hq.out | simpa [Addr.add_lit] using hq.out⟩
      · intro vals w1 hx hd ha
        have r4 : (fun v w1 => ∃ g k, v = .slice (some ⟨g, 0, none⟩) K k ∧ (K = 0 → k = 0) ∧ w1.ownsRow N0 27 9 (.slice (some ⟨g, 0, none⟩) K k) K ((os.take K).flatMap optCells)) (vals 4) w1 := hd 4 (by decide)
        dsimp only at r4
        have r8 : (fun v w1 => ∃ A' c', v = .slice A' (n - K1) c' ∧ RA optCells 9 w1 N0 A' (n - K1) c' (os.drop K1)) (vals 8) w1 := hd 8 (by decide)
        dsimp only at r8
        clear hd ha
        simp only [Lf, dstAt, Act.put, List.getElem?_toArray, List.getElem?_cons_zero, List.getElem?_cons_succ, Option.bind_some, List.setIfInBounds_toArray, List.set_cons_zero, List.set_cons_succ]
        obtain ⟨g2, k2, e_2, hk2, ho2⟩ := r4
        obtain ⟨A', c', e_4, hra⟩ := r8
        rw [e_2, e_4]
        have hz := HNW.out _ hx.undrew
        obtain ⟨g9, k9, w9, hrun, hown, htp⟩ := join_row (by decide) Try.underlying28 hi0 hz0 hz1 hz2 rfl (by decide) 28 (news := (os.drop K1).flatMap optCells) ho2 hk2 (HB1.out K (by omega)) hz A' (n - K1) c' (HB1.out _ (by omega)) (by rw [flat_len opt_len, hra.len]) (fun h => by obtain ⟨b', o', e, _, hc⟩ := hra.rd.2 h; exact ⟨_, e, fun j u hu => by rw [Addr.add_lit]; exact hc j u hu⟩) (fun u hu => by obtain ⟨x, _, h⟩ := List.mem_flatMap.1 hu; simp [optCells] at h; rcases h with h | h | h | h | h | h | h | h | h <;> subst h <;> rfl)
        have hown := Lib.hid hown
        have htp := Lib.hid htp
        clear hra ho2
        refine wpList_append_run_ rfl _ _ _ rfl rfl rfl hrun ?_
        clear hrun
        go_wp2
        exact ⟨rfl, htp.out, g9, k9, rfl, hown.out⟩
    intro vals W4 hy hf
    obtain ⟨gF, fc, v9, hown⟩ : ∃ g k, vals 9 = .slice (some ⟨g, 0, none⟩) (K + (n - K1)) k ∧ W4.ownsRow N0 27 9 (.slice (some ⟨g, 0, none⟩) (K + (n - K1)) k) (K + (n - K1)) ((os.take K).flatMap optCells ++ (os.drop K1).flatMap optCells) := hf 9 (by omega)
    have hy9 : Ext W3 W4 := by have h := hy.undrew.low; rw [HN0.out] at h; exact h
    refine tail1 10 _ (by kernel_rfl) (by kernel_rfl) rfl ?_
    simp only [Lf, dstAt, Act.put, List.getElem?_toArray, List.getElem?_cons_zero, List.getElem?_cons_succ, Option.bind_some, List.setIfInBounds_toArray, List.set_cons_zero, List.set_cons_succ]
    rw [v9]
    obtain ⟨os', hos'⟩ : ∃ os', os' = os.eraseIdx K := ⟨_, rfl⟩
    have hol' : K + (n - K1) = os'.length := by
      have h1 := HOL.out
      have h2 := HK1.out
      rw [hos', List.length_eraseIdx_of_lt (by omega)]
      omega
    have hops' : opsP os' = l' := by rw [hos', HL'.out]; exact opsP_erase HOS.out K
    have HOPF : Hid (Ops W4 W4.heap.size (some ⟨gF, 0, none⟩) (K + (n - K1)) fc os') := Lib.hid ⟨by
      rw [HK1.out, erase_cells, ← HK1.out, ← hos'] at hown
      exact RA.of_own2 hown hol'.symm, fun x hx => ra_ext (HOPS.out.each x (by rw [hos'] at hx; exact List.mem_of_mem_eraseIdx hx)) hy9⟩
    generalize K + (n - K1) = nf at HOPF v9 hol' ⊢
    have HOS' := Lib.hid hops'
    have hx4 := Ext.trans hx3 hy9
    have HOPS := Lib.hid (HOPS.out.ext hy9)
    have HL := Lib.hid (ra_ext HL.out hy9)
    clear hf hy hown v9 hos' hol' hops' hy9 hx3 hT HTK HDR HNW HROW HN0 hi0 hz0 hz1 hz2 hw1 HL'
    go_wp2_with fail
    refine (HBLD.out W4 os (some ⟨b, o, none⟩) _ c HOS.out HOPS.out).mono ?_
    rintro e W5 ⟨TA, tc, rfl, hT, hy⟩
    have hx5 := Ext.trans hx4 hy
    have HOPS := Lib.hid (HOPS.out.ext hy)
    have HOPF := Lib.hid (HOPF.out.ext hy)
    have HL := Lib.hid (ra_ext HL.out hy)
    have HT := Lib.hid hT
    clear hx4 hy hT HBLD
    obtain ⟨tn, htn⟩ : ∃ n, n = T.length := ⟨_, rfl⟩
    rw [← htn] at HT hal ⊢
    clear htn
    have hxa : Ext W5 (W5.alloc (.cells #[.int .i64 st, .slice TA tn tc] 33)) := bl_alloc (Below.refl _ _) _
    have J := Blk.new W5 33 #[.int .i64 st, .slice TA tn tc]
    go_upto_region 12 with (fail)
    generalize W5.heap.size = gT at J ⊢
    generalize W5.alloc (.cells #[.int .i64 st, .slice TA tn tc] 33) = W6 at hxa J ⊢
    have hx6 := Ext.trans hx5 hxa
    have HOPS := Lib.hid (HOPS.out.ext hxa)
    have HOPF := Lib.hid (HOPF.out.ext hxa)
    have HL := Lib.hid (ra_ext HL.out hxa)
    have HT := Lib.hid (ra_ext HT.out hxa)
    have HJ := Lib.hid J
    clear hx5 hxa J
    go_wp2_with fail
    refine (build_l os' (some ⟨gF, 0, none⟩) nf fc W6 HOS'.out HOPF.out HAB.out).mono ?_
    rintro e W7 ⟨UA, uc, rfl, hU, hy⟩
    have hx7 := Ext.trans hx6 hy
    have HOPS := Lib.hid (HOPS.out.ext hy)
    have HOPF := Lib.hid (HOPF.out.ext hy)
    have HL := Lib.hid (ra_ext HL.out hy)
    have HT := Lib.hid (ra_ext HT.out hy)
    have HJ := Lib.hid (HJ.out.ext hy)
    have HU := Lib.hid hU
    clear hx6 hy hU HAB
    obtain ⟨un, hun⟩ : ∃ n, n = T'.length := ⟨_, rfl⟩
    rw [← hun] at HU hal ⊢
    clear hun
    have hxa : Ext W7 (W7.alloc (.cells #[.int .i64 st', .slice UA un uc] 33)) := bl_alloc (Below.refl _ _) _
    have J := Blk.new W7 33 #[.int .i64 st', .slice UA un uc]
    go_upto_region 13 with (fail)
    generalize W7.heap.size = gU at J ⊢
    generalize W7.alloc (.cells #[.int .i64 st', .slice UA un uc] 33) = W8 at hxa J ⊢
    have hx8 := Ext.trans hx7 hxa
    have HOPS := Lib.hid (HOPS.out.ext hxa)
    have HOPF := Lib.hid (HOPF.out.ext hxa)
    have HL := Lib.hid (ra_ext HL.out hxa)
    have HT := Lib.hid (ra_ext HT.out hxa)
    have HU := Lib.hid (ra_ext HU.out hxa)
    have HJ := Lib.hid (HJ.out.ext hxa)
    have HJU := Lib.hid J
    clear hx7 hxa J
    have t0 : W8.cell? ⟨gT, 0, none⟩ = some (.int .i64 st) := HJ.out.cell 0
    have t1 : W8.cell? ⟨gT, 1, none⟩ = some (.slice TA tn tc) := HJ.out.cell 1
    go_wp2_with fail
    refine (HFOL.out W8 os (some ⟨b, o, none⟩) TA LA _ c _ tc _ lc HOS.out HOPS.out HT.out HL.out).mono ?_
    rintro e W9 ⟨QA, qc, rfl, hq, hy⟩
    have hx9 := Ext.trans hx8 hy
    have HOPF := Lib.hid (HOPF.out.ext hy)
    have HL := Lib.hid (ra_ext HL.out hy)
    have HU := Lib.hid (ra_ext HU.out hy)
    have HJ := Lib.hid (HJ.out.ext hy)
    have HJU := Lib.hid (HJU.out.ext hy)
    have HQ := Lib.hid hq
    clear hx8 hy hq HFOL t0 t1 HOPS HT
    obtain ⟨m, hm⟩ : ∃ m, m = acks.length := ⟨_, rfl⟩
    rw [← hm] at HQ hak ⊢
    have HM := Lib.hid hm
    clear hm
    have u0 : W9.cell? ⟨gU, 0, none⟩ = some (.int .i64 st') := HJU.out.cell 0
    have u1 : W9.cell? ⟨gU, 1, none⟩ = some (.slice UA un uc) := HJU.out.cell 1
    go_wp2_with fail
    refine (fol_l T' st' lost (offA K acks) os' (some ⟨gF, 0, none⟩) UA LA nf fc un uc ln lc W9 HOS'.out HOPF.out HU.out HL.out HAF.out).mono ?_
    rintro e W10 ⟨RA_, rc, rfl, hr, hy⟩
    have hx10 := Ext.trans hx9 hy
    have HJ := Lib.hid (HJ.out.ext hy)
    have HJU := Lib.hid (HJU.out.ext hy)
    have HQ := Lib.hid (ra_ext HQ.out hy)
    have HRR := Lib.hid hr
    clear hx9 hy hr u0 u1 HOPF HL HU HAF
    obtain ⟨rn, hrn⟩ : ∃ r, r = (offA K acks).length := ⟨_, rfl⟩
    rw [← hrn] at HRR ⊢
    have HRN := Lib.hid hrn
    clear hrn
    go_wp2_with fail
    go_loopw [22, 23] (fun u y wr => ∃ j : Nat, j ≤ m ∧ y = .int .i64 j ∧ Hid (OwnK wr W10.heap.size u (offA K (acks.take j))) ∧ Ext W10 wr) (fun _ y _ => m - (intOf y).toNat)
    case atStart => exact ⟨0, Nat.zero_le _, rfl, Lib.hid (World.ownsRow_nil _ _ _ _), Ext.refl _⟩
    case round =>
      obtain ⟨j, hj, rfl, HO, hxq⟩ := hrel
      obtain ⟨A4, c4, hv4, _, _⟩ := own_slice HO.out
      subst hv4
      by_cases hjm : j < m
      · obtain ⟨b7, o7, hz, hA7, _, hcell⟩ := (ra_ext HQ.out hxq).at_ ack_len hjm
        have hst := offA_step K (List.getElem?_eq_getElem hz)
        have hbd := HBD.out acks[j] (List.getElem_mem hz)
        generalize acks[j] = a at hcell hst hbd
        obtain ⟨ao, as_, ai⟩ := a
        dsimp only at hst hbd
        have a0 : wr.cell? ⟨b7, o7 + j * 3, none⟩ = some (.int .i64 ao) := hcell 0 (by omega)
        have a1 : wr.cell? ⟨b7, o7 + j * 3 + 1, none⟩ = some (.int .i64 as_) := hcell 1 (by omega)
        have a2 : wr.cell? ⟨b7, o7 + j * 3 + 2, none⟩ = some (.bool ai) := hcell 2 (by omega)
        have hjz : (j : Int) < (m : Int) := by omega
        have hlen : (offA K (acks.take j)).length ≤ 48 := by have := offA_len K (acks.take j); rw [List.length_take] at this; omega
        subst hA7
        clear hcell hz
        have hx1 : Ext W10 (wr.alloc (.cells #[.int .i64 ao, .int .i64 as_, .bool ai] 60)) := bl_alloc hxq _
        have hx2 : Ext wr (wr.alloc (.cells #[.int .i64 ao, .int .i64 as_, .bool ai] 60)) := bl_alloc (Below.refl _ _) _
        have J := Blk.new wr 60 #[.int .i64 ao, .int .i64 as_, .bool ai]
        have hgw : W10.heap.size ≤ wr.heap.size := Below.size hxq
        have hne : (Value.slice A4 (offA K (acks.take j)).length c4).ownBlock ≠ some wr.heap.size := fun e => Nat.lt_irrefl _ (World.ownsRow.lt HO.out _ e).2
        go_upto_region 22 with (fail)
        generalize wr.heap.size = g5 at J hgw hne ⊢
        generalize wr.alloc (.cells #[.int .i64 ao, .int .i64 as_, .bool ai] 60) = V1 at hx1 hx2 J ⊢
        have HO := Lib.hid (own_ext HO.out hx2)
        have d0 : V1.cell? ⟨g5, 0, none⟩ = some (.int .i64 ao) := J.cell 0
        have d1 : V1.cell? ⟨g5, 1, none⟩ = some (.int .i64 as_) := J.cell 1
        have d2 : V1.cell? ⟨g5, 2, none⟩ = some (.bool ai) := J.cell 2
        clear a0 a1 a2 hx2 hxq
        by_cases hak2 : ao = (K : Int)
        · rw [if_pos hak2, List.append_nil] at hst
          rw [← hst] at HO
          have hlen2 : (offA K (acks.take (j + 1))).length = (offA K (acks.take j)).length := by rw [hst]
          rw [← hlen2]
          clear hst hlen2
          go_wp2_with fail
          go_roundw
          case rel => exact ⟨j + 1, by omega, by go_num, HO, hx1⟩
          case measure => simp [intOf]; omega
        · rw [if_neg hak2] at hst
          by_cases hgt : ao > (K : Int)
          · rw [if_pos hgt] at hst
            have hw2 : IntKind.i64.wrap (ao - 1) = ao - 1 := IntWalk.i64_in _ (by omega)
            have hfz := J.frozen 0
            have hJ2 := J.set_ 0 (.int .i64 (ao - 1))
            have hx3 : Ext W10 (V1.setCell ⟨g5, 0, none⟩ (.int .i64 (ao - 1))) := Below.setCell hx1 hgw _
            have HO := Lib.hid (own_far1 HO.out hne (World.grownBy_setCell_ V1 ⟨g5, 0, none⟩ (.int .i64 (ao - 1))))
            go_upto_region 25 with (fail)
            generalize V1.setCell ⟨g5, 0, none⟩ (.int .i64 (ao - 1)) = V2 at hJ2 hx3 HO ⊢
            have d0 : V2.cell? ⟨g5, 0, none⟩ = some (.int .i64 (ao - 1)) := hJ2.cell 0
            have d1 : V2.cell? ⟨g5, 1, none⟩ = some (.int .i64 as_) := hJ2.cell 1
            have d2 : V2.cell? ⟨g5, 2, none⟩ = some (.bool ai) := hJ2.cell 2
            clear hJ2 hfz hw2 hx1 J
            have hxa : Ext V2 (V2.alloc (.cells #[.int .i64 (ao - 1), .int .i64 as_, .bool ai] 60)) := bl_alloc (Below.refl _ _) _
            obtain ⟨v9, V9, hrun, hg9, hos9⟩ := ack_snoc (w := V2.alloc (.cells #[.int .i64 (ao - 1), .int .i64 as_, .bool ai] 60)) 35 (offA K (acks.take j)) (.slice A4 (offA K (acks.take j)).length c4) ⟨ao - 1, as_, ai⟩ W10.heap.size V2.heap.size (Blk.new _ _ _) (own_ext HO.out hxa) (by omega) (by rw [World.size_alloc]; have := Below.size hx3; omega)
            have hx9 : Ext W10 V9 := (Ext.trans hx3 hxa).grown hg9 (Below.size (Ext.trans hx3 hxa)) (fun z ee => (World.ownsRow.lt HO.out z ee).1)
            rw [← hst] at hos9
            have HO9 := Lib.hid hos9
            have HRUN := Lib.hid hrun
            clear hst hrun hg9 hos9 hxa HO
            go_wp2_with (refine wpList_append_run_ rfl _ _ _ rfl rfl rfl HRUN.out ?_)
            go_roundw
            case rel => exact ⟨j + 1, by omega, by go_num, HO9, hx9⟩
            case measure => simp [intOf]; omega
          · rw [if_neg hgt] at hst
            have hx3 := hx1
            clear J hx1
            have hxa : Ext V1 (V1.alloc (.cells #[.int .i64 (ao), .int .i64 as_, .bool ai] 60)) := bl_alloc (Below.refl _ _) _
            obtain ⟨v9, V9, hrun, hg9, hos9⟩ := ack_snoc (w := V1.alloc (.cells #[.int .i64 (ao), .int .i64 as_, .bool ai] 60)) 35 (offA K (acks.take j)) (.slice A4 (offA K (acks.take j)).length c4) ⟨ao, as_, ai⟩ W10.heap.size V1.heap.size (Blk.new _ _ _) (own_ext HO.out hxa) (by omega) (by rw [World.size_alloc]; have := Below.size hx3; omega)
            have hx9 : Ext W10 V9 := (Ext.trans hx3 hxa).grown hg9 (Below.size (Ext.trans hx3 hxa)) (fun z ee => (World.ownsRow.lt HO.out z ee).1)
            rw [← hst] at hos9
            have HO9 := Lib.hid hos9
            have HRUN := Lib.hid hrun
            clear hst hrun hg9 hos9 hxa HO
            go_wp2_with (refine wpList_append_run_ rfl _ _ _ rfl rfl rfl HRUN.out ?_)
            go_roundw
            case rel => exact ⟨j + 1, by omega, by go_num, HO9, hx9⟩
            case measure => simp [intOf]; omega
      · obtain rfl : j = m := by omega
        have hjz : ¬ (j : Int) < (j : Int) := by omega
        have hall : acks.take j = acks := List.take_of_length_le (by rw [HM.out]; exact Nat.le_refl _)
        rw [hall] at HO ⊢
        rw [← HRN.out] at HO ⊢
        have HSA : Hid (Calls Try.prog 27 #[.slice A4 rn c4, .slice RA_ rn rc] wr fun e w' => e = .returned (.bool true) ∧ Ext wr w') := Lib.hid (by
          have h := rsameA_any A4 RA_ rn rn c4 rc (offA K acks) (offA K acks) wr (OwnK.ra HO.out HRN.out) (ra_ext HRR.out hxq)
          rw [decide_eq_true rfl] at h
          exact h)
        clear hall
        go_wp2_with fail
        refine HSA.out.mono ?_
        rintro e V3 ⟨rfl, hy⟩
        have hxz := Ext.trans hxq hy
        have t1 : V3.cell? ⟨gT, 1, none⟩ = some (.slice TA tn tc) := (HJ.out.ext hxz).cell 1
        have u1 : V3.cell? ⟨gU, 1, none⟩ = some (.slice UA un uc) := (HJU.out.ext hxz).cell 1
        have HXZ := Lib.hid (Ext.trans hx10 hxz)
        have hal2 : (un : Int) ≤ (tn : Int) := by omega
        clear HSA hy hxz
        go_wp2_with fail
        go_ret
        exact ⟨rfl, HXZ.out⟩
end Go.Proofs.Ytikphbgfcpamgaa
namespace Go.Proofs.Ytikphbgfcpamgaa
open Go.ChangeShapes Go.WideShapes Go.ChangeAt Go.RowKit Go.Deep
set_option linter.unusedVariables false
set_option maxRecDepth 100000 in
theorem treeApart_lifted (os : Os) (started : os.Started) (H : Type) (enc : TypeId × Value → H) :
    ReturnsInHanded {} Try.checked os 8 .any (Rows.treeApartSpec.pre6 enc Try.prog Try.f8 Rows.treeApartRow.domain false) (Rows.treeApartSpec.post enc Try.prog Try.f8 false true false false) := by
  refine returnsInHanded_of_change (C := Try.checked) ownKn started (by kernel_rfl) Try.func8
    (ChangeSpec.witness6 (enc := enc) (C := Try.checked) false ⟨#[], #[.slice none 0 0, .int .i64 0, .int .i64 0], []⟩ 8 (by kernel_rfl) (by kernel_rfl) (by kernel_rfl) (by kernel_rfl)) ?_
  intro W base args ds gs before hval0 hW hcnd _
  have hval : ∀ (j : Nat) t v, Try.f8.params[j]? = some t → args[j]? = some v → Value.okWide Try.prog W .any base t v := hval0
  have hW' := hW
  obtain ⟨p, q, hA0, hV, rfl, hfz, hnd⟩ := hW
  have hA : DataW.TrodAll enc Try.prog W 0 (fun _ => true) true Try.f8.params.toList args.toList ds p := hA0
  rw [Try.params8] at hA hval
  obtain ⟨v0, vs0, d0, ds0, p0, q0, hargs, rfl, rfl, h0, r0⟩ := trodAll_cons hA
  obtain ⟨v1, vs1, d1, ds1, p1, q1, rfl, rfl, rfl, h1, r1⟩ := trodAll_cons r0
  obtain ⟨v2, vs2, d2, ds2, p2, q2, rfl, rfl, rfl, h2, r2⟩ := trodAll_cons r1
  obtain ⟨rfl, rfl, rfl⟩ := trodAll_nil r2
  obtain rfl : args = #[v0, v1, v2] := by cases args; simp_all
  obtain ⟨rfl, rfl⟩ := trodVars_none hV
  obtain ⟨a0, len0, cap0, rfl⟩ := okWide_slice Try.underlying22 (hval 0 22 v0 rfl rfl)
  have k0 := h0
  obtain ⟨z0, g0, o0⟩ := open_Sixs h0
  have lt0 : ∀ x ∈ p0, x.block < W.heap.size := by obtain ⟨m, hm⟩ := k0; exact DataW.trod_lt m _ _ _ hm
  obtain ⟨a1, rfl, rfl, rfl, w1⟩ := open_int Try.underlying3 (hval 1 3 v1 rfl rfl) h1
  obtain ⟨a2, rfl, rfl, rfl, w2⟩ := open_int Try.underlying3 (hval 2 3 v2 rfl rfl) h2
  clear hA0 hval0
  refine (apart_walk z0 a0 len0 cap0 a1 a2 W g0 o0 (i64_of_wf w1) (i64_of_wf w2)).mono fun e W' ⟨he, bel⟩ => ?_
  subst he
  exact ⟨_, rfl, _, _, _, [], _, [], hW', trodAll_mk1 (shut_bool Try.underlying4 _), (trodAll_cons_mk (Below.trod laidOut (by kernel_rfl) (of_decide_eq_true (by kernel_rfl)) k0 bel lt0) (trodAll_cons_mk (shut_int Try.underlying3 w1) (trodAll_cons_mk (shut_int Try.underlying3 w2) trodAll_mk0))), rfl, bel.frame _, fun h => by cases h⟩

theorem treeApart_over : Rows.treeApartRow.holds Try.pinned (OpenSpec.ofChange Rows.treeApartSpec) :=
  OpenClaim.holds_of_wide 8 Try.f8 rfl rfl rfl rfl rfl rfl rfl ⟨rfl, rfl, rfl, rfl, rfl⟩ rfl rfl rfl rfl rfl (by kernel_rfl) Try.func8 (by kernel_rfl)
    (of_decide_eq_true (by kernel_rfl)) (by unfold Func.isWrapper; first | (rw [if_pos (by decide +kernel)]; kernel_rfl) | (rw [if_neg (by decide +kernel)]; exact ⟨rfl, rfl⟩))
    (fun os started H enc _ => treeApart_lifted os started H enc)

theorem treeApart_proved : Rows.TreeApartSaid := treeApart_over
end Go.Proofs.Ytikphbgfcpamgaa
