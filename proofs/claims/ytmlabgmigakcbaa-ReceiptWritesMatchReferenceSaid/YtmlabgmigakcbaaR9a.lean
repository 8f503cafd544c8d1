/- One block changes: fates and discords stay. -/
import Derived.Test.YtmlabgmigakcbaaR8
import Derived.Test.YtmlabgmigakcbaaRegB
import Derived.Laws.Rows
namespace Go.Proofs.Ytmlabgmigakcbaa
open Go.RowKit

/-- Nothing changes but this block. -/
def One (g : Nat) (w w' : World) : Prop := w.grownBy w' (some g)
section
variable {g g' : Nat} {w w' w'' : World}
theorem One.refl (g : Nat) (w : World) : One g w w := ⟨rfl, rfl, rfl, Nat.le_refl _, fun _ _ _ => rfl⟩
theorem One.trans (h : One g w w') (k : One g w' w'') : One g w w'' := ⟨k.os.trans h.os, k.tape.trans h.tape, k.output.trans h.output, Nat.le_trans h.size k.size, fun i hi hr => (k.block i (Nat.lt_of_lt_of_le hi h.size) hr).trans (h.block i hi hr)⟩
theorem One.set (h : One g w w') (i : Nat) (v : Value) : One g w (w'.setCell ⟨g, i, none⟩ v) :=
  h.trans ⟨rfl, rfl, rfl, by simp [World.setCell], fun k _ hk => Below.heap_setCell _ _ _ k (fun e => hk (by rw [e]))⟩
theorem One.row (h : One g w w') (cs : Array Value) : One g w (w'.setRow g cs) :=
  h.trans ⟨rfl, rfl, rfl, by simp, fun k _ hk => setRow_other _ _ _ _ (fun e => hk (by rw [e]))⟩
theorem One.cell (h : One g w w') {p : Addr} {v : Value} (hc : w.cell? p = some v) (hp : p.block ≠ g) : w'.cell? p = some v := World.grownBy.cell h hc (fun e => hp (by injection e))
theorem One.blk (h : One g w w') {t : TypeId} {cs : Array Value} (hb : Blk w g' t cs) (hp : g' ≠ g) : Blk w' g' t cs := hb.grown h (fun e => hp (by injection e))
theorem One.own (h : One g w w') {b s n : Nat} {t t' : TypeId} {v : Value} {xs : List Value} {cs : Array Value} (ho : w.ownsRow b t s v n xs) (hb : Blk w g t' cs) (hne : t ≠ t') : w'.ownsRow b t s v n xs := by
  have hne := own_blk_ne ho hb hne
  refine ⟨ho.1, ?_⟩
  rcases ho.2 with hn | ⟨k, cap, cur, rfl, hb2, hgg, r⟩
  · exact .inl hn
  · exact .inr ⟨k, cap, cur, rfl, hb2, (h.block k (Array.getElem?_eq_some_iff.1 hgg).1 (fun e => hne (by rw [← e]; rfl))).trans hgg, r⟩
theorem One.ds (h : One g w w') {gd B : Nat} {ds : List Dsc} {t' : TypeId} {cs : Array Value} (hd : DS w gd B ds) (hb : Blk w g t' cs) (hne : 83 ≠ t') (hg : g ≠ gd) : DS w' gd B ds := by
  obtain ⟨v, h1, h2⟩ := hd
  exact ⟨v, h.blk h1 (fun e => hg e.symm), h.own h2 hb hne⟩
theorem One.tel (k : One g w' w'') {B gd : Nat} (h : Tel B gd w w') (hg : w.heap.size ≤ g) (hB : B ≤ w.heap.size) : Tel B gd w w'' :=
  ⟨h.bl.grown k (Nat.le_trans hB h.size) (fun q e => by injection e with e; omega), fun i hi h1 h2 => (k.block i (Nat.lt_of_lt_of_le hi h.size) (fun e => by injection e with e; omega)).trans (h.blk i hi h1 h2)⟩
theorem One.ext (k : One g w' w'') (h : Ext w w') (hg : w.heap.size ≤ g) : Ext w w'' := h.grown k (Below.size h) (fun q e => by injection e with e; omega)
theorem Blk.row {t : TypeId} {cs : Array Value} (h : Blk w g t cs) (X : Array Value) : Blk (w.setRow g X) g t X := setRow_heap w g cs X t _ h
end
/-- A fate in its box, whose last two cells are set once. -/
structure TF (g : Nat) (c0 c1 c2 fr tt : Value) (w w' : World) : Prop where
  gr : One g w w'
  bx : ∀ a b, Blk w g 76 #[c0, c1, c2, a, b] → ∃ a' b', Blk w' g 76 #[c0, c1, c2, a', b'] ∧ (a = fr → a' = fr) ∧ (b = tt → b' = tt)
theorem tf_tr (g : Nat) (c0 c1 c2 fr tt : Value) : RB.Tr (TF g c0 c1 c2 fr tt) :=
  ⟨fun w => ⟨One.refl g w, fun a b h => ⟨a, b, h, fun e => e, fun e => e⟩⟩, fun h k => ⟨h.gr.trans k.gr, fun a b hb => by
    obtain ⟨a1, b1, h1, h2, h3⟩ := h.bx a b hb
    obtain ⟨a2, b2, k1, k2, k3⟩ := k.bx a1 b1 h1
    exact ⟨a2, b2, k1, fun e => k2 (h2 e), fun e => k3 (h3 e)⟩⟩⟩
section
variable {g : Nat} {c0 c1 c2 fr tt a b : Value} {w w' : World}
theorem TF.undrew (h : TF g c0 c1 c2 fr tt w.drew w') : TF g c0 c1 c2 fr tt w w' := ⟨⟨h.gr.os, h.gr.tape, h.gr.output, h.gr.size, h.gr.block⟩, h.bx⟩
theorem TF.set3 : TF g c0 c1 c2 fr tt w (w.setCell ⟨g, 3, none⟩ fr) :=
  ⟨(One.refl g w).set 3 fr, fun _ b' h' => ⟨fr, b', h'.set_ 3 fr, fun _ => rfl, fun e => e⟩⟩
theorem TF.set4 : TF g c0 c1 c2 fr tt w (w.setCell ⟨g, 4, none⟩ tt) :=
  ⟨(One.refl g w).set 4 tt, fun a' _ h' => ⟨a', tt, h'.set_ 4 tt, fun e => e, fun _ => rfl⟩⟩
end
theorem fate_size : (Try.prog.info? 76).map (·.size) = some 5 := by kernel_rfl
/-- One slot more in a fate's box. -/
theorem fate_app {w : World} {g base c3 : Nat} {x0 x1 x3 x4 : Value} {A3 : Option Addr} {l : List Nat} (y : Nat) (gx : Nat) (jx : Blk w gx 3 #[.int .i64 (y : Int)]) (hj : Blk w g 76 #[x0, x1, .slice A3 l.length c3, x3, x4]) (ho : OwnN w base (.slice A3 l.length c3) l) (hn : l.length ≤ 900) (hb : base ≤ g) :
    ∃ A7 c7 W7, (Builtin.append_ #[25, 25] 25 #[.slice A3 l.length c3, .slice (some ⟨gx, 0, none⟩) 1 1]).run Try.prog w = .ok (.slice A7 (l.length + 1) c7) W7 ∧ W7.cell? ⟨g, 2, none⟩ = some (.slice A3 l.length c3) ∧ W7.frozen? ⟨g, 2, none⟩ = false ∧
      Blk (W7.setCell ⟨g, 2, none⟩ (.slice A7 (l.length + 1) c7)) g 76 #[x0, x1, .slice A7 (l.length + 1) c7, x3, x4] ∧ OwnN (W7.setCell ⟨g, 2, none⟩ (.slice A7 (l.length + 1) c7)) base (.slice A7 (l.length + 1) c7) (l ++ [y]) ∧
      ∀ w0, Ext w0 w → w0.heap.size ≤ base → Ext w0 (W7.setCell ⟨g, 2, none⟩ (.slice A7 (l.length + 1) c7)) := by
  obtain ⟨v7, W7, hrun, hg7, ho7⟩ := snoc_nat 25 l (.slice A3 l.length c3) y base gx jx ho hn (Nat.le_trans hb (Nat.le_of_lt hj.lt))
  obtain ⟨A7, c7, hv7, _, _⟩ := own_slice ho7
  rw [List.length_append, List.length_singleton] at hv7
  subst hv7
  have hj7 := hj.grown hg7 (fun e => own_blk_ne ho hj (by decide) e.symm)
  refine ⟨A7, c7, W7, hrun, hj7.cell 2, hj7.frozen 2, hj7.set_ 2 _, One.own ((One.refl g W7).set 2 _) ho7 hj7 (by decide), fun w0 h0 h1 => ?_⟩
  exact (h0.grown hg7 (Below.size h0) (fun q e => Nat.le_trans h1 (World.ownsRow.lt ho q e).1)).setCell (p := ⟨g, 2, none⟩) (Nat.le_trans h1 hb) _
theorem OwnN.at_ {W : World} {b : Nat} {A : Option Addr} {n c : Nat} {l : List Nat} (h : OwnN W b (.slice A n c) l) (hl : l ≠ []) : ∃ gs, A = some ⟨gs, 0, none⟩ ∧ n = l.length ∧ b ≤ gs ∧ l.length ≤ c ∧ c ≤ maxLen ∧ (∃ cs, Blk W gs 3 cs) ∧ ∀ k (hk : k < l.length), W.cell? ⟨gs, k, none⟩ = some (.int .i64 (l[k] : Int)) := by
  rcases h.2 with ⟨_, h0⟩ | ⟨g, cap, cur, hv, hb, hgg, h1, h2, h3, h4⟩
  · exact absurd (List.eq_nil_of_length_eq_zero h0) hl
  · injection hv with e1 e2 e3
    subst e1 e2 e3
    refine ⟨g, rfl, rfl, hb, h1, h2, ⟨cur, hgg⟩, fun k hk => ?_⟩
    have hfl : ∀ l : List Nat, l.flatMap natCells = l.map (fun (x : Nat) => Value.int .i64 (x : Int)) := fun l => by
      induction l with
      | nil => rfl
      | cons x l ih => simp [List.flatMap_cons, natCells, ih]
    rw [hfl, Nat.mul_one] at h4
    have hk2 : k < cur.size := by omega
    have e : (cur.toList.take l.length)[k]? = (l.map (fun (x : Nat) => Value.int .i64 (x : Int)))[k]? := by rw [h4]
    rw [List.getElem?_take_of_lt hk, Array.getElem?_toList, List.getElem?_map, List.getElem?_eq_getElem hk] at e
    show W.cell? ⟨g, k, none⟩ = _
    rw [cell_of_row W g k cur _ (0, 0) hgg, e]
    rfl
theorem setL_mem {S k : Nat} (h : k ∈ setL S) : k < 6 ∧ S.testBit k = true := by simpa [setL] using h
theorem setL_nil : ∀ S : Fin 64, setL S.val = [] ↔ S.val = 0 := by decide +kernel
theorem Blk.inj {w : World} {g : Nat} {t : TypeId} {cs cs' : Array Value} (h : Blk w g t cs) (h' : Blk w g t cs') : cs = cs' := by
  unfold Blk at h h'
  rw [h] at h'
  injection h' with h'
  injection h' with h'
theorem fate_two {w : World} {g : Nat} {c0 c1 c2 fr tt y1 y2 : Value} (h1 : Blk w g 76 #[c0, c1, c2, fr, y1]) (h2 : Blk w g 76 #[c0, c1, c2, y2, tt]) : Blk w g 76 #[c0, c1, c2, fr, tt] := by
  have e := h1.inj h2
  injection e with e
  injection e with _ e
  injection e with _ e
  injection e with _ e
  injection e with _ e
  injection e with e _
  rw [← e]
  exact h1
/-- Sets of so many slots. -/
def LB (n left : Nat) : Prop := left < 64 ∧ left < 2 ^ n
theorem LB.zero (n : Nat) : LB n 0 := ⟨by omega, Nat.two_pow_pos n⟩
theorem LB.and_ {n a : Nat} (h : LB n a) (b : Nat) : LB n (a &&& b) := ⟨Nat.lt_of_le_of_lt Nat.and_le_left h.1, Nat.lt_of_le_of_lt Nat.and_le_left h.2⟩
theorem fitsA_bd (q : Slt → Bool) (m : Nat) : ∀ l acc i, acc < 2 ^ m → i + l.length ≤ m → fitsA q acc i l < 2 ^ m
  | [], acc, _, h, _ => by rw [fitsA]; exact h
  | s :: r, acc, i, h, hl => by
    rw [fitsA_cons]
    simp only [List.length_cons] at hl
    refine fitsA_bd q m r _ _ ?_ (by omega)
    split
    · exact Nat.or_lt_two_pow h (Nat.pow_lt_pow_right (by decide) (by omega))
    · exact h
theorem fitsP_lb {ps : List Pas} {f : Int → Option Int} {now id : Int} {l : List Slt} {r : Rcp} {n : Nat} (h : SlOK ps l) (hn : l.length = n) : LB n (fitsP ps f now id l r) := by
  refine ⟨fitsP_lt h, ?_⟩
  unfold fitsP
  split
  · exact fitsA_bd _ n l 0 0 (Nat.two_pow_pos n) (by omega)
  · exact Nat.two_pow_pos n
theorem LB.mem {n left x : Nat} (h : LB n left) (hx : x ∈ setL left) : x < n := by
  obtain ⟨_, h2⟩ := setL_mem hx
  by_cases hh : x < n
  · exact hh
  · have h3 : left < 2 ^ x := Nat.lt_of_lt_of_le h.2 (Nat.pow_le_pow_right (by decide) (by omega))
    rw [Nat.testBit_lt_two_pow h3] at h2
    cases h2
/-- The open slots among the first ones. -/
def openK (now : Int) (sl : List Slt) (k : Nat) : List Nat := (List.range k).filter (fun i => decide (now < ttAt sl i))
theorem openK_succ (now : Int) (sl : List Slt) (k : Nat) : openK now sl (k + 1) = openK now sl k ++ if now < ttAt sl k then [k] else [] := by
  unfold openK
  rw [List.range_succ, List.filter_append]
  congr 1
  by_cases h : now < ttAt sl k <;> simp [h]
theorem openK_len (now : Int) (sl : List Slt) (k : Nat) : (openK now sl k).length ≤ k := Nat.le_trans (List.length_filter_le _ _) (by simp)
theorem openK_mem {now : Int} {sl : List Slt} {k x : Nat} (h : x ∈ openK now sl k) : x < k := by simpa using (List.mem_filter.1 h).1
theorem ttAt_eq {sl : List Slt} {k : Nat} (h : k < sl.length) : ttAt sl k = sl[k].tt := by unfold ttAt; rw [List.getElem?_eq_getElem h]
theorem results_row {P : Program} {fn : Func} {p : Tmp} {t : TypeId} (h : fn.results = #[.cell p t]) (tmps : Array Value) (w : World) (g : Nat) (X : Array Value) (hp : tmps.getD p undef = .pointer (some ⟨g, 0, none⟩)) (J : Blk w g t X) (d : TypeDesc) (hu : P.underlying t = some d) (hd : d.isRow = true) (hi : (P.info? t).map (·.size) = some X.size) :
    (results fn tmps).run P w = .ok (.agg X) w := by
  have hl : (loadVar t ⟨g, 0, none⟩).run P w = .ok (.agg X) w := run_loadVar_row w g t t X (0, 0) d J hu (by cases d <;> first | rfl | exact hd) hi
  have hp' : tmps[p]?.getD undef = .pointer (some ⟨g, 0, none⟩) := by simpa using hp
  simp only [results, h]
  simp [hp', asAddr, hl]
end Go.Proofs.Ytmlabgmigakcbaa
