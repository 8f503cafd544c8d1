/- The grower: each branch is kept once. -/
import Derived.Test.YtikphbgfcpamgaaP15
import Derived.Test.YtikphbgfcpamgaaP16
import Derived.Test.YtikphbgfcpamgaaP02
import Derived.Test.YtikphbgfcpamgaaP17
namespace Go.Proofs.Ytikphbgfcpamgaa
open Go.RowKit

theorem from_len {P : DT → Prop} {N : Nat} {T : List Brn} (hn : T.Nodup) (h : FromP P T) (g : Nat → DT) (hP : ∀ X, P X → ∃ j, j < N ∧ g j = X) : T.length ≤ N := by
  have H : ∀ i : Nat, ∃ j : Nat, i < T.length → j < N ∧ Rep T (i : Int) (g j) := by
    intro i
    by_cases hi : i < T.length
    · obtain ⟨D, h1, h2⟩ := h i hi
      obtain ⟨j, h3, h4⟩ := hP D h2
      exact ⟨j, fun _ => ⟨h3, by rw [h4]; exact h1⟩⟩
    · exact ⟨0, fun h => absurd h hi⟩
  obtain ⟨f, hf⟩ := Classical.axiomOfChoice H
  have := nodup_len ((List.range T.length).map f) (List.range N) ?_ ?_
  · simpa using this
  · rw [List.nodup_iff_pairwise_ne, List.pairwise_map]
    refine List.Pairwise.imp_of_mem ?_ List.nodup_range
    intro a b ha hb hne e
    obtain ⟨_, r1⟩ := hf a (List.mem_range.1 ha)
    obtain ⟨_, r2⟩ := hf b (List.mem_range.1 hb)
    rw [e] at r1
    have := r1.inj hn r2
    omega
  · intro x hx
    obtain ⟨a, ha, rfl⟩ := List.mem_map.1 hx
    exact List.mem_range.2 (hf a (List.mem_range.1 ha)).1
abbrev GBlk (W : World) (g : Nat) (st : Int) (v : Value) (gk : Nat) : Prop := Blk W g 88 #[.int .i64 st, v, .map (some gk)]
def OwnB (W : World) (b : Nat) (v : Value) (T : List Brn) : Prop := W.ownsRow b 30 5 v T.length (T.flatMap brnCells)
theorem OwnB.ext {W W' : World} {b : Nat} {v : Value} {T : List Brn} (h : OwnB W b v T) (hx : Ext W W') : OwnB W' b v T := own_ext h hx
def brM (T : List Brn) : Brn → Option Value := fun b => if b ∈ T then some (.int .i64 (pos b T : Nat)) else none
structure Gr (W : World) (gg gk base : Nat) (st : Int) (v : Value) (T : List Brn) : Prop where
  blk : GBlk W gg st v gk
  row : OwnB W base v T
  map : MapK brnCells W gk (brM T)
  nd : T.Nodup
theorem Gr.ext {W W' : World} {gg gk base : Nat} {st : Int} {v : Value} {T : List Brn} (h : Gr W gg gk base st v T) (hx : Ext W W') : Gr W' gg gk base st v T := ⟨h.blk.ext hx, h.row.ext hx, h.map.ext hx, h.nd⟩
structure Grw (gg gk gm : Nat) (v v' : Value) (w w' : World) : Prop where
  os : w'.os = w.os
  tape : w'.tape = w.tape
  output : w'.output = w.output
  size : w.heap.size ≤ w'.heap.size
  block : ∀ i, i < w.heap.size → i ≠ gg → i ≠ gk → i ≠ gm → v.ownBlock ≠ some i → w'.heap[i]? = w.heap[i]?
  own : ∀ g, v'.ownBlock = some g → v.ownBlock = some g ∨ w.heap.size ≤ g
theorem Grw.refl (gg gk gm : Nat) (v : Value) (w : World) : Grw gg gk gm v v w w := ⟨rfl, rfl, rfl, Nat.le_refl _, fun _ _ _ _ _ _ => rfl, fun _ h => .inl h⟩
theorem Grw.trans {gg gk gm : Nat} {v v' v'' : Value} {a b c : World} (h : Grw gg gk gm v v' a b) (k : Grw gg gk gm v' v'' b c) : Grw gg gk gm v v'' a c :=
  ⟨k.os.trans h.os, k.tape.trans h.tape, k.output.trans h.output, Nat.le_trans h.size k.size, fun i hi h1 h2 h3 h4 => (k.block i (Nat.lt_of_lt_of_le hi h.size) h1 h2 h3 (fun e => by rcases h.own i e with e2 | e2; exact h4 e2; omega)).trans (h.block i hi h1 h2 h3 h4),
    fun g e => by
      rcases k.own g e with e2 | e2
      · exact h.own g e2
      · exact .inr (Nat.le_trans h.size e2)⟩
theorem Grw.of_ext {gg gk gm : Nat} {v : Value} {a b : World} (h : Ext a b) : Grw gg gk gm v v a b := ⟨h.os, h.tape, h.output, h.size, fun i hi _ _ _ _ => h.block i hi, fun _ e => .inl e⟩
theorem Grw.of_map {gg gk gm g : Nat} {v : Value} {a b : World} (h : a.grownBy b (some g)) (hg : g = gg ∨ g = gk ∨ g = gm) : Grw gg gk gm v v a b := ⟨h.os, h.tape, h.output, h.size, fun i hi h1 h2 h3 _ => h.block i hi (fun e => by injection e with e; rcases hg with e2 | e2 | e2 <;> omega), fun _ e => .inl e⟩
theorem Grw.blk {gg gk gm g : Nat} {v v' : Value} {w w' : World} {t : TypeId} {cs : Array Value} (h : Grw gg gk gm v v' w w') (j : Blk w g t cs) (h1 : g ≠ gg) (h2 : g ≠ gk) (h3 : g ≠ gm) (h4 : v.ownBlock ≠ some g) : Blk w' g t cs := (h.block g j.lt h1 h2 h3 h4).trans j
theorem info_brn : (Try.prog.info? 30).map (fun i => (i.zero, i.size, i.bytes)) = some (some (.agg #[.int .i64 0, .int .i64 0, .int .i64 0, .int .i64 0, .int .i64 0]), 5, 40) := by kernel_rfl
theorem brn_snoc {w : World} (ty : TypeId) (xs : List Brn) (v : Value) (x : Brn) (base gx : Nat) (jx : Blk w gx 30 (brnCells x).toArray) (hx : OwnB w base v xs) (hn : xs.length ≤ 1000000) (hb : base ≤ w.heap.size) :
    ∃ v' w', (Builtin.append_ #[31, 31] ty #[v, .slice (some ⟨gx, 0, none⟩) 1 1]).run Try.prog w = .ok v' w' ∧ w.grownBy w' v.ownBlock ∧ OwnB w' base v' (xs ++ [x]) ∧ ∀ g, v'.ownBlock = some g → v.ownBlock = some g ∨ w.heap.size ≤ g := by
  obtain ⟨i0, hi0, hz0, hz1, hz2⟩ := info_parts info_brn
  obtain ⟨v2, W7, hr, hrow2, hg2, -⟩ := run_append_own (P := Try.prog) w base 31 ty 30 i0 _ 5 40 Try.underlying31 hi0 hz0 hz1 hz2 rfl (by omega) _ _ _ hx ⟨gx, 0, none⟩ 1 1 (brnCells x) rfl (by intro i u hu; rw [Addr.add_lit, Nat.zero_add, jx.cell]; simpa using hu) (by simp [brnCells, Value.oneCell']) (by unfold maxLen; omega) (by omega) hb
  have hj : ∀ j u, (brnCells x)[j]? = some u → w.cell? ((⟨gx, 0, none⟩ : Addr).add j) = some u := by intro i u hu; rw [Addr.add_lit, Nat.zero_add, jx.cell]; simpa using hu
  refine ⟨v2, W7, hr, hg2, ?_, ?_⟩
  · unfold OwnB
    rw [List.length_append, List.flatMap_append]
    simpa using hrow2
  · intro g hgv
    rcases hx.2 with ⟨hv, hn0⟩ | ⟨g0, cap, cur, hv, hb0, hg0, h1, h2, h3, h4⟩
    · subst hv
      have hx0 : xs = [] := List.eq_nil_of_length_eq_zero hn0
      subst hx0
      obtain ⟨v', w', r1, r2, -, -⟩ := run_append_own (P := Try.prog) w w.heap.size 31 ty 30 i0 _ 5 40 Try.underlying31 hi0 hz0 hz1 hz2 rfl (by omega) _ 0 [] (World.ownsRow_nil _ _ _ _) ⟨gx, 0, none⟩ 1 1 (brnCells x) rfl hj (by simp [brnCells, Value.oneCell']) (by unfold maxLen; omega) (by omega) (Nat.le_refl _)
      rw [hr] at r1
      injection r1 with e1 e2
      subst e1
      exact .inr (World.ownsRow.lt r2 g hgv).1
    · subst hv
      by_cases hf : cap ≤ xs.length
      · obtain ⟨v', w', r1, r2, -⟩ := run_append_arg_grows (P := Try.prog) (w := w) 31 ty 30 i0 _ 5 40 Try.underlying31 hi0 hz0 hz1 hz2 rfl (by omega) ⟨g0, 0, none⟩ xs.length cap _ hx.1 (fun j u hu => by
          rw [Addr.add_lit, Nat.zero_add, cell_of_row w g0 j cur _ _ hg0]
          rw [← h4, List.getElem?_take] at hu
          split at hu
          · simpa using hu
          · cases hu) ⟨gx, 0, none⟩ 1 1 (brnCells x) rfl hj (by omega) (by unfold maxLen; omega) (by omega)
        rw [hr] at r1
        injection r1 with e1 e2
        subst e1
        exact .inr (World.ownsRow.lt r2 g hgv).1
      · have r1 := run_append_room (P := Try.prog) w 31 ty 30 i0 Try.underlying31 hi0 g0 xs.length cap cur hg0 ⟨gx, 0, none⟩ 1 1 (brnCells x) (by rw [hz1]; rfl) hj (by simp [brnCells, Value.oneCell']) (by omega) (by rw [hz1, h3]; show xs.length * 5 + 5 ≤ cap * 5; omega)
        rw [hr] at r1
        injection r1 with e1 e2
        subst e1
        exact .inl (by simpa [Value.ownBlock] using hgv)
theorem brM_get (T : List Brn) (b : Brn) : (brM T b).getD (.int .i64 0) = .int .i64 (if b ∈ T then (pos b T : Int) else 0) := by
  unfold brM
  by_cases h : b ∈ T <;> simp [h]
theorem brM_some (T : List Brn) (b : Brn) : (brM T b).isSome = decide (b ∈ T) := by
  unfold brM
  by_cases h : b ∈ T <;> simp [h]
theorem brM_put {T : List Brn} {b : Brn} (h : b ∉ T) : ∀ k, (if k = b then some (Value.int .i64 (T.length : Int)) else brM T k) = brM (T ++ [b]) k := fun k => by
  unfold brM
  by_cases hk : k = b
  · subst hk
    rw [if_pos rfl, if_pos (by simp)]
    have h1 := put_pos T k
    unfold put at h1
    rw [if_neg h] at h1
    have : pos k (T ++ [k]) = T.length := by
      have h2 : (T ++ [k])[T.length]? = some k := by simp
      clear h1 h2
      induction T with
      | nil => simp [pos]
      | cons x r ih =>
        simp only [List.cons_append, pos, List.length_cons]
        rw [if_neg (fun e => h (by simp [e])), ih (fun e => h (by simp [e]))]
    rw [this]
  · rw [if_neg hk]
    by_cases hm : k ∈ T
    · rw [if_pos hm, if_pos (by simp [hm])]
      have : pos k (T ++ [b]) = pos k T := by
        clear h
        induction T with
        | nil => cases hm
        | cons x r ih =>
          simp only [List.cons_append, pos]
          by_cases hx : x = k
          · rw [if_pos hx, if_pos hx]
          · rw [if_neg hx, if_neg hx, ih (by rcases List.mem_cons.1 hm with e | e; exact absurd e.symm hx; exact e)]
      rw [this]
    · rw [if_neg hm, if_neg (by simp [hm, hk])]
theorem Gr.ne_k {W : World} {gg gk base : Nat} {st : Int} {v : Value} {T : List Brn} (h : Gr W gg gk base st v T) : gg ≠ gk := by
  rintro rfl
  obtain ⟨L, c, h1, _⟩ := h.map
  have j2 : W.heap[gg]? = some (.cells #[.int .i64 st, v, .map (some gg)] 88 (0, 0)) := h.blk
  rw [j2] at h1
  injection h1 with h1
  cases h1
theorem Gr.ne_g {W : World} {gg gk base : Nat} {st : Int} {v : Value} {T : List Brn} (h : Gr W gg gk base st v T) : v.ownBlock ≠ some gg := own_blk_ne h.row h.blk (by decide)
theorem MapK.ne_own {κ : Type} [DecidableEq κ] {cells : κ → List Value} {w : World} {g base : Nat} {f : κ → Option Value} {v : Value} {n s : Nat} {t : TypeId} {xs : List Value} (h : MapK cells w g f) (ho : w.ownsRow base t s v n xs) : v.ownBlock ≠ some g := by
  rcases ho.2 with ⟨hv, _⟩ | ⟨b, cap, cur, hv, hb, hg, _⟩
  · subst hv; simp [Value.ownBlock]
  · subst hv
    intro e
    have e : b = g := by simpa [Value.ownBlock] using e
    subst e
    obtain ⟨L, c, h1, _⟩ := h
    rw [hg] at h1
    injection h1 with h1
    cases h1
theorem MapK.ne_blk {κ : Type} [DecidableEq κ] {cells : κ → List Value} {w : World} {g g' : Nat} {f : κ → Option Value} {t : TypeId} {cs : Array Value} (h : MapK cells w g f) (j : Blk w g' t cs) : g' ≠ g := by
  rintro rfl
  obtain ⟨L, c, h1, _⟩ := h
  have j2 : w.heap[g']? = some (.cells cs t (0, 0)) := j
  rw [j2] at h1
  injection h1 with h1
  cases h1
theorem brn_grow {w : World} {base : Nat} {A : Option Addr} {c : Nat} {T : List Brn} (ty : TypeId) (h : OwnB w base (.slice A T.length c) T) (hf : c ≤ T.length) (hn : T.length ≤ 1000000) (gx : Nat) (x : Brn) (jx : Blk w gx 30 (brnCells x).toArray) :
    ∃ v' w', (Builtin.append_ #[31, 31] ty #[.slice A T.length c, .slice (some ⟨gx, 0, none⟩) 1 1]).run Try.prog w = .ok v' w' ∧ Ext w w' ∧ OwnB w' w.heap.size v' (T ++ [x]) := by
  obtain ⟨i0, hi0, hz0, hz1, hz2⟩ := info_parts info_brn
  have hj : ∀ j u, (brnCells x)[j]? = some u → w.cell? ((⟨gx, 0, none⟩ : Addr).add j) = some u := by intro i u hu; rw [Addr.add_lit, Nat.zero_add, jx.cell]; simpa using hu
  have hfm : (T ++ [x]).flatMap brnCells = T.flatMap brnCells ++ brnCells x := by simp
  rcases h.2 with ⟨hv, hn0⟩ | ⟨g, cap, cur, hv, hb, hg, h1, h2, h3, h4⟩
  · injection hv with e1 e2 e3
    subst e1 e3
    have hx0 : T = [] := List.eq_nil_of_length_eq_zero (by omega)
    subst hx0
    obtain ⟨v', w', r1, r2, r3, -⟩ := run_append_own (P := Try.prog) w w.heap.size 31 ty 30 i0 _ 5 40 Try.underlying31 hi0 hz0 hz1 hz2 rfl (by omega) _ 0 [] (World.ownsRow_nil _ _ _ _) ⟨gx, 0, none⟩ 1 1 (brnCells x) rfl hj (by simp [brnCells, Value.oneCell']) (by unfold maxLen; omega) (by omega) (Nat.le_refl _)
    exact ⟨v', w', r1, ⟨r3.os, r3.tape, r3.output, r3.size, fun k hk => r3.block k hk (by simp [Value.ownBlock])⟩, by unfold OwnB; rw [hfm]; exact r2⟩
  · injection hv with e1 e2 e3
    subst e1 e3
    obtain ⟨v', w', r1, r2, r3⟩ := run_append_arg_grows (P := Try.prog) (w := w) 31 ty 30 i0 _ 5 40 Try.underlying31 hi0 hz0 hz1 hz2 rfl (by omega) ⟨g, 0, none⟩ T.length c _ h.1 (fun j u hu => by
      rw [Addr.add_lit, Nat.zero_add, cell_of_row w g j cur _ _ hg]
      rw [← h4, List.getElem?_take] at hu
      split at hu
      · simpa using hu
      · cases hu) ⟨gx, 0, none⟩ 1 1 (brnCells x) rfl hj (by omega) (by unfold maxLen; omega) (by omega)
    exact ⟨v', w', r1, ⟨r3.os, r3.tape, r3.output, r3.size, fun k hk => r3.block k hk (by simp)⟩, by unfold OwnB; rw [List.length_append, hfm]; exact r2⟩
theorem brn_fit {w : World} {g n c : Nat} {cur : Array Value} (ty : TypeId) (hg : w.heap[g]? = some (.cells cur 30 (0, 0))) (hs : cur.size = c * 5) (hf : n < c) (gx : Nat) (x : Brn) (jx : Blk w gx 30 (brnCells x).toArray) :
    ∃ w', (Builtin.append_ #[31, 31] ty #[.slice (some ⟨g, 0, none⟩) n c, .slice (some ⟨gx, 0, none⟩) 1 1]).run Try.prog w = .ok (.slice (some ⟨g, 0, none⟩) (n + 1) c) w' ∧ w.grownBy w' (some g) ∧ w'.heap[g]? = some (.cells (putC cur (n * 5) (brnCells x)) 30 (0, 0)) := by
  obtain ⟨i0, hi0, hz0, hz1, hz2⟩ := info_parts info_brn
  have hj : ∀ j u, (brnCells x)[j]? = some u → w.cell? ((⟨gx, 0, none⟩ : Addr).add j) = some u := by intro i u hu; rw [Addr.add_lit, Nat.zero_add, jx.cell]; simpa using hu
  have hr := run_append_room (P := Try.prog) w 31 ty 30 i0 Try.underlying31 hi0 g n c cur hg ⟨gx, 0, none⟩ 1 1 (brnCells x) (by rw [hz1]; rfl) hj (by simp [brnCells, Value.oneCell']) (by omega) (by rw [hz1, hs]; show n * 5 + 5 ≤ c * 5; omega)
  rw [hz1] at hr
  exact ⟨_, hr, ⟨rfl, rfl, rfl, by simp, fun k _ hk => setRow_other w g k _ (fun e => hk (by simp [e]))⟩, setRow_heap w g cur _ _ _ hg⟩
theorem own_off {W : World} {base n s : Nat} {e : TypeId} {v : Value} {xs : List Value} (h : W.ownsRow base e s v n xs) {p : Addr} (hp : ∀ q, v.ownBlock = some q → q ≠ p.block) (u : Value) : (W.setCell p u).ownsRow base e s v n xs := by
  refine ⟨h.1, ?_⟩
  rcases h.2 with hn | ⟨g, cap, cur, rfl, hb, hgg, r⟩
  · exact .inl hn
  · exact .inr ⟨g, cap, cur, rfl, hb, (Below.heap_setCell W p u g (hp g rfl)).trans hgg, r⟩
def BrRet (gg gk gm base : Nat) (st : Int) (v : Value) (T : List Brn) (k : Int) (w : World) (e : Ending) (w' : World) : Prop := ∃ v', e = .returned (.int .i64 k) ∧ Gr w' gg gk base st v' T ∧ Grw gg gk gm v v' w w'
set_option maxRecDepth 100000 in
set_option maxHeartbeats 1000000 in
theorem branch_any (gg gk gm base : Nat) (st : Int) (v : Value) (T : List Brn) (b : Brn) (w : World) (h : Gr w gg gk base st v T) (hn : T.length ≤ 900000) (hb : base ≤ w.heap.size) :
    Calls Try.prog 39 #[.pointer (some ⟨gg, 0, none⟩), .agg (brnCells b).toArray] w (BrRet gg gk gm base st v (put T b) (pos b T : Nat) w) := by
  obtain ⟨A3, c3, hv3, hc3, _⟩ := own_slice h.row
  subst hv3
  have HG := Lib.hid h
  have hlk0 := fun (W : World) (hx : Ext w W) => (h.map.ext hx).look key_brn Try.underlying86 (zero_int W) b _ rfl true
  rw [brM_get, brM_some] at hlk0
  have hb0 := b
  by_cases hm : b ∈ T
  · have hp : put T b = T := by unfold put; rw [if_pos hm]
    rw [hp]
    simp only [if_pos hm, decide_eq_true hm, if_true] at hlk0
    generalize pos b T = kb at hlk0 ⊢
    obtain ⟨b0, b1, b2, b3, b4⟩ := b
    have HK : Hid (∀ W, Ext w W → (Instr.lookup 86 (.map (some gk)) (.agg #[.int .i64 b0, .int .i64 b1, .int .i64 b2, .int .i64 b3, .int .i64 b4]) true).run Try.prog W = .ok (.tuple #[.int .i64 (kb : Int), .bool true]) W) := Lib.hid hlk0
    show Calls Try.prog 39 #[.pointer (some ⟨gg, 0, none⟩), .agg #[.int .i64 b0, .int .i64 b1, .int .i64 b2, .int .i64 b3, .int .i64 b4]] w _
    clear h hlk0 hm hp
    go_enter Try.func39, Try.ntmps39
    go_upto_region 1 with (fail)
    have J3 := Blk.new w 30 #[.int .i64 b0, .int .i64 b1, .int .i64 b2, .int .i64 b3, .int .i64 b4]
    have hx1 : Ext w (w.alloc (.cells #[.int .i64 b0, .int .i64 b1, .int .i64 b2, .int .i64 b3, .int .i64 b4] 30)) := (by repeat (first | exact Below.refl _ _ | assumption | refine Below.drew ?_ | refine below_drewN ?_ _ | refine bl_alloc ?_ _ | refine Below.setCell ?_ (by first | (simp; done) | omega | (simp; omega)) _ | refine bl_then ?_ (by assumption)))
    generalize w.alloc (.cells #[.int .i64 b0, .int .i64 b1, .int .i64 b2, .int .i64 b3, .int .i64 b4] 30) = W1 at J3 hx1 ⊢
    generalize w.heap.size = g3 at J3 ⊢
    have e2 : W1.cell? ⟨gg, 2, none⟩ = some (.map (some gk)) := (HG.out.ext hx1).blk.cell 2
    have c0 : W1.cell? ⟨g3, 0, none⟩ = some (.int .i64 b0) := J3.cell 0
    have c1 : W1.cell? ⟨g3, 1, none⟩ = some (.int .i64 b1) := J3.cell 1
    have c2 : W1.cell? ⟨g3, 2, none⟩ = some (.int .i64 b2) := J3.cell 2
    have c3_ : W1.cell? ⟨g3, 3, none⟩ = some (.int .i64 b3) := J3.cell 3
    have c4 : W1.cell? ⟨g3, 4, none⟩ = some (.int .i64 b4) := J3.cell 4
    refine L7.wp_region_late 9 8 (fun ix vals v w1 => match ix with | 0 => v = .pointer (some ⟨gg, 0, none⟩) | 1 => v = .pointer (some ⟨gg, 0, none⟩) | 2 => v = .pointer (some ⟨gg, 2, none⟩) | 3 => v = .map (some gk) | 4 => v = .agg #[.int .i64 b0, .int .i64 b1, .int .i64 b2, .int .i64 b3, .int .i64 b4] | 5 => v = .tuple #[.int .i64 (kb : Int), .bool true] | 6 => v = .tuple #[.int .i64 (kb : Int), .bool true] | 7 => v = .int .i64 (kb : Int) | _ => v = .bool true) (fun _ _ => none) (by kernel_rfl) (by kernel_rfl) (by kernel_rfl) (by kernel_rfl) _ rfl ?_ ?_ ?_ ?_ ?_
    · intro ix vals v w1 hi hr k hk
      match ix, hr, hk with
      | 0, _, hk => cases hk
      | 1, _, hk => cases hk
      | 2, _, hk => cases hk
      | 3, _, hk => cases hk
      | 4, _, hk => cases hk
      | 5, _, hk => cases hk
      | 6, _, hk => cases hk
      | 7, _, hk => cases hk
      | (kx + 8), _, hk => cases hk
    · intro ix vals v w1 w2 hi hr hx
      match ix, hr with
      | 0, hr => exact hr
      | 1, hr => exact hr
      | 2, hr => exact hr
      | 3, hr => exact hr
      | 4, hr => exact hr
      | 5, hr => exact hr
      | 6, hr => exact hr
      | 7, hr => exact hr
      | (kx + 8), hr => exact hr
    · intro ix vals vals_ v w1 hi hv hr
      exact hr
    · refine ⟨?_, ?_, ?_, ?_, ?_, ?_, ?_, ?_, ?_, trivial⟩
      · intro vals w1 hx hd ha
        refine L7.plain1 (fun _ => rfl) ?_
        clear hd ha
        simp only [Lf]
        go_wp2
        exact ⟨rfl, Ext.refl _, rfl⟩
      · intro vals w1 hx hd ha
        have e0 : vals 0 = .pointer (some ⟨gg, 0, none⟩) := hd 0 (by decide)
        refine L7.plain1 (fun _ => rfl) ?_
        clear hd ha
        simp only [Lf, dstAt, Act.put, List.getElem?_toArray, List.getElem?_cons_zero, Option.bind_some, List.setIfInBounds_toArray, List.set_cons_zero, List.set_cons_succ]
        simp only [e0]
        clear e0
        go_wp2
        exact ⟨rfl, Ext.refl _, rfl⟩
      · intro vals w1 hx hd ha
        have e1 : vals 1 = .pointer (some ⟨gg, 0, none⟩) := hd 1 (by decide)
        refine L7.plain1 (fun _ => rfl) ?_
        clear hd ha
        simp only [Lf, dstAt, Act.put, List.getElem?_toArray, List.getElem?_cons_zero, List.getElem?_cons_succ, Option.bind_some, List.setIfInBounds_toArray, List.set_cons_zero, List.set_cons_succ]
        simp only [e1]
        clear e1
        go_wp2
        exact ⟨rfl, Ext.refl _, rfl⟩
      · intro vals w1 hx hd ha
        have e2 : vals 2 = .pointer (some ⟨gg, 2, none⟩) := hd 2 (by decide)
        refine L7.plain1 (fun _ => rfl) ?_
        clear hd ha
        simp only [Lf, dstAt, Act.put, List.getElem?_toArray, List.getElem?_cons_zero, List.getElem?_cons_succ, Option.bind_some, List.setIfInBounds_toArray, List.set_cons_zero, List.set_cons_succ]
        simp only [e2]
        clear e2
        have e2 := ext_cell hx e2
        go_wp2
        exact ⟨rfl, Ext.refl _, rfl⟩
      · intro vals w1 hx hd ha
        refine L7.plain1 (fun _ => rfl) ?_
        clear hd ha
        simp only [Lf, dstAt, Act.put, List.getElem?_toArray, List.getElem?_cons_zero, List.getElem?_cons_succ, Option.bind_some, List.setIfInBounds_toArray, List.set_cons_zero, List.set_cons_succ]
        have c0 := ext_cell hx c0; have c1 := ext_cell hx c1; have c2 := ext_cell hx c2; have c3_ := ext_cell hx c3_; have c4 := ext_cell hx c4
        go_wp2
        exact ⟨rfl, Ext.refl _, rfl⟩
      · intro vals w1 hx hd ha
        have e3 : vals 3 = .map (some gk) := hd 3 (by decide)
        have e4 : vals 4 = .agg #[.int .i64 b0, .int .i64 b1, .int .i64 b2, .int .i64 b3, .int .i64 b4] := hd 4 (by decide)
        refine L7.plain1 (fun _ => rfl) ?_
        clear hd ha
        simp only [Lf, dstAt, Act.put, List.getElem?_toArray, List.getElem?_cons_zero, List.getElem?_cons_succ, Option.bind_some, List.setIfInBounds_toArray, List.set_cons_zero, List.set_cons_succ]
        simp only [e3, e4]
        clear e3 e4
        have hlk := HK.out _ (Ext.trans hx1 hx.undrew)
        go_wp2
        exact ⟨rfl, Ext.refl _, rfl⟩
      · intro vals w1 hx hd ha
        have e5 : vals 5 = .tuple #[.int .i64 (kb : Int), .bool true] := hd 5 (by decide)
        refine L7.plain1 (fun _ => rfl) ?_
        clear hd ha
        simp only [Lf, dstAt, Act.put, List.getElem?_toArray, List.getElem?_cons_zero, List.getElem?_cons_succ, Option.bind_some, List.setIfInBounds_toArray, List.set_cons_zero, List.set_cons_succ]
        simp only [e5]
        clear e5
        go_wp2
        exact ⟨rfl, Ext.refl _, rfl⟩
      · intro vals w1 hx hd ha
        have e6 : vals 6 = .tuple #[.int .i64 (kb : Int), .bool true] := hd 6 (by decide)
        refine L7.plain1 (fun _ => rfl) ?_
        clear hd ha
        simp only [Lf, dstAt, Act.put, List.getElem?_toArray, List.getElem?_cons_zero, List.getElem?_cons_succ, Option.bind_some, List.setIfInBounds_toArray, List.set_cons_zero, List.set_cons_succ]
        simp only [e6]
        clear e6
        go_wp2
        exact ⟨rfl, Ext.refl _, rfl⟩
      · intro vals w1 hx hd ha
        have e6 : vals 6 = .tuple #[.int .i64 (kb : Int), .bool true] := hd 6 (by decide)
        refine L7.plain1 (fun _ => rfl) ?_
        clear hd ha
        simp only [Lf, dstAt, Act.put, List.getElem?_toArray, List.getElem?_cons_zero, List.getElem?_cons_succ, Option.bind_some, List.setIfInBounds_toArray, List.set_cons_zero, List.set_cons_succ]
        simp only [e6]
        clear e6
        go_wp2
        exact ⟨rfl, Ext.refl _, rfl⟩
    intro vals W5 hx5 hf _
    have e7 : vals 7 = .int .i64 (kb : Int) := hf 7 (by omega)
    have e8 : vals 8 = .bool true := hf 8 (by omega)
    clear hf
    have hx5 := hx5.undrew
    have hx := Ext.trans hx1 hx5
    simp only [Lf, dstAt, Act.put, List.getElem?_toArray, List.getElem?_cons_zero, List.getElem?_cons_succ, Option.bind_some, List.setIfInBounds_toArray, List.set_cons_zero, List.set_cons_succ]
    rw [e7, e8]
    clear e7 e8
    go_wp2
    refine L7.Qn_of ?_
    refine tail1 10 _ (by kernel_rfl) (by kernel_rfl) rfl ?_
    go_wp2
    go_ret
    exact ⟨_, rfl, HG.out.ext hx, Grw.of_ext hx⟩
  · have hp : put T b = T ++ [b] := by unfold put; rw [if_neg hm]
    have hpo : pos b T = T.length := pos_none hm
    have hbp := brM_put hm
    have hnd := put_nodup h.nd b
    rw [hp] at hnd ⊢
    rw [hpo]
    simp only [if_neg hm, decide_eq_false hm, if_true] at hlk0
    obtain ⟨b0, b1, b2, b3, b4⟩ := b
    have HK : Hid (∀ W, Ext w W → (Instr.lookup 86 (.map (some gk)) (.agg #[.int .i64 b0, .int .i64 b1, .int .i64 b2, .int .i64 b3, .int .i64 b4]) true).run Try.prog W = .ok (.tuple #[.int .i64 0, .bool false]) W) := Lib.hid hlk0
    have HBP := Lib.hid hbp
    have HND := Lib.hid hnd
    show Calls Try.prog 39 #[.pointer (some ⟨gg, 0, none⟩), .agg #[.int .i64 b0, .int .i64 b1, .int .i64 b2, .int .i64 b3, .int .i64 b4]] w _
    clear h hlk0 hm hp hpo hbp hnd
    go_enter Try.func39, Try.ntmps39
    go_upto_region 1 with (fail)
    have J3 := Blk.new w 30 #[.int .i64 b0, .int .i64 b1, .int .i64 b2, .int .i64 b3, .int .i64 b4]
    have hx1 : Ext w (w.alloc (.cells #[.int .i64 b0, .int .i64 b1, .int .i64 b2, .int .i64 b3, .int .i64 b4] 30)) := (by repeat (first | exact Below.refl _ _ | assumption | refine Below.drew ?_ | refine below_drewN ?_ _ | refine bl_alloc ?_ _ | refine Below.setCell ?_ (by first | (simp; done) | omega | (simp; omega)) _ | refine bl_then ?_ (by assumption)))
    have hgg3 : gg < w.heap.size := HG.out.blk.lt
    generalize w.alloc (.cells #[.int .i64 b0, .int .i64 b1, .int .i64 b2, .int .i64 b3, .int .i64 b4] 30) = W1 at J3 hx1 ⊢
    obtain ⟨g3, hg3⟩ : ∃ g, g = w.heap.size := ⟨_, rfl⟩
    rw [← hg3] at J3 ⊢
    have HG3 := Lib.hid hg3
    clear hg3
    have e2 : W1.cell? ⟨gg, 2, none⟩ = some (.map (some gk)) := (HG.out.ext hx1).blk.cell 2
    have c0 : W1.cell? ⟨g3, 0, none⟩ = some (.int .i64 b0) := J3.cell 0
    have c1 : W1.cell? ⟨g3, 1, none⟩ = some (.int .i64 b1) := J3.cell 1
    have c2 : W1.cell? ⟨g3, 2, none⟩ = some (.int .i64 b2) := J3.cell 2
    have c3_ : W1.cell? ⟨g3, 3, none⟩ = some (.int .i64 b3) := J3.cell 3
    have c4 : W1.cell? ⟨g3, 4, none⟩ = some (.int .i64 b4) := J3.cell 4
    refine L7.wp_region_late 9 8 (fun ix vals v w1 => match ix with | 0 => v = .pointer (some ⟨gg, 0, none⟩) | 1 => v = .pointer (some ⟨gg, 0, none⟩) | 2 => v = .pointer (some ⟨gg, 2, none⟩) | 3 => v = .map (some gk) | 4 => v = .agg #[.int .i64 b0, .int .i64 b1, .int .i64 b2, .int .i64 b3, .int .i64 b4] | 5 => v = .tuple #[.int .i64 0, .bool false] | 6 => v = .tuple #[.int .i64 0, .bool false] | 7 => v = .int .i64 0 | _ => v = .bool false) (fun _ _ => none) (by kernel_rfl) (by kernel_rfl) (by kernel_rfl) (by kernel_rfl) _ rfl ?_ ?_ ?_ ?_ ?_
    · intro ix vals v w1 hi hr k hk
      match ix, hr, hk with
      | 0, _, hk => cases hk
      | 1, _, hk => cases hk
      | 2, _, hk => cases hk
      | 3, _, hk => cases hk
      | 4, _, hk => cases hk
      | 5, _, hk => cases hk
      | 6, _, hk => cases hk
      | 7, _, hk => cases hk
      | (kx + 8), _, hk => cases hk
    · intro ix vals v w1 w2 hi hr hx
      match ix, hr with
      | 0, hr => exact hr
      | 1, hr => exact hr
      | 2, hr => exact hr
      | 3, hr => exact hr
      | 4, hr => exact hr
      | 5, hr => exact hr
      | 6, hr => exact hr
      | 7, hr => exact hr
      | (kx + 8), hr => exact hr
    · intro ix vals vals_ v w1 hi hv hr
      exact hr
    · refine ⟨?_, ?_, ?_, ?_, ?_, ?_, ?_, ?_, ?_, trivial⟩
      · intro vals w1 hx hd ha
        refine L7.plain1 (fun _ => rfl) ?_
        clear hd ha
        simp only [Lf]
        go_wp2
        exact ⟨rfl, Ext.refl _, rfl⟩
      · intro vals w1 hx hd ha
        have e0 : vals 0 = .pointer (some ⟨gg, 0, none⟩) := hd 0 (by decide)
        refine L7.plain1 (fun _ => rfl) ?_
        clear hd ha
        simp only [Lf, dstAt, Act.put, List.getElem?_toArray, List.getElem?_cons_zero, Option.bind_some, List.setIfInBounds_toArray, List.set_cons_zero, List.set_cons_succ]
        simp only [e0]
        clear e0
        go_wp2
        exact ⟨rfl, Ext.refl _, rfl⟩
      · intro vals w1 hx hd ha
        have e1 : vals 1 = .pointer (some ⟨gg, 0, none⟩) := hd 1 (by decide)
        refine L7.plain1 (fun _ => rfl) ?_
        clear hd ha
        simp only [Lf, dstAt, Act.put, List.getElem?_toArray, List.getElem?_cons_zero, List.getElem?_cons_succ, Option.bind_some, List.setIfInBounds_toArray, List.set_cons_zero, List.set_cons_succ]
        simp only [e1]
        clear e1
        go_wp2
        exact ⟨rfl, Ext.refl _, rfl⟩
      · intro vals w1 hx hd ha
        have e2 : vals 2 = .pointer (some ⟨gg, 2, none⟩) := hd 2 (by decide)
        refine L7.plain1 (fun _ => rfl) ?_
        clear hd ha
        simp only [Lf, dstAt, Act.put, List.getElem?_toArray, List.getElem?_cons_zero, List.getElem?_cons_succ, Option.bind_some, List.setIfInBounds_toArray, List.set_cons_zero, List.set_cons_succ]
        simp only [e2]
        clear e2
        have e2 := ext_cell hx e2
        go_wp2
        exact ⟨rfl, Ext.refl _, rfl⟩
      · intro vals w1 hx hd ha
        refine L7.plain1 (fun _ => rfl) ?_
        clear hd ha
        simp only [Lf, dstAt, Act.put, List.getElem?_toArray, List.getElem?_cons_zero, List.getElem?_cons_succ, Option.bind_some, List.setIfInBounds_toArray, List.set_cons_zero, List.set_cons_succ]
        have c0 := ext_cell hx c0; have c1 := ext_cell hx c1; have c2 := ext_cell hx c2; have c3_ := ext_cell hx c3_; have c4 := ext_cell hx c4
        go_wp2
        exact ⟨rfl, Ext.refl _, rfl⟩
      · intro vals w1 hx hd ha
        have e3 : vals 3 = .map (some gk) := hd 3 (by decide)
        have e4 : vals 4 = .agg #[.int .i64 b0, .int .i64 b1, .int .i64 b2, .int .i64 b3, .int .i64 b4] := hd 4 (by decide)
        refine L7.plain1 (fun _ => rfl) ?_
        clear hd ha
        simp only [Lf, dstAt, Act.put, List.getElem?_toArray, List.getElem?_cons_zero, List.getElem?_cons_succ, Option.bind_some, List.setIfInBounds_toArray, List.set_cons_zero, List.set_cons_succ]
        simp only [e3, e4]
        clear e3 e4
        have hlk := HK.out _ (Ext.trans hx1 hx.undrew)
        go_wp2
        exact ⟨rfl, Ext.refl _, rfl⟩
      · intro vals w1 hx hd ha
        have e5 : vals 5 = .tuple #[.int .i64 0, .bool false] := hd 5 (by decide)
        refine L7.plain1 (fun _ => rfl) ?_
        clear hd ha
        simp only [Lf, dstAt, Act.put, List.getElem?_toArray, List.getElem?_cons_zero, List.getElem?_cons_succ, Option.bind_some, List.setIfInBounds_toArray, List.set_cons_zero, List.set_cons_succ]
        simp only [e5]
        clear e5
        go_wp2
        exact ⟨rfl, Ext.refl _, rfl⟩
      · intro vals w1 hx hd ha
        have e6 : vals 6 = .tuple #[.int .i64 0, .bool false] := hd 6 (by decide)
        refine L7.plain1 (fun _ => rfl) ?_
        clear hd ha
        simp only [Lf, dstAt, Act.put, List.getElem?_toArray, List.getElem?_cons_zero, List.getElem?_cons_succ, Option.bind_some, List.setIfInBounds_toArray, List.set_cons_zero, List.set_cons_succ]
        simp only [e6]
        clear e6
        go_wp2
        exact ⟨rfl, Ext.refl _, rfl⟩
      · intro vals w1 hx hd ha
        have e6 : vals 6 = .tuple #[.int .i64 0, .bool false] := hd 6 (by decide)
        refine L7.plain1 (fun _ => rfl) ?_
        clear hd ha
        simp only [Lf, dstAt, Act.put, List.getElem?_toArray, List.getElem?_cons_zero, List.getElem?_cons_succ, Option.bind_some, List.setIfInBounds_toArray, List.set_cons_zero, List.set_cons_succ]
        simp only [e6]
        clear e6
        go_wp2
        exact ⟨rfl, Ext.refl _, rfl⟩
    intro vals W5 hx5 hf _
    have e7 : vals 7 = .int .i64 0 := hf 7 (by omega)
    have e8 : vals 8 = .bool false := hf 8 (by omega)
    clear hf
    have hx5 := hx5.undrew
    have hx := Ext.trans hx1 hx5
    simp only [Lf, dstAt, Act.put, List.getElem?_toArray, List.getElem?_cons_zero, List.getElem?_cons_succ, Option.bind_some, List.setIfInBounds_toArray, List.set_cons_zero, List.set_cons_succ]
    rw [e7, e8]
    clear e7 e8
    go_wp2
    refine L7.Qn_of ?_
    refine tail1 10 _ (by kernel_rfl) (by kernel_rfl) rfl ?_
    have HG5 := Lib.hid (HG.out.ext hx)
    have J5 := J3.ext hx5
    clear HK e2 c0 c1 c2 c3_ c4 hx1 J3
    have e1 : W5.cell? ⟨gg, 1, none⟩ = some (.slice A3 T.length c3) := HG5.out.blk.cell 1
    go_upto_region 4 with (fail)
    have c0 : W5.cell? ⟨g3, 0, none⟩ = some (.int .i64 b0) := J5.cell 0
    have c1 : W5.cell? ⟨g3, 1, none⟩ = some (.int .i64 b1) := J5.cell 1
    have c2 : W5.cell? ⟨g3, 2, none⟩ = some (.int .i64 b2) := J5.cell 2
    have c3_ : W5.cell? ⟨g3, 3, none⟩ = some (.int .i64 b3) := J5.cell 3
    have c4 : W5.cell? ⟨g3, 4, none⟩ = some (.int .i64 b4) := J5.cell 4
    have hsz5 : w.heap.size ≤ W5.heap.size := Below.size hx
    by_cases hful : c3 ≤ T.length
    · skip
      refine wp_region_obl 12 (fun ix vals v w1 => match ix with | 0 => v = .pointer (some ⟨gg, 0, none⟩) | 1 => v = .pointer (some ⟨gg, 0, none⟩) | 2 => v = .pointer (some ⟨gg, 0, none⟩) | 3 => v = .pointer (some ⟨gg, 0, none⟩) | 4 => v = .pointer (some ⟨gg, 1, none⟩) | 5 => v = .slice A3 T.length c3 | 6 => v = .agg #[.int .i64 b0, .int .i64 b1, .int .i64 b2, .int .i64 b3, .int .i64 b4] | 7 => ∃ gx, v = .slice (some ⟨gx, 0, none⟩) 1 1 ∧ Blk w1 gx 30 #[.int .i64 b0, .int .i64 b1, .int .i64 b2, .int .i64 b3, .int .i64 b4] | 8 => OwnB w1 W5.heap.size v (T ++ [⟨b0, b1, b2, b3, b4⟩]) | 9 => v = .pointer (some ⟨gg, 0, none⟩) | 10 => v = .pointer (some ⟨gg, 0, none⟩) | _ => v = .pointer (some ⟨gg, 1, none⟩)) (by kernel_rfl) (by kernel_rfl) ?_ ?_ ?_ ?_
      · intro ix vals v w1 w2 hi hr hx
        match ix, hr with
        | 0, hr => exact hr
        | 1, hr => exact hr
        | 2, hr => exact hr
        | 3, hr => exact hr
        | 4, hr => exact hr
        | 5, hr => exact hr
        | 6, hr => exact hr
        | 7, hr => obtain ⟨gx, h1, h2⟩ := hr; exact ⟨gx, h1, h2.ext hx⟩
        | 8, hr => exact hr.ext hx
        | 9, hr => exact hr
        | 10, hr => exact hr
        | (kx + 11), hr => exact hr
      · intro ix vals vals_ v w1 hi hv hr
        exact hr
      · refine ⟨?_, ?_, ?_, ?_, ?_, ?_, ?_, ?_, ?_, ?_, ?_, ?_, trivial⟩
        · intro vals w1 hx hd ha
          clear hd ha
          simp only [Lf]
          go_wp2
          exact ⟨rfl, Ext.refl _, rfl⟩
        · intro vals w1 hx hd ha
          clear hd ha
          simp only [Lf, dstAt, Act.put, List.getElem?_toArray, List.getElem?_cons_zero, Option.bind_some, List.setIfInBounds_toArray, List.set_cons_zero, List.set_cons_succ]
          go_wp2
          exact ⟨rfl, Ext.refl _, rfl⟩
        · intro vals w1 hx hd ha
          have e1 : vals 1 = .pointer (some ⟨gg, 0, none⟩) := hd 1 (by decide)
          clear hd ha
          simp only [Lf, dstAt, Act.put, List.getElem?_toArray, List.getElem?_cons_zero, List.getElem?_cons_succ, Option.bind_some, List.setIfInBounds_toArray, List.set_cons_zero, List.set_cons_succ]
          simp only [e1]
          clear e1
          go_wp2
          exact ⟨rfl, Ext.refl _, rfl⟩
        · intro vals w1 hx hd ha
          have e2 : vals 2 = .pointer (some ⟨gg, 0, none⟩) := hd 2 (by decide)
          clear hd ha
          simp only [Lf, dstAt, Act.put, List.getElem?_toArray, List.getElem?_cons_zero, List.getElem?_cons_succ, Option.bind_some, List.setIfInBounds_toArray, List.set_cons_zero, List.set_cons_succ]
          simp only [e2]
          clear e2
          go_wp2
          exact ⟨rfl, Ext.refl _, rfl⟩
        · intro vals w1 hx hd ha
          have e3 : vals 3 = .pointer (some ⟨gg, 0, none⟩) := hd 3 (by decide)
          clear hd ha
          simp only [Lf, dstAt, Act.put, List.getElem?_toArray, List.getElem?_cons_zero, List.getElem?_cons_succ, Option.bind_some, List.setIfInBounds_toArray, List.set_cons_zero, List.set_cons_succ]
          simp only [e3]
          clear e3
          go_wp2
          exact ⟨rfl, Ext.refl _, rfl⟩
        · intro vals w1 hx hd ha
          have e4 : vals 4 = .pointer (some ⟨gg, 1, none⟩) := hd 4 (by decide)
          clear hd ha
          simp only [Lf, dstAt, Act.put, List.getElem?_toArray, List.getElem?_cons_zero, List.getElem?_cons_succ, Option.bind_some, List.setIfInBounds_toArray, List.set_cons_zero, List.set_cons_succ]
          simp only [e4]
          clear e4
          have e1 := ext_cell hx e1
          go_wp2
          exact ⟨rfl, Ext.refl _, rfl⟩
        · intro vals w1 hx hd ha
          clear hd ha
          simp only [Lf, dstAt, Act.put, List.getElem?_toArray, List.getElem?_cons_zero, List.getElem?_cons_succ, Option.bind_some, List.setIfInBounds_toArray, List.set_cons_zero, List.set_cons_succ]
          have c0 := ext_cell hx c0; have c1 := ext_cell hx c1; have c2 := ext_cell hx c2; have c3_ := ext_cell hx c3_; have c4 := ext_cell hx c4
          go_wp2
          exact ⟨rfl, Ext.refl _, rfl⟩
        · intro vals w1 hx hd ha
          have e6 : vals 6 = .agg #[.int .i64 b0, .int .i64 b1, .int .i64 b2, .int .i64 b3, .int .i64 b4] := hd 6 (by decide)
          clear hd ha
          simp only [Lf, dstAt, Act.put, List.getElem?_toArray, List.getElem?_cons_zero, List.getElem?_cons_succ, Option.bind_some, List.setIfInBounds_toArray, List.set_cons_zero, List.set_cons_succ]
          simp only [e6]
          clear e6
          go_wp2
          exact ⟨rfl, (by repeat (first | exact Below.refl _ _ | assumption | refine Below.drew ?_ | refine below_drewN ?_ _ | refine bl_alloc ?_ _ | refine Below.setCell ?_ (by first | (simp; done) | omega | (simp; omega)) _ | refine bl_then ?_ (by assumption))), _, rfl, Blk.new _ _ _⟩
        · intro vals w1 hx hd ha
          have e5 : vals 5 = .slice A3 T.length c3 := hd 5 (by decide)
          have r7 : (fun v w1 => ∃ gx, v = .slice (some ⟨gx, 0, none⟩) 1 1 ∧ Blk w1 gx 30 #[.int .i64 b0, .int .i64 b1, .int .i64 b2, .int .i64 b3, .int .i64 b4]) (vals 7) w1 := hd 7 (by decide)
          dsimp only at r7
          clear hd ha
          simp only [Lf, dstAt, Act.put, List.getElem?_toArray, List.getElem?_cons_zero, List.getElem?_cons_succ, Option.bind_some, List.setIfInBounds_toArray, List.set_cons_zero, List.set_cons_succ]
          simp only [e5]
          clear e5
          obtain ⟨gx, e_7, jx⟩ := r7
          rw [e_7]
          have hzz := Below.size hx.undrew
          obtain ⟨v9, w9, hrun, hx9, hown9⟩ := brn_grow 31 (own_ext HG5.out.row hx.undrew) hful (by omega) gx ⟨b0, b1, b2, b3, b4⟩ jx
          refine wpList_append_run_ rfl _ _ _ rfl rfl rfl hrun ?_
          clear hrun
          go_wp2
          exact ⟨rfl, hx9, own_base hown9 hzz⟩
        · intro vals w1 hx hd ha
          have e0 : vals 0 = .pointer (some ⟨gg, 0, none⟩) := hd 0 (by decide)
          have e1 : vals 1 = .pointer (some ⟨gg, 0, none⟩) := hd 1 (by decide)
          have e2 : vals 2 = .pointer (some ⟨gg, 0, none⟩) := hd 2 (by decide)
          have e3 : vals 3 = .pointer (some ⟨gg, 0, none⟩) := hd 3 (by decide)
          have e4 : vals 4 = .pointer (some ⟨gg, 1, none⟩) := hd 4 (by decide)
          have e5 : vals 5 = .slice A3 T.length c3 := hd 5 (by decide)
          have e6 : vals 6 = .agg #[.int .i64 b0, .int .i64 b1, .int .i64 b2, .int .i64 b3, .int .i64 b4] := hd 6 (by decide)
          have r7 : (fun v w1 => ∃ gx, v = .slice (some ⟨gx, 0, none⟩) 1 1 ∧ Blk w1 gx 30 #[.int .i64 b0, .int .i64 b1, .int .i64 b2, .int .i64 b3, .int .i64 b4]) (vals 7) w1 := hd 7 (by decide)
          dsimp only at r7
          have r8 : (fun v w1 => OwnB w1 W5.heap.size v (T ++ [⟨b0, b1, b2, b3, b4⟩])) (vals 8) w1 := hd 8 (by decide)
          dsimp only at r8
          clear hd ha
          simp only [Lf, dstAt, Act.put, List.getElem?_toArray, List.getElem?_cons_zero, List.getElem?_cons_succ, Option.bind_some, List.setIfInBounds_toArray, List.set_cons_zero, List.set_cons_succ]
          simp only [e0, e1, e2, e3, e4, e5, e6]
          clear e0 e1 e2 e3 e4 e5 e6
          go_wp2
          exact ⟨rfl, Ext.refl _, rfl⟩
        · intro vals w1 hx hd ha
          have e0 : vals 0 = .pointer (some ⟨gg, 0, none⟩) := hd 0 (by decide)
          have e1 : vals 1 = .pointer (some ⟨gg, 0, none⟩) := hd 1 (by decide)
          have e2 : vals 2 = .pointer (some ⟨gg, 0, none⟩) := hd 2 (by decide)
          have e3 : vals 3 = .pointer (some ⟨gg, 0, none⟩) := hd 3 (by decide)
          have e4 : vals 4 = .pointer (some ⟨gg, 1, none⟩) := hd 4 (by decide)
          have e5 : vals 5 = .slice A3 T.length c3 := hd 5 (by decide)
          have e6 : vals 6 = .agg #[.int .i64 b0, .int .i64 b1, .int .i64 b2, .int .i64 b3, .int .i64 b4] := hd 6 (by decide)
          have r7 : (fun v w1 => ∃ gx, v = .slice (some ⟨gx, 0, none⟩) 1 1 ∧ Blk w1 gx 30 #[.int .i64 b0, .int .i64 b1, .int .i64 b2, .int .i64 b3, .int .i64 b4]) (vals 7) w1 := hd 7 (by decide)
          dsimp only at r7
          have r8 : (fun v w1 => OwnB w1 W5.heap.size v (T ++ [⟨b0, b1, b2, b3, b4⟩])) (vals 8) w1 := hd 8 (by decide)
          dsimp only at r8
          have e9 : vals 9 = .pointer (some ⟨gg, 0, none⟩) := hd 9 (by decide)
          clear hd ha
          simp only [Lf, dstAt, Act.put, List.getElem?_toArray, List.getElem?_cons_zero, List.getElem?_cons_succ, Option.bind_some, List.setIfInBounds_toArray, List.set_cons_zero, List.set_cons_succ]
          simp only [e0, e1, e2, e3, e4, e5, e6, e9]
          clear e0 e1 e2 e3 e4 e5 e6 e9
          go_wp2
          exact ⟨rfl, Ext.refl _, rfl⟩
        · intro vals w1 hx hd ha
          have e0 : vals 0 = .pointer (some ⟨gg, 0, none⟩) := hd 0 (by decide)
          have e1 : vals 1 = .pointer (some ⟨gg, 0, none⟩) := hd 1 (by decide)
          have e2 : vals 2 = .pointer (some ⟨gg, 0, none⟩) := hd 2 (by decide)
          have e3 : vals 3 = .pointer (some ⟨gg, 0, none⟩) := hd 3 (by decide)
          have e4 : vals 4 = .pointer (some ⟨gg, 1, none⟩) := hd 4 (by decide)
          have e5 : vals 5 = .slice A3 T.length c3 := hd 5 (by decide)
          have e6 : vals 6 = .agg #[.int .i64 b0, .int .i64 b1, .int .i64 b2, .int .i64 b3, .int .i64 b4] := hd 6 (by decide)
          have r7 : (fun v w1 => ∃ gx, v = .slice (some ⟨gx, 0, none⟩) 1 1 ∧ Blk w1 gx 30 #[.int .i64 b0, .int .i64 b1, .int .i64 b2, .int .i64 b3, .int .i64 b4]) (vals 7) w1 := hd 7 (by decide)
          dsimp only at r7
          have r8 : (fun v w1 => OwnB w1 W5.heap.size v (T ++ [⟨b0, b1, b2, b3, b4⟩])) (vals 8) w1 := hd 8 (by decide)
          dsimp only at r8
          have e10 : vals 10 = .pointer (some ⟨gg, 0, none⟩) := hd 10 (by decide)
          clear hd ha
          simp only [Lf, dstAt, Act.put, List.getElem?_toArray, List.getElem?_cons_zero, List.getElem?_cons_succ, Option.bind_some, List.setIfInBounds_toArray, List.set_cons_zero, List.set_cons_succ]
          simp only [e0, e1, e2, e3, e4, e5, e6, e10]
          clear e0 e1 e2 e3 e4 e5 e6 e10
          go_wp2
          exact ⟨rfl, Ext.refl _, rfl⟩
      intro vals_ W6 hx6 hf
      have e11 : vals_ 11 = .pointer (some ⟨gg, 1, none⟩) := hf 11 (by omega)
      have hown6 : OwnB W6 W5.heap.size (vals_ 8) (T ++ [⟨b0, b1, b2, b3, b4⟩]) := hf 8 (by omega)
      clear hf e1 c0 c1 c2 c3_ c4
      have hx6 := hx6.undrew
      obtain ⟨v8, hv8⟩ : ∃ v, v = vals_ 8 := ⟨_, rfl⟩
      rw [← hv8] at hown6
      have e8 := hv8.symm
      have hblk6 := HG5.out.blk.ext hx6
      have hmap6 := HG5.out.map.ext hx6
      have J6 := J5.ext hx6
      have hrow6 : OwnB W6 base v8 (T ++ [⟨b0, b1, b2, b3, b4⟩]) := own_base hown6 (by omega)
      have hgr6 : Grw gg gk gm (.slice A3 T.length c3) v8 w W6 := ⟨(Ext.trans hx hx6).os, (Ext.trans hx hx6).tape, (Ext.trans hx hx6).output, Below.size (Ext.trans hx hx6), fun i hi _ _ _ _ => (Ext.trans hx hx6).block i hi, fun g e => .inr (by have := (World.ownsRow.lt hown6 g e).1; omega)⟩
      clear hv8 hown6 hx6 hx5 hx J5 HG5 hful
      have HR6 := Lib.hid hrow6
      have HM6 := Lib.hid hmap6
      have HJ6 := Lib.hid J6
      have HGR := Lib.hid hgr6
      clear hrow6 hmap6 J6 hgr6
      have e1 : W6.cell? ⟨gg, 1, none⟩ = some (.slice A3 T.length c3) := hblk6.cell 1
      have f1 := hblk6.frozen 1
      refine tail1 12 _ (by kernel_rfl) (by kernel_rfl) rfl ?_
      simp only [Lf, dstAt, Act.put, List.getElem?_toArray, List.getElem?_cons_zero, List.getElem?_cons_succ, Option.bind_some, List.setIfInBounds_toArray, List.set_cons_zero, List.set_cons_succ]
      rw [e8, e11]
      clear e8 e11
      obtain ⟨A8, c8, hv8, _, _⟩ := own_slice HR6.out
      subst hv8
      go_upto_region 5 with (fail)
      have hgg3n : g3 ≠ gg := by have := HG3.out; omega
      have hkg : gk ≠ gg := HG.out.ne_k.symm
      have hl1 : (T ++ [(⟨b0, b1, b2, b3, b4⟩ : Brn)]).length = T.length + 1 := by simp
      rw [hl1] at HR6
      have hrow7 := own_off HR6.out (p := ⟨gg, 1, none⟩) (fun q e => fun e2 => own_blk_ne HR6.out hblk6 (by decide) (by rw [e, e2])) (.slice A8 (T.length + 1) c8)
      have hblk7 : GBlk (W6.setCell ⟨gg, 1, none⟩ (.slice A8 (T.length + 1) c8)) gg st (.slice A8 (T.length + 1) c8) gk := by
        have k := hblk6.set_ 1 (.slice A8 (T.length + 1) c8)
        simp only [List.setIfInBounds_toArray, List.set_cons_zero, List.set_cons_succ] at k
        exact k
      have hmap7 := HM6.out.keep (Below.heap_setCell W6 ⟨gg, 1, none⟩ (.slice A8 (T.length + 1) c8) gk hkg)
      have hj7 := HJ6.out.far (p := ⟨gg, 1, none⟩) hgg3n (.slice A8 (T.length + 1) c8)
      rw [hl1] at HGR
      have hgr7 : Grw gg gk gm (.slice A3 T.length c3) (.slice A8 (T.length + 1) c8) w (W6.setCell ⟨gg, 1, none⟩ (.slice A8 (T.length + 1) c8)) := HGR.out.trans (Grw.of_map (g := gg) ⟨rfl, rfl, rfl, by simp, fun k _ hne => Below.heap_setCell W6 ⟨gg, 1, none⟩ _ k (fun e => hne (by rw [e]))⟩ (.inl rfl))
      clear HR6 HM6 HJ6 HGR hblk6 e1 f1 hl1
      generalize W6.setCell ⟨gg, 1, none⟩ (.slice A8 (T.length + 1) c8) = W7 at hrow7 hblk7 hmap7 hj7 hgr7 ⊢
      have hn7 := hmap7.ne_own hrow7
      have HR7 := Lib.hid hrow7
      have HB7 := Lib.hid hblk7
      have HM7 := Lib.hid hmap7
      have HGR7 := Lib.hid hgr7
      have e2 : W7.cell? ⟨gg, 2, none⟩ = some (.map (some gk)) := hblk7.cell 2
      have c0 : W7.cell? ⟨g3, 0, none⟩ = some (.int .i64 b0) := hj7.cell 0
      have c1 : W7.cell? ⟨g3, 1, none⟩ = some (.int .i64 b1) := hj7.cell 1
      have c2 : W7.cell? ⟨g3, 2, none⟩ = some (.int .i64 b2) := hj7.cell 2
      have c3_ : W7.cell? ⟨g3, 3, none⟩ = some (.int .i64 b3) := hj7.cell 3
      have c4 : W7.cell? ⟨g3, 4, none⟩ = some (.int .i64 b4) := hj7.cell 4
      clear hrow7 hblk7 hmap7 hgr7 hj7
      refine wp_region_obl 6 (fun ix vals v w1 => match ix with | 0 => v = .pointer (some ⟨gg, 0, none⟩) | 1 => v = .pointer (some ⟨gg, 0, none⟩) | 2 => v = .pointer (some ⟨gg, 2, none⟩) | 3 => v = .map (some gk) | 4 => v = .agg #[.int .i64 b0, .int .i64 b1, .int .i64 b2, .int .i64 b3, .int .i64 b4] | _ => v = .int .i64 (T.length : Int)) (by kernel_rfl) (by kernel_rfl) ?_ ?_ ?_ ?_
      · intro ix vals v w1 w2 hi hr hx
        match ix, hr with
        | 0, hr => exact hr
        | 1, hr => exact hr
        | 2, hr => exact hr
        | 3, hr => exact hr
        | 4, hr => exact hr
        | (kx + 5), hr => exact hr
      · intro ix vals vals_ v w1 hi hv hr
        exact hr
      · refine ⟨?_, ?_, ?_, ?_, ?_, ?_, trivial⟩
        · intro vals w1 hx hd ha
          clear hd ha
          simp only [Lf]
          go_wp2
          exact ⟨rfl, Ext.refl _, rfl⟩
        · intro vals w1 hx hd ha
          have e0 : vals 0 = .pointer (some ⟨gg, 0, none⟩) := hd 0 (by decide)
          clear hd ha
          simp only [Lf, dstAt, Act.put, List.getElem?_toArray, List.getElem?_cons_zero, Option.bind_some, List.setIfInBounds_toArray, List.set_cons_zero, List.set_cons_succ]
          simp only [e0]
          clear e0
          go_wp2
          exact ⟨rfl, Ext.refl _, rfl⟩
        · intro vals w1 hx hd ha
          have e1 : vals 1 = .pointer (some ⟨gg, 0, none⟩) := hd 1 (by decide)
          clear hd ha
          simp only [Lf, dstAt, Act.put, List.getElem?_toArray, List.getElem?_cons_zero, List.getElem?_cons_succ, Option.bind_some, List.setIfInBounds_toArray, List.set_cons_zero, List.set_cons_succ]
          simp only [e1]
          clear e1
          go_wp2
          exact ⟨rfl, Ext.refl _, rfl⟩
        · intro vals w1 hx hd ha
          have e2 : vals 2 = .pointer (some ⟨gg, 2, none⟩) := hd 2 (by decide)
          clear hd ha
          simp only [Lf, dstAt, Act.put, List.getElem?_toArray, List.getElem?_cons_zero, List.getElem?_cons_succ, Option.bind_some, List.setIfInBounds_toArray, List.set_cons_zero, List.set_cons_succ]
          simp only [e2]
          clear e2
          have e2 := ext_cell hx e2
          go_wp2
          exact ⟨rfl, Ext.refl _, rfl⟩
        · intro vals w1 hx hd ha
          clear hd ha
          simp only [Lf, dstAt, Act.put, List.getElem?_toArray, List.getElem?_cons_zero, List.getElem?_cons_succ, Option.bind_some, List.setIfInBounds_toArray, List.set_cons_zero, List.set_cons_succ]
          have c0 := ext_cell hx c0; have c1 := ext_cell hx c1; have c2 := ext_cell hx c2; have c3_ := ext_cell hx c3_; have c4 := ext_cell hx c4
          go_wp2
          exact ⟨rfl, Ext.refl _, rfl⟩
        · intro vals w1 hx hd ha
          clear hd ha
          simp only [Lf, dstAt, Act.put, List.getElem?_toArray, List.getElem?_cons_zero, List.getElem?_cons_succ, Option.bind_some, List.setIfInBounds_toArray, List.set_cons_zero, List.set_cons_succ]
          go_wp2
          exact ⟨rfl, Ext.refl _, rfl⟩
      intro vz W8 hx8 hf
      have z3 : vz 3 = .map (some gk) := hf 3 (by omega)
      have z4 : vz 4 = .agg #[.int .i64 b0, .int .i64 b1, .int .i64 b2, .int .i64 b3, .int .i64 b4] := hf 4 (by omega)
      have z5 : vz 5 = .int .i64 (T.length : Int) := hf 5 (by omega)
      clear hf e2 c0 c1 c2 c3_ c4
      have hx8 := hx8.undrew
      obtain ⟨W9, hu, hm9, hg9⟩ := (HM7.out.ext hx8).update key_brn Try.underlying86 ⟨b0, b1, b2, b3, b4⟩ #[.int .i64 b0, .int .i64 b1, .int .i64 b2, .int .i64 b3, .int .i64 b4] rfl (.int .i64 (T.length : Int))
      have hgr9 := (HGR7.out.trans (Grw.of_ext hx8)).trans (Grw.of_map hg9 (.inr (.inl rfl)))
      have hrow9 : OwnB W9 base (.slice A8 (T.length + 1) c8) (T ++ [⟨b0, b1, b2, b3, b4⟩]) := by
        have h1 := own_ext HR7.out hx8
        have h2 := h1.kept hg9 (.inr (fun e => hn7 e))
        exact h2
      have hblk9 := (HB7.out.ext hx8).grown hg9 (fun e => by injection e with e; exact hkg e.symm)
      have HF9 : Hid (Gr W9 gg gk base st (.slice A8 (T.length + 1) c8) (T ++ [⟨b0, b1, b2, b3, b4⟩])) := Lib.hid ⟨hblk9, hrow9, hm9.congr HBP.out, HND.out⟩
      have HGR9 := Lib.hid hgr9
      have HU := Lib.hid hu
      clear hu hm9 hg9 hgr9 hrow9 hblk9 HR7 HB7 HM7 HGR7 hx8 hn7
      refine tail1 6 _ (by kernel_rfl) (by kernel_rfl) rfl ?_
      simp only [Lf, dstAt, Act.put, List.getElem?_toArray, List.getElem?_cons_zero, List.getElem?_cons_succ, Option.bind_some, List.setIfInBounds_toArray, List.set_cons_zero, List.set_cons_succ]
      rw [z3, z4, z5]
      clear z3 z4 z5
      go_wp2_with (refine wpList_mapUpdate_run rfl _ _ _ _ rfl rfl rfl rfl HU.out ?_)
      go_ret
      exact ⟨_, rfl, HF9.out, HGR9.out⟩
    · obtain ⟨g0, cur, hA0, hb0, hg0, hs0, hc0m, ht0⟩ : ∃ g0 cur, A3 = some ⟨g0, 0, none⟩ ∧ base ≤ g0 ∧ W5.heap[g0]? = some (.cells cur 30 (0, 0)) ∧ cur.size = c3 * 5 ∧ c3 ≤ maxLen ∧ cur.toList.take (T.length * 5) = T.flatMap brnCells := by
        rcases HG5.out.row.2 with ⟨hv, _⟩ | ⟨g, cap, cur, hv, hb, hg, h1, h2, h3, h4⟩
        · injection hv with _ _ e3; omega
        · injection hv with e1 _ e3; subst e1 e3; exact ⟨g, cur, rfl, hb, hg, h3, h2, h4⟩
      subst hA0
      have hgl : g0 < W5.heap.size := (Array.getElem?_eq_some_iff.1 hg0).1
      have hfit : T.length * 5 + (brnCells ⟨b0, b1, b2, b3, b4⟩).length ≤ cur.size := by rw [hs0]; show T.length * 5 + 5 ≤ c3 * 5; omega
      have hgg0 : gg ≠ g0 := fun e => HG5.out.ne_g (by rw [e]; rfl)
      have hgk0 : gk ≠ g0 := fun e => HG5.out.map.ne_own HG5.out.row (by rw [e]; rfl)
      have hg30 : g3 ≠ g0 := by
        have h1 := (World.ownsRow.lt HG.out.row g0 rfl).2
        have h2 := HG3.out
        omega
      obtain ⟨o1, ho1⟩ : ∃ o, o = Obj.cells (putC cur (T.length * 5) (brnCells ⟨b0, b1, b2, b3, b4⟩)) 30 (0, 0) := ⟨_, rfl⟩
      have HC1 : Hid (∀ W, TG g0 o1 W5 W → ∃ cu, W.heap[g0]? = some (.cells cu 30 (0, 0)) ∧ cu.size = c3 * 5 ∧ putC cu (T.length * 5) (brnCells ⟨b0, b1, b2, b3, b4⟩) = putC cur (T.length * 5) (brnCells ⟨b0, b1, b2, b3, b4⟩)) := Lib.hid (fun W h => by
        rcases h.2 with h2 | h2
        · exact ⟨cur, h2.trans hg0, hs0, rfl⟩
        · exact ⟨_, by rw [h2, ho1], by rw [putC_size hfit]; exact hs0, putC_twice hfit⟩)
      have HO1 := Lib.hid ho1
      have hT := tg_tr g0 o1
      have HFIT := Lib.hid hfit
      have HT0 := Lib.hid ht0
      have hcf : T.length < c3 := by omega
      clear ho1 hg0 hfit ht0
      refine RB.wp_region_obl (T := _) hT 12 (fun ix vals v w1 => match ix with | 0 => v = .pointer (some ⟨gg, 0, none⟩) | 1 => v = .pointer (some ⟨gg, 0, none⟩) | 2 => v = .pointer (some ⟨gg, 0, none⟩) | 3 => v = .pointer (some ⟨gg, 0, none⟩) | 4 => v = .pointer (some ⟨gg, 1, none⟩) | 5 => v = .slice (some ⟨g0, 0, none⟩) T.length c3 | 6 => v = .agg #[.int .i64 b0, .int .i64 b1, .int .i64 b2, .int .i64 b3, .int .i64 b4] | 7 => ∃ gx, v = .slice (some ⟨gx, 0, none⟩) 1 1 ∧ gx ≠ g0 ∧ Blk w1 gx 30 #[.int .i64 b0, .int .i64 b1, .int .i64 b2, .int .i64 b3, .int .i64 b4] | 8 => v = .slice (some ⟨g0, 0, none⟩) (T.length + 1) c3 ∧ w1.heap[g0]? = some o1 | 9 => v = .pointer (some ⟨gg, 0, none⟩) | 10 => v = .pointer (some ⟨gg, 0, none⟩) | _ => v = .pointer (some ⟨gg, 1, none⟩)) (by kernel_rfl) (by kernel_rfl) ?_ ?_ ?_ ?_
      · intro ix vals v w1 w2 hi hr hx
        match ix, hr with
        | 0, hr => exact hr
        | 1, hr => exact hr
        | 2, hr => exact hr
        | 3, hr => exact hr
        | 4, hr => exact hr
        | 5, hr => exact hr
        | 6, hr => exact hr
        | 7, hr => obtain ⟨gx, h1, h2, h3⟩ := hr; exact ⟨gx, h1, h2, hx.blk h3 h2⟩
        | 8, hr => exact ⟨hr.1, by rcases hx.2 with h | h; exact h.trans hr.2; exact h⟩
        | 9, hr => exact hr
        | 10, hr => exact hr
        | (kx + 11), hr => exact hr
      · intro ix vals vals_ v w1 hi hv hr
        exact hr
      · refine ⟨?_, ?_, ?_, ?_, ?_, ?_, ?_, ?_, ?_, ?_, ?_, ?_, trivial⟩
        · intro vals w1 hx hd ha
          clear hd ha
          simp only [Lf]
          go_wp2
          exact ⟨rfl, hT.refl _, rfl⟩
        · intro vals w1 hx hd ha
          clear hd ha
          simp only [Lf, dstAt, Act.put, List.getElem?_toArray, List.getElem?_cons_zero, Option.bind_some, List.setIfInBounds_toArray, List.set_cons_zero, List.set_cons_succ]
          go_wp2
          exact ⟨rfl, hT.refl _, rfl⟩
        · intro vals w1 hx hd ha
          have e1 : vals 1 = .pointer (some ⟨gg, 0, none⟩) := hd 1 (by decide)
          clear hd ha
          simp only [Lf, dstAt, Act.put, List.getElem?_toArray, List.getElem?_cons_zero, List.getElem?_cons_succ, Option.bind_some, List.setIfInBounds_toArray, List.set_cons_zero, List.set_cons_succ]
          simp only [e1]
          clear e1
          go_wp2
          exact ⟨rfl, hT.refl _, rfl⟩
        · intro vals w1 hx hd ha
          have e2 : vals 2 = .pointer (some ⟨gg, 0, none⟩) := hd 2 (by decide)
          clear hd ha
          simp only [Lf, dstAt, Act.put, List.getElem?_toArray, List.getElem?_cons_zero, List.getElem?_cons_succ, Option.bind_some, List.setIfInBounds_toArray, List.set_cons_zero, List.set_cons_succ]
          simp only [e2]
          clear e2
          go_wp2
          exact ⟨rfl, hT.refl _, rfl⟩
        · intro vals w1 hx hd ha
          have e3 : vals 3 = .pointer (some ⟨gg, 0, none⟩) := hd 3 (by decide)
          clear hd ha
          simp only [Lf, dstAt, Act.put, List.getElem?_toArray, List.getElem?_cons_zero, List.getElem?_cons_succ, Option.bind_some, List.setIfInBounds_toArray, List.set_cons_zero, List.set_cons_succ]
          simp only [e3]
          clear e3
          go_wp2
          exact ⟨rfl, hT.refl _, rfl⟩
        · intro vals w1 hx hd ha
          have e4 : vals 4 = .pointer (some ⟨gg, 1, none⟩) := hd 4 (by decide)
          clear hd ha
          simp only [Lf, dstAt, Act.put, List.getElem?_toArray, List.getElem?_cons_zero, List.getElem?_cons_succ, Option.bind_some, List.setIfInBounds_toArray, List.set_cons_zero, List.set_cons_succ]
          simp only [e4]
          clear e4
          have e1 := hx.undrew.cell e1 hgg0
          go_wp2
          exact ⟨rfl, hT.refl _, rfl⟩
        · intro vals w1 hx hd ha
          clear hd ha
          simp only [Lf, dstAt, Act.put, List.getElem?_toArray, List.getElem?_cons_zero, List.getElem?_cons_succ, Option.bind_some, List.setIfInBounds_toArray, List.set_cons_zero, List.set_cons_succ]
          have c0 := hx.undrew.cell c0 hg30; have c1 := hx.undrew.cell c1 hg30; have c2 := hx.undrew.cell c2 hg30; have c3_ := hx.undrew.cell c3_ hg30; have c4 := hx.undrew.cell c4 hg30
          go_wp2
          exact ⟨rfl, hT.refl _, rfl⟩
        · intro vals w1 hx hd ha
          have e6 : vals 6 = .agg #[.int .i64 b0, .int .i64 b1, .int .i64 b2, .int .i64 b3, .int .i64 b4] := hd 6 (by decide)
          clear hd ha
          simp only [Lf, dstAt, Act.put, List.getElem?_toArray, List.getElem?_cons_zero, List.getElem?_cons_succ, Option.bind_some, List.setIfInBounds_toArray, List.set_cons_zero, List.set_cons_succ]
          simp only [e6]
          clear e6
          have hz9 := hx.undrew.1.size
          go_wp2
          exact ⟨rfl, TG.of_ext (by repeat (first | exact Below.refl _ _ | assumption | refine Below.drew ?_ | refine below_drewN ?_ _ | refine bl_alloc ?_ _ | refine Below.setCell ?_ (by first | (simp; done) | omega | (simp; omega)) _ | refine bl_then ?_ (by assumption))) (by omega), _, rfl, by omega, Blk.new _ _ _⟩
        · intro vals w1 hx hd ha
          have e5 : vals 5 = .slice (some ⟨g0, 0, none⟩) T.length c3 := hd 5 (by decide)
          have r7 : (fun v w1 => ∃ gx, v = .slice (some ⟨gx, 0, none⟩) 1 1 ∧ gx ≠ g0 ∧ Blk w1 gx 30 #[.int .i64 b0, .int .i64 b1, .int .i64 b2, .int .i64 b3, .int .i64 b4]) (vals 7) w1 := hd 7 (by decide)
          dsimp only at r7
          clear hd ha
          simp only [Lf, dstAt, Act.put, List.getElem?_toArray, List.getElem?_cons_zero, List.getElem?_cons_succ, Option.bind_some, List.setIfInBounds_toArray, List.set_cons_zero, List.set_cons_succ]
          simp only [e5]
          clear e5
          obtain ⟨gx, e_9, hgx, jx⟩ := r7
          rw [e_9]
          obtain ⟨cu, hcu, hcs, hcp⟩ := HC1.out w1 hx.undrew
          obtain ⟨w9, hrun, hgr, hh9⟩ := brn_fit 31 hcu hcs hcf gx ⟨b0, b1, b2, b3, b4⟩ jx
          rw [hcp, ← HO1.out] at hh9
          refine wpList_append_run_ rfl _ _ _ rfl rfl rfl hrun ?_
          clear hrun
          go_wp2
          exact ⟨rfl, ⟨hgr, .inr hh9⟩, rfl, hh9⟩
        · intro vals w1 hx hd ha
          have e0 : vals 0 = .pointer (some ⟨gg, 0, none⟩) := hd 0 (by decide)
          have e1 : vals 1 = .pointer (some ⟨gg, 0, none⟩) := hd 1 (by decide)
          have e2 : vals 2 = .pointer (some ⟨gg, 0, none⟩) := hd 2 (by decide)
          have e3 : vals 3 = .pointer (some ⟨gg, 0, none⟩) := hd 3 (by decide)
          have e4 : vals 4 = .pointer (some ⟨gg, 1, none⟩) := hd 4 (by decide)
          have e5 : vals 5 = .slice (some ⟨g0, 0, none⟩) T.length c3 := hd 5 (by decide)
          have e6 : vals 6 = .agg #[.int .i64 b0, .int .i64 b1, .int .i64 b2, .int .i64 b3, .int .i64 b4] := hd 6 (by decide)
          have r7 : (fun v w1 => ∃ gx, v = .slice (some ⟨gx, 0, none⟩) 1 1 ∧ gx ≠ g0 ∧ Blk w1 gx 30 #[.int .i64 b0, .int .i64 b1, .int .i64 b2, .int .i64 b3, .int .i64 b4]) (vals 7) w1 := hd 7 (by decide)
          dsimp only at r7
          have r8 : (fun v w1 => v = .slice (some ⟨g0, 0, none⟩) (T.length + 1) c3 ∧ w1.heap[g0]? = some o1) (vals 8) w1 := hd 8 (by decide)
          dsimp only at r8
          clear hd ha
          simp only [Lf, dstAt, Act.put, List.getElem?_toArray, List.getElem?_cons_zero, List.getElem?_cons_succ, Option.bind_some, List.setIfInBounds_toArray, List.set_cons_zero, List.set_cons_succ]
          simp only [e0, e1, e2, e3, e4, e5, e6]
          clear e0 e1 e2 e3 e4 e5 e6
          go_wp2
          exact ⟨rfl, hT.refl _, rfl⟩
        · intro vals w1 hx hd ha
          have e0 : vals 0 = .pointer (some ⟨gg, 0, none⟩) := hd 0 (by decide)
          have e1 : vals 1 = .pointer (some ⟨gg, 0, none⟩) := hd 1 (by decide)
          have e2 : vals 2 = .pointer (some ⟨gg, 0, none⟩) := hd 2 (by decide)
          have e3 : vals 3 = .pointer (some ⟨gg, 0, none⟩) := hd 3 (by decide)
          have e4 : vals 4 = .pointer (some ⟨gg, 1, none⟩) := hd 4 (by decide)
          have e5 : vals 5 = .slice (some ⟨g0, 0, none⟩) T.length c3 := hd 5 (by decide)
          have e6 : vals 6 = .agg #[.int .i64 b0, .int .i64 b1, .int .i64 b2, .int .i64 b3, .int .i64 b4] := hd 6 (by decide)
          have r7 : (fun v w1 => ∃ gx, v = .slice (some ⟨gx, 0, none⟩) 1 1 ∧ gx ≠ g0 ∧ Blk w1 gx 30 #[.int .i64 b0, .int .i64 b1, .int .i64 b2, .int .i64 b3, .int .i64 b4]) (vals 7) w1 := hd 7 (by decide)
          dsimp only at r7
          have r8 : (fun v w1 => v = .slice (some ⟨g0, 0, none⟩) (T.length + 1) c3 ∧ w1.heap[g0]? = some o1) (vals 8) w1 := hd 8 (by decide)
          dsimp only at r8
          have e9 : vals 9 = .pointer (some ⟨gg, 0, none⟩) := hd 9 (by decide)
          clear hd ha
          simp only [Lf, dstAt, Act.put, List.getElem?_toArray, List.getElem?_cons_zero, List.getElem?_cons_succ, Option.bind_some, List.setIfInBounds_toArray, List.set_cons_zero, List.set_cons_succ]
          simp only [e0, e1, e2, e3, e4, e5, e6, e9]
          clear e0 e1 e2 e3 e4 e5 e6 e9
          go_wp2
          exact ⟨rfl, hT.refl _, rfl⟩
        · intro vals w1 hx hd ha
          have e0 : vals 0 = .pointer (some ⟨gg, 0, none⟩) := hd 0 (by decide)
          have e1 : vals 1 = .pointer (some ⟨gg, 0, none⟩) := hd 1 (by decide)
          have e2 : vals 2 = .pointer (some ⟨gg, 0, none⟩) := hd 2 (by decide)
          have e3 : vals 3 = .pointer (some ⟨gg, 0, none⟩) := hd 3 (by decide)
          have e4 : vals 4 = .pointer (some ⟨gg, 1, none⟩) := hd 4 (by decide)
          have e5 : vals 5 = .slice (some ⟨g0, 0, none⟩) T.length c3 := hd 5 (by decide)
          have e6 : vals 6 = .agg #[.int .i64 b0, .int .i64 b1, .int .i64 b2, .int .i64 b3, .int .i64 b4] := hd 6 (by decide)
          have r7 : (fun v w1 => ∃ gx, v = .slice (some ⟨gx, 0, none⟩) 1 1 ∧ gx ≠ g0 ∧ Blk w1 gx 30 #[.int .i64 b0, .int .i64 b1, .int .i64 b2, .int .i64 b3, .int .i64 b4]) (vals 7) w1 := hd 7 (by decide)
          dsimp only at r7
          have r8 : (fun v w1 => v = .slice (some ⟨g0, 0, none⟩) (T.length + 1) c3 ∧ w1.heap[g0]? = some o1) (vals 8) w1 := hd 8 (by decide)
          dsimp only at r8
          have e10 : vals 10 = .pointer (some ⟨gg, 0, none⟩) := hd 10 (by decide)
          clear hd ha
          simp only [Lf, dstAt, Act.put, List.getElem?_toArray, List.getElem?_cons_zero, List.getElem?_cons_succ, Option.bind_some, List.setIfInBounds_toArray, List.set_cons_zero, List.set_cons_succ]
          simp only [e0, e1, e2, e3, e4, e5, e6, e10]
          clear e0 e1 e2 e3 e4 e5 e6 e10
          go_wp2
          exact ⟨rfl, hT.refl _, rfl⟩
      intro vals_ W6 hx6 hf
      have e11 : vals_ 11 = .pointer (some ⟨gg, 1, none⟩) := hf 11 (by omega)
      obtain ⟨e8, hh6⟩ : vals_ 8 = .slice (some ⟨g0, 0, none⟩) (T.length + 1) c3 ∧ W6.heap[g0]? = some o1 := hf 8 (by omega)
      clear hf e1 c0 c1 c2 c3_ c4
      have hx6 := hx6.undrew
      rw [HO1.out] at hh6
      have hblk6 := hx6.blk HG5.out.blk hgg0
      have hmap6 := HG5.out.map.keep (hx6.1.block gk HG5.out.map.lt (fun e => by injection e with e; exact hgk0 e))
      have J6 := hx6.blk J5 hg30
      obtain ⟨v8, hv8⟩ : ∃ v, v = Value.slice (some ⟨g0, 0, none⟩) (T.length + 1) c3 := ⟨_, rfl⟩
      rw [← hv8] at e8
      have hrow6 : OwnB W6 base v8 (T ++ [⟨b0, b1, b2, b3, b4⟩]) := by
        have hlx : (T.flatMap brnCells).length = T.length * 5 := HG5.out.row.1
        unfold OwnB
        rw [List.length_append, List.flatMap_append]
        refine ⟨by rw [List.length_append, hlx]; show T.length * 5 + 5 = (T.length + 1) * 5; omega, .inr ⟨g0, c3, _, hv8, hb0, hh6, by show T.length + 1 ≤ c3; omega, hc0m, by rw [putC_size HFIT.out]; exact hs0, ?_⟩⟩
        have hpt := putC_take HFIT.out
        rw [HT0.out] at hpt
        show _ = T.flatMap brnCells ++ brnCells ⟨b0, b1, b2, b3, b4⟩
        rw [show (T.length + [(⟨b0, b1, b2, b3, b4⟩ : Brn)].length) * 5 = T.length * 5 + (brnCells ⟨b0, b1, b2, b3, b4⟩).length by show (T.length + 1) * 5 = T.length * 5 + 5; omega]
        exact hpt
      have hgr6 : Grw gg gk gm (.slice (some ⟨g0, 0, none⟩) T.length c3) v8 w W6 := (Grw.of_ext hx).trans ⟨hx6.1.os, hx6.1.tape, hx6.1.output, hx6.1.size, fun i hi _ _ _ h4 => hx6.1.block i hi (fun e => h4 (by injection e with e; rw [e]; rfl)), fun g e => .inl (by rw [hv8] at e; exact e)⟩
      clear hv8 hh6 hx6 hx5 hx J5 HG5 hful hT HC1 HO1 HFIT HT0
      have HR6 := Lib.hid hrow6
      have HM6 := Lib.hid hmap6
      have HJ6 := Lib.hid J6
      have HGR := Lib.hid hgr6
      clear hrow6 hmap6 J6 hgr6
      have e1 : W6.cell? ⟨gg, 1, none⟩ = some (.slice (some ⟨g0, 0, none⟩) T.length c3) := hblk6.cell 1
      have f1 := hblk6.frozen 1
      refine tail1 12 _ (by kernel_rfl) (by kernel_rfl) rfl ?_
      simp only [Lf, dstAt, Act.put, List.getElem?_toArray, List.getElem?_cons_zero, List.getElem?_cons_succ, Option.bind_some, List.setIfInBounds_toArray, List.set_cons_zero, List.set_cons_succ]
      rw [e8, e11]
      clear e8 e11
      obtain ⟨A8, c8, hv8, _, _⟩ := own_slice HR6.out
      subst hv8
      go_upto_region 5 with (fail)
      have hgg3n : g3 ≠ gg := by have := HG3.out; omega
      have hkg : gk ≠ gg := HG.out.ne_k.symm
      have hl1 : (T ++ [(⟨b0, b1, b2, b3, b4⟩ : Brn)]).length = T.length + 1 := by simp
      rw [hl1] at HR6
      have hrow7 := own_off HR6.out (p := ⟨gg, 1, none⟩) (fun q e => fun e2 => own_blk_ne HR6.out hblk6 (by decide) (by rw [e, e2])) (.slice A8 (T.length + 1) c8)
      have hblk7 : GBlk (W6.setCell ⟨gg, 1, none⟩ (.slice A8 (T.length + 1) c8)) gg st (.slice A8 (T.length + 1) c8) gk := by
        have k := hblk6.set_ 1 (.slice A8 (T.length + 1) c8)
        simp only [List.setIfInBounds_toArray, List.set_cons_zero, List.set_cons_succ] at k
        exact k
      have hmap7 := HM6.out.keep (Below.heap_setCell W6 ⟨gg, 1, none⟩ (.slice A8 (T.length + 1) c8) gk hkg)
      have hj7 := HJ6.out.far (p := ⟨gg, 1, none⟩) hgg3n (.slice A8 (T.length + 1) c8)
      rw [hl1] at HGR
      have hgr7 : Grw gg gk gm (.slice (some ⟨g0, 0, none⟩) T.length c3) (.slice A8 (T.length + 1) c8) w (W6.setCell ⟨gg, 1, none⟩ (.slice A8 (T.length + 1) c8)) := HGR.out.trans (Grw.of_map (g := gg) ⟨rfl, rfl, rfl, by simp, fun k _ hne => Below.heap_setCell W6 ⟨gg, 1, none⟩ _ k (fun e => hne (by rw [e]))⟩ (.inl rfl))
      clear HR6 HM6 HJ6 HGR hblk6 e1 f1 hl1
      generalize W6.setCell ⟨gg, 1, none⟩ (.slice A8 (T.length + 1) c8) = W7 at hrow7 hblk7 hmap7 hj7 hgr7 ⊢
      have hn7 := hmap7.ne_own hrow7
      have HR7 := Lib.hid hrow7
      have HB7 := Lib.hid hblk7
      have HM7 := Lib.hid hmap7
      have HGR7 := Lib.hid hgr7
      have e2 : W7.cell? ⟨gg, 2, none⟩ = some (.map (some gk)) := hblk7.cell 2
      have c0 : W7.cell? ⟨g3, 0, none⟩ = some (.int .i64 b0) := hj7.cell 0
      have c1 : W7.cell? ⟨g3, 1, none⟩ = some (.int .i64 b1) := hj7.cell 1
      have c2 : W7.cell? ⟨g3, 2, none⟩ = some (.int .i64 b2) := hj7.cell 2
      have c3_ : W7.cell? ⟨g3, 3, none⟩ = some (.int .i64 b3) := hj7.cell 3
      have c4 : W7.cell? ⟨g3, 4, none⟩ = some (.int .i64 b4) := hj7.cell 4
      clear hrow7 hblk7 hmap7 hgr7 hj7
      refine wp_region_obl 6 (fun ix vals v w1 => match ix with | 0 => v = .pointer (some ⟨gg, 0, none⟩) | 1 => v = .pointer (some ⟨gg, 0, none⟩) | 2 => v = .pointer (some ⟨gg, 2, none⟩) | 3 => v = .map (some gk) | 4 => v = .agg #[.int .i64 b0, .int .i64 b1, .int .i64 b2, .int .i64 b3, .int .i64 b4] | _ => v = .int .i64 (T.length : Int)) (by kernel_rfl) (by kernel_rfl) ?_ ?_ ?_ ?_
      · intro ix vals v w1 w2 hi hr hx
        match ix, hr with
        | 0, hr => exact hr
        | 1, hr => exact hr
        | 2, hr => exact hr
        | 3, hr => exact hr
        | 4, hr => exact hr
        | (kx + 5), hr => exact hr
      · intro ix vals vals_ v w1 hi hv hr
        exact hr
      · refine ⟨?_, ?_, ?_, ?_, ?_, ?_, trivial⟩
        · intro vals w1 hx hd ha
          clear hd ha
          simp only [Lf]
          go_wp2
          exact ⟨rfl, Ext.refl _, rfl⟩
        · intro vals w1 hx hd ha
          have e0 : vals 0 = .pointer (some ⟨gg, 0, none⟩) := hd 0 (by decide)
          clear hd ha
          simp only [Lf, dstAt, Act.put, List.getElem?_toArray, List.getElem?_cons_zero, Option.bind_some, List.setIfInBounds_toArray, List.set_cons_zero, List.set_cons_succ]
          simp only [e0]
          clear e0
          go_wp2
          exact ⟨rfl, Ext.refl _, rfl⟩
        · intro vals w1 hx hd ha
          have e1 : vals 1 = .pointer (some ⟨gg, 0, none⟩) := hd 1 (by decide)
          clear hd ha
          simp only [Lf, dstAt, Act.put, List.getElem?_toArray, List.getElem?_cons_zero, List.getElem?_cons_succ, Option.bind_some, List.setIfInBounds_toArray, List.set_cons_zero, List.set_cons_succ]
          simp only [e1]
          clear e1
          go_wp2
          exact ⟨rfl, Ext.refl _, rfl⟩
        · intro vals w1 hx hd ha
          have e2 : vals 2 = .pointer (some ⟨gg, 2, none⟩) := hd 2 (by decide)
          clear hd ha
          simp only [Lf, dstAt, Act.put, List.getElem?_toArray, List.getElem?_cons_zero, List.getElem?_cons_succ, Option.bind_some, List.setIfInBounds_toArray, List.set_cons_zero, List.set_cons_succ]
          simp only [e2]
          clear e2
          have e2 := ext_cell hx e2
          go_wp2
          exact ⟨rfl, Ext.refl _, rfl⟩
        · intro vals w1 hx hd ha
          clear hd ha
          simp only [Lf, dstAt, Act.put, List.getElem?_toArray, List.getElem?_cons_zero, List.getElem?_cons_succ, Option.bind_some, List.setIfInBounds_toArray, List.set_cons_zero, List.set_cons_succ]
          have c0 := ext_cell hx c0; have c1 := ext_cell hx c1; have c2 := ext_cell hx c2; have c3_ := ext_cell hx c3_; have c4 := ext_cell hx c4
          go_wp2
          exact ⟨rfl, Ext.refl _, rfl⟩
        · intro vals w1 hx hd ha
          clear hd ha
          simp only [Lf, dstAt, Act.put, List.getElem?_toArray, List.getElem?_cons_zero, List.getElem?_cons_succ, Option.bind_some, List.setIfInBounds_toArray, List.set_cons_zero, List.set_cons_succ]
          go_wp2
          exact ⟨rfl, Ext.refl _, rfl⟩
      intro vz W8 hx8 hf
      have z3 : vz 3 = .map (some gk) := hf 3 (by omega)
      have z4 : vz 4 = .agg #[.int .i64 b0, .int .i64 b1, .int .i64 b2, .int .i64 b3, .int .i64 b4] := hf 4 (by omega)
      have z5 : vz 5 = .int .i64 (T.length : Int) := hf 5 (by omega)
      clear hf e2 c0 c1 c2 c3_ c4
      have hx8 := hx8.undrew
      obtain ⟨W9, hu, hm9, hg9⟩ := (HM7.out.ext hx8).update key_brn Try.underlying86 ⟨b0, b1, b2, b3, b4⟩ #[.int .i64 b0, .int .i64 b1, .int .i64 b2, .int .i64 b3, .int .i64 b4] rfl (.int .i64 (T.length : Int))
      have hgr9 := (HGR7.out.trans (Grw.of_ext hx8)).trans (Grw.of_map hg9 (.inr (.inl rfl)))
      have hrow9 : OwnB W9 base (.slice A8 (T.length + 1) c8) (T ++ [⟨b0, b1, b2, b3, b4⟩]) := by
        have h1 := own_ext HR7.out hx8
        have h2 := h1.kept hg9 (.inr (fun e => hn7 e))
        exact h2
      have hblk9 := (HB7.out.ext hx8).grown hg9 (fun e => by injection e with e; exact hkg e.symm)
      have HF9 : Hid (Gr W9 gg gk base st (.slice A8 (T.length + 1) c8) (T ++ [⟨b0, b1, b2, b3, b4⟩])) := Lib.hid ⟨hblk9, hrow9, hm9.congr HBP.out, HND.out⟩
      have HGR9 := Lib.hid hgr9
      have HU := Lib.hid hu
      clear hu hm9 hg9 hgr9 hrow9 hblk9 HR7 HB7 HM7 HGR7 hx8 hn7
      refine tail1 6 _ (by kernel_rfl) (by kernel_rfl) rfl ?_
      simp only [Lf, dstAt, Act.put, List.getElem?_toArray, List.getElem?_cons_zero, List.getElem?_cons_succ, Option.bind_some, List.setIfInBounds_toArray, List.set_cons_zero, List.set_cons_succ]
      rw [z3, z4, z5]
      clear z3 z4 z5
      go_wp2_with (refine wpList_mapUpdate_run rfl _ _ _ _ rfl rfl rfl rfl HU.out ?_)
      go_ret
      exact ⟨_, rfl, HF9.out, HGR9.out⟩
end Go.Proofs.Ytikphbgfcpamgaa
