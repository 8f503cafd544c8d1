/- The reference: Made. -/
import Derived.Test.YtgbfhkildbhhoaaR2
import Derived.ArgAppend
namespace Go.Proofs.Ytgbfhkildbhhoaa
open Go.RowKit

structure T3 where
  a : Int
  b : Int
  c : Int
def t3Cells (t : T3) : List Value := [.int .i64 t.a, .int .i64 t.b, .int .i64 t.c]
theorem t3_len (x : T3) : (t3Cells x).length = 3 := rfl
def I64ok (n : Int) : Prop := -9223372036854775808 ≤ n ∧ n ≤ 9223372036854775807
def T3.ok (t : T3) : Prop := I64ok t.a ∧ I64ok t.b ∧ I64ok t.c
def useOf (t : T3) : Use := ⟨pickI t.b 24, pickI t.a 100, pickI t.a 100 + 1 + pickI t.c 40⟩
def madeL : List T3 → List Use → List Use
  | [], out => out
  | t :: r, out => madeL r (if validU (out ++ [useOf t]) then out ++ [useOf t] else out)
def madeP (x : List T3) : List Use := madeL (x.take 14) []
theorem madeL_cons (t : T3) (r : List T3) (out : List Use) : madeL (t :: r) out = madeL r (if validU (out ++ [useOf t]) then out ++ [useOf t] else out) := by rw [madeL]
theorem info_useR : (Try.prog.info? 26).map (fun i => (i.zero, i.size, i.bytes)) = some (some (.agg #[.int .i64 0, .int .i64 0, .int .i64 0]), 3, 24) := by kernel_rfl
/-- A row of one's own holds these uses. -/
def OwnU (W : World) (b : Nat) (v : Value) (l : List Use) : Prop := W.ownsRow b 26 3 v l.length (l.flatMap useCells)
theorem OwnU.ext {W W' : World} {b : Nat} {v : Value} {l : List Use} (h : OwnU W b v l) (hx : Ext W W') : OwnU W' b v l := own_ext h hx
theorem run_append_none {P : Program} (w : World) (t ty e : TypeId) (i : TypeInfo) (ht : P.underlying t = some (.slice e)) (hi : P.info? e = some i) (b : Addr) (n c : Nat) (hn : n ≤ c) (A : Option Addr) (c' : Nat) :
    (Builtin.append_ #[t, t] ty #[.slice (some b) n c, .slice A 0 c']).run P w = .ok (.slice (some b) n c) w := by
  cases A <;> simp [Builtin.append_, run_underlying ht, sizeOf, typeInfo, hi, Builtin.lenOf, Builtin.firstCells, hn, storeCells, loadCells, loadCellsFrom]
/-- A list is copied behind an empty one. -/
theorem copy_use {w : World} (ty : TypeId) (xs : List Use) (b gx n c : Nat) (A : Option Addr) (B0 : Nat) (jx : Blk w gx 26 #[]) (hg : B0 ≤ gx) (hn : n ≤ 900) (hx : RA useCells 3 w b A n c xs) :
    ∃ v' w', (Builtin.append_ #[27, 27] ty #[.slice (some ⟨gx, 0, none⟩) 0 0, .slice A n c]).run Try.prog w = .ok v' w' ∧ Ext w w' ∧ OwnU w' B0 v' xs := by
  obtain ⟨i0, hi0, hz0, hz1, hz2⟩ := info_parts info_useR
  have hl := hx.len
  have hlt := jx.lt
  rcases Nat.eq_zero_or_pos n with h0 | h0
  · subst h0
    obtain rfl : xs = [] := List.eq_nil_of_length_eq_zero hl
    exact ⟨_, _, run_append_none w _ _ _ i0 Try.underlying27 hi0 ⟨gx, 0, none⟩ 0 0 (Nat.le_refl _) A c, Ext.refl _, rfl, .inr ⟨gx, 0, #[], rfl, hg, jx, Nat.le_refl _, by unfold maxLen; omega, rfl, rfl⟩⟩
  · obtain ⟨b', o, rfl, hb, hc⟩ := hx.rd.2 h0
    obtain ⟨v', w', h1, h2, h3⟩ := run_append_arg_grows (P := Try.prog) (w := w) 27 ty 26 i0 _ 3 24 Try.underlying27 hi0 hz0 hz1 hz2 rfl (by omega) ⟨gx, 0, none⟩ 0 0 [] rfl (fun j u hu => by simp at hu) ⟨b', o, none⟩ n c _ hx.rd.1 (fun j u hu => by rw [Addr.add_lit]; exact hc j u hu) (by omega) (by unfold maxLen; omega) (by omega)
    refine ⟨v', w', h1, ⟨h3.os, h3.tape, h3.output, h3.size, fun k hk => h3.block k hk (by simp)⟩, ?_⟩
    unfold OwnU
    rw [hl]
    rw [Nat.zero_add, List.nil_append] at h2
    exact own_base h2 (by omega)
/-- One use more. -/
theorem snoc_use {w : World} (ty : TypeId) (xs : List Use) (v : Value) (x : Use) (base gx : Nat) (jx : Blk w gx 26 (useCells x).toArray) (hx : OwnU w base v xs) (hn : xs.length ≤ 900) (hb : base ≤ w.heap.size) :
    ∃ v' w', (Builtin.append_ #[27, 27] ty #[v, .slice (some ⟨gx, 0, none⟩) 1 1]).run Try.prog w = .ok v' w' ∧ w.grownBy w' v.ownBlock ∧ OwnU w' base v' (xs ++ [x]) := by
  obtain ⟨i0, hi0, hz0, hz1, hz2⟩ := info_parts info_useR
  obtain ⟨v2, W7, hr, hrow2, hg2, -⟩ := run_append_own (P := Try.prog) w base 27 ty 26 i0 _ 3 24 Try.underlying27 hi0 hz0 hz1 hz2 rfl (by omega) _ _ _ hx ⟨gx, 0, none⟩ 1 1 (useCells x) rfl (by intro i u hu; rw [Addr.add_lit, Nat.zero_add, jx.cell]; simpa using hu) (by simp [useCells, Value.oneCell']) (by unfold maxLen; omega) (by omega) hb
  refine ⟨v2, W7, hr, hg2, ?_⟩
  unfold OwnU
  rw [List.length_append, List.flatMap_append]
  simpa [useCells] using hrow2
theorem OwnU.far {W : World} {b : Nat} {v : Value} {l : List Use} (h : OwnU W b v l) {p : Addr} (hp : ∀ q, v.ownBlock = some q → q ≠ p.block) (u : Value) : OwnU (W.setCell p u) b v l := by
  refine ⟨h.1, ?_⟩
  rcases h.2 with hn | ⟨g, cap, cur, rfl, hb, hgg, r⟩
  · exact .inl hn
  · exact .inr ⟨g, cap, cur, rfl, hb, (Below.heap_setCell W p u g (hp g rfl)).trans hgg, r⟩
theorem Blk.set3 {w : World} {g : Nat} {t : TypeId} {a0 a1 a2 : Value} (h : Blk w g t #[a0, a1, a2]) (b0 b1 b2 : Value) :
    Blk (((w.setCell ⟨g, 0, none⟩ b0).setCell ⟨g, 1, none⟩ b1).setCell ⟨g, 2, none⟩ b2) g t #[b0, b1, b2] := by
  have k := ((h.set_ 0 b0).set_ 1 b1).set_ 2 b2
  simp only [List.setIfInBounds_toArray, List.set_cons_zero, List.set_cons_succ] at k
  exact k
theorem madeL_len (l : List T3) (out : List Use) : (madeL l out).length ≤ out.length + l.length := by
  induction l generalizing out with
  | nil => simp [madeL]
  | cons t r ih =>
    rw [madeL_cons]
    refine Nat.le_trans (ih _) ?_
    split <;> simp <;> omega

set_option maxRecDepth 100000 in
set_option maxHeartbeats 8000000 in
theorem made_any (x : List T3) (XA : Option Addr) (n c : Nat) (w : World) (hr : RA t3Cells 3 w w.heap.size XA n c x) (hok : ∀ t ∈ x, t.ok) :
    Calls Try.prog 11 #[.slice XA n c] w (ListRet useCells 3 26 (madeP x) w) := by
  have hle := hr.le
  have HR := Lib.hid hr
  have HL := Lib.hid hr.len
  have HOK := Lib.hid hok
  obtain ⟨fin, hfin⟩ : ∃ f, f = madeP x := ⟨_, rfl⟩
  rw [← hfin]
  obtain ⟨m, hm⟩ : ∃ m, m = min n 14 := ⟨_, rfl⟩
  have HF0 : Hid (fin = madeL ((x.take 14).drop 0) []) := Lib.hid hfin
  have hm14 : m ≤ 14 := by omega
  have hmn : m ≤ n := by omega
  have HM : Hid (m = n ∨ m = 14) := Lib.hid (by omega)
  have HTL : Hid ((x.take 14).length = m) := Lib.hid (by rw [List.length_take, hr.len]; omega)
  clear hr hok hfin hm
  go_enter Try.func11, Try.ntmps11
  go_wp2
  go_loopw [3, 4] (fun y z wr => ∃ (k : Nat) (out : List Use), k ≤ m ∧ z = .int .i64 k ∧ Hid (fin = madeL ((x.take 14).drop k) out) ∧ Hid (OwnU wr w.heap.size y out) ∧ out.length ≤ k ∧ Ext w wr) (fun _ z _ => m - (intOf z).toNat)
  case atStart => exact ⟨0, [], Nat.zero_le _, rfl, HF0, Lib.hid (World.ownsRow_nil _ _ _ _), Nat.le_refl _, Ext.refl _⟩
  case round =>
    clear HF0
    obtain ⟨k, out, hk, rfl, HF, HO, hol, hx⟩ := hrel
    by_cases hkm : k < m
    · obtain ⟨b, o, hz, hA, _, hc⟩ := (HR.out.below hx).at_ t3_len (show k < n by omega)
      have hzt : k < (x.take 14).length := by rw [HTL.out]; exact hkm
      have hfi := HF.out
      rw [List.drop_eq_getElem_cons hzt, madeL_cons, List.getElem_take] at hfi
      have hokk := HOK.out x[k] (List.getElem_mem hz)
      generalize x[k] = t at hfi hokk hc
      obtain ⟨ta, tb, tc⟩ := t
      obtain ⟨oka, okb, okc⟩ := hokk
      dsimp only at oka okb okc
      have c0 : wr.cell? ⟨b, o + k * 3, none⟩ = some (.int .i64 ta) := hc 0 (by omega)
      have c1 : wr.cell? ⟨b, o + k * 3 + 1, none⟩ = some (.int .i64 tb) := hc 1 (by omega)
      have c2 : wr.cell? ⟨b, o + k * 3 + 2, none⟩ = some (.int .i64 tc) := hc 2 (by omega)
      have hu : useOf ⟨ta, tb, tc⟩ = ⟨pickI tb 24, pickI ta 100, pickI ta 100 + 1 + pickI tc 40⟩ := rfl
      rw [hu] at hfi
      have hp0 := fun W => pickr_any ta 100 W oka.1 oka.2 (by omega) (by omega)
      have hp1 := fun W => pickr_any tb 24 W okb.1 okb.2 (by omega) (by omega)
      have hp2 := fun W => pickr_any tc 40 W okc.1 okc.2 (by omega) (by omega)
      have hb0 := pickI_bd ta 100 (by omega)
      have hb1 := pickI_bd tb 24 (by omega)
      have hb2 := pickI_bd tc 40 (by omega)
      generalize pickI ta 100 = p0 at hfi hp0 hb0
      generalize pickI tb 24 = p1 at hfi hp1 hb1
      generalize pickI tc 40 = p2 at hfi hp2 hb2
      obtain ⟨hb0a, hb0b⟩ := hb0
      obtain ⟨hb1a, hb1b⟩ := hb1
      obtain ⟨hb2a, hb2b⟩ := hb2
      have HP0 := Lib.hid hp0
      have HP1 := Lib.hid hp1
      have HP2 := Lib.hid hp2
      have HFI := Lib.hid hfi
      have hw1 : IntKind.i64.wrap (p0 + 1) = p0 + 1 := IntWalk.i64_in _ (by omega)
      have hw2 : IntKind.i64.wrap (p0 + 1 + p2) = p0 + 1 + p2 := IntWalk.i64_in _ (by omega)
      have hkn1 : (k : Int) < (n : Int) := by omega
      have hkn2 : (k : Int) < 14 := by omega
      subst hA
      clear hfi hc hz hzt hu hp0 hp1 hp2 HF
      go_upto_region 6 with (fail)
      refine (HP0.out _).mono ?_
      rintro e w2 ⟨rfl, rfl⟩
      clear HP0 c0
      go_upto_region 6 with (fail)
      obtain ⟨W3, hW3⟩ : ∃ W, W = wr := ⟨_, rfl⟩
      rw [← hW3] at hx HO c1 c2 ⊢
      clear hW3
      refine wp_region_obl 19 (fun ix vals v w1 => match ix with | 0 => v = .slice (some ⟨b, o, none⟩) n c | 1 => v = .int .i64 k | 2 => v = .pointer (some ⟨b, o + k * 3, none⟩) | 3 => v = .pointer (some ⟨b, o + k * 3 + 1, none⟩) | 4 => v = .int .i64 tb | 5 => v = .int .i64 p1 | 6 => v = .int .i64 p0 | 7 => v = .int .i64 p0 | 8 => v = .int .i64 (p0 + 1) | 9 => v = .slice (some ⟨b, o, none⟩) n c | 10 => v = .int .i64 k | 11 => v = .pointer (some ⟨b, o + k * 3, none⟩) | 12 => v = .pointer (some ⟨b, o + k * 3 + 2, none⟩) | 13 => v = .int .i64 tc | 14 => v = .int .i64 p2 | 15 => v = .int .i64 (p0 + 1 + p2) | 16 => v = .agg #[.int .i64 p0, .int .i64 (p0 + 1 + p2)] | 17 => v = .agg #[.int .i64 p1, .int .i64 p0, .int .i64 (p0 + 1 + p2)] | _ => ∃ g, v = .pointer (some ⟨g, 0, none⟩) ∧ W3.heap.size ≤ g ∧ Blk w1 g 26 #[.int .i64 0, .int .i64 0, .int .i64 0]) (by kernel_rfl) (by kernel_rfl) ?_ ?_ ?_ ?_
      · intro ix vals v w1 w2 hi hr hx
        match ix, hr with
        | 0, hr => exact hr
        | 1, hr => exact hr
        | 2, hr => exact hr
        | 3, hr => exact hr
        | 4, hr => exact hr
        | 5, hr => exact hr
        | 6, hr => exact hr
        | 7, hr => exact hr
        | 8, hr => exact hr
        | 9, hr => exact hr
        | 10, hr => exact hr
        | 11, hr => exact hr
        | 12, hr => exact hr
        | 13, hr => exact hr
        | 14, hr => exact hr
        | 15, hr => exact hr
        | 16, hr => exact hr
        | 17, hr => exact hr
        | (kx + 18), hr => obtain ⟨g, h1, h2, h3⟩ := hr; exact ⟨g, h1, h2, h3.ext hx⟩
      · intro ix vals vals_ v w1 hi hv hr
        exact hr
      · refine obls_ofT [some 23, some 24, some 25, some 26, some 27, some 28, some 29, some 30, some 31, some 32, some 33, some 34, some 35, some 36, some 37, some 38, some 39, some 40, some 6, none] [(0, .slice (some ⟨b, o, none⟩) n c), (4, .int .i64 k), (5, .int .i64 p0)] 53 (by kernel_rfl) (by kernel_rfl) ⟨by kernel_rfl, by kernel_rfl, by kernel_rfl, trivial⟩ ?_
        refine ⟨?_, ?_, ?_, ?_, ?_, ?_, ?_, ?_, ?_, ?_, ?_, ?_, ?_, ?_, ?_, ?_, ?_, ?_, ?_, trivial⟩
        · intro vals w1 hx hd
          refine .run [(0, .slice (some ⟨b, o, none⟩) n c)] { dst := some 0, op := Go.Op.move (Go.Operand.const (.slice (some ⟨b, o, none⟩) n c)), type := 22, pos := "", after := #[], guard := none } 23 ⟨.out (by kernel_rfl) (by kernel_rfl), trivial⟩ (by kernel_rfl) (by kernel_rfl) (by kernel_rfl) rfl rfl rfl ?_
          clear hd
          go_wp2
          exact ⟨rfl, Ext.refl _, rfl⟩
        · intro vals w1 hx hd
          refine .run [(4, .int .i64 k)] { dst := some 0, op := Go.Op.move (Go.Operand.const (.int .i64 k)), type := 3, pos := "", after := #[], guard := none } 24 ⟨.out (by kernel_rfl) (by kernel_rfl), trivial⟩ (by kernel_rfl) (by kernel_rfl) (by kernel_rfl) rfl rfl rfl ?_
          clear hd
          go_wp2
          exact ⟨rfl, Ext.refl _, rfl⟩
        · intro vals w1 hx hd
          have e0 : vals 0 = .slice (some ⟨b, o, none⟩) n c := hd 0 (by decide)
          have e1 : vals 1 = .int .i64 k := hd 1 (by decide)
          refine .run [(23, .slice (some ⟨b, o, none⟩) n c), (24, .int .i64 k)] { dst := some 0, op := Go.Op.indexAddr 22 (Go.Operand.const (.slice (some ⟨b, o, none⟩) n c)) (Go.Operand.const (.int .i64 k)), type := 0, pos := "", after := #[], guard := none } 25 ⟨.inn 0 (by kernel_rfl) e0, .inn 1 (by kernel_rfl) e1, trivial⟩ (by kernel_rfl) (by kernel_rfl) (by kernel_rfl) rfl rfl rfl ?_
          clear hd e0 e1
          go_wp2
          exact ⟨rfl, Ext.refl _, rfl⟩
        · intro vals w1 hx hd
          have e2 : vals 2 = .pointer (some ⟨b, o + k * 3, none⟩) := hd 2 (by decide)
          refine .run [(25, .pointer (some ⟨b, o + k * 3, none⟩))] { dst := some 0, op := Go.Op.indexAddr 77 (Go.Operand.const (.pointer (some ⟨b, o + k * 3, none⟩))) (Go.Operand.const (Go.Value.int Go.IntKind.i64 1)), type := 0, pos := "", after := #[], guard := none } 26 ⟨.inn 2 (by kernel_rfl) e2, trivial⟩ (by kernel_rfl) (by kernel_rfl) (by kernel_rfl) rfl rfl rfl ?_
          clear hd e2
          go_wp2
          exact ⟨rfl, Ext.refl _, rfl⟩
        · intro vals w1 hx hd
          have e3 : vals 3 = .pointer (some ⟨b, o + k * 3 + 1, none⟩) := hd 3 (by decide)
          refine .run [(26, .pointer (some ⟨b, o + k * 3 + 1, none⟩))] { dst := some 0, op := Go.Op.load 3 (Go.Operand.const (.pointer (some ⟨b, o + k * 3 + 1, none⟩))), type := 3, pos := "", after := #[], guard := none } 27 ⟨.inn 3 (by kernel_rfl) e3, trivial⟩ (by kernel_rfl) (by kernel_rfl) (by kernel_rfl) rfl rfl rfl ?_
          clear hd e3
          have c1 := ext_cell hx c1
          go_wp2
          exact ⟨rfl, Ext.refl _, rfl⟩
        · intro vals w1 hx hd
          have e4 : vals 4 = .int .i64 tb := hd 4 (by decide)
          refine .run [(27, .int .i64 tb)] { dst := some 0, op := Go.Op.call { callee := Go.Callee.value (Go.Operand.func 34), args := #[(Go.Operand.const (.int .i64 tb)), Go.Operand.const (Go.Value.int Go.IntKind.i64 24)], argTypes := #[3, 3] }, type := 3, pos := "", after := #[], guard := none } 28 ⟨.inn 4 (by kernel_rfl) e4, trivial⟩ (by kernel_rfl) (by kernel_rfl) (by kernel_rfl) rfl rfl rfl ?_
          clear hd e4
          go_wp2_with (fail)
          refine (HP1.out _).mono ?_
          rintro e w2 ⟨rfl, rfl⟩
          go_wp2
          exact ⟨rfl, Ext.refl _, rfl⟩
        · intro vals w1 hx hd
          refine .run [(5, .int .i64 p0)] { dst := some 0, op := Go.Op.move (Go.Operand.const (.int .i64 p0)), type := 3, pos := "", after := #[], guard := none } 29 ⟨.out (by kernel_rfl) (by kernel_rfl), trivial⟩ (by kernel_rfl) (by kernel_rfl) (by kernel_rfl) rfl rfl rfl ?_
          clear hd
          go_wp2
          exact ⟨rfl, Ext.refl _, rfl⟩
        · intro vals w1 hx hd
          refine .run [(5, .int .i64 p0)] { dst := some 0, op := Go.Op.move (Go.Operand.const (.int .i64 p0)), type := 3, pos := "", after := #[], guard := none } 30 ⟨.out (by kernel_rfl) (by kernel_rfl), trivial⟩ (by kernel_rfl) (by kernel_rfl) (by kernel_rfl) rfl rfl rfl ?_
          clear hd
          go_wp2
          exact ⟨rfl, Ext.refl _, rfl⟩
        · intro vals w1 hx hd
          have e7 : vals 7 = .int .i64 p0 := hd 7 (by decide)
          refine .run [(30, .int .i64 p0)] { dst := some 0, op := Go.Op.binOp Go.BinOp.add 3 (Go.Operand.const (.int .i64 p0)) (Go.Operand.const (Go.Value.int Go.IntKind.i64 1)) 3, type := 3, pos := "", after := #[], guard := none } 31 ⟨.inn 7 (by kernel_rfl) e7, trivial⟩ (by kernel_rfl) (by kernel_rfl) (by kernel_rfl) rfl rfl rfl ?_
          clear hd e7
          go_wp2
          exact ⟨rfl, Ext.refl _, rfl⟩
        · intro vals w1 hx hd
          refine .run [(0, .slice (some ⟨b, o, none⟩) n c)] { dst := some 0, op := Go.Op.move (Go.Operand.const (.slice (some ⟨b, o, none⟩) n c)), type := 22, pos := "", after := #[], guard := none } 32 ⟨.out (by kernel_rfl) (by kernel_rfl), trivial⟩ (by kernel_rfl) (by kernel_rfl) (by kernel_rfl) rfl rfl rfl ?_
          clear hd
          go_wp2
          exact ⟨rfl, Ext.refl _, rfl⟩
        · intro vals w1 hx hd
          refine .run [(4, .int .i64 k)] { dst := some 0, op := Go.Op.move (Go.Operand.const (.int .i64 k)), type := 3, pos := "", after := #[], guard := none } 33 ⟨.out (by kernel_rfl) (by kernel_rfl), trivial⟩ (by kernel_rfl) (by kernel_rfl) (by kernel_rfl) rfl rfl rfl ?_
          clear hd
          go_wp2
          exact ⟨rfl, Ext.refl _, rfl⟩
        · intro vals w1 hx hd
          have e9 : vals 9 = .slice (some ⟨b, o, none⟩) n c := hd 9 (by decide)
          have e10 : vals 10 = .int .i64 k := hd 10 (by decide)
          refine .run [(32, .slice (some ⟨b, o, none⟩) n c), (33, .int .i64 k)] { dst := some 0, op := Go.Op.indexAddr 22 (Go.Operand.const (.slice (some ⟨b, o, none⟩) n c)) (Go.Operand.const (.int .i64 k)), type := 0, pos := "", after := #[], guard := none } 34 ⟨.inn 9 (by kernel_rfl) e9, .inn 10 (by kernel_rfl) e10, trivial⟩ (by kernel_rfl) (by kernel_rfl) (by kernel_rfl) rfl rfl rfl ?_
          clear hd e9 e10
          go_wp2
          exact ⟨rfl, Ext.refl _, rfl⟩
        · intro vals w1 hx hd
          have e11 : vals 11 = .pointer (some ⟨b, o + k * 3, none⟩) := hd 11 (by decide)
          refine .run [(34, .pointer (some ⟨b, o + k * 3, none⟩))] { dst := some 0, op := Go.Op.indexAddr 77 (Go.Operand.const (.pointer (some ⟨b, o + k * 3, none⟩))) (Go.Operand.const (Go.Value.int Go.IntKind.i64 2)), type := 0, pos := "", after := #[], guard := none } 35 ⟨.inn 11 (by kernel_rfl) e11, trivial⟩ (by kernel_rfl) (by kernel_rfl) (by kernel_rfl) rfl rfl rfl ?_
          clear hd e11
          go_wp2
          exact ⟨rfl, Ext.refl _, rfl⟩
        · intro vals w1 hx hd
          have e12 : vals 12 = .pointer (some ⟨b, o + k * 3 + 2, none⟩) := hd 12 (by decide)
          refine .run [(35, .pointer (some ⟨b, o + k * 3 + 2, none⟩))] { dst := some 0, op := Go.Op.load 3 (Go.Operand.const (.pointer (some ⟨b, o + k * 3 + 2, none⟩))), type := 3, pos := "", after := #[], guard := none } 36 ⟨.inn 12 (by kernel_rfl) e12, trivial⟩ (by kernel_rfl) (by kernel_rfl) (by kernel_rfl) rfl rfl rfl ?_
          clear hd e12
          have c2 := ext_cell hx c2
          go_wp2
          exact ⟨rfl, Ext.refl _, rfl⟩
        · intro vals w1 hx hd
          have e13 : vals 13 = .int .i64 tc := hd 13 (by decide)
          refine .run [(36, .int .i64 tc)] { dst := some 0, op := Go.Op.call { callee := Go.Callee.value (Go.Operand.func 34), args := #[(Go.Operand.const (.int .i64 tc)), Go.Operand.const (Go.Value.int Go.IntKind.i64 40)], argTypes := #[3, 3] }, type := 3, pos := "", after := #[], guard := none } 37 ⟨.inn 13 (by kernel_rfl) e13, trivial⟩ (by kernel_rfl) (by kernel_rfl) (by kernel_rfl) rfl rfl rfl ?_
          clear hd e13
          go_wp2_with (fail)
          refine (HP2.out _).mono ?_
          rintro e w2 ⟨rfl, rfl⟩
          go_wp2
          exact ⟨rfl, Ext.refl _, rfl⟩
        · intro vals w1 hx hd
          have e8 : vals 8 = .int .i64 (p0 + 1) := hd 8 (by decide)
          have e14 : vals 14 = .int .i64 p2 := hd 14 (by decide)
          refine .run [(31, .int .i64 (p0 + 1)), (37, .int .i64 p2)] { dst := some 0, op := Go.Op.binOp Go.BinOp.add 3 (Go.Operand.const (.int .i64 (p0 + 1))) (Go.Operand.const (.int .i64 p2)) 3, type := 3, pos := "", after := #[], guard := none } 38 ⟨.inn 8 (by kernel_rfl) e8, .inn 14 (by kernel_rfl) e14, trivial⟩ (by kernel_rfl) (by kernel_rfl) (by kernel_rfl) rfl rfl rfl ?_
          clear hd e8 e14
          go_wp2
          exact ⟨rfl, Ext.refl _, rfl⟩
        · intro vals w1 hx hd
          have e6 : vals 6 = .int .i64 p0 := hd 6 (by decide)
          have e15 : vals 15 = .int .i64 (p0 + 1 + p2) := hd 15 (by decide)
          refine .run [(29, .int .i64 p0), (38, .int .i64 (p0 + 1 + p2))] { dst := some 0, op := Go.Op.build 24 #[(0, (Go.Operand.const (.int .i64 p0))), (1, (Go.Operand.const (.int .i64 (p0 + 1 + p2))))], type := 24, pos := "", after := #[], guard := none } 39 ⟨.inn 6 (by kernel_rfl) e6, .inn 15 (by kernel_rfl) e15, trivial⟩ (by kernel_rfl) (by kernel_rfl) (by kernel_rfl) rfl rfl rfl ?_
          clear hd e6 e15
          go_wp2
          exact ⟨rfl, Ext.refl _, rfl⟩
        · intro vals w1 hx hd
          have e5 : vals 5 = .int .i64 p1 := hd 5 (by decide)
          have e16 : vals 16 = .agg #[.int .i64 p0, .int .i64 (p0 + 1 + p2)] := hd 16 (by decide)
          refine .run [(28, .int .i64 p1), (39, .agg #[.int .i64 p0, .int .i64 (p0 + 1 + p2)])] { dst := some 0, op := Go.Op.build 26 #[(0, (Go.Operand.const (.int .i64 p1))), (1, (Go.Operand.const (.agg #[.int .i64 p0, .int .i64 (p0 + 1 + p2)])))], type := 26, pos := "", after := #[], guard := none } 40 ⟨.inn 5 (by kernel_rfl) e5, .inn 16 (by kernel_rfl) e16, trivial⟩ (by kernel_rfl) (by kernel_rfl) (by kernel_rfl) rfl rfl rfl ?_
          clear hd e5 e16
          go_wp2
          exact ⟨rfl, Ext.refl _, rfl⟩
        · intro vals w1 hx hd
          refine .run [] { dst := some 0, op := Go.Op.alloc 26, type := 0, pos := "", after := #[], guard := none } 6 trivial (by kernel_rfl) (by kernel_rfl) (by kernel_rfl) rfl rfl rfl ?_
          clear hd
          have hz9 := Below.size hx.undrew
          go_wp2
          exact ⟨rfl, (by repeat (first | exact Below.refl _ _ | assumption | refine Below.drew ?_ | refine below_drewN ?_ _ | refine bl_alloc ?_ _ | refine Below.setCell ?_ (by first | (simp; done) | omega | (simp; omega)) _ | refine bl_then ?_ (by assumption))), _, rfl, by omega, Blk.new _ _ _⟩
      intro vals W4 hy hf
      have e17 : vals 17 = .agg #[.int .i64 p1, .int .i64 p0, .int .i64 (p0 + 1 + p2)] := hf 17 (by omega)
      obtain ⟨g6, e18, hg6, J6⟩ : ∃ g, vals 18 = .pointer (some ⟨g, 0, none⟩) ∧ W3.heap.size ≤ g ∧ Blk W4 g 26 #[.int .i64 0, .int .i64 0, .int .i64 0] := hf 18 (by omega)
      have hy := hy.undrew
      clear hf c1 c2 HP1 HP2
      have hx4 := Ext.trans hx hy
      have HO4 := Lib.hid (HO.out.ext hy)
      have hne6 : ∀ q, u3.ownBlock = some q → q ≠ g6 := fun q e => by have := (World.ownsRow.lt HO.out q e).2; omega
      have hw6 : w.heap.size ≤ g6 := Nat.le_trans (Below.size hx) hg6
      refine tail1 19 _ (by kernel_rfl) (by kernel_rfl) rfl ?_
      simp only [Lf, dstAt, Act.put, List.getElem?_toArray, List.getElem?_cons_zero, List.getElem?_cons_succ, Option.bind_some, List.setIfInBounds_toArray, List.set_cons_zero, List.set_cons_succ]
      rw [e17, e18]
      clear e17 e18 hy HO hg6
      have f0 : W4.frozen? ⟨g6, 0, none⟩ = false := J6.frozen 0
      have f1 : W4.frozen? ⟨g6, 1, none⟩ = false := J6.frozen 1
      have f2 : W4.frozen? ⟨g6, 2, none⟩ = false := J6.frozen 2
      have c0 : W4.cell? ⟨g6, 0, none⟩ = some (.int .i64 0) := J6.cell 0
      have c1 : W4.cell? ⟨g6, 1, none⟩ = some (.int .i64 0) := J6.cell 1
      have c2 : W4.cell? ⟨g6, 2, none⟩ = some (.int .i64 0) := J6.cell 2
      go_upto_region 7 with (fail)
      have J7 := J6.set3 (.int .i64 p1) (.int .i64 p0) (.int .i64 (p0 + 1 + p2))
      have hO7 := ((HO4.out.far (p := ⟨g6, 0, none⟩) hne6 (.int .i64 p1)).far (p := ⟨g6, 1, none⟩) hne6 (.int .i64 p0)).far (p := ⟨g6, 2, none⟩) hne6 (.int .i64 (p0 + 1 + p2))
      have hx5 := ((hx4.setCell (p := ⟨g6, 0, none⟩) hw6 (.int .i64 p1)).setCell (p := ⟨g6, 1, none⟩) hw6 (.int .i64 p0)).setCell (p := ⟨g6, 2, none⟩) hw6 (.int .i64 (p0 + 1 + p2))
      generalize ((W4.setCell ⟨g6, 0, none⟩ (.int .i64 p1)).setCell ⟨g6, 1, none⟩ (.int .i64 p0)).setCell ⟨g6, 2, none⟩ (.int .i64 (p0 + 1 + p2)) = W5 at J7 hO7 hx5 ⊢
      clear f0 f1 f2 c0 c1 c2 HO4 J6 hne6 hx4
      generalize p0 + 1 + p2 = pt at HFI J7 ⊢
      obtain ⟨A3, c3, hv3, _, _⟩ := own_slice hO7
      subst hv3
      have HO5 := Lib.hid hO7
      have c0 : W5.cell? ⟨g6, 0, none⟩ = some (.int .i64 p1) := J7.cell 0
      have c1 : W5.cell? ⟨g6, 1, none⟩ = some (.int .i64 p0) := J7.cell 1
      have c2 : W5.cell? ⟨g6, 2, none⟩ = some (.int .i64 pt) := J7.cell 2
      have HJ7 := Lib.hid J7
      clear hO7 J7
      refine wp_region_obl 5 (fun ix vals v w1 => match ix with | 0 => ∃ g, v = .slice (some ⟨g, 0, none⟩) 0 0 ∧ W5.heap.size ≤ g ∧ Blk w1 g 26 #[] | 1 => v = .slice A3 out.length c3 | 2 => OwnU w1 W5.heap.size v out | 3 => v = .agg #[.int .i64 p1, .int .i64 p0, .int .i64 pt] | _ => ∃ gx, v = .slice (some ⟨gx, 0, none⟩) 1 1 ∧ Blk w1 gx 26 #[.int .i64 p1, .int .i64 p0, .int .i64 pt]) (by kernel_rfl) (by kernel_rfl) ?_ ?_ ?_ ?_
      · intro ix vals v w1 w2 hi hr hx
        match ix, hr with
        | 0, hr => obtain ⟨g, h1, h2, h3⟩ := hr; exact ⟨g, h1, h2, h3.ext hx⟩
        | 1, hr => exact hr
        | 2, hr => exact hr.ext hx
        | 3, hr => exact hr
        | (kx + 4), hr => obtain ⟨gx, h1, h2⟩ := hr; exact ⟨gx, h1, h2.ext hx⟩
      · intro ix vals vals_ v w1 hi hv hr
        exact hr
      · refine obls_ofT [some 41, some 42, some 43, some 44, some 45, some 46, some 47] [(3, .slice A3 out.length c3), (6, .pointer (some ⟨g6, 0, none⟩))] 53 (by kernel_rfl) (by kernel_rfl) ⟨by kernel_rfl, by kernel_rfl, trivial⟩ ?_
        refine ⟨?_, ?_, ?_, ?_, ?_, trivial⟩
        · intro vals w1 hx hd
          refine .run [] { dst := some 0, op := Go.Op.buildSlice 27 0 #[], type := 27, pos := "", after := #[], guard := none } 41 trivial (by kernel_rfl) (by kernel_rfl) (by kernel_rfl) rfl rfl rfl ?_
          clear hd
          have hz9 := Below.size hx.undrew
          go_wp2
          exact ⟨rfl, (by repeat (first | exact Below.refl _ _ | assumption | refine Below.drew ?_ | refine below_drewN ?_ _ | refine bl_alloc ?_ _ | refine Below.setCell ?_ (by first | (simp; done) | omega | (simp; omega)) _ | refine bl_then ?_ (by assumption))), _, rfl, by omega, Blk.new _ _ _⟩
        · intro vals w1 hx hd
          refine .run [(3, .slice A3 out.length c3)] { dst := some 0, op := Go.Op.move (Go.Operand.const (.slice A3 out.length c3)), type := 27, pos := "", after := #[], guard := none } 42 ⟨.out (by kernel_rfl) (by kernel_rfl), trivial⟩ (by kernel_rfl) (by kernel_rfl) (by kernel_rfl) rfl rfl rfl ?_
          clear hd
          go_wp2
          exact ⟨rfl, Ext.refl _, rfl⟩
        · intro vals w1 hx hd
          have r0 : (fun v w1 => ∃ g, v = .slice (some ⟨g, 0, none⟩) 0 0 ∧ W5.heap.size ≤ g ∧ Blk w1 g 26 #[]) (vals 0) w1 := hd 0 (by decide)
          dsimp only at r0
          obtain ⟨g0, e_0, hg0, j0⟩ := r0
          have e1 : vals 1 = .slice A3 out.length c3 := hd 1 (by decide)
          refine .run [(41, .slice (some ⟨g0, 0, none⟩) 0 0), (42, .slice A3 out.length c3)] { dst := some 0, op := Go.Op.call { callee := Go.Callee.builtin Go.Builtin.append, args := #[(Go.Operand.const (.slice (some ⟨g0, 0, none⟩) 0 0)), (Go.Operand.const (.slice A3 out.length c3))], argTypes := #[27, 27] }, type := 27, pos := "", after := #[], guard := none } 43 ⟨.inn 0 (by kernel_rfl) e_0, .inn 1 (by kernel_rfl) e1, trivial⟩ (by kernel_rfl) (by kernel_rfl) (by kernel_rfl) rfl rfl rfl ?_
          clear hd e_0 e1
          obtain ⟨v9, w9, hrun, hx9, ho9⟩ := copy_use 27 out w1.heap.size g0 out.length c3 A3 W5.heap.size j0 hg0 (by omega) ((RA.of_own (cells := useCells) (own_ext HO5.out hx.undrew) rfl (by omega)))
          refine wpList_append_run_ rfl _ _ _ rfl rfl rfl hrun ?_
          clear hrun
          go_wp2
          exact ⟨rfl, hx9, ho9⟩
        · intro vals w1 hx hd
          refine .run [(6, .pointer (some ⟨g6, 0, none⟩))] { dst := some 0, op := Go.Op.load 26 (Go.Operand.const (.pointer (some ⟨g6, 0, none⟩))), type := 26, pos := "", after := #[], guard := none } 44 ⟨.out (by kernel_rfl) (by kernel_rfl), trivial⟩ (by kernel_rfl) (by kernel_rfl) (by kernel_rfl) rfl rfl rfl ?_
          clear hd
          have c0 := ext_cell hx c0
          have c1 := ext_cell hx c1
          have c2 := ext_cell hx c2
          go_wp2
          exact ⟨rfl, Ext.refl _, rfl⟩
        · intro vals w1 hx hd
          have e3 : vals 3 = .agg #[.int .i64 p1, .int .i64 p0, .int .i64 pt] := hd 3 (by decide)
          refine .run [(44, .agg #[.int .i64 p1, .int .i64 p0, .int .i64 pt])] { dst := some 0, op := Go.Op.buildSlice 27 1 #[(0, (Go.Operand.const (.agg #[.int .i64 p1, .int .i64 p0, .int .i64 pt])))], type := 27, pos := "", after := #[], guard := none } 45 ⟨.inn 3 (by kernel_rfl) e3, trivial⟩ (by kernel_rfl) (by kernel_rfl) (by kernel_rfl) rfl rfl rfl ?_
          clear hd e3
          go_wp2
          exact ⟨rfl, (by repeat (first | exact Below.refl _ _ | assumption | refine Below.drew ?_ | refine below_drewN ?_ _ | refine bl_alloc ?_ _ | refine Below.setCell ?_ (by first | (simp; done) | omega | (simp; omega)) _ | refine bl_then ?_ (by assumption))), _, rfl, Blk.new _ _ _⟩
      intro vals W6 hy hf
      have h2 : OwnU W6 W5.heap.size (vals 2) out := hf 2 (by omega)
      obtain ⟨gx, e4, jx⟩ : ∃ gx, vals 4 = .slice (some ⟨gx, 0, none⟩) 1 1 ∧ Blk W6 gx 26 #[.int .i64 p1, .int .i64 p0, .int .i64 pt] := hf 4 (by omega)
      have hy := hy.undrew
      have hb65 := Below.size hy
      clear hf
      obtain ⟨v7, W7, hrun, hg7, h7⟩ := snoc_use 27 out (vals 2) ⟨p1, p0, pt⟩ W5.heap.size gx jx h2 (by omega) hb65
      have hx7 : Ext W5 W7 := hy.grown hg7 (Below.size hy) (fun q e => (World.ownsRow.lt h2 q e).1)
      obtain ⟨A7, c7, hv7, _, _⟩ := own_slice h7
      subst hv7
      have hra7 := RA.of_own (cells := useCells) h7 rfl (by simp; omega)
      have hxw7 := Ext.trans hx5 hx7
      have hrv := rvalid_any (out ++ [⟨p1, p0, pt⟩]) A7 (out ++ [(⟨p1, p0, pt⟩ : Use)]).length c7 W7 hra7
      have HO7 := Lib.hid (HO5.out.ext hx7)
      have HJ8 := Lib.hid (HJ7.out.ext hx7)
      have hfi := HFI.out
      obtain ⟨o2, ho2⟩ : ∃ o2, o2 = out ++ [(⟨p1, p0, pt⟩ : Use)] := ⟨_, rfl⟩
      have HO2 := Lib.hid ho2
      have hol2 : o2.length ≤ k + 1 := by rw [ho2, List.length_append]; simp; omega
      rw [← ho2] at hrv hfi hrun
      clear ho2 hra7 h7 hx7 h2 hg7 hy hb65 HO5 HJ7 hx5 c0 c1 c2 HFI
      generalize validU o2 = q at hrv hfi
      have HRV := Lib.hid hrv
      have HFI := Lib.hid hfi
      have HRUN := Lib.hid hrun
      clear hrv hfi hrun
      refine tailF 5 _ _ 1 (by kernel_rfl) rfl ?_ (fun a w q => tail1 6 _ (by kernel_rfl) (by kernel_rfl) rfl q)
      simp only [Lf, dstAt, Act.put, List.getElem?_toArray, List.getElem?_cons_zero, List.getElem?_cons_succ, Option.bind_some, List.setIfInBounds_toArray, List.set_cons_zero, List.set_cons_succ]
      rw [e4]
      clear e4
      refine wpList_append_run_ rfl _ _ _ rfl rfl rfl HRUN.out ?_
      clear HRUN
      go_wp2_with fail
      refine HRV.out.mono ?_
      rintro e W8 ⟨rfl, hy⟩
      have hx8 := Ext.trans hxw7 hy
      have HO8 := Lib.hid (HO7.out.ext hy)
      have HJ9 := Lib.hid (HJ8.out.ext hy)
      clear HRV hxw7 hy HO7 HJ8 jx
      cases q
      · have HN : Hid (fin = madeL ((x.take 14).drop (k + 1)) out) := Lib.hid HFI.out
        clear HFI
        go_wp2
        go_roundw
        case rel => exact ⟨k + 1, out, by omega, by go_num, HN, HO8, by omega, hx8⟩
        case measure => simp [intOf]; omega
      · have HN : Hid (fin = madeL ((x.take 14).drop (k + 1)) o2) := Lib.hid HFI.out
        clear HFI
        have d0 : W8.cell? ⟨g6, 0, none⟩ = some (.int .i64 p1) := HJ9.out.cell 0
        have d1 : W8.cell? ⟨g6, 1, none⟩ = some (.int .i64 p0) := HJ9.out.cell 1
        have d2 : W8.cell? ⟨g6, 2, none⟩ = some (.int .i64 pt) := HJ9.out.cell 2
        have hxa : Ext W8 (W8.alloc (.cells #[.int .i64 p1, .int .i64 p0, .int .i64 pt] 26)) := bl_alloc (Below.refl _ _) _
        obtain ⟨v9, W9, hrun, hg9, h9⟩ := snoc_use 27 out (.slice A3 out.length c3) ⟨p1, p0, pt⟩ w.heap.size W8.heap.size (Blk.new _ _ _) (HO8.out.ext hxa) (by omega) (Below.size (Ext.trans hx8 hxa))
        have hx9 : Ext w W9 := (Ext.trans hx8 hxa).grown hg9 (Below.size (Ext.trans hx8 hxa)) (fun q e => (World.ownsRow.lt HO8.out q e).1)
        rw [← HO2.out] at h9
        have HO9 := Lib.hid h9
        have HRUN := Lib.hid hrun
        clear hrun hg9 h9 HO8 HJ9 hxa hx8
        go_wp2_with (refine wpList_append_run_ rfl _ _ _ rfl rfl rfl HRUN.out ?_)
        clear HRUN
        go_roundw
        case rel => exact ⟨k + 1, o2, by omega, by go_num, HN, HO9, hol2, hx9⟩
        case measure => simp [intOf]; omega
    · have hfi := HF.out
      rw [List.drop_of_length_le (by rw [HTL.out]; omega), madeL] at hfi
      have HFN := Lib.hid hfi
      have hmm : m = n ∨ m = 14 := HM.out
      have hkk : ¬ (k : Int) < (n : Int) ∨ ¬ (k : Int) < 14 := by omega
      clear hfi HF hmm
      obtain ⟨A3, c3, hv3, _, _⟩ := own_slice HO.out
      subst hv3
      rcases hkk with hkk | hkk
      · go_wp2
        go_ret
        rw [HFN.out]
        exact ⟨_, rfl, HO.out, hx⟩
      · go_wp2
        all_goals (
          go_ret
          rw [HFN.out]
          exact ⟨_, rfl, HO.out, hx⟩)
end Go.Proofs.Ytgbfhkildbhhoaa
