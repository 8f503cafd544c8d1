/- Inputs that integers determine: passes, stations, lost sets. -/
import Derived.Test.YtmlabgmigakcbaaU1
import Derived.Test.YtmlabgmigakcbaaR9a
namespace Go.Proofs.Ytmlabgmigakcbaa
open Go.RowKit

def I64ok (n : Int) : Prop := -9223372036854775808 ≤ n ∧ n ≤ 9223372036854775807
theorem tdiv_ok {x n : Int} (h : I64ok x) (hn : 1 < n) : I64ok (x.tdiv n) ∧ IntKind.i64.wrap (x.tdiv n) = x.tdiv n := by
  have h1 : I64ok (x.tdiv n) := by
    obtain ⟨h1, h2⟩ := h
    have := Int.natAbs_tdiv_le_natAbs x n
    have : (x.tdiv n).natAbs ≤ x.natAbs := this
    by_cases hx : x.natAbs = 9223372036854775808
    · have e : (x.tdiv n).natAbs = x.natAbs / n.natAbs := Int.natAbs_tdiv x n
      have : x.natAbs / n.natAbs ≤ x.natAbs / 2 := Nat.div_le_div_left (by omega) (by omega)
      unfold I64ok
      omega
    · unfold I64ok
      omega
  exact ⟨h1, IntWalk.i64_in _ (by obtain ⟨h2, h3⟩ := h1; omega)⟩
structure Tri where
  a : Int
  b : Int
  c : Int
def triCells (t : Tri) : List Value := [.int .i64 t.a, .int .i64 t.b, .int .i64 t.c]
theorem tri_len (t : Tri) : (triCells t).length = 3 := rfl
def Tri.ok (t : Tri) : Prop := I64ok t.a ∧ I64ok t.b ∧ I64ok t.c
def passOf (a : Int) (t : Tri) : Pas := ⟨pickI t.b 3, pickI (t.b.tdiv 3) 3, ⟨a + 2, a + 8 + pickI t.c 20 - 2⟩, ⟨a, a + 8 + pickI t.c 20⟩⟩
def passL : Int → List Tri → List Pas
  | _, [] => []
  | a, t :: r => passOf (a + 1 + pickI t.a 700) t :: passL (a + 1 + pickI t.a 700) r
theorem passL_cons (a : Int) (t : Tri) (r : List Tri) : passL a (t :: r) = passOf (a + 1 + pickI t.a 700) t :: passL (a + 1 + pickI t.a 700) r := by rw [passL]
def passP (x : List Tri) : List Pas := passL 5 (x.take 12)
def OwnP (W : World) (b : Nat) (v : Value) (l : List Pas) : Prop := W.ownsRow b 98 6 v l.length (l.flatMap pasCells)
theorem OwnP.ext {W W' : World} {b : Nat} {v : Value} {l : List Pas} (h : OwnP W b v l) (hx : Ext W W') : OwnP W' b v l := own_ext h hx
theorem info_pas : (Try.prog.info? 98).map (fun i => (i.zero, i.size, i.bytes)) = some (some (.agg #[.int .i64 0, .int .i64 0, .int .i64 0, .int .i64 0, .int .i64 0, .int .i64 0]), 6, 48) := by kernel_rfl
theorem pass_size : (Try.prog.info? 98).map (·.size) = some 6 := by kernel_rfl
theorem pas_snoc {w : World} (ty : TypeId) (xs : List Pas) (v : Value) (x : Pas) (base gx : Nat) (jx : Blk w gx 98 (pasCells x).toArray) (hx : OwnP w base v xs) (hn : xs.length ≤ 900) (hb : base ≤ w.heap.size) :
    ∃ v' w', (Builtin.append_ #[37, 37] ty #[v, .slice (some ⟨gx, 0, none⟩) 1 1]).run Try.prog w = .ok v' w' ∧ w.grownBy w' v.ownBlock ∧ OwnP w' base v' (xs ++ [x]) := by
  obtain ⟨i0, hi0, hz0, hz1, hz2⟩ := info_parts info_pas
  obtain ⟨v2, W7, hr, hrow2, hg2, -⟩ := run_append_own (P := Try.prog) w base 37 ty 98 i0 _ 6 48 Try.underlying37 hi0 hz0 hz1 hz2 rfl (by omega) _ _ _ hx ⟨gx, 0, none⟩ 1 1 (pasCells x) rfl (by intro i u hu; rw [Addr.add_lit, Nat.zero_add, jx.cell]; simpa using hu) (by simp [pasCells, Value.oneCell']) (by unfold maxLen; omega) (by omega) hb
  refine ⟨v2, W7, hr, hg2, ?_⟩
  unfold OwnP
  rw [List.length_append, List.flatMap_append]
  simpa using hrow2

set_option maxRecDepth 100000 in
set_option maxHeartbeats 4000000 in
theorem passes_any (xs : List Tri) (XA : Option Addr) (n c : Nat) (w : World) (hr : RA triCells 3 w w.heap.size XA n c xs) (hok : ∀ t ∈ xs, t.ok) :
    Calls Try.prog 36 #[.slice XA n c] w fun e w' => ∃ v, e = .returned v ∧ OwnP w' w.heap.size v (passP xs) ∧ Ext w w' := by
  have hle := hr.le
  have HR := Lib.hid hr
  have HOK := Lib.hid hok
  obtain ⟨fin, hfin⟩ : ∃ x, x = passP xs := ⟨_, rfl⟩
  rw [← hfin]
  have HF0 : Hid (fin = [] ++ passL 5 ((xs.take 12).drop 0)) := Lib.hid hfin
  clear hfin hr hok
  go_enter Try.func36, Try.ntmps36
  go_wp2
  go_loopw [3, 4, 5] (fun x y z wr => ∃ (k : Nat) (pl : List Pas) (a : Int), k ≤ n ∧ k ≤ 12 ∧ z = .int .i64 k ∧ y = .int .i64 a ∧ 0 ≤ a ∧ a ≤ 5 + 701 * k ∧ Hid (fin = pl ++ passL a ((xs.take 12).drop k)) ∧ Hid (OwnP wr w.heap.size x pl) ∧ pl.length ≤ k ∧ Ext w wr) (fun _ _ z _ => n - (intOf z).toNat)
  case atStart => exact ⟨0, [], 5, Nat.zero_le _, Nat.zero_le _, rfl, rfl, by omega, by omega, HF0, Lib.hid (World.ownsRow_nil _ _ _ _), Nat.zero_le _, Ext.refl _⟩
  case round =>
    clear HF0
    obtain ⟨k, pl, a, hk, hk12, rfl, rfl, ha0, ha1, HF, HO, hpl, hx⟩ := hrel
    obtain ⟨A3, c3, hv3, _, _⟩ := own_slice HO.out
    subst hv3
    by_cases hkn : k < n
    · by_cases hk2 : k < 12
      · obtain ⟨b, ob, hz, hA, _, hc⟩ := (HR.out.below hx).at_ tri_len hkn
        have hz12 : k < (xs.take 12).length := by rw [List.length_take]; omega
        have hst := HF.out
        rw [List.drop_eq_getElem_cons hz12, passL_cons, List.getElem_take] at hst
        have hok := HOK.out xs[k] (List.getElem_mem hz)
        generalize xs[k] = t at hst hc hok
        obtain ⟨x0, x1, x2⟩ := t
        unfold passOf at hst
        dsimp only at hst
        obtain ⟨b0, b1, b2⟩ := hok
        dsimp only at b0 b1 b2
        obtain ⟨bd, hwd⟩ := tdiv_ok b1 (n := 3) (by omega)
        have P0 := fun W => pickr_any x0 700 W b0.1 b0.2 (by omega) (by omega)
        have P1 := fun W => pickr_any x1 3 W b1.1 b1.2 (by omega) (by omega)
        have P2 := fun W => pickr_any (x1.tdiv 3) 3 W bd.1 bd.2 (by omega) (by omega)
        have P3 := fun W => pickr_any x2 20 W b2.1 b2.2 (by omega) (by omega)
        have q0 := pickI_bd x0 700 (by omega)
        have q3 := pickI_bd x2 20 (by omega)
        generalize pickI x0 700 = p0 at P0 q0 hst
        generalize pickI x1 3 = p1 at P1 hst
        generalize pickI (x1.tdiv 3) 3 = p2 at P2 hst
        generalize pickI x2 20 = p3 at P3 q3 hst
        have c0 : wr.cell? ⟨b, ob + k * 3, none⟩ = some (.int .i64 x0) := hc 0 (by omega)
        have c1 : wr.cell? ⟨b, ob + k * 3 + 1, none⟩ = some (.int .i64 x1) := hc 1 (by omega)
        have c2 : wr.cell? ⟨b, ob + k * 3 + 2, none⟩ = some (.int .i64 x2) := hc 2 (by omega)
        have HP0 := Lib.hid P0
        have HP1 := Lib.hid P1
        have HP2 := Lib.hid P2
        have HP3 := Lib.hid P3
        have HST := Lib.hid hst
        subst hA
        clear hc hz hz12 hst HF P0 P1 P2 P3 b0 b1 b2 bd
        have hw1 : IntKind.i64.wrap (a + 1 + p0) = a + 1 + p0 := IntWalk.i64_in _ (by omega)
        go_upto_region 7 with (go_at_call 68; refine (HP0.out _).mono ?_; rintro e w2 ⟨rfl, rfl⟩)
        obtain ⟨a1, ha1e⟩ : ∃ y, y = a + 1 + p0 := ⟨_, rfl⟩
        rw [← ha1e] at HST ⊢
        have hb1 : 0 ≤ a1 ∧ a1 ≤ 5 + 701 * (k + 1 : Nat) := by omega
        clear HP0 hw1 ha1e q0
        have hw2 : IntKind.i64.wrap (a1 + 8 + p3) = a1 + 8 + p3 := IntWalk.i64_in _ (by omega)
        refine wp_region_obl 26 (fun ix vals v w1 => match ix with | 0 => v = .slice (some ⟨b, ob, none⟩) n c | 1 => v = .int .i64 (k : Int) | 2 => v = .pointer (some ⟨b, ob + k * 3, none⟩) | 3 => v = .pointer (some ⟨b, ob + k * 3 + 1, none⟩) | 4 => v = .int .i64 x1 | 5 => v = .int .i64 p1 | 6 => v = .slice (some ⟨b, ob, none⟩) n c | 7 => v = .int .i64 (k : Int) | 8 => v = .pointer (some ⟨b, ob + k * 3, none⟩) | 9 => v = .pointer (some ⟨b, ob + k * 3 + 1, none⟩) | 10 => v = .int .i64 x1 | 11 => v = .int .i64 (x1.tdiv 3) | 12 => v = .int .i64 p2 | 13 => v = .int .i64 a1 | 14 => v = .int .i64 a1 | 15 => v = .int .i64 (a1 + 8) | 16 => v = .slice (some ⟨b, ob, none⟩) n c | 17 => v = .int .i64 (k : Int) | 18 => v = .pointer (some ⟨b, ob + k * 3, none⟩) | 19 => v = .pointer (some ⟨b, ob + k * 3 + 2, none⟩) | 20 => v = .int .i64 x2 | 21 => v = .int .i64 p3 | 22 => v = .int .i64 (a1 + 8 + p3) | 23 => v = .agg #[.int .i64 a1, .int .i64 (a1 + 8 + p3)] | 24 => v = .agg #[.int .i64 p1, .int .i64 p2, .int .i64 0, .int .i64 0, .int .i64 a1, .int .i64 (a1 + 8 + p3)] | _ => ∃ g, v = .pointer (some ⟨g, 0, none⟩) ∧ Blk w1 g 98 #[.int .i64 0, .int .i64 0, .int .i64 0, .int .i64 0, .int .i64 0, .int .i64 0] ∧ wr.heap.size ≤ g) (by kernel_rfl) (by kernel_rfl) ?_ ?_ ?_ ?_
        · intro ix vals v w1 w2 hi hr hx
          match ix, hr with
          | 0, hr => exact hr
          | 1, hr => exact hr
          | 2, hr => exact hr
          | 3, hr => exact hr
          | 4, hr => exact hr
          | 5, hr => exact hr
          | 6, hr => exact hr
          | 7, hr => exact hr
          | 8, hr => exact hr
          | 9, hr => exact hr
          | 10, hr => exact hr
          | 11, hr => exact hr
          | 12, hr => exact hr
          | 13, hr => exact hr
          | 14, hr => exact hr
          | 15, hr => exact hr
          | 16, hr => exact hr
          | 17, hr => exact hr
          | 18, hr => exact hr
          | 19, hr => exact hr
          | 20, hr => exact hr
          | 21, hr => exact hr
          | 22, hr => exact hr
          | 23, hr => exact hr
          | 24, hr => exact hr
          | (kx + 25), hr => obtain ⟨g, h1, h2, h3⟩ := hr; exact ⟨g, h1, h2.ext hx, h3⟩
        · intro ix vals vals_ v w1 hi hv hr
          exact hr
        · refine obls_ofT [some 26, some 27, some 28, some 29, some 30, some 31, some 32, some 33, some 34, some 35, some 36, some 37, some 38, some 39, some 40, some 41, some 42, some 43, some 44, some 45, some 46, some 47, some 48, some 49, some 50, some 6, none] [(0, .slice (some ⟨b, ob, none⟩) n c), (5, .int .i64 (k : Int)), (4, .int .i64 a1)] 66 (by kernel_rfl) (by kernel_rfl) ⟨by kernel_rfl, by kernel_rfl, by kernel_rfl, trivial⟩ ?_
          refine ⟨?_, ?_, ?_, ?_, ?_, ?_, ?_, ?_, ?_, ?_, ?_, ?_, ?_, ?_, ?_, ?_, ?_, ?_, ?_, ?_, ?_, ?_, ?_, ?_, ?_, ?_, trivial⟩
          · intro vals w1 hx hd
            refine .run [(0, .slice (some ⟨b, ob, none⟩) n c)] { dst := some 0, op := Go.Op.move (Go.Operand.const (.slice (some ⟨b, ob, none⟩) n c)), type := 22, pos := "", after := #[], guard := none } 26 ⟨.out (by kernel_rfl) (by kernel_rfl), trivial⟩ (by kernel_rfl) (by kernel_rfl) (by kernel_rfl) rfl rfl rfl ?_
            clear hd
            go_wp2
            exact ⟨rfl, Ext.refl _, rfl⟩
          · intro vals w1 hx hd
            refine .run [(5, .int .i64 (k : Int))] { dst := some 0, op := Go.Op.move (Go.Operand.const (.int .i64 (k : Int))), type := 3, pos := "", after := #[], guard := none } 27 ⟨.out (by kernel_rfl) (by kernel_rfl), trivial⟩ (by kernel_rfl) (by kernel_rfl) (by kernel_rfl) rfl rfl rfl ?_
            clear hd
            go_wp2
            exact ⟨rfl, Ext.refl _, rfl⟩
          · intro vals w1 hx hd
            have e0 : vals 0 = .slice (some ⟨b, ob, none⟩) n c := hd 0 (by decide)
            have e1 : vals 1 = .int .i64 (k : Int) := hd 1 (by decide)
            refine .run [(26, .slice (some ⟨b, ob, none⟩) n c), (27, .int .i64 (k : Int))] { dst := some 0, op := Go.Op.indexAddr 22 (Go.Operand.const (.slice (some ⟨b, ob, none⟩) n c)) (Go.Operand.const (.int .i64 (k : Int))), type := 0, pos := "", after := #[], guard := none } 28 ⟨.inn 0 (by kernel_rfl) e0, .inn 1 (by kernel_rfl) e1, trivial⟩ (by kernel_rfl) (by kernel_rfl) (by kernel_rfl) rfl rfl rfl ?_
            clear hd e0 e1
            go_wp2
            exact ⟨rfl, Ext.refl _, rfl⟩
          · intro vals w1 hx hd
            have e2 : vals 2 = .pointer (some ⟨b, ob + k * 3, none⟩) := hd 2 (by decide)
            refine .run [(28, .pointer (some ⟨b, ob + k * 3, none⟩))] { dst := some 0, op := Go.Op.indexAddr 24 (Go.Operand.const (.pointer (some ⟨b, ob + k * 3, none⟩))) (Go.Operand.const (Go.Value.int Go.IntKind.i64 1)), type := 0, pos := "", after := #[], guard := none } 29 ⟨.inn 2 (by kernel_rfl) e2, trivial⟩ (by kernel_rfl) (by kernel_rfl) (by kernel_rfl) rfl rfl rfl ?_
            clear hd e2
            go_wp2
            exact ⟨rfl, Ext.refl _, rfl⟩
          · intro vals w1 hx hd
            have e3 : vals 3 = .pointer (some ⟨b, ob + k * 3 + 1, none⟩) := hd 3 (by decide)
            refine .run [(29, .pointer (some ⟨b, ob + k * 3 + 1, none⟩))] { dst := some 0, op := Go.Op.load 3 (Go.Operand.const (.pointer (some ⟨b, ob + k * 3 + 1, none⟩))), type := 3, pos := "", after := #[], guard := none } 30 ⟨.inn 3 (by kernel_rfl) e3, trivial⟩ (by kernel_rfl) (by kernel_rfl) (by kernel_rfl) rfl rfl rfl ?_
            clear hd e3
            have c1 := ext_cell hx c1
            go_wp2
            exact ⟨rfl, Ext.refl _, rfl⟩
          · intro vals w1 hx hd
            have e4 : vals 4 = .int .i64 x1 := hd 4 (by decide)
            refine .run [(30, .int .i64 x1)] { dst := some 0, op := Go.Op.call { callee := Go.Callee.value (Go.Operand.func 68), args := #[(Go.Operand.const (.int .i64 x1)), Go.Operand.const (Go.Value.int Go.IntKind.i64 3)], argTypes := #[3, 3] }, type := 3, pos := "", after := #[], guard := none } 31 ⟨.inn 4 (by kernel_rfl) e4, trivial⟩ (by kernel_rfl) (by kernel_rfl) (by kernel_rfl) rfl rfl rfl ?_
            clear hd e4
            go_wp2_with fail
            refine (HP1.out _).mono ?_
            rintro e w2 ⟨rfl, rfl⟩
            go_wp2
            exact ⟨rfl, Ext.refl _, rfl⟩
          · intro vals w1 hx hd
            refine .run [(0, .slice (some ⟨b, ob, none⟩) n c)] { dst := some 0, op := Go.Op.move (Go.Operand.const (.slice (some ⟨b, ob, none⟩) n c)), type := 22, pos := "", after := #[], guard := none } 32 ⟨.out (by kernel_rfl) (by kernel_rfl), trivial⟩ (by kernel_rfl) (by kernel_rfl) (by kernel_rfl) rfl rfl rfl ?_
            clear hd
            go_wp2
            exact ⟨rfl, Ext.refl _, rfl⟩
          · intro vals w1 hx hd
            refine .run [(5, .int .i64 (k : Int))] { dst := some 0, op := Go.Op.move (Go.Operand.const (.int .i64 (k : Int))), type := 3, pos := "", after := #[], guard := none } 33 ⟨.out (by kernel_rfl) (by kernel_rfl), trivial⟩ (by kernel_rfl) (by kernel_rfl) (by kernel_rfl) rfl rfl rfl ?_
            clear hd
            go_wp2
            exact ⟨rfl, Ext.refl _, rfl⟩
          · intro vals w1 hx hd
            have e6 : vals 6 = .slice (some ⟨b, ob, none⟩) n c := hd 6 (by decide)
            have e7 : vals 7 = .int .i64 (k : Int) := hd 7 (by decide)
            refine .run [(32, .slice (some ⟨b, ob, none⟩) n c), (33, .int .i64 (k : Int))] { dst := some 0, op := Go.Op.indexAddr 22 (Go.Operand.const (.slice (some ⟨b, ob, none⟩) n c)) (Go.Operand.const (.int .i64 (k : Int))), type := 0, pos := "", after := #[], guard := none } 34 ⟨.inn 6 (by kernel_rfl) e6, .inn 7 (by kernel_rfl) e7, trivial⟩ (by kernel_rfl) (by kernel_rfl) (by kernel_rfl) rfl rfl rfl ?_
            clear hd e6 e7
            go_wp2
            exact ⟨rfl, Ext.refl _, rfl⟩
          · intro vals w1 hx hd
            have e8 : vals 8 = .pointer (some ⟨b, ob + k * 3, none⟩) := hd 8 (by decide)
            refine .run [(34, .pointer (some ⟨b, ob + k * 3, none⟩))] { dst := some 0, op := Go.Op.indexAddr 24 (Go.Operand.const (.pointer (some ⟨b, ob + k * 3, none⟩))) (Go.Operand.const (Go.Value.int Go.IntKind.i64 1)), type := 0, pos := "", after := #[], guard := none } 35 ⟨.inn 8 (by kernel_rfl) e8, trivial⟩ (by kernel_rfl) (by kernel_rfl) (by kernel_rfl) rfl rfl rfl ?_
            clear hd e8
            go_wp2
            exact ⟨rfl, Ext.refl _, rfl⟩
          · intro vals w1 hx hd
            have e9 : vals 9 = .pointer (some ⟨b, ob + k * 3 + 1, none⟩) := hd 9 (by decide)
            refine .run [(35, .pointer (some ⟨b, ob + k * 3 + 1, none⟩))] { dst := some 0, op := Go.Op.load 3 (Go.Operand.const (.pointer (some ⟨b, ob + k * 3 + 1, none⟩))), type := 3, pos := "", after := #[], guard := none } 36 ⟨.inn 9 (by kernel_rfl) e9, trivial⟩ (by kernel_rfl) (by kernel_rfl) (by kernel_rfl) rfl rfl rfl ?_
            clear hd e9
            have c1 := ext_cell hx c1
            go_wp2
            exact ⟨rfl, Ext.refl _, rfl⟩
          · intro vals w1 hx hd
            have e10 : vals 10 = .int .i64 x1 := hd 10 (by decide)
            refine .run [(36, .int .i64 x1)] { dst := some 0, op := Go.Op.binOp Go.BinOp.quo 3 (Go.Operand.const (.int .i64 x1)) (Go.Operand.const (Go.Value.int Go.IntKind.i64 3)) 3, type := 3, pos := "", after := #[], guard := none } 37 ⟨.inn 10 (by kernel_rfl) e10, trivial⟩ (by kernel_rfl) (by kernel_rfl) (by kernel_rfl) rfl rfl rfl ?_
            clear hd e10
            go_wp2
            exact ⟨rfl, Ext.refl _, rfl⟩
          · intro vals w1 hx hd
            have e11 : vals 11 = .int .i64 (x1.tdiv 3) := hd 11 (by decide)
            refine .run [(37, .int .i64 (x1.tdiv 3))] { dst := some 0, op := Go.Op.call { callee := Go.Callee.value (Go.Operand.func 68), args := #[(Go.Operand.const (.int .i64 (x1.tdiv 3))), Go.Operand.const (Go.Value.int Go.IntKind.i64 3)], argTypes := #[3, 3] }, type := 3, pos := "", after := #[], guard := none } 38 ⟨.inn 11 (by kernel_rfl) e11, trivial⟩ (by kernel_rfl) (by kernel_rfl) (by kernel_rfl) rfl rfl rfl ?_
            clear hd e11
            go_wp2_with fail
            refine (HP2.out _).mono ?_
            rintro e w2 ⟨rfl, rfl⟩
            go_wp2
            exact ⟨rfl, Ext.refl _, rfl⟩
          · intro vals w1 hx hd
            refine .run [(4, .int .i64 a1)] { dst := some 0, op := Go.Op.move (Go.Operand.const (.int .i64 a1)), type := 3, pos := "", after := #[], guard := none } 39 ⟨.out (by kernel_rfl) (by kernel_rfl), trivial⟩ (by kernel_rfl) (by kernel_rfl) (by kernel_rfl) rfl rfl rfl ?_
            clear hd
            go_wp2
            exact ⟨rfl, Ext.refl _, rfl⟩
          · intro vals w1 hx hd
            refine .run [(4, .int .i64 a1)] { dst := some 0, op := Go.Op.move (Go.Operand.const (.int .i64 a1)), type := 3, pos := "", after := #[], guard := none } 40 ⟨.out (by kernel_rfl) (by kernel_rfl), trivial⟩ (by kernel_rfl) (by kernel_rfl) (by kernel_rfl) rfl rfl rfl ?_
            clear hd
            go_wp2
            exact ⟨rfl, Ext.refl _, rfl⟩
          · intro vals w1 hx hd
            have e14 : vals 14 = .int .i64 a1 := hd 14 (by decide)
            refine .run [(40, .int .i64 a1)] { dst := some 0, op := Go.Op.binOp Go.BinOp.add 3 (Go.Operand.const (.int .i64 a1)) (Go.Operand.const (Go.Value.int Go.IntKind.i64 8)) 3, type := 3, pos := "", after := #[], guard := none } 41 ⟨.inn 14 (by kernel_rfl) e14, trivial⟩ (by kernel_rfl) (by kernel_rfl) (by kernel_rfl) rfl rfl rfl ?_
            clear hd e14
            go_wp2
            exact ⟨rfl, Ext.refl _, rfl⟩
          · intro vals w1 hx hd
            refine .run [(0, .slice (some ⟨b, ob, none⟩) n c)] { dst := some 0, op := Go.Op.move (Go.Operand.const (.slice (some ⟨b, ob, none⟩) n c)), type := 22, pos := "", after := #[], guard := none } 42 ⟨.out (by kernel_rfl) (by kernel_rfl), trivial⟩ (by kernel_rfl) (by kernel_rfl) (by kernel_rfl) rfl rfl rfl ?_
            clear hd
            go_wp2
            exact ⟨rfl, Ext.refl _, rfl⟩
          · intro vals w1 hx hd
            refine .run [(5, .int .i64 (k : Int))] { dst := some 0, op := Go.Op.move (Go.Operand.const (.int .i64 (k : Int))), type := 3, pos := "", after := #[], guard := none } 43 ⟨.out (by kernel_rfl) (by kernel_rfl), trivial⟩ (by kernel_rfl) (by kernel_rfl) (by kernel_rfl) rfl rfl rfl ?_
            clear hd
            go_wp2
            exact ⟨rfl, Ext.refl _, rfl⟩
          · intro vals w1 hx hd
            have e16 : vals 16 = .slice (some ⟨b, ob, none⟩) n c := hd 16 (by decide)
            have e17 : vals 17 = .int .i64 (k : Int) := hd 17 (by decide)
            refine .run [(42, .slice (some ⟨b, ob, none⟩) n c), (43, .int .i64 (k : Int))] { dst := some 0, op := Go.Op.indexAddr 22 (Go.Operand.const (.slice (some ⟨b, ob, none⟩) n c)) (Go.Operand.const (.int .i64 (k : Int))), type := 0, pos := "", after := #[], guard := none } 44 ⟨.inn 16 (by kernel_rfl) e16, .inn 17 (by kernel_rfl) e17, trivial⟩ (by kernel_rfl) (by kernel_rfl) (by kernel_rfl) rfl rfl rfl ?_
            clear hd e16 e17
            go_wp2
            exact ⟨rfl, Ext.refl _, rfl⟩
          · intro vals w1 hx hd
            have e18 : vals 18 = .pointer (some ⟨b, ob + k * 3, none⟩) := hd 18 (by decide)
            refine .run [(44, .pointer (some ⟨b, ob + k * 3, none⟩))] { dst := some 0, op := Go.Op.indexAddr 24 (Go.Operand.const (.pointer (some ⟨b, ob + k * 3, none⟩))) (Go.Operand.const (Go.Value.int Go.IntKind.i64 2)), type := 0, pos := "", after := #[], guard := none } 45 ⟨.inn 18 (by kernel_rfl) e18, trivial⟩ (by kernel_rfl) (by kernel_rfl) (by kernel_rfl) rfl rfl rfl ?_
            clear hd e18
            go_wp2
            exact ⟨rfl, Ext.refl _, rfl⟩
          · intro vals w1 hx hd
            have e19 : vals 19 = .pointer (some ⟨b, ob + k * 3 + 2, none⟩) := hd 19 (by decide)
            refine .run [(45, .pointer (some ⟨b, ob + k * 3 + 2, none⟩))] { dst := some 0, op := Go.Op.load 3 (Go.Operand.const (.pointer (some ⟨b, ob + k * 3 + 2, none⟩))), type := 3, pos := "", after := #[], guard := none } 46 ⟨.inn 19 (by kernel_rfl) e19, trivial⟩ (by kernel_rfl) (by kernel_rfl) (by kernel_rfl) rfl rfl rfl ?_
            clear hd e19
            have c2 := ext_cell hx c2
            go_wp2
            exact ⟨rfl, Ext.refl _, rfl⟩
          · intro vals w1 hx hd
            have e20 : vals 20 = .int .i64 x2 := hd 20 (by decide)
            refine .run [(46, .int .i64 x2)] { dst := some 0, op := Go.Op.call { callee := Go.Callee.value (Go.Operand.func 68), args := #[(Go.Operand.const (.int .i64 x2)), Go.Operand.const (Go.Value.int Go.IntKind.i64 20)], argTypes := #[3, 3] }, type := 3, pos := "", after := #[], guard := none } 47 ⟨.inn 20 (by kernel_rfl) e20, trivial⟩ (by kernel_rfl) (by kernel_rfl) (by kernel_rfl) rfl rfl rfl ?_
            clear hd e20
            go_wp2_with fail
            refine (HP3.out _).mono ?_
            rintro e w2 ⟨rfl, rfl⟩
            go_wp2
            exact ⟨rfl, Ext.refl _, rfl⟩
          · intro vals w1 hx hd
            have e15 : vals 15 = .int .i64 (a1 + 8) := hd 15 (by decide)
            have e21 : vals 21 = .int .i64 p3 := hd 21 (by decide)
            refine .run [(41, .int .i64 (a1 + 8)), (47, .int .i64 p3)] { dst := some 0, op := Go.Op.binOp Go.BinOp.add 3 (Go.Operand.const (.int .i64 (a1 + 8))) (Go.Operand.const (.int .i64 p3)) 3, type := 3, pos := "", after := #[], guard := none } 48 ⟨.inn 15 (by kernel_rfl) e15, .inn 21 (by kernel_rfl) e21, trivial⟩ (by kernel_rfl) (by kernel_rfl) (by kernel_rfl) rfl rfl rfl ?_
            clear hd e15 e21
            go_wp2
            exact ⟨rfl, Ext.refl _, rfl⟩
          · intro vals w1 hx hd
            have e13 : vals 13 = .int .i64 a1 := hd 13 (by decide)
            have e22 : vals 22 = .int .i64 (a1 + 8 + p3) := hd 22 (by decide)
            refine .run [(39, .int .i64 a1), (48, .int .i64 (a1 + 8 + p3))] { dst := some 0, op := Go.Op.build 29 #[(0, (Go.Operand.const (.int .i64 a1))), (1, (Go.Operand.const (.int .i64 (a1 + 8 + p3))))], type := 29, pos := "", after := #[], guard := none } 49 ⟨.inn 13 (by kernel_rfl) e13, .inn 22 (by kernel_rfl) e22, trivial⟩ (by kernel_rfl) (by kernel_rfl) (by kernel_rfl) rfl rfl rfl ?_
            clear hd e13 e22
            go_wp2
            exact ⟨rfl, Ext.refl _, rfl⟩
          · intro vals w1 hx hd
            have e5 : vals 5 = .int .i64 p1 := hd 5 (by decide)
            have e12 : vals 12 = .int .i64 p2 := hd 12 (by decide)
            have e23 : vals 23 = .agg #[.int .i64 a1, .int .i64 (a1 + 8 + p3)] := hd 23 (by decide)
            refine .run [(31, .int .i64 p1), (38, .int .i64 p2), (49, .agg #[.int .i64 a1, .int .i64 (a1 + 8 + p3)])] { dst := some 0, op := Go.Op.build 98 #[(0, (Go.Operand.const (.int .i64 p1))), (1, (Go.Operand.const (.int .i64 p2))), (3, (Go.Operand.const (.agg #[.int .i64 a1, .int .i64 (a1 + 8 + p3)])))], type := 98, pos := "", after := #[], guard := none } 50 ⟨.inn 5 (by kernel_rfl) e5, .inn 12 (by kernel_rfl) e12, .inn 23 (by kernel_rfl) e23, trivial⟩ (by kernel_rfl) (by kernel_rfl) (by kernel_rfl) rfl rfl rfl ?_
            clear hd e5 e12 e23
            go_wp2
            exact ⟨rfl, Ext.refl _, rfl⟩
          · intro vals w1 hx hd
            refine .run [] { dst := some 0, op := Go.Op.alloc 98, type := 0, pos := "", after := #[], guard := none } 6 trivial (by kernel_rfl) (by kernel_rfl) (by kernel_rfl) rfl rfl rfl ?_
            clear hd
            have hz9 := Below.size hx.undrew
            go_wp2
            exact ⟨rfl, (by repeat (first | exact Below.refl _ _ | assumption | refine Below.drew ?_ | refine below_drewN ?_ _ | refine bl_alloc ?_ _ | refine Below.setCell ?_ (by first | (simp; done) | omega | (simp; omega)) _ | refine bl_then ?_ (by assumption))), _, rfl, Blk.new _ _ _, hz9⟩
        intro vals W5 hy hf
        have v24 : vals 24 = .agg #[.int .i64 p1, .int .i64 p2, .int .i64 0, .int .i64 0, .int .i64 a1, .int .i64 (a1 + 8 + p3)] := hf 24 (by omega)
        obtain ⟨g6, v25, jf, hg6⟩ : ∃ g, vals 25 = .pointer (some ⟨g, 0, none⟩) ∧ Blk W5 g 98 #[.int .i64 0, .int .i64 0, .int .i64 0, .int .i64 0, .int .i64 0, .int .i64 0] ∧ wr.heap.size ≤ g := hf 25 (by omega)
        have hy := hy.undrew
        obtain ⟨pe, hpe⟩ : ∃ y, y = a1 + 8 + p3 := ⟨_, rfl⟩
        rw [← hpe] at HST v24
        have jb := jf.row #[.int .i64 p1, .int .i64 p2, .int .i64 0, .int .i64 0, .int .i64 a1, .int .i64 pe]
        have hone := (One.refl g6 W5).row #[.int .i64 p1, .int .i64 p2, .int .i64 0, .int .i64 0, .int .i64 a1, .int .i64 pe]
        have hxr := hone.ext hy hg6
        have HJF := Lib.hid jf
        clear hf hone hy jf hw2 HP1 HP2 HP3 hwd
        have hpeb : 0 ≤ pe ∧ pe ≤ 100000 := by omega
        clear hpe
        refine tail1 26 _ (by kernel_rfl) (by kernel_rfl) rfl ?_
        simp only [Lf, dstAt, Act.put, List.getElem?_toArray, List.getElem?_cons_zero, List.getElem?_cons_succ, Option.bind_some, List.setIfInBounds_toArray, List.set_cons_zero, List.set_cons_succ]
        rw [v24, v25]
        clear v24 v25
        go_upto_region 8 with (refine wpList_store_row rfl _ _ _ rfl g6 #[.int .i64 p1, .int .i64 p2, .int .i64 0, .int .i64 0, .int .i64 a1, .int .i64 pe] rfl rfl 98 _ HJF.out pass_size rfl (by simp [Value.oneCell']) ?_)
        generalize W5.setRow g6 #[.int .i64 p1, .int .i64 p2, .int .i64 0, .int .i64 0, .int .i64 a1, .int .i64 pe] = W6 at jb hxr ⊢
        have e2 : W6.cell? ⟨g6, 2, none⟩ = some (.int .i64 0) := jb.cell 2
        have e3 : W6.cell? ⟨g6, 3, none⟩ = some (.int .i64 0) := jb.cell 3
        have e4 : W6.cell? ⟨g6, 4, none⟩ = some (.int .i64 a1) := jb.cell 4
        have e5 : W6.cell? ⟨g6, 5, none⟩ = some (.int .i64 pe) := jb.cell 5
        have f2 : W6.frozen? ⟨g6, 2, none⟩ = false := jb.frozen 2
        have f3 : W6.frozen? ⟨g6, 3, none⟩ = false := jb.frozen 3
        have HJB := Lib.hid jb
        clear jb HJF c0 c1 c2
        go_upto_region 9 with (fail)
        have jb : Blk ((W6.setCell ⟨g6, 2, none⟩ (.int .i64 (a1 + 2))).setCell ⟨g6, 3, none⟩ (.int .i64 (pe - 2))) g6 98 #[.int .i64 p1, .int .i64 p2, .int .i64 (a1 + 2), .int .i64 (pe - 2), .int .i64 a1, .int .i64 pe] := ((HJB.out.set_ 2 (.int .i64 (a1 + 2))).set_ 3 (.int .i64 (pe - 2)))
        have hx7 : Ext w ((W6.setCell ⟨g6, 2, none⟩ (.int .i64 (a1 + 2))).setCell ⟨g6, 3, none⟩ (.int .i64 (pe - 2))) := by
          have h1 := Below.size hx
          exact ((Ext.trans hx hxr).setCell (p := ⟨g6, 2, none⟩) (by show w.heap.size ≤ g6; omega) _).setCell (p := ⟨g6, 3, none⟩) (by show w.heap.size ≤ g6; omega) _
        have hxk : Ext wr ((W6.setCell ⟨g6, 2, none⟩ (.int .i64 (a1 + 2))).setCell ⟨g6, 3, none⟩ (.int .i64 (pe - 2))) := (hxr.setCell (p := ⟨g6, 2, none⟩) hg6 _).setCell (p := ⟨g6, 3, none⟩) hg6 _
        generalize (W6.setCell ⟨g6, 2, none⟩ (.int .i64 (a1 + 2))).setCell ⟨g6, 3, none⟩ (.int .i64 (pe - 2)) = W7 at jb hx7 hxk ⊢
        clear e2 e3 e4 e5 f2 f3 HJB hxr
        have e0 : W7.cell? ⟨g6, 0, none⟩ = some (.int .i64 p1) := jb.cell 0
        have e1 : W7.cell? ⟨g6, 1, none⟩ = some (.int .i64 p2) := jb.cell 1
        have e2 : W7.cell? ⟨g6, 2, none⟩ = some (.int .i64 (a1 + 2)) := jb.cell 2
        have e3 : W7.cell? ⟨g6, 3, none⟩ = some (.int .i64 (pe - 2)) := jb.cell 3
        have e4 : W7.cell? ⟨g6, 4, none⟩ = some (.int .i64 a1) := jb.cell 4
        have e5 : W7.cell? ⟨g6, 5, none⟩ = some (.int .i64 pe) := jb.cell 5
        have hxa : Ext W7 (W7.alloc (.cells #[.int .i64 p1, .int .i64 p2, .int .i64 (a1 + 2), .int .i64 (pe - 2), .int .i64 a1, .int .i64 pe] 98)) := bl_alloc (Below.refl _ _) _
        have hxw := Ext.trans hx7 hxa
        obtain ⟨v8, W8, hrun, hg8, ho8⟩ := pas_snoc 37 pl (.slice A3 pl.length c3) ⟨p1, p2, ⟨a1 + 2, pe - 2⟩, ⟨a1, pe⟩⟩ w.heap.size W7.heap.size (Blk.new _ _ _) ((HO.out.ext hxk).ext hxa) (by omega) (Below.size hxw)
        have hx8 : Ext w W8 := hxw.grown hg8 (Below.size hxw) (fun q e => (World.ownsRow.lt HO.out q e).1)
        have HO8 := Lib.hid ho8
        have HRUN := Lib.hid hrun
        have HST8 : Hid (fin = (pl ++ [(⟨p1, p2, ⟨a1 + 2, pe - 2⟩, ⟨a1, pe⟩⟩ : Pas)]) ++ passL a1 ((xs.take 12).drop (k + 1))) := Lib.hid (by rw [HST.out]; simp)
        clear hrun hg8 ho8 hxw hxa hxk hx7 jb HST HO
        go_wp2_with (refine wpList_append_run_ rfl _ _ _ rfl rfl rfl HRUN.out ?_)
        go_roundw
        case rel => exact ⟨k + 1, _, a1, by omega, by omega, by go_num, rfl, hb1.1, hb1.2, HST8, HO8, by simp; omega, hx8⟩
        case measure => simp [intOf]; omega
      · obtain rfl : k = 12 := by omega
        have h12 : (12 : Int) < (n : Int) := by omega
        have hff : fin = pl := by rw [HF.out, List.drop_of_length_le (by rw [List.length_take]; omega), passL, List.append_nil]
        have HFF := Lib.hid hff
        clear hff HF
        go_wp2
        go_ret
        exact ⟨_, rfl, by rw [HFF.out]; exact HO.out, hx⟩
    · have hff : fin = pl := by rw [HF.out, List.drop_of_length_le (by rw [List.length_take, HR.out.len]; omega), passL, List.append_nil]
      have HFF := Lib.hid hff
      clear hff HF
      go_wp2
      go_ret
      exact ⟨_, rfl, by rw [HFF.out]; exact HO.out, hx⟩
end Go.Proofs.Ytmlabgmigakcbaa
