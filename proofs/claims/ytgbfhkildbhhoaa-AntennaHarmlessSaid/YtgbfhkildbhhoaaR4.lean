/- The reference: SameRows. -/
import Derived.Test.YtgbfhkildbhhoaaA12
import Derived.Test.YtgbfhkildbhhoaaR1
namespace Go.Proofs.Ytgbfhkildbhhoaa
open Go.RowKit

theorem RA.nat {w : World} {B n c : Nat} {A : Option Addr} {l : List Nat} (h : RA natCells 1 w B A n c l) : RA intCells 1 w B A n c (l.map fun k : Nat => (k : Int)) := by
  refine ⟨?_, by rw [List.length_map]; exact h.len, h.cap, h.capM, h.le⟩
  have : (l.map fun k : Nat => (k : Int)).flatMap intCells = l.flatMap natCells := by
    clear h
    induction l with
    | nil => rfl
    | cons x r ih => simp only [List.map_cons, List.flatMap_cons, ih]; rfl
  rw [this]
  exact h.rd
theorem map_nat_inj {a b : List Nat} : (a.map (fun k : Nat => (k : Int)) = b.map (fun k : Nat => (k : Int))) ↔ a = b := by
  constructor
  · intro h
    induction a generalizing b with
    | nil => cases b <;> simp_all
    | cons x r ih => cases b with
      | nil => simp at h
      | cons y s =>
        simp only [List.map_cons, List.cons.injEq] at h
        rw [ih h.2, show x = y by omega]
  · rintro rfl; rfl
set_option maxHeartbeats 4000000 in
theorem sameRows_any (A1 A2 : Option Addr) (n1 n2 c1 c2 : Nat) (xs ys : List Row) (w : World) (h1 : Rws w w.heap.size A1 n1 c1 xs) (h2 : Rws w w.heap.size A2 n2 c2 ys) :
    Calls Try.prog 17 #[.slice A1 n1 c1, .slice A2 n2 c2] w fun e w' => e = .returned (.bool (decide (xs.map Row.l = ys.map Row.l))) ∧ Below w.heap.size w w' := by
  have hn1 : n1 ≤ 9223372036854775807 := h1.out.le
  have hn2 : n2 ≤ 9223372036854775807 := h2.out.le
  have L1 : Hid (xs.length = n1) := h1.out.len
  have L2 : Hid (ys.length = n2) := h2.out.len
  have H1 := Lib.hid h1
  have H2 := Lib.hid h2
  clear h1 h2
  by_cases hne : n1 = n2
  · subst hne
    have hd : ((n1 : Int) != (n1 : Int)) = false := by simp
    go_enter Try.func17, Try.ntmps17
    go_wp2
    go_loopw [5] (fun i wr => ∃ k : Nat, k ≤ n1 ∧ i = .int .i64 k ∧ Hid ((xs.map Row.l).take k = (ys.map Row.l).take k) ∧ Below w.heap.size w wr) (fun i _ => n1 - (intOf i).toNat)
    case atStart => exact ⟨0, Nat.zero_le _, rfl, rfl, Below.refl _ _⟩
    case round =>
      obtain ⟨k, hk, rfl, H, hB⟩ := hrel
      by_cases hlt : k < n1
      · have hr1 := H1.out.below hB
        have hr2 := H2.out.below hB
        obtain ⟨b, o, hz, hA, hb, hc⟩ := hr1.out.at_ row_len hlt
        obtain ⟨b', o', hz', hA', hb', hc'⟩ := hr2.out.at_ row_len hlt
        subst hA hA'
        obtain ⟨e1, _⟩ := hr1.each xs[k] (List.getElem_mem hz)
        obtain ⟨e2, _⟩ := hr2.each ys[k] (List.getElem_mem hz')
        have hz1 : k < (xs.map Row.l).length := by simpa using hz
        have hz2 : k < (ys.map Row.l).length := by simpa using hz'
        have hstep := take_succ_eq (k := k) H.out hz1 hz2
        have hstop := ne_of_get (k := k) hz1 hz2
        rw [List.getElem_map, List.getElem_map] at hstep hstop
        generalize xs[k] = x at hc hstep hstop e1
        generalize ys[k] = y at hc' hstep hstop e2
        have c0 : wr.cell? ⟨b, o + k * 1, none⟩ = some (.slice x.a x.n x.c) := hc 0 (by omega)
        have d0 : wr.cell? ⟨b', o' + k * 1, none⟩ = some (.slice y.a y.n y.c) := hc' 0 (by omega)
        rw [Nat.mul_one] at c0 d0
        have hin := fun (W : World) (hW : Ext wr W) => ints_any x.a y.a x.n y.n x.c y.c _ _ W ((e1.nat.below (hW.mono (Below.size hB))).more (Below.size (bl_then hB hW))) ((e2.nat.below (hW.mono (Below.size hB))).more (Below.size (bl_then hB hW)))
        have hdd : decide (x.l.map (fun k : Nat => (k : Int)) = y.l.map (fun k : Nat => (k : Int))) = decide (x.l = y.l) := by rw [decide_eq_decide]; exact map_nat_inj
        rw [hdd] at hin
        clear hc hc' hr1 hr2 hz1 hz2 e1 e2 hdd
        have hkn : (k : Int) < (n1 : Int) := by omega
        have h0k : (0 : Int) ≤ (k : Int) := by omega
        by_cases hxy : x.l = y.l
        · have HS := Lib.hid (hstep hxy)
          rw [decide_eq_true hxy] at hin
          have HIN := Lib.hid hin
          clear hstep hstop hxy hin
          go_upto_region 6 with (fail)
          refine wp_region_obl 10 (fun ix vals v w1 => match ix with | 0 => v = .slice (some ⟨b, o, none⟩) n1 c1 | 1 => v = .int .i64 k | 2 => v = .pointer (some ⟨b, o + k, none⟩) | 3 => v = .slice x.a x.n x.c | 4 => v = .slice (some ⟨b', o', none⟩) n1 c2 | 5 => v = .int .i64 k | 6 => v = .pointer (some ⟨b', o' + k, none⟩) | 7 => v = .slice y.a y.n y.c | 8 => v = .bool true | _ => v = .bool false) (by kernel_rfl) (by kernel_rfl) ?_ ?_ ?_ ?_
          · intro ix vals v w1 w2 hi hr hx
            match ix, hr with
            | 0, hr => exact hr
            | 1, hr => exact hr
            | 2, hr => exact hr
            | 3, hr => exact hr
            | 4, hr => exact hr
            | 5, hr => exact hr
            | 6, hr => exact hr
            | 7, hr => exact hr
            | 8, hr => exact hr
            | (kx + 9), hr => exact hr
          · intro ix vals vals_ v w1 hi hv hr
            exact hr
          · refine obls_ofT [some 17, some 18, some 19, some 20, some 21, some 22, some 23, some 24, some 25, some 26] [(0, .slice (some ⟨b, o, none⟩) n1 c1), (1, .slice (some ⟨b', o', none⟩) n1 c2), (5, .int .i64 k)] 27 (by kernel_rfl) (by kernel_rfl) ⟨by kernel_rfl, by kernel_rfl, by kernel_rfl, trivial⟩ ?_
            refine ⟨?_, ?_, ?_, ?_, ?_, ?_, ?_, ?_, ?_, ?_, trivial⟩
            · intro vals w1 hx hd
              refine .run [(0, .slice (some ⟨b, o, none⟩) n1 c1)] { dst := some 0, op := Go.Op.move (Go.Operand.const (.slice (some ⟨b, o, none⟩) n1 c1)), type := 42, pos := "", after := #[], guard := none } 17 ⟨.out (by kernel_rfl) (by kernel_rfl), trivial⟩ (by kernel_rfl) (by kernel_rfl) (by kernel_rfl) rfl rfl rfl ?_
              clear hd
              go_wp2
              exact ⟨rfl, Ext.refl _, rfl⟩
            · intro vals w1 hx hd
              refine .run [(5, .int .i64 k)] { dst := some 0, op := Go.Op.move (Go.Operand.const (.int .i64 k)), type := 3, pos := "", after := #[], guard := none } 18 ⟨.out (by kernel_rfl) (by kernel_rfl), trivial⟩ (by kernel_rfl) (by kernel_rfl) (by kernel_rfl) rfl rfl rfl ?_
              clear hd
              go_wp2
              exact ⟨rfl, Ext.refl _, rfl⟩
            · intro vals w1 hx hd
              have e0 : vals 0 = .slice (some ⟨b, o, none⟩) n1 c1 := hd 0 (by decide)
              have e1 : vals 1 = .int .i64 k := hd 1 (by decide)
              refine .run [(17, .slice (some ⟨b, o, none⟩) n1 c1), (18, .int .i64 k)] { dst := some 0, op := Go.Op.indexAddr 42 (Go.Operand.const (.slice (some ⟨b, o, none⟩) n1 c1)) (Go.Operand.const (.int .i64 k)), type := 0, pos := "", after := #[], guard := none } 19 ⟨.inn 0 (by kernel_rfl) e0, .inn 1 (by kernel_rfl) e1, trivial⟩ (by kernel_rfl) (by kernel_rfl) (by kernel_rfl) rfl rfl rfl ?_
              clear hd e0 e1
              go_wp2
              exact ⟨rfl, Ext.refl _, rfl⟩
            · intro vals w1 hx hd
              have e2 : vals 2 = .pointer (some ⟨b, o + k, none⟩) := hd 2 (by decide)
              refine .run [(19, .pointer (some ⟨b, o + k, none⟩))] { dst := some 0, op := Go.Op.load 28 (Go.Operand.const (.pointer (some ⟨b, o + k, none⟩))), type := 28, pos := "", after := #[], guard := none } 20 ⟨.inn 2 (by kernel_rfl) e2, trivial⟩ (by kernel_rfl) (by kernel_rfl) (by kernel_rfl) rfl rfl rfl ?_
              clear hd e2
              have c0 := ext_cell hx c0
              go_wp2
              exact ⟨rfl, Ext.refl _, rfl⟩
            · intro vals w1 hx hd
              refine .run [(1, .slice (some ⟨b', o', none⟩) n1 c2)] { dst := some 0, op := Go.Op.move (Go.Operand.const (.slice (some ⟨b', o', none⟩) n1 c2)), type := 42, pos := "", after := #[], guard := none } 21 ⟨.out (by kernel_rfl) (by kernel_rfl), trivial⟩ (by kernel_rfl) (by kernel_rfl) (by kernel_rfl) rfl rfl rfl ?_
              clear hd
              go_wp2
              exact ⟨rfl, Ext.refl _, rfl⟩
            · intro vals w1 hx hd
              refine .run [(5, .int .i64 k)] { dst := some 0, op := Go.Op.move (Go.Operand.const (.int .i64 k)), type := 3, pos := "", after := #[], guard := none } 22 ⟨.out (by kernel_rfl) (by kernel_rfl), trivial⟩ (by kernel_rfl) (by kernel_rfl) (by kernel_rfl) rfl rfl rfl ?_
              clear hd
              go_wp2
              exact ⟨rfl, Ext.refl _, rfl⟩
            · intro vals w1 hx hd
              have e4 : vals 4 = .slice (some ⟨b', o', none⟩) n1 c2 := hd 4 (by decide)
              have e5 : vals 5 = .int .i64 k := hd 5 (by decide)
              refine .run [(21, .slice (some ⟨b', o', none⟩) n1 c2), (22, .int .i64 k)] { dst := some 0, op := Go.Op.indexAddr 42 (Go.Operand.const (.slice (some ⟨b', o', none⟩) n1 c2)) (Go.Operand.const (.int .i64 k)), type := 0, pos := "", after := #[], guard := none } 23 ⟨.inn 4 (by kernel_rfl) e4, .inn 5 (by kernel_rfl) e5, trivial⟩ (by kernel_rfl) (by kernel_rfl) (by kernel_rfl) rfl rfl rfl ?_
              clear hd e4 e5
              go_wp2
              exact ⟨rfl, Ext.refl _, rfl⟩
            · intro vals w1 hx hd
              have e6 : vals 6 = .pointer (some ⟨b', o' + k, none⟩) := hd 6 (by decide)
              refine .run [(23, .pointer (some ⟨b', o' + k, none⟩))] { dst := some 0, op := Go.Op.load 28 (Go.Operand.const (.pointer (some ⟨b', o' + k, none⟩))), type := 28, pos := "", after := #[], guard := none } 24 ⟨.inn 6 (by kernel_rfl) e6, trivial⟩ (by kernel_rfl) (by kernel_rfl) (by kernel_rfl) rfl rfl rfl ?_
              clear hd e6
              have d0 := ext_cell hx d0
              go_wp2
              exact ⟨rfl, Ext.refl _, rfl⟩
            · intro vals w1 hx hd
              have e3 : vals 3 = .slice x.a x.n x.c := hd 3 (by decide)
              have e7 : vals 7 = .slice y.a y.n y.c := hd 7 (by decide)
              refine .run [(20, .slice x.a x.n x.c), (24, .slice y.a y.n y.c)] { dst := some 0, op := Go.Op.call { callee := Go.Callee.value (Go.Operand.func 24), args := #[(Go.Operand.const (.slice x.a x.n x.c)), (Go.Operand.const (.slice y.a y.n y.c))], argTypes := #[28, 28] }, type := 4, pos := "", after := #[], guard := none } 25 ⟨.inn 3 (by kernel_rfl) e3, .inn 7 (by kernel_rfl) e7, trivial⟩ (by kernel_rfl) (by kernel_rfl) (by kernel_rfl) rfl rfl rfl ?_
              clear hd e3 e7
              go_wp2_with (fail)
              refine (HIN.out w1 hx.undrew).mono ?_
              rintro e w' ⟨rfl, hb2⟩
              go_wp2
              exact ⟨rfl, hb2, rfl⟩
            · intro vals w1 hx hd
              have e8 : vals 8 = .bool true := hd 8 (by decide)
              refine .run [(25, .bool true)] { dst := some 0, op := Go.Op.unOp Go.UnOp.not 4 (Go.Operand.const (.bool true)), type := 4, pos := "", after := #[], guard := none } 26 ⟨.inn 8 (by kernel_rfl) e8, trivial⟩ (by kernel_rfl) (by kernel_rfl) (by kernel_rfl) rfl rfl rfl ?_
              clear hd e8
              go_wp2
              exact ⟨rfl, Ext.refl _, rfl⟩
          intro vals W5 hy hf
          have e9 : vals 9 = .bool false := hf 9 (by omega)
          have hy := hy.undrew
          have hx5 := bl_then hB hy
          clear hf c0 d0 HIN
          refine tail0 (by kernel_rfl) ?_
          simp only [Lf, dstAt, Act.put, List.getElem?_toArray, List.getElem?_cons_zero, List.getElem?_cons_succ, Option.bind_some, List.setIfInBounds_toArray, List.set_cons_zero, List.set_cons_succ]
          rw [e9]
          clear e9
          go_wp2
          go_roundw
          case rel => exact ⟨k + 1, by omega, by go_num, HS, hx5⟩
          case measure => simp [intOf]; omega
        · have HX := Lib.hid (hstop hxy)
          rw [decide_eq_false hxy] at hin
          have HIN := Lib.hid hin
          clear hstep hstop hxy hin
          go_upto_region 6 with (fail)
          refine wp_region_obl 10 (fun ix vals v w1 => match ix with | 0 => v = .slice (some ⟨b, o, none⟩) n1 c1 | 1 => v = .int .i64 k | 2 => v = .pointer (some ⟨b, o + k, none⟩) | 3 => v = .slice x.a x.n x.c | 4 => v = .slice (some ⟨b', o', none⟩) n1 c2 | 5 => v = .int .i64 k | 6 => v = .pointer (some ⟨b', o' + k, none⟩) | 7 => v = .slice y.a y.n y.c | 8 => v = .bool false | _ => v = .bool true) (by kernel_rfl) (by kernel_rfl) ?_ ?_ ?_ ?_
          · intro ix vals v w1 w2 hi hr hx
            match ix, hr with
            | 0, hr => exact hr
            | 1, hr => exact hr
            | 2, hr => exact hr
            | 3, hr => exact hr
            | 4, hr => exact hr
            | 5, hr => exact hr
            | 6, hr => exact hr
            | 7, hr => exact hr
            | 8, hr => exact hr
            | (kx + 9), hr => exact hr
          · intro ix vals vals_ v w1 hi hv hr
            exact hr
          · refine obls_ofT [some 17, some 18, some 19, some 20, some 21, some 22, some 23, some 24, some 25, some 26] [(0, .slice (some ⟨b, o, none⟩) n1 c1), (1, .slice (some ⟨b', o', none⟩) n1 c2), (5, .int .i64 k)] 27 (by kernel_rfl) (by kernel_rfl) ⟨by kernel_rfl, by kernel_rfl, by kernel_rfl, trivial⟩ ?_
            refine ⟨?_, ?_, ?_, ?_, ?_, ?_, ?_, ?_, ?_, ?_, trivial⟩
            · intro vals w1 hx hd
              refine .run [(0, .slice (some ⟨b, o, none⟩) n1 c1)] { dst := some 0, op := Go.Op.move (Go.Operand.const (.slice (some ⟨b, o, none⟩) n1 c1)), type := 42, pos := "", after := #[], guard := none } 17 ⟨.out (by kernel_rfl) (by kernel_rfl), trivial⟩ (by kernel_rfl) (by kernel_rfl) (by kernel_rfl) rfl rfl rfl ?_
              clear hd
              go_wp2
              exact ⟨rfl, Ext.refl _, rfl⟩
            · intro vals w1 hx hd
              refine .run [(5, .int .i64 k)] { dst := some 0, op := Go.Op.move (Go.Operand.const (.int .i64 k)), type := 3, pos := "", after := #[], guard := none } 18 ⟨.out (by kernel_rfl) (by kernel_rfl), trivial⟩ (by kernel_rfl) (by kernel_rfl) (by kernel_rfl) rfl rfl rfl ?_
              clear hd
              go_wp2
              exact ⟨rfl, Ext.refl _, rfl⟩
            · intro vals w1 hx hd
              have e0 : vals 0 = .slice (some ⟨b, o, none⟩) n1 c1 := hd 0 (by decide)
              have e1 : vals 1 = .int .i64 k := hd 1 (by decide)
              refine .run [(17, .slice (some ⟨b, o, none⟩) n1 c1), (18, .int .i64 k)] { dst := some 0, op := Go.Op.indexAddr 42 (Go.Operand.const (.slice (some ⟨b, o, none⟩) n1 c1)) (Go.Operand.const (.int .i64 k)), type := 0, pos := "", after := #[], guard := none } 19 ⟨.inn 0 (by kernel_rfl) e0, .inn 1 (by kernel_rfl) e1, trivial⟩ (by kernel_rfl) (by kernel_rfl) (by kernel_rfl) rfl rfl rfl ?_
              clear hd e0 e1
              go_wp2
              exact ⟨rfl, Ext.refl _, rfl⟩
            · intro vals w1 hx hd
              have e2 : vals 2 = .pointer (some ⟨b, o + k, none⟩) := hd 2 (by decide)
              refine .run [(19, .pointer (some ⟨b, o + k, none⟩))] { dst := some 0, op := Go.Op.load 28 (Go.Operand.const (.pointer (some ⟨b, o + k, none⟩))), type := 28, pos := "", after := #[], guard := none } 20 ⟨.inn 2 (by kernel_rfl) e2, trivial⟩ (by kernel_rfl) (by kernel_rfl) (by kernel_rfl) rfl rfl rfl ?_
              clear hd e2
              have c0 := ext_cell hx c0
              go_wp2
              exact ⟨rfl, Ext.refl _, rfl⟩
            · intro vals w1 hx hd
              refine .run [(1, .slice (some ⟨b', o', none⟩) n1 c2)] { dst := some 0, op := Go.Op.move (Go.Operand.const (.slice (some ⟨b', o', none⟩) n1 c2)), type := 42, pos := "", after := #[], guard := none } 21 ⟨.out (by kernel_rfl) (by kernel_rfl), trivial⟩ (by kernel_rfl) (by kernel_rfl) (by kernel_rfl) rfl rfl rfl ?_
              clear hd
              go_wp2
              exact ⟨rfl, Ext.refl _, rfl⟩
            · intro vals w1 hx hd
              refine .run [(5, .int .i64 k)] { dst := some 0, op := Go.Op.move (Go.Operand.const (.int .i64 k)), type := 3, pos := "", after := #[], guard := none } 22 ⟨.out (by kernel_rfl) (by kernel_rfl), trivial⟩ (by kernel_rfl) (by kernel_rfl) (by kernel_rfl) rfl rfl rfl ?_
              clear hd
              go_wp2
              exact ⟨rfl, Ext.refl _, rfl⟩
            · intro vals w1 hx hd
              have e4 : vals 4 = .slice (some ⟨b', o', none⟩) n1 c2 := hd 4 (by decide)
              have e5 : vals 5 = .int .i64 k := hd 5 (by decide)
              refine .run [(21, .slice (some ⟨b', o', none⟩) n1 c2), (22, .int .i64 k)] { dst := some 0, op := Go.Op.indexAddr 42 (Go.Operand.const (.slice (some ⟨b', o', none⟩) n1 c2)) (Go.Operand.const (.int .i64 k)), type := 0, pos := "", after := #[], guard := none } 23 ⟨.inn 4 (by kernel_rfl) e4, .inn 5 (by kernel_rfl) e5, trivial⟩ (by kernel_rfl) (by kernel_rfl) (by kernel_rfl) rfl rfl rfl ?_
              clear hd e4 e5
              go_wp2
              exact ⟨rfl, Ext.refl _, rfl⟩
            · intro vals w1 hx hd
              have e6 : vals 6 = .pointer (some ⟨b', o' + k, none⟩) := hd 6 (by decide)
              refine .run [(23, .pointer (some ⟨b', o' + k, none⟩))] { dst := some 0, op := Go.Op.load 28 (Go.Operand.const (.pointer (some ⟨b', o' + k, none⟩))), type := 28, pos := "", after := #[], guard := none } 24 ⟨.inn 6 (by kernel_rfl) e6, trivial⟩ (by kernel_rfl) (by kernel_rfl) (by kernel_rfl) rfl rfl rfl ?_
              clear hd e6
              have d0 := ext_cell hx d0
              go_wp2
              exact ⟨rfl, Ext.refl _, rfl⟩
            · intro vals w1 hx hd
              have e3 : vals 3 = .slice x.a x.n x.c := hd 3 (by decide)
              have e7 : vals 7 = .slice y.a y.n y.c := hd 7 (by decide)
              refine .run [(20, .slice x.a x.n x.c), (24, .slice y.a y.n y.c)] { dst := some 0, op := Go.Op.call { callee := Go.Callee.value (Go.Operand.func 24), args := #[(Go.Operand.const (.slice x.a x.n x.c)), (Go.Operand.const (.slice y.a y.n y.c))], argTypes := #[28, 28] }, type := 4, pos := "", after := #[], guard := none } 25 ⟨.inn 3 (by kernel_rfl) e3, .inn 7 (by kernel_rfl) e7, trivial⟩ (by kernel_rfl) (by kernel_rfl) (by kernel_rfl) rfl rfl rfl ?_
              clear hd e3 e7
              go_wp2_with (fail)
              refine (HIN.out w1 hx.undrew).mono ?_
              rintro e w' ⟨rfl, hb2⟩
              go_wp2
              exact ⟨rfl, hb2, rfl⟩
            · intro vals w1 hx hd
              have e8 : vals 8 = .bool false := hd 8 (by decide)
              refine .run [(25, .bool false)] { dst := some 0, op := Go.Op.unOp Go.UnOp.not 4 (Go.Operand.const (.bool false)), type := 4, pos := "", after := #[], guard := none } 26 ⟨.inn 8 (by kernel_rfl) e8, trivial⟩ (by kernel_rfl) (by kernel_rfl) (by kernel_rfl) rfl rfl rfl ?_
              clear hd e8
              go_wp2
              exact ⟨rfl, Ext.refl _, rfl⟩
          intro vals W5 hy hf
          have e9 : vals 9 = .bool true := hf 9 (by omega)
          have hy := hy.undrew
          have hx5 := bl_then hB hy
          clear hf c0 d0 HIN
          refine tail0 (by kernel_rfl) ?_
          simp only [Lf, dstAt, Act.put, List.getElem?_toArray, List.getElem?_cons_zero, List.getElem?_cons_succ, Option.bind_some, List.setIfInBounds_toArray, List.set_cons_zero, List.set_cons_succ]
          rw [e9]
          clear e9
          go_wp2
          go_ret
          exact ⟨by rw [decide_eq_false HX.out]; rfl, hx5⟩
      · go_wp2
        go_ret
        refine ⟨?_, (by repeat (first | exact Below.refl _ _ | assumption | refine Below.drew ?_ | refine below_drewN ?_ _ | refine bl_alloc ?_ _ | refine Below.setCell ?_ (by first | (simp; done) | omega | (simp; omega)) _ | refine bl_then ?_ (by assumption)))⟩
        have hxy : xs.map Row.l = ys.map Row.l := by
          have := H.out
          rwa [List.take_of_length_le (by rw [List.length_map, L1.out]; omega), List.take_of_length_le (by rw [List.length_map, L2.out]; omega)] at this
        rw [decide_eq_true hxy]
        rfl
  · have hd : ((n1 : Int) != (n2 : Int)) = true := by simp; omega
    have hxy : ¬ xs.map Row.l = ys.map Row.l := by
      intro h
      have := congrArg List.length h
      rw [List.length_map, List.length_map, L1.out, L2.out] at this
      exact hne this
    rw [decide_eq_false hxy]
    clear hxy
    go_enter Try.func17, Try.ntmps17
    go_wp2
    go_ret
    exact ⟨rfl, Below.refl _ _⟩
end Go.Proofs.Ytgbfhkildbhhoaa
