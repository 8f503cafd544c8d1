/- A satellite in view. -/
import Derived.Test.YtlmpmhfbjblhnaaA10
namespace Go.Proofs.Ytlmpmhfbjblhnaa
open Go.RowKit

def viewV : Option Bool → Value
  | none => .tuple #[.bool false, .int .i64 90]
  | some b => .tuple #[.bool b, .int .i64 0]

theorem View_any (p f lo hi no tu sl id x y re an sk t la : Int) (w : World) :
    Calls Try.prog 26 #[.agg #[.int .i64 p, .int .i64 f, .int .i64 lo, .int .i64 hi, .int .i64 no, .int .i64 tu, .int .i64 sl], .agg #[.int .i64 id, .int .i64 x, .int .i64 y, .int .i64 re, .int .i64 an, .int .i64 sk], .int .i64 t, .int .i64 la] w fun e w' => e = .returned (viewV (viewP ⟨p, f, lo, hi, no, tu, sl⟩ ⟨id, ⟨x, y⟩, re, an, sk⟩ t la)) ∧ Below w.heap.size w w' := by
  have A1 := At_any p f lo hi no tu sl t la
  have HA := Lib.hid A1
  clear A1
  go_enter Try.func26, Try.ntmps26
  go_wp2_with fail
  have K2 : Blk ((w.alloc (.cells #[.int .i64 p, .int .i64 f, .int .i64 lo, .int .i64 hi, .int .i64 no, .int .i64 tu, .int .i64 sl] 25)).alloc (.cells #[.int .i64 id, .int .i64 x, .int .i64 y, .int .i64 re, .int .i64 an, .int .i64 sk] 31)) (w.heap.size + 1) 31 #[.int .i64 id, .int .i64 x, .int .i64 y, .int .i64 re, .int .i64 an, .int .i64 sk] := by
    have k := Blk.new (w.alloc (.cells #[.int .i64 p, .int .i64 f, .int .i64 lo, .int .i64 hi, .int .i64 no, .int .i64 tu, .int .i64 sl] 25)) 31 #[.int .i64 id, .int .i64 x, .int .i64 y, .int .i64 re, .int .i64 an, .int .i64 sk]
    rw [World.size_alloc] at k
    exact k
  have hb : Below w.heap.size w ((w.alloc (.cells #[.int .i64 p, .int .i64 f, .int .i64 lo, .int .i64 hi, .int .i64 no, .int .i64 tu, .int .i64 sl] 25)).alloc (.cells #[.int .i64 id, .int .i64 x, .int .i64 y, .int .i64 re, .int .i64 an, .int .i64 sk] 31)) := (by repeat (first | exact Below.refl _ _ | assumption | refine Below.drew ?_ | refine below_drewN ?_ _ | refine bl_alloc ?_ _ | refine Below.setCell ?_ (by first | (simp; done) | omega | (simp; omega)) _ | refine bl_then ?_ (by assumption)))
  generalize (w.alloc (.cells #[.int .i64 p, .int .i64 f, .int .i64 lo, .int .i64 hi, .int .i64 no, .int .i64 tu, .int .i64 sl] 25)).alloc (.cells #[.int .i64 id, .int .i64 x, .int .i64 y, .int .i64 re, .int .i64 an, .int .i64 sk] 31) = W at K2 hb ⊢
  refine (HA.out _).mono ?_
  rintro e W2 ⟨rfl, hb2⟩
  have K2 := K2.below hb2 (by have := K2.lt; omega)
  have hB2 : Below w.heap.size w W2 := hb.trans (Below.mono hb2 hb.size)
  clear hb hb2
  generalize hat : atP ⟨p, f, lo, hi, no, tu, sl⟩ t la = c
  have HP := Lib.hid hat
  clear hat
  have hlt := K2.lt
  cases c with
  | none =>
    simp only [atV]
    go_wp2
    go_ret2
    exact ⟨by rw [viewP, HP.out]; rfl, bl_alloc hB2 _⟩
  | some c =>
    obtain ⟨cx, cy⟩ := c
    simp only [atV]
    generalize hst : stnOK ⟨id, ⟨x, y⟩, re, an, sk⟩ = ok
    have HS := Lib.hid hst
    clear hst
    have s0 : W2.cell? ⟨w.heap.size + 1, 0, none⟩ = some (.int .i64 id) := K2.cell 0
    have s1 : W2.cell? ⟨w.heap.size + 1, 1, none⟩ = some (.int .i64 x) := K2.cell 1
    have s2 : W2.cell? ⟨w.heap.size + 1, 2, none⟩ = some (.int .i64 y) := K2.cell 2
    have s3 : W2.cell? ⟨w.heap.size + 1, 3, none⟩ = some (.int .i64 re) := K2.cell 3
    have s4 : W2.cell? ⟨w.heap.size + 1, 4, none⟩ = some (.int .i64 an) := K2.cell 4
    have s5 : W2.cell? ⟨w.heap.size + 1, 5, none⟩ = some (.int .i64 sk) := K2.cell 5
    go_wp2_with fail
    refine (station_valid id x y re an sk _).mono ?_
    rintro e W3 ⟨rfl, hb3⟩
    have K3 := (K2.alloc (.cells #[.int .i64 cx, .int .i64 cy] 29)).below hb3 (by rw [World.size_alloc]; omega)
    have K4 := (Blk.new W2 29 #[.int .i64 cx, .int .i64 cy]).below hb3 (by rw [World.size_alloc]; omega)
    have hB3 : Below w.heap.size w W3 := bl_then (bl_alloc hB2 _) hb3
    clear s0 s1 s2 s3 s4 s5 hb3
    rw [HS.out]
    cases ok
    · go_wp2
      go_ret2
      exact ⟨by rw [viewP, HP.out]; simp only [HS.out]; rfl, hB3⟩
    · skip
      have s0 : W3.cell? ⟨w.heap.size + 1, 0, none⟩ = some (.int .i64 id) := K3.cell 0
      have s1 : W3.cell? ⟨w.heap.size + 1, 1, none⟩ = some (.int .i64 x) := K3.cell 1
      have s2 : W3.cell? ⟨w.heap.size + 1, 2, none⟩ = some (.int .i64 y) := K3.cell 2
      have s3 : W3.cell? ⟨w.heap.size + 1, 3, none⟩ = some (.int .i64 re) := K3.cell 3
      have s4 : W3.cell? ⟨w.heap.size + 1, 4, none⟩ = some (.int .i64 an) := K3.cell 4
      have s5 : W3.cell? ⟨w.heap.size + 1, 5, none⟩ = some (.int .i64 sk) := K3.cell 5
      have k0 : W3.cell? ⟨W2.heap.size, 0, none⟩ = some (.int .i64 cx) := K4.cell 0
      have k1 : W3.cell? ⟨W2.heap.size, 1, none⟩ = some (.int .i64 cy) := K4.cell 1
      clear K2 K3 K4 hB2
      generalize hne : nearP ⟨cx, cy⟩ ⟨x, y⟩ = N
      have HN := Lib.hid hne
      clear hne
      go_wp2_with fail
      refine wp_region_obl 7 (fun ix vals v w1 => match ix with | 0 => v = .agg #[.int .i64 cx, .int .i64 cy] | 1 => v = .pointer (some ⟨w.heap.size + 1, 1, none⟩) | 2 => v = .agg #[.int .i64 x, .int .i64 y] | 3 => v = .int .i64 N | 4 => v = .pointer (some ⟨w.heap.size + 1, 3, none⟩) | 5 => v = .int .i64 re | _ => v = .bool (decide (N ≤ re))) (by kernel_rfl) (by kernel_rfl) ?_ ?_ ?_ ?_
      · intro ix vals v w1 w2 hi hr hx
        match ix, hr with
        | 0, hr => exact hr
        | 1, hr => exact hr
        | 2, hr => exact hr
        | 3, hr => exact hr
        | 4, hr => exact hr
        | 5, hr => exact hr
        | (kx + 6), hr => exact hr
      · intro ix vals vals_ v w1 hi hv hr
        exact hr
      · refine ⟨?_, ?_, ?_, ?_, ?_, ?_, ?_, trivial⟩
        · intro vals w1 hx hd ha
          clear hd ha
          simp only [Lf]
          have s0 := ext_cell hx s0
          have s1 := ext_cell hx s1
          have s2 := ext_cell hx s2
          have s3 := ext_cell hx s3
          have s4 := ext_cell hx s4
          have s5 := ext_cell hx s5
          have k0 := ext_cell hx k0
          have k1 := ext_cell hx k1
          go_wp2
          exact ⟨rfl, Ext.refl _, rfl⟩
        · intro vals w1 hx hd ha
          clear hd ha
          simp only [Lf, dstAt, Act.put, List.getElem?_toArray, List.getElem?_cons_zero, Option.bind_some, List.setIfInBounds_toArray, List.set_cons_zero, List.set_cons_succ]
          have s0 := ext_cell hx s0
          have s1 := ext_cell hx s1
          have s2 := ext_cell hx s2
          have s3 := ext_cell hx s3
          have s4 := ext_cell hx s4
          have s5 := ext_cell hx s5
          have k0 := ext_cell hx k0
          have k1 := ext_cell hx k1
          go_wp2
          exact ⟨rfl, Ext.refl _, rfl⟩
        · intro vals w1 hx hd ha
          have e1 : vals 1 = .pointer (some ⟨w.heap.size + 1, 1, none⟩) := hd 1 (by decide)
          clear hd ha
          simp only [Lf, dstAt, Act.put, List.getElem?_toArray, List.getElem?_cons_zero, List.getElem?_cons_succ, Option.bind_some, List.setIfInBounds_toArray, List.set_cons_zero, List.set_cons_succ]
          simp only [e1]
          clear e1
          have s0 := ext_cell hx s0
          have s1 := ext_cell hx s1
          have s2 := ext_cell hx s2
          have s3 := ext_cell hx s3
          have s4 := ext_cell hx s4
          have s5 := ext_cell hx s5
          have k0 := ext_cell hx k0
          have k1 := ext_cell hx k1
          go_wp2
          exact ⟨rfl, Ext.refl _, rfl⟩
        · intro vals w1 hx hd ha
          have e0 : vals 0 = .agg #[.int .i64 cx, .int .i64 cy] := hd 0 (by decide)
          have e2 : vals 2 = .agg #[.int .i64 x, .int .i64 y] := hd 2 (by decide)
          clear hd ha
          simp only [Lf, dstAt, Act.put, List.getElem?_toArray, List.getElem?_cons_zero, List.getElem?_cons_succ, Option.bind_some, List.setIfInBounds_toArray, List.set_cons_zero, List.set_cons_succ]
          have s0 := ext_cell hx s0
          have s1 := ext_cell hx s1
          have s2 := ext_cell hx s2
          have s3 := ext_cell hx s3
          have s4 := ext_cell hx s4
          have s5 := ext_cell hx s5
          have k0 := ext_cell hx k0
          have k1 := ext_cell hx k1
          simp only [e0]
          simp only [e2]
          clear e0 e2
          go_wp2_with fail
          refine (near_any cx cy x y _).mono ?_
          rintro e w2 ⟨rfl, hb2⟩
          rw [HN.out]
          go_wp2
          exact ⟨rfl, hb2, rfl⟩
        · intro vals w1 hx hd ha
          clear hd ha
          simp only [Lf, dstAt, Act.put, List.getElem?_toArray, List.getElem?_cons_zero, List.getElem?_cons_succ, Option.bind_some, List.setIfInBounds_toArray, List.set_cons_zero, List.set_cons_succ]
          have s0 := ext_cell hx s0
          have s1 := ext_cell hx s1
          have s2 := ext_cell hx s2
          have s3 := ext_cell hx s3
          have s4 := ext_cell hx s4
          have s5 := ext_cell hx s5
          have k0 := ext_cell hx k0
          have k1 := ext_cell hx k1
          go_wp2
          exact ⟨rfl, Ext.refl _, rfl⟩
        · intro vals w1 hx hd ha
          have e4 : vals 4 = .pointer (some ⟨w.heap.size + 1, 3, none⟩) := hd 4 (by decide)
          clear hd ha
          simp only [Lf, dstAt, Act.put, List.getElem?_toArray, List.getElem?_cons_zero, List.getElem?_cons_succ, Option.bind_some, List.setIfInBounds_toArray, List.set_cons_zero, List.set_cons_succ]
          simp only [e4]
          clear e4
          have s0 := ext_cell hx s0
          have s1 := ext_cell hx s1
          have s2 := ext_cell hx s2
          have s3 := ext_cell hx s3
          have s4 := ext_cell hx s4
          have s5 := ext_cell hx s5
          have k0 := ext_cell hx k0
          have k1 := ext_cell hx k1
          go_wp2
          exact ⟨rfl, Ext.refl _, rfl⟩
        · intro vals w1 hx hd ha
          have e3 : vals 3 = .int .i64 N := hd 3 (by decide)
          have e5 : vals 5 = .int .i64 re := hd 5 (by decide)
          clear hd ha
          simp only [Lf, dstAt, Act.put, List.getElem?_toArray, List.getElem?_cons_zero, List.getElem?_cons_succ, Option.bind_some, List.setIfInBounds_toArray, List.set_cons_zero, List.set_cons_succ]
          simp only [e3, e5]
          clear e3 e5
          have s0 := ext_cell hx s0
          have s1 := ext_cell hx s1
          have s2 := ext_cell hx s2
          have s3 := ext_cell hx s3
          have s4 := ext_cell hx s4
          have s5 := ext_cell hx s5
          have k0 := ext_cell hx k0
          have k1 := ext_cell hx k1
          go_wp2
          exact ⟨rfl, Ext.refl _, rfl⟩
      intro vals w5 hx hf
      have e6 : vals 6 = .bool (decide (N ≤ re)) := hf 6 (by omega)
      clear hf
      have hB5 : Below w.heap.size w w5 := bl_then hB3 hx.undrew
      refine tailF 7 _ _ 1 (by kernel_rfl) rfl ?_ (fun a w q => tail1 8 _ (by kernel_rfl) (by kernel_rfl) rfl q)
      simp only [Lf, dstAt, Act.put, List.getElem?_toArray, List.getElem?_cons_zero, List.getElem?_cons_succ, Option.bind_some, List.setIfInBounds_toArray, List.set_cons_zero, List.set_cons_succ]
      rw [e6]
      go_wp2
      go_ret2
      exact ⟨by rw [viewP, HP.out]; simp only [HS.out, HN.out]; rfl, hB5⟩

end Go.Proofs.Ytlmpmhfbjblhnaa
