/- Deeds of the reference: the walk. -/
import Derived.Test.YtpddnkefggaigaaT5
namespace Go.Proofs.Ytpddnkefggaigaa
open Go.RowKit

theorem tdiv4_bd (x : Int) (h1 : -9223372036854775808 ≤ x) (h2 : x ≤ 9223372036854775807) : -9223372036854775808 ≤ x.tdiv 4 ∧ x.tdiv 4 ≤ 9223372036854775807 := by
  rw [Int.tdiv_eq_ediv]
  have hs : (4 : Int).sign = 1 := rfl
  rw [hs]
  split <;> omega
set_option maxHeartbeats 1000000 in
theorem deeds_any (A : Option Addr) (n c : Nat) (xs : List Quad) (w : World) (h : RQ w w.heap.size ⟨A, n, c⟩ xs) (hq : ∀ x ∈ xs, x.ok) :
    Calls Try.prog 13 #[.slice A n c] w fun e w' => ∃ v, e = .returned v ∧ Ext w w' ∧ DeedRow w' w.heap.size v (deedsOf xs) := by
  have hn : n ≤ 9223372036854775807 := h.le
  have hl : xs.length = n := h.len
  have HL := Lib.hid hl
  have HQ := Lib.hid hq
  clear hl hq
  generalize hP : (fun (e : Ending) (w' : World) => ∃ v, e = .returned v ∧ Ext w w' ∧ DeedRow w' w.heap.size v (deedsOf xs)) = QQ
  have HP := Lib.hid hP
  clear hP
  go_enter Try.func13, Try.ntmps13
  go_wp2
  go_loopw [3, 4] (fun o i wr => ∃ k : Nat, k ≤ n ∧ k ≤ 16 ∧ i = .int .i64 k ∧ DeedRow wr w.heap.size o ((xs.take k).map deedOf) ∧ Below w.heap.size w wr) (fun _ i _ => 16 - (intOf i).toNat)
  case atStart => exact ⟨0, Nat.zero_le _, Nat.zero_le _, rfl, World.ownsRow_nil _ _ _ _, Below.refl _ _⟩
  case round =>
    obtain ⟨k, hk, hk16, rfl, hrow, hB⟩ := hrel
    by_cases hlt : k < n
    · by_cases h16 : k < 16
      · obtain ⟨b, o, hz, hA, hb, hc0, hc1, hc2, hc3⟩ := (h.below hB).at_ hlt
        have hA : A = some ⟨b, o, none⟩ := hA
        subst hA
        have hok := HQ.out xs[k] (List.getElem_mem _)
        have hst : (xs.take (k + 1)).map deedOf = (xs.take k).map deedOf ++ [deedOf xs[k]] := by rw [List.take_succ_eq_append_getElem hz, List.map_append]; rfl
        generalize xs[k] = x at hc0 hc1 hc2 hc3 hok hst
        obtain ⟨xa, xb, xc, xd⟩ := x
        obtain ⟨⟨a1, a2⟩, ⟨b1, b2⟩, ⟨g1, g2⟩, ⟨d1, d2⟩⟩ := hok
        dsimp only at hc0 hc1 hc2 hc3 a1 a2 b1 b2 g1 g2 d1 d2
        have HS := Lib.hid hst
        have HR := Lib.hid hrow
        have hlen : ((xs.take k).map deedOf).length ≤ 16 := by simp; omega
        clear hst hrow
        generalize (xs.take k).map deedOf = out at HS HR hlen
        have pb1 := pickI_bd xa 5 (by omega)
        have pb2 := pickI_bd xb 4 (by omega)
        have pb3 := pickI_bd xc 12 (by omega)
        have pb4 := pickI_bd xd 500 (by omega)
        go_wp2_with fail
        refine wp_region_obl 27 (fun ix vals v w1 => match ix with | 0 => v = .slice (some ⟨b, o, none⟩) n c | 1 => v = .int .i64 (k : Int) | 2 => v = .pointer (some ⟨b, o + k * 4, none⟩) | 3 => v = .pointer (some ⟨b, o + k * 4, none⟩) | 4 => v = .int .i64 xa | 5 => v = .int .i64 (pickI xa 5) | 6 => v = .slice (some ⟨b, o, none⟩) n c | 7 => v = .int .i64 (k : Int) | 8 => v = .pointer (some ⟨b, o + k * 4, none⟩) | 9 => v = .pointer (some ⟨b, o + k * 4 + 1, none⟩) | 10 => v = .int .i64 xb | 11 => v = .int .i64 (pickI xb 4) | 12 => v = .slice (some ⟨b, o, none⟩) n c | 13 => v = .int .i64 (k : Int) | 14 => v = .pointer (some ⟨b, o + k * 4, none⟩) | 15 => v = .pointer (some ⟨b, o + k * 4 + 2, none⟩) | 16 => v = .int .i64 xc | 17 => v = .int .i64 (pickI xc 12) | 18 => v = .int .i64 (1 + pickI xc 12) | 19 => v = .slice (some ⟨b, o, none⟩) n c | 20 => v = .int .i64 (k : Int) | 21 => v = .pointer (some ⟨b, o + k * 4, none⟩) | 22 => v = .pointer (some ⟨b, o + k * 4 + 3, none⟩) | 23 => v = .int .i64 xd | 24 => v = .int .i64 (pickI xd 500) | 25 => v = .agg #[.int .i64 (pickI xa 5), .int .i64 (pickI xb 4), .int .i64 0, .int .i64 (1 + pickI xc 12), .int .i64 (pickI xd 500)] | _ => ∃ g, v = .pointer (some ⟨g, 0, none⟩) ∧ wr.heap.size ≤ g ∧ Blk w1 g 30 #[.int .i64 0, .int .i64 0, .int .i64 0, .int .i64 0, .int .i64 0]) (by kernel_rfl) (by kernel_rfl) ?_ ?_ ?_ ?_
        · intro ix vals v w1 w2 hi hr hx
          match ix, hr with
          | 0, hr => exact hr
          | 1, hr => exact hr
          | 2, hr => exact hr
          | 3, hr => exact hr
          | 4, hr => exact hr
          | 5, hr => exact hr
          | 6, hr => exact hr
          | 7, hr => exact hr
          | 8, hr => exact hr
          | 9, hr => exact hr
          | 10, hr => exact hr
          | 11, hr => exact hr
          | 12, hr => exact hr
          | 13, hr => exact hr
          | 14, hr => exact hr
          | 15, hr => exact hr
          | 16, hr => exact hr
          | 17, hr => exact hr
          | 18, hr => exact hr
          | 19, hr => exact hr
          | 20, hr => exact hr
          | 21, hr => exact hr
          | 22, hr => exact hr
          | 23, hr => exact hr
          | 24, hr => exact hr
          | 25, hr => exact hr
          | (kx + 26), hr => obtain ⟨g, h1, h2, h3⟩ := hr; exact ⟨g, h1, h2, h3.ext hx⟩
        · intro ix vals vals_ v w1 hi hv hr
          exact hr
        · refine ⟨?_, ?_, ?_, ?_, ?_, ?_, ?_, ?_, ?_, ?_, ?_, ?_, ?_, ?_, ?_, ?_, ?_, ?_, ?_, ?_, ?_, ?_, ?_, ?_, ?_, ?_, ?_, trivial⟩
          · intro vals w1 hx hd ha
            clear hd ha
            simp only [Lf]
            have hc0 := ext_cell hx hc0
            have hc1 := ext_cell hx hc1
            have hc2 := ext_cell hx hc2
            have hc3 := ext_cell hx hc3
            go_wp2
            exact ⟨rfl, Ext.refl _, rfl⟩
          · intro vals w1 hx hd ha
            clear hd ha
            simp only [Lf, dstAt, Act.put, List.getElem?_toArray, List.getElem?_cons_zero, Option.bind_some, List.setIfInBounds_toArray, List.set_cons_zero, List.set_cons_succ]
            have hc0 := ext_cell hx hc0
            have hc1 := ext_cell hx hc1
            have hc2 := ext_cell hx hc2
            have hc3 := ext_cell hx hc3
            go_wp2
            exact ⟨rfl, Ext.refl _, rfl⟩
          · intro vals w1 hx hd ha
            have e0 : vals 0 = .slice (some ⟨b, o, none⟩) n c := hd 0 (by decide)
            have e1 : vals 1 = .int .i64 (k : Int) := hd 1 (by decide)
            clear hd ha
            simp only [Lf, dstAt, Act.put, List.getElem?_toArray, List.getElem?_cons_zero, List.getElem?_cons_succ, Option.bind_some, List.setIfInBounds_toArray, List.set_cons_zero, List.set_cons_succ]
            simp only [e0, e1]
            clear e0 e1
            have hc0 := ext_cell hx hc0
            have hc1 := ext_cell hx hc1
            have hc2 := ext_cell hx hc2
            have hc3 := ext_cell hx hc3
            go_wp2
            exact ⟨rfl, Ext.refl _, rfl⟩
          · intro vals w1 hx hd ha
            have e2 : vals 2 = .pointer (some ⟨b, o + k * 4, none⟩) := hd 2 (by decide)
            clear hd ha
            simp only [Lf, dstAt, Act.put, List.getElem?_toArray, List.getElem?_cons_zero, List.getElem?_cons_succ, Option.bind_some, List.setIfInBounds_toArray, List.set_cons_zero, List.set_cons_succ]
            simp only [e2]
            clear e2
            have hc0 := ext_cell hx hc0
            have hc1 := ext_cell hx hc1
            have hc2 := ext_cell hx hc2
            have hc3 := ext_cell hx hc3
            go_wp2
            exact ⟨rfl, Ext.refl _, rfl⟩
          · intro vals w1 hx hd ha
            have e3 : vals 3 = .pointer (some ⟨b, o + k * 4, none⟩) := hd 3 (by decide)
            clear hd ha
            simp only [Lf, dstAt, Act.put, List.getElem?_toArray, List.getElem?_cons_zero, List.getElem?_cons_succ, Option.bind_some, List.setIfInBounds_toArray, List.set_cons_zero, List.set_cons_succ]
            simp only [e3]
            clear e3
            have hc0 := ext_cell hx hc0
            have hc1 := ext_cell hx hc1
            have hc2 := ext_cell hx hc2
            have hc3 := ext_cell hx hc3
            go_wp2
            exact ⟨rfl, Ext.refl _, rfl⟩
          · intro vals w1 hx hd ha
            have e4 : vals 4 = .int .i64 xa := hd 4 (by decide)
            clear hd ha
            simp only [Lf, dstAt, Act.put, List.getElem?_toArray, List.getElem?_cons_zero, List.getElem?_cons_succ, Option.bind_some, List.setIfInBounds_toArray, List.set_cons_zero, List.set_cons_succ]
            have hc0 := ext_cell hx hc0
            have hc1 := ext_cell hx hc1
            have hc2 := ext_cell hx hc2
            have hc3 := ext_cell hx hc3
            simp only [e4]
            clear e4
            go_wp2_with fail
            refine (rpick_any _ _ _ (by omega) (by omega) (by omega) (by omega)).mono ?_
            rintro e w2 ⟨rfl, rfl⟩
            go_wp2
            exact ⟨rfl, Ext.refl _, rfl⟩
          · intro vals w1 hx hd ha
            clear hd ha
            simp only [Lf, dstAt, Act.put, List.getElem?_toArray, List.getElem?_cons_zero, List.getElem?_cons_succ, Option.bind_some, List.setIfInBounds_toArray, List.set_cons_zero, List.set_cons_succ]
            have hc0 := ext_cell hx hc0
            have hc1 := ext_cell hx hc1
            have hc2 := ext_cell hx hc2
            have hc3 := ext_cell hx hc3
            go_wp2
            exact ⟨rfl, Ext.refl _, rfl⟩
          · intro vals w1 hx hd ha
            clear hd ha
            simp only [Lf, dstAt, Act.put, List.getElem?_toArray, List.getElem?_cons_zero, List.getElem?_cons_succ, Option.bind_some, List.setIfInBounds_toArray, List.set_cons_zero, List.set_cons_succ]
            have hc0 := ext_cell hx hc0
            have hc1 := ext_cell hx hc1
            have hc2 := ext_cell hx hc2
            have hc3 := ext_cell hx hc3
            go_wp2
            exact ⟨rfl, Ext.refl _, rfl⟩
          · intro vals w1 hx hd ha
            have e6 : vals 6 = .slice (some ⟨b, o, none⟩) n c := hd 6 (by decide)
            have e7 : vals 7 = .int .i64 (k : Int) := hd 7 (by decide)
            clear hd ha
            simp only [Lf, dstAt, Act.put, List.getElem?_toArray, List.getElem?_cons_zero, List.getElem?_cons_succ, Option.bind_some, List.setIfInBounds_toArray, List.set_cons_zero, List.set_cons_succ]
            simp only [e6, e7]
            clear e6 e7
            have hc0 := ext_cell hx hc0
            have hc1 := ext_cell hx hc1
            have hc2 := ext_cell hx hc2
            have hc3 := ext_cell hx hc3
            go_wp2
            exact ⟨rfl, Ext.refl _, rfl⟩
          · intro vals w1 hx hd ha
            have e8 : vals 8 = .pointer (some ⟨b, o + k * 4, none⟩) := hd 8 (by decide)
            clear hd ha
            simp only [Lf, dstAt, Act.put, List.getElem?_toArray, List.getElem?_cons_zero, List.getElem?_cons_succ, Option.bind_some, List.setIfInBounds_toArray, List.set_cons_zero, List.set_cons_succ]
            simp only [e8]
            clear e8
            have hc0 := ext_cell hx hc0
            have hc1 := ext_cell hx hc1
            have hc2 := ext_cell hx hc2
            have hc3 := ext_cell hx hc3
            go_wp2
            exact ⟨rfl, Ext.refl _, rfl⟩
          · intro vals w1 hx hd ha
            have e9 : vals 9 = .pointer (some ⟨b, o + k * 4 + 1, none⟩) := hd 9 (by decide)
            clear hd ha
            simp only [Lf, dstAt, Act.put, List.getElem?_toArray, List.getElem?_cons_zero, List.getElem?_cons_succ, Option.bind_some, List.setIfInBounds_toArray, List.set_cons_zero, List.set_cons_succ]
            simp only [e9]
            clear e9
            have hc0 := ext_cell hx hc0
            have hc1 := ext_cell hx hc1
            have hc2 := ext_cell hx hc2
            have hc3 := ext_cell hx hc3
            go_wp2
            exact ⟨rfl, Ext.refl _, rfl⟩
          · intro vals w1 hx hd ha
            have e5 : vals 5 = .int .i64 (pickI xa 5) := hd 5 (by decide)
            have e10 : vals 10 = .int .i64 xb := hd 10 (by decide)
            clear hd ha
            simp only [Lf, dstAt, Act.put, List.getElem?_toArray, List.getElem?_cons_zero, List.getElem?_cons_succ, Option.bind_some, List.setIfInBounds_toArray, List.set_cons_zero, List.set_cons_succ]
            have hc0 := ext_cell hx hc0
            have hc1 := ext_cell hx hc1
            have hc2 := ext_cell hx hc2
            have hc3 := ext_cell hx hc3
            simp only [e5]
            simp only [e10]
            clear e5 e10
            go_wp2_with fail
            refine (rpick_any _ _ _ (by omega) (by omega) (by omega) (by omega)).mono ?_
            rintro e w2 ⟨rfl, rfl⟩
            go_wp2
            exact ⟨rfl, Ext.refl _, rfl⟩
          · intro vals w1 hx hd ha
            clear hd ha
            simp only [Lf, dstAt, Act.put, List.getElem?_toArray, List.getElem?_cons_zero, List.getElem?_cons_succ, Option.bind_some, List.setIfInBounds_toArray, List.set_cons_zero, List.set_cons_succ]
            have hc0 := ext_cell hx hc0
            have hc1 := ext_cell hx hc1
            have hc2 := ext_cell hx hc2
            have hc3 := ext_cell hx hc3
            go_wp2
            exact ⟨rfl, Ext.refl _, rfl⟩
          · intro vals w1 hx hd ha
            clear hd ha
            simp only [Lf, dstAt, Act.put, List.getElem?_toArray, List.getElem?_cons_zero, List.getElem?_cons_succ, Option.bind_some, List.setIfInBounds_toArray, List.set_cons_zero, List.set_cons_succ]
            have hc0 := ext_cell hx hc0
            have hc1 := ext_cell hx hc1
            have hc2 := ext_cell hx hc2
            have hc3 := ext_cell hx hc3
            go_wp2
            exact ⟨rfl, Ext.refl _, rfl⟩
          · intro vals w1 hx hd ha
            have e12 : vals 12 = .slice (some ⟨b, o, none⟩) n c := hd 12 (by decide)
            have e13 : vals 13 = .int .i64 (k : Int) := hd 13 (by decide)
            clear hd ha
            simp only [Lf, dstAt, Act.put, List.getElem?_toArray, List.getElem?_cons_zero, List.getElem?_cons_succ, Option.bind_some, List.setIfInBounds_toArray, List.set_cons_zero, List.set_cons_succ]
            simp only [e12, e13]
            clear e12 e13
            have hc0 := ext_cell hx hc0
            have hc1 := ext_cell hx hc1
            have hc2 := ext_cell hx hc2
            have hc3 := ext_cell hx hc3
            go_wp2
            exact ⟨rfl, Ext.refl _, rfl⟩
          · intro vals w1 hx hd ha
            have e14 : vals 14 = .pointer (some ⟨b, o + k * 4, none⟩) := hd 14 (by decide)
            clear hd ha
            simp only [Lf, dstAt, Act.put, List.getElem?_toArray, List.getElem?_cons_zero, List.getElem?_cons_succ, Option.bind_some, List.setIfInBounds_toArray, List.set_cons_zero, List.set_cons_succ]
            simp only [e14]
            clear e14
            have hc0 := ext_cell hx hc0
            have hc1 := ext_cell hx hc1
            have hc2 := ext_cell hx hc2
            have hc3 := ext_cell hx hc3
            go_wp2
            exact ⟨rfl, Ext.refl _, rfl⟩
          · intro vals w1 hx hd ha
            have e15 : vals 15 = .pointer (some ⟨b, o + k * 4 + 2, none⟩) := hd 15 (by decide)
            clear hd ha
            simp only [Lf, dstAt, Act.put, List.getElem?_toArray, List.getElem?_cons_zero, List.getElem?_cons_succ, Option.bind_some, List.setIfInBounds_toArray, List.set_cons_zero, List.set_cons_succ]
            simp only [e15]
            clear e15
            have hc0 := ext_cell hx hc0
            have hc1 := ext_cell hx hc1
            have hc2 := ext_cell hx hc2
            have hc3 := ext_cell hx hc3
            go_wp2
            exact ⟨rfl, Ext.refl _, rfl⟩
          · intro vals w1 hx hd ha
            have e11 : vals 11 = .int .i64 (pickI xb 4) := hd 11 (by decide)
            have e16 : vals 16 = .int .i64 xc := hd 16 (by decide)
            clear hd ha
            simp only [Lf, dstAt, Act.put, List.getElem?_toArray, List.getElem?_cons_zero, List.getElem?_cons_succ, Option.bind_some, List.setIfInBounds_toArray, List.set_cons_zero, List.set_cons_succ]
            have hc0 := ext_cell hx hc0
            have hc1 := ext_cell hx hc1
            have hc2 := ext_cell hx hc2
            have hc3 := ext_cell hx hc3
            simp only [e11]
            simp only [e16]
            clear e11 e16
            go_wp2_with fail
            refine (rpick_any _ _ _ (by omega) (by omega) (by omega) (by omega)).mono ?_
            rintro e w2 ⟨rfl, rfl⟩
            go_wp2
            exact ⟨rfl, Ext.refl _, rfl⟩
          · intro vals w1 hx hd ha
            have e17 : vals 17 = .int .i64 (pickI xc 12) := hd 17 (by decide)
            clear hd ha
            simp only [Lf, dstAt, Act.put, List.getElem?_toArray, List.getElem?_cons_zero, List.getElem?_cons_succ, Option.bind_some, List.setIfInBounds_toArray, List.set_cons_zero, List.set_cons_succ]
            simp only [e17]
            clear e17
            have hc0 := ext_cell hx hc0
            have hc1 := ext_cell hx hc1
            have hc2 := ext_cell hx hc2
            have hc3 := ext_cell hx hc3
            go_wp2
            exact ⟨rfl, Ext.refl _, rfl⟩
          · intro vals w1 hx hd ha
            clear hd ha
            simp only [Lf, dstAt, Act.put, List.getElem?_toArray, List.getElem?_cons_zero, List.getElem?_cons_succ, Option.bind_some, List.setIfInBounds_toArray, List.set_cons_zero, List.set_cons_succ]
            have hc0 := ext_cell hx hc0
            have hc1 := ext_cell hx hc1
            have hc2 := ext_cell hx hc2
            have hc3 := ext_cell hx hc3
            go_wp2
            exact ⟨rfl, Ext.refl _, rfl⟩
          · intro vals w1 hx hd ha
            clear hd ha
            simp only [Lf, dstAt, Act.put, List.getElem?_toArray, List.getElem?_cons_zero, List.getElem?_cons_succ, Option.bind_some, List.setIfInBounds_toArray, List.set_cons_zero, List.set_cons_succ]
            have hc0 := ext_cell hx hc0
            have hc1 := ext_cell hx hc1
            have hc2 := ext_cell hx hc2
            have hc3 := ext_cell hx hc3
            go_wp2
            exact ⟨rfl, Ext.refl _, rfl⟩
          · intro vals w1 hx hd ha
            have e19 : vals 19 = .slice (some ⟨b, o, none⟩) n c := hd 19 (by decide)
            have e20 : vals 20 = .int .i64 (k : Int) := hd 20 (by decide)
            clear hd ha
            simp only [Lf, dstAt, Act.put, List.getElem?_toArray, List.getElem?_cons_zero, List.getElem?_cons_succ, Option.bind_some, List.setIfInBounds_toArray, List.set_cons_zero, List.set_cons_succ]
            simp only [e19, e20]
            clear e19 e20
            have hc0 := ext_cell hx hc0
            have hc1 := ext_cell hx hc1
            have hc2 := ext_cell hx hc2
            have hc3 := ext_cell hx hc3
            go_wp2
            exact ⟨rfl, Ext.refl _, rfl⟩
          · intro vals w1 hx hd ha
            have e21 : vals 21 = .pointer (some ⟨b, o + k * 4, none⟩) := hd 21 (by decide)
            clear hd ha
            simp only [Lf, dstAt, Act.put, List.getElem?_toArray, List.getElem?_cons_zero, List.getElem?_cons_succ, Option.bind_some, List.setIfInBounds_toArray, List.set_cons_zero, List.set_cons_succ]
            simp only [e21]
            clear e21
            have hc0 := ext_cell hx hc0
            have hc1 := ext_cell hx hc1
            have hc2 := ext_cell hx hc2
            have hc3 := ext_cell hx hc3
            go_wp2
            exact ⟨rfl, Ext.refl _, rfl⟩
          · intro vals w1 hx hd ha
            have e22 : vals 22 = .pointer (some ⟨b, o + k * 4 + 3, none⟩) := hd 22 (by decide)
            clear hd ha
            simp only [Lf, dstAt, Act.put, List.getElem?_toArray, List.getElem?_cons_zero, List.getElem?_cons_succ, Option.bind_some, List.setIfInBounds_toArray, List.set_cons_zero, List.set_cons_succ]
            simp only [e22]
            clear e22
            have hc0 := ext_cell hx hc0
            have hc1 := ext_cell hx hc1
            have hc2 := ext_cell hx hc2
            have hc3 := ext_cell hx hc3
            go_wp2
            exact ⟨rfl, Ext.refl _, rfl⟩
          · intro vals w1 hx hd ha
            have e17 : vals 17 = .int .i64 (pickI xc 12) := hd 17 (by decide)
            have e23 : vals 23 = .int .i64 xd := hd 23 (by decide)
            clear hd ha
            simp only [Lf, dstAt, Act.put, List.getElem?_toArray, List.getElem?_cons_zero, List.getElem?_cons_succ, Option.bind_some, List.setIfInBounds_toArray, List.set_cons_zero, List.set_cons_succ]
            have hc0 := ext_cell hx hc0
            have hc1 := ext_cell hx hc1
            have hc2 := ext_cell hx hc2
            have hc3 := ext_cell hx hc3
            simp only [e17]
            simp only [e23]
            clear e17 e23
            go_wp2_with fail
            refine (rpick_any _ _ _ (by omega) (by omega) (by omega) (by omega)).mono ?_
            rintro e w2 ⟨rfl, rfl⟩
            go_wp2
            exact ⟨rfl, Ext.refl _, rfl⟩
          · intro vals w1 hx hd ha
            have e5 : vals 5 = .int .i64 (pickI xa 5) := hd 5 (by decide)
            have e11 : vals 11 = .int .i64 (pickI xb 4) := hd 11 (by decide)
            have e18 : vals 18 = .int .i64 (1 + pickI xc 12) := hd 18 (by decide)
            have e24 : vals 24 = .int .i64 (pickI xd 500) := hd 24 (by decide)
            clear hd ha
            simp only [Lf, dstAt, Act.put, List.getElem?_toArray, List.getElem?_cons_zero, List.getElem?_cons_succ, Option.bind_some, List.setIfInBounds_toArray, List.set_cons_zero, List.set_cons_succ]
            simp only [e5, e11, e18, e24]
            clear e5 e11 e18 e24
            have hc0 := ext_cell hx hc0
            have hc1 := ext_cell hx hc1
            have hc2 := ext_cell hx hc2
            have hc3 := ext_cell hx hc3
            go_wp2
            exact ⟨rfl, Ext.refl _, rfl⟩
          · intro vals w1 hx hd ha
            clear hd ha
            simp only [Lf, dstAt, Act.put, List.getElem?_toArray, List.getElem?_cons_zero, List.getElem?_cons_succ, Option.bind_some, List.setIfInBounds_toArray, List.set_cons_zero, List.set_cons_succ]
            have hc0 := ext_cell hx hc0
            have hc1 := ext_cell hx hc1
            have hc2 := ext_cell hx hc2
            have hc3 := ext_cell hx hc3
            have hz := Below.size hx.undrew
            go_wp2
            exact ⟨rfl, (by repeat (first | exact Below.refl _ _ | assumption | refine Below.drew ?_ | refine below_drewN ?_ _ | refine bl_alloc ?_ _ | refine Below.setCell ?_ (by first | (simp; done) | omega | (simp; omega)) _ | refine bl_then ?_ (by assumption))), _, rfl, by omega, Blk.new _ _ _⟩
        intro vals w2 hx hf
        have e25 : vals 25 = .agg #[.int .i64 (pickI xa 5), .int .i64 (pickI xb 4), .int .i64 0, .int .i64 (1 + pickI xc 12), .int .i64 (pickI xd 500)] := hf 25 (by omega)
        obtain ⟨g, e26, hg, jg⟩ : ∃ g, vals 26 = .pointer (some ⟨g, 0, none⟩) ∧ wr.heap.size ≤ g ∧ Blk w2 g 30 #[.int .i64 0, .int .i64 0, .int .i64 0, .int .i64 0, .int .i64 0] := hf 26 (by omega)
        clear hf
        have hx := hx.undrew
        have q0 := jg.cell 0
        have q1 := jg.cell 1
        have q2 := jg.cell 2
        have q3 := jg.cell 3
        have q4 := jg.cell 4
        have f0 := jg.frozen 0
        have f1 := jg.frozen 1
        have f2 := jg.frozen 2
        have f3 := jg.frozen 3
        have f4 := jg.frozen 4
        refine tail1 27 _ (by kernel_rfl) (by kernel_rfl) rfl ?_
        simp only [Lf, dstAt, Act.put, List.getElem?_toArray, List.getElem?_cons_zero, List.getElem?_cons_succ, Option.bind_some, List.setIfInBounds_toArray, List.set_cons_zero, List.set_cons_succ]
        rw [e25, e26]
        clear e25 e26
        go_wp2_with fail
        generalize hW3 : (((((w2.setCell ⟨g, 0, none⟩ _).setCell ⟨g, 1, none⟩ _).setCell ⟨g, 2, none⟩ _).setCell ⟨g, 3, none⟩ _).setCell ⟨g, 4, none⟩ _) = W3
        have j3 : Blk W3 g 30 #[.int .i64 (pickI xa 5), .int .i64 (pickI xb 4), .int .i64 0, .int .i64 (1 + pickI xc 12), .int .i64 (pickI xd 500)] := by subst hW3; exact ((((jg.set_ 0 _).set_ 1 _).set_ 2 _).set_ 3 _).set_ 4 _
        have hx3 : Ext wr W3 := by
          subst hW3
          exact ((((Below.setCell (p := ⟨g, 0, none⟩) hx hg _).setCell (p := ⟨g, 1, none⟩) hg _).setCell (p := ⟨g, 2, none⟩) hg _).setCell (p := ⟨g, 3, none⟩) hg _).setCell (p := ⟨g, 4, none⟩) hg _
        clear hW3 jg q0 q1 q2 q3 q4 f0 f1 f2 f3 f4 hx
        have hc1 := ext_cell hx3 hc1
        have hB3 : Below w.heap.size w W3 := hB.trans (Below.mono hx3 hB.size)
        have q1 := j3.cell 1
        have pb5 := pickI_bd (xb.tdiv 4) 3 (by omega)
        obtain ⟨ht1, ht2⟩ := tdiv4_bd xb b1 b2
        clear hc0 hc2 hc3
        refine wp_region_obl 13 (fun ix vals v w1 => match ix with | 0 => v = .pointer (some ⟨g, 1, none⟩) | 1 => v = .int .i64 (pickI xb 4) | 2 => v = .int .i64 (pickI xb 4 + 1) | 3 => v = .slice (some ⟨b, o, none⟩) n c | 4 => v = .int .i64 (k : Int) | 5 => v = .pointer (some ⟨b, o + k * 4, none⟩) | 6 => v = .pointer (some ⟨b, o + k * 4 + 1, none⟩) | 7 => v = .int .i64 xb | 8 => v = .int .i64 (xb.tdiv 4) | 9 => v = .int .i64 (pickI (xb.tdiv 4) 3) | 10 => v = .int .i64 (pickI xb 4 + 1 + pickI (xb.tdiv 4) 3) | 11 => v = .int .i64 ((pickI xb 4 + 1 + pickI (xb.tdiv 4) 3) % 4) | _ => v = .pointer (some ⟨g, 2, none⟩)) (by kernel_rfl) (by kernel_rfl) ?_ ?_ ?_ ?_
        · intro ix vals v w1 w2 hi hr hx
          match ix, hr with
          | 0, hr => exact hr
          | 1, hr => exact hr
          | 2, hr => exact hr
          | 3, hr => exact hr
          | 4, hr => exact hr
          | 5, hr => exact hr
          | 6, hr => exact hr
          | 7, hr => exact hr
          | 8, hr => exact hr
          | 9, hr => exact hr
          | 10, hr => exact hr
          | 11, hr => exact hr
          | (kx + 12), hr => exact hr
        · intro ix vals vals_ v w1 hi hv hr
          exact hr
        · refine ⟨?_, ?_, ?_, ?_, ?_, ?_, ?_, ?_, ?_, ?_, ?_, ?_, ?_, trivial⟩
          · intro vals w1 hx hd ha
            clear hd ha
            simp only [Lf]
            have hc1 := ext_cell hx hc1
            have q1 := ext_cell hx q1
            go_wp2
            exact ⟨rfl, Ext.refl _, rfl⟩
          · intro vals w1 hx hd ha
            have e0 : vals 0 = .pointer (some ⟨g, 1, none⟩) := hd 0 (by decide)
            clear hd ha
            simp only [Lf, dstAt, Act.put, List.getElem?_toArray, List.getElem?_cons_zero, Option.bind_some, List.setIfInBounds_toArray, List.set_cons_zero, List.set_cons_succ]
            simp only [e0]
            clear e0
            have hc1 := ext_cell hx hc1
            have q1 := ext_cell hx q1
            go_wp2
            exact ⟨rfl, Ext.refl _, rfl⟩
          · intro vals w1 hx hd ha
            have e1 : vals 1 = .int .i64 (pickI xb 4) := hd 1 (by decide)
            clear hd ha
            simp only [Lf, dstAt, Act.put, List.getElem?_toArray, List.getElem?_cons_zero, List.getElem?_cons_succ, Option.bind_some, List.setIfInBounds_toArray, List.set_cons_zero, List.set_cons_succ]
            simp only [e1]
            clear e1
            have hc1 := ext_cell hx hc1
            have q1 := ext_cell hx q1
            go_wp2
            exact ⟨rfl, Ext.refl _, rfl⟩
          · intro vals w1 hx hd ha
            clear hd ha
            simp only [Lf, dstAt, Act.put, List.getElem?_toArray, List.getElem?_cons_zero, List.getElem?_cons_succ, Option.bind_some, List.setIfInBounds_toArray, List.set_cons_zero, List.set_cons_succ]
            have hc1 := ext_cell hx hc1
            have q1 := ext_cell hx q1
            go_wp2
            exact ⟨rfl, Ext.refl _, rfl⟩
          · intro vals w1 hx hd ha
            clear hd ha
            simp only [Lf, dstAt, Act.put, List.getElem?_toArray, List.getElem?_cons_zero, List.getElem?_cons_succ, Option.bind_some, List.setIfInBounds_toArray, List.set_cons_zero, List.set_cons_succ]
            have hc1 := ext_cell hx hc1
            have q1 := ext_cell hx q1
            go_wp2
            exact ⟨rfl, Ext.refl _, rfl⟩
          · intro vals w1 hx hd ha
            have e3 : vals 3 = .slice (some ⟨b, o, none⟩) n c := hd 3 (by decide)
            have e4 : vals 4 = .int .i64 (k : Int) := hd 4 (by decide)
            clear hd ha
            simp only [Lf, dstAt, Act.put, List.getElem?_toArray, List.getElem?_cons_zero, List.getElem?_cons_succ, Option.bind_some, List.setIfInBounds_toArray, List.set_cons_zero, List.set_cons_succ]
            simp only [e3, e4]
            clear e3 e4
            have hc1 := ext_cell hx hc1
            have q1 := ext_cell hx q1
            go_wp2
            exact ⟨rfl, Ext.refl _, rfl⟩
          · intro vals w1 hx hd ha
            have e5 : vals 5 = .pointer (some ⟨b, o + k * 4, none⟩) := hd 5 (by decide)
            clear hd ha
            simp only [Lf, dstAt, Act.put, List.getElem?_toArray, List.getElem?_cons_zero, List.getElem?_cons_succ, Option.bind_some, List.setIfInBounds_toArray, List.set_cons_zero, List.set_cons_succ]
            simp only [e5]
            clear e5
            have hc1 := ext_cell hx hc1
            have q1 := ext_cell hx q1
            go_wp2
            exact ⟨rfl, Ext.refl _, rfl⟩
          · intro vals w1 hx hd ha
            have e6 : vals 6 = .pointer (some ⟨b, o + k * 4 + 1, none⟩) := hd 6 (by decide)
            clear hd ha
            simp only [Lf, dstAt, Act.put, List.getElem?_toArray, List.getElem?_cons_zero, List.getElem?_cons_succ, Option.bind_some, List.setIfInBounds_toArray, List.set_cons_zero, List.set_cons_succ]
            simp only [e6]
            clear e6
            have hc1 := ext_cell hx hc1
            have q1 := ext_cell hx q1
            go_wp2
            exact ⟨rfl, Ext.refl _, rfl⟩
          · intro vals w1 hx hd ha
            have e7 : vals 7 = .int .i64 xb := hd 7 (by decide)
            clear hd ha
            simp only [Lf, dstAt, Act.put, List.getElem?_toArray, List.getElem?_cons_zero, List.getElem?_cons_succ, Option.bind_some, List.setIfInBounds_toArray, List.set_cons_zero, List.set_cons_succ]
            simp only [e7]
            clear e7
            have hc1 := ext_cell hx hc1
            have q1 := ext_cell hx q1
            go_wp2
            exact ⟨rfl, Ext.refl _, rfl⟩
          · intro vals w1 hx hd ha
            have e8 : vals 8 = .int .i64 (xb.tdiv 4) := hd 8 (by decide)
            clear hd ha
            simp only [Lf, dstAt, Act.put, List.getElem?_toArray, List.getElem?_cons_zero, List.getElem?_cons_succ, Option.bind_some, List.setIfInBounds_toArray, List.set_cons_zero, List.set_cons_succ]
            have hc1 := ext_cell hx hc1
            have q1 := ext_cell hx q1
            simp only [e8]
            clear e8
            go_wp2_with fail
            refine (rpick_any _ _ _ (by omega) (by omega) (by omega) (by omega)).mono ?_
            rintro e w2 ⟨rfl, rfl⟩
            go_wp2
            exact ⟨rfl, Ext.refl _, rfl⟩
          · intro vals w1 hx hd ha
            have e2 : vals 2 = .int .i64 (pickI xb 4 + 1) := hd 2 (by decide)
            have e9 : vals 9 = .int .i64 (pickI (xb.tdiv 4) 3) := hd 9 (by decide)
            clear hd ha
            simp only [Lf, dstAt, Act.put, List.getElem?_toArray, List.getElem?_cons_zero, List.getElem?_cons_succ, Option.bind_some, List.setIfInBounds_toArray, List.set_cons_zero, List.set_cons_succ]
            simp only [e2, e9]
            clear e2 e9
            have hc1 := ext_cell hx hc1
            have q1 := ext_cell hx q1
            go_wp2
            exact ⟨rfl, Ext.refl _, rfl⟩
          · intro vals w1 hx hd ha
            have e10 : vals 10 = .int .i64 (pickI xb 4 + 1 + pickI (xb.tdiv 4) 3) := hd 10 (by decide)
            clear hd ha
            simp only [Lf, dstAt, Act.put, List.getElem?_toArray, List.getElem?_cons_zero, List.getElem?_cons_succ, Option.bind_some, List.setIfInBounds_toArray, List.set_cons_zero, List.set_cons_succ]
            simp only [e10]
            clear e10
            have hc1 := ext_cell hx hc1
            have q1 := ext_cell hx q1
            go_wp2
            exact ⟨rfl, Ext.refl _, rfl⟩
          · intro vals w1 hx hd ha
            have e0 : vals 0 = .pointer (some ⟨g, 1, none⟩) := hd 0 (by decide)
            have e1 : vals 1 = .int .i64 (pickI xb 4) := hd 1 (by decide)
            have e2 : vals 2 = .int .i64 (pickI xb 4 + 1) := hd 2 (by decide)
            have e3 : vals 3 = .slice (some ⟨b, o, none⟩) n c := hd 3 (by decide)
            have e4 : vals 4 = .int .i64 (k : Int) := hd 4 (by decide)
            have e5 : vals 5 = .pointer (some ⟨b, o + k * 4, none⟩) := hd 5 (by decide)
            have e6 : vals 6 = .pointer (some ⟨b, o + k * 4 + 1, none⟩) := hd 6 (by decide)
            have e7 : vals 7 = .int .i64 xb := hd 7 (by decide)
            have e8 : vals 8 = .int .i64 (xb.tdiv 4) := hd 8 (by decide)
            have e9 : vals 9 = .int .i64 (pickI (xb.tdiv 4) 3) := hd 9 (by decide)
            have e10 : vals 10 = .int .i64 (pickI xb 4 + 1 + pickI (xb.tdiv 4) 3) := hd 10 (by decide)
            have e11 : vals 11 = .int .i64 ((pickI xb 4 + 1 + pickI (xb.tdiv 4) 3) % 4) := hd 11 (by decide)
            clear hd ha
            simp only [Lf, dstAt, Act.put, List.getElem?_toArray, List.getElem?_cons_zero, List.getElem?_cons_succ, Option.bind_some, List.setIfInBounds_toArray, List.set_cons_zero, List.set_cons_succ]
            simp only [e0, e1, e2, e3, e4, e5, e6, e7, e8, e9, e10, e11]
            clear e0 e1 e2 e3 e4 e5 e6 e7 e8 e9 e10 e11
            have hc1 := ext_cell hx hc1
            have q1 := ext_cell hx q1
            go_wp2
            exact ⟨rfl, Ext.refl _, rfl⟩
        intro vals w5 hx5 hf
        have e11 : vals 11 = .int .i64 ((pickI xb 4 + 1 + pickI (xb.tdiv 4) 3) % 4) := hf 11 (by omega)
        have e12 : vals 12 = .pointer (some ⟨g, 2, none⟩) := hf 12 (by omega)
        clear hf
        have hx5 := hx5.undrew
        have j5 := j3.ext hx5
        have hB5 : Below w.heap.size w w5 := hB3.trans (Below.mono hx5 hB3.size)
        have hr5 : DeedRow w5 w.heap.size _ out := (HR.out.ext hx3).ext hx5
        have HR5 := Lib.hid hr5
        have hz5 : w.heap.size ≤ w5.heap.size := hB5.size
        have hg0 : w.heap.size ≤ g := by have := hB.size; omega
        have hrg : ¬ (Value.ownBlock _) = some g := fun hq => by
          have h1 := (HR.out.lt g hq).2
          omega
        have hr6 := fun v => own_set HR5.out (p := ⟨g, 2, none⟩) hrg v
        have H6 := Lib.hid hr6
        clear hr5 hx5 j3 hc1 q1 hx3 hB3 hrg hr6
        have q0 := j5.cell 0
        have q1 := j5.cell 1
        have q2 := j5.cell 2
        have q3 := j5.cell 3
        have q4 := j5.cell 4
        have f2 := j5.frozen 2
        refine tail1 13 _ (by kernel_rfl) (by kernel_rfl) rfl ?_
        simp only [Lf, dstAt, Act.put, List.getElem?_toArray, List.getElem?_cons_zero, List.getElem?_cons_succ, Option.bind_some, List.setIfInBounds_toArray, List.set_cons_zero, List.set_cons_succ]
        rw [e11, e12]
        clear e11 e12
        go_wp2_with (at_builtin; refine deed_app rfl _ _ rfl w.heap.size _ out rfl (DeedRow.ext (H6.out _) (by repeat (first | exact Below.refl _ _ | assumption | refine Below.drew ?_ | refine below_drewN ?_ _ | refine bl_alloc ?_ _ | refine Below.setCell ?_ (by first | (simp; done) | omega | (simp; omega)) _ | refine bl_then ?_ (by assumption)))) ⟨pickI xa 5, pickI xb 4, (pickI xb 4 + 1 + pickI (xb.tdiv 4) 3) % 4, 1 + pickI xc 12, pickI xd 500⟩ _ rfl (Blk.new_at _ _ (by simp)) (by omega) (by simp; omega) ?_)
        intro v' w7 hown' hg7 hat
        have hB7 : Below w.heap.size w w7 := Below.grown (B := w.heap.size) (w := (w5.setCell ⟨g, 2, none⟩ _).alloc _) (Below.alloc (Below.setCell hB5 (p := ⟨g, 2, none⟩) hg0 _) (by simp; omega) _) hg7 (by simp; omega) (fun q hq => (HR.out.lt q hq).1)
        clear hg7 hat
        go_wp2
        go_roundw
        case rel => exact ⟨k + 1, by omega, by omega, by go_num, by rw [HS.out]; exact hown', hB7⟩
        case measure => simp [intOf]; omega
      · have hrow := (by
          have e : k = 16 := by omega
          rw [e] at hrow
          exact hrow : DeedRow wr w.heap.size _ (deedsOf xs))
        have HR := Lib.hid hrow
        clear hrow
        go_wp2
        rw [← HP.out]
        exact ⟨_, rfl, hB, HR.out⟩
    · have hrow := (by
        have e : xs.take k = xs.take 16 := by
          have := HL.out
          rw [List.take_of_length_le (by omega), List.take_of_length_le (by omega)]
        rw [e] at hrow
        exact hrow : DeedRow wr w.heap.size _ (deedsOf xs))
      have HR := Lib.hid hrow
      clear hrow
      go_wp2
      rw [← HP.out]
      exact ⟨_, rfl, hB, HR.out⟩

end Go.Proofs.Ytpddnkefggaigaa
