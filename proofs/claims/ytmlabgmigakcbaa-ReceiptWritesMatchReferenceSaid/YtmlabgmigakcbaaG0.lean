/- Arguments: an option with its slots, receipts; copies of options, one replaced. -/
import Derived.Test.YtmlabgmigakcbaaB4
import Derived.Test.YtmlabgmigakcbaaReg2
import Derived.Test.YtmlabgmigakcbaaI1
import Derived.BigQuiet
import Derived.Test.YtmlabgmigakcbaaS5
import Derived.Test.YtmlabgmigakcbaaU1
import Derived.Test.YtmlabgmigakcbaaR9a
import Derived.Test.YtmlabgmigakcbaaR9
import Derived.Test.YtmlabgmigakcbaaS6
import Derived.Laws.Small
import Derived.Test.YtmlabgmigakcbaaH1
import Derived.Test.YtmlabgmigakcbaaZ1
import Derived.Test.YtmlabgmigakcbaaRw
import Derived.Deep.CutRange
import Derived.ArgAppend
namespace Go.Proofs.Ytmlabgmigakcbaa
open Go.RowKit

theorem stn_size : (Try.prog.info? 122).map (·.size) = some 6 := by kernel_rfl

theorem rin_any (n lo hi : Int) (w : World) :
    Calls Try.prog 78 #[.int .i64 n, .int .i64 lo, .int .i64 hi] w fun e w' => e = .returned (.bool (inB n lo hi)) ∧ w = w' := by
  by_cases h1 : lo ≤ n
  · have e : inB n lo hi = decide (n ≤ hi) := by simp [inB, h1]
    rw [e]
    go_enter Try.func78, Try.ntmps78
    go_wp2
    go_ret
    exact ⟨by first | rfl | simp [*], rfl⟩
  · have e : inB n lo hi = false := by simp [inB, h1]
    rw [e]
    go_enter Try.func78, Try.ntmps78
    go_wp2
    go_ret
    exact ⟨rfl, rfl⟩
set_option maxHeartbeats 1000000 in
theorem rcell_any (x y : Int) (w : World) :
    Calls Try.prog 93 #[.agg #[.int .i64 x, .int .i64 y]] w fun e w' => e = .returned (.bool (celOK ⟨x, y⟩)) ∧ Below w.heap.size w w' := by
  have hb : celOK ⟨x, y⟩ = ((decide (0 ≤ x) && decide (x ≤ 47)) && decide (0 ≤ y) && decide (y ≤ 23)) := by
    simp [celOK, inB, Bool.and_assoc]
  rw [hb]
  clear hb
  go_enter Try.func93, Try.ntmps93
  go_wp2
  all_goals
    go_ret
    exact ⟨by simp [*] <;> (intros; omega), (by repeat (first | exact Below.refl _ _ | assumption | refine Below.drew ?_ | refine below_drewN ?_ _ | refine bl_alloc ?_ _ | refine Below.setCell ?_ (by first | (simp; done) | omega | (simp; omega)) _ | refine bl_then ?_ (by assumption)))⟩
set_option maxHeartbeats 4000000 in
set_option maxRecDepth 100000 in
theorem rstn_valid (id x y re an sk : Int) (w : World) :
    Calls Try.prog 80 #[.agg #[.int .i64 id, .int .i64 x, .int .i64 y, .int .i64 re, .int .i64 an, .int .i64 sk]] w fun e w' => e = .returned (.bool (stnOK ⟨id, ⟨x, y⟩, re, an, sk⟩)) ∧ Below w.heap.size w w' := by
  have hs : stnOK ⟨id, ⟨x, y⟩, re, an, sk⟩ = (celOK ⟨x, y⟩ && inB id 0 11 && inB re 0 6 && inB an 1 8 && inB sk 0 30) := by
    rfl
  rw [hs]
  clear hs
  generalize hq : celOK ⟨x, y⟩ = q
  have HQ := Lib.hid hq
  clear hq
  go_enter Try.func80, Try.ntmps80
  go_wp2_with fail
  refine (rcell_any x y _).mono ?_
  rintro e W0 ⟨rfl, hb0⟩
  rw [HQ.out]
  have K := (Blk.new w 122 #[.int .i64 id, .int .i64 x, .int .i64 y, .int .i64 re, .int .i64 an, .int .i64 sk]).below hb0 (by simp)
  have hb : Below w.heap.size w W0 := (by repeat (first | exact Below.refl _ _ | assumption | refine Below.drew ?_ | refine below_drewN ?_ _ | refine bl_alloc ?_ _ | refine Below.setCell ?_ (by first | (simp; done) | omega | (simp; omega)) _ | refine bl_then ?_ (by assumption)))
  clear hb0
  have g0 : W0.cell? ⟨w.heap.size, 0, none⟩ = some (.int .i64 id) := K.cell 0
  have g1 : W0.cell? ⟨w.heap.size, 1, none⟩ = some (.int .i64 x) := K.cell 1
  have g2 : W0.cell? ⟨w.heap.size, 2, none⟩ = some (.int .i64 y) := K.cell 2
  have g3 : W0.cell? ⟨w.heap.size, 3, none⟩ = some (.int .i64 re) := K.cell 3
  have g4 : W0.cell? ⟨w.heap.size, 4, none⟩ = some (.int .i64 an) := K.cell 4
  have g5 : W0.cell? ⟨w.heap.size, 5, none⟩ = some (.int .i64 sk) := K.cell 5
  clear K
  cases q
  · go_wp2_with (go_at_call 78; refine (rin_any _ _ _ _).mono ?_; rintro e w' ⟨rfl, rfl⟩)
    all_goals
      go_ret
      exact ⟨by first | (simp [*]; done) | simp_all, hb⟩
  · go_wp2_with (go_at_call 78; refine (rin_any _ _ _ _).mono ?_; rintro e w' ⟨rfl, rfl⟩)
    all_goals
      go_ret
      exact ⟨by first | (simp [*]; done) | simp_all, hb⟩
theorem rstn_valid_x (x : Stn) (w : World) : Calls Try.prog 80 #[.agg (stnCells x).toArray] w fun e w' => e = .returned (.bool (stnOK x)) ∧ Below w.heap.size w w' := by
  obtain ⟨id, ⟨x, y⟩, re, an, sk⟩ := x
  exact rstn_valid id x y re an sk w
set_option maxRecDepth 100000 in
set_option maxHeartbeats 2000000 in
theorem rvalidStns_any (l : List Stn) (A : Option Addr) (n c : Nat) (w : World) (h : RA stnCells 6 w w.heap.size A n c l) :
    Calls Try.prog 44 #[.slice A n c] w fun e w' => e = .returned (.bool (stnsOK l)) ∧ Below w.heap.size w w' := by
  have HR := Lib.hid h
  have hle := h.le
  have hlen := h.len
  have HL := Lib.hid hlen
  have hs : stnsOK l = (decide (n ≤ 12) && listOK stnOK (·.id) none l) := by rw [stnsOK, hlen]
  rw [hs]
  clear h hs hlen
  by_cases hm : n ≤ 12
  · have hd : decide (n ≤ 12) = true := by simpa using hm
    rw [hd, Bool.true_and]
    clear hd
    have hrl : listOK stnOK (·.id) none l = listOK stnOK (·.id) (prevAt l 0) (l.drop 0) := by simp [prevAt]
    have HQ := Lib.hid hrl
    clear hrl
    go_enter Try.func44, Try.ntmps44
    go_wp2
    go_loopw [3] (fun i wr => ∃ k : Nat, k ≤ n ∧ i = .int .i64 k ∧ Hid (listOK stnOK (·.id) none l = listOK stnOK (·.id) (prevAt l k) (l.drop k)) ∧ Below w.heap.size w wr) (fun i _ => n - (intOf i).toNat)
    case atStart => exact ⟨0, Nat.zero_le _, rfl, HQ, Below.refl _ _⟩
    case round =>
      clear HQ
      obtain ⟨k, hk, rfl, HK, hB⟩ := hrel
      by_cases hlt : k < n
      · obtain ⟨b, o, hz, hA, hbl, hc⟩ := RA.range stn_len (HR.out.below hB) hlt
        have hst := listOK_step stnOK (fun x => x.id) l k hz
        rw [← HK.out] at hst
        generalize l[k] = x at hst hc
        have hv := rstn_valid_x x
        have HC := Lib.hid hc
        have g0 : wr.cell? ⟨b, o + k * 6, none⟩ = some (.int .i64 x.id) := hc 0 _ rfl
        obtain ⟨X, hX⟩ : ∃ X, (stnCells x).toArray = X := ⟨_, rfl⟩
        rw [hX] at hv
        have HV := Lib.hid hv
        have HXX := Lib.hid hX
        generalize stnOK x = q at hst HV
        have HS := Lib.hid hst
        clear hst hc HK hX hv
        subst hA
        have hblt : b < w.heap.size := hbl
        go_wp2
        cases q
        · skip
          refine wp_region_obl 24 (fun ix vals v w1 => match ix with | 0 => v = .slice (some ⟨b, o, none⟩) n c | 1 => v = .int .i64 (k : Int) | 2 => v = .pointer (some ⟨b, o + k * 6, none⟩) | 3 => v = .agg X | 4 => v = .bool false | 5 => v = .bool true | 6 => v = .bool true | 7 => v = undef | 8 => v = undef | 9 => v = undef | 10 => v = undef | 11 => v = undef | 12 => v = undef | 13 => v = undef | 14 => v = undef | 15 => v = undef | 16 => v = undef | 17 => v = undef | 18 => v = undef | 19 => v = undef | 20 => v = undef | 21 => v = undef | 22 => v = undef | _ => v = .bool true) (by kernel_rfl) (by kernel_rfl) ?_ ?_ ?_ ?_
          · intro ix vals v w1 w2 hi hr hx
            match ix, hr with
            | 0, hr => exact hr
            | 1, hr => exact hr
            | 2, hr => exact hr
            | 3, hr => exact hr
            | 4, hr => exact hr
            | 5, hr => exact hr
            | 6, hr => exact hr
            | 7, hr => exact hr
            | 8, hr => exact hr
            | 9, hr => exact hr
            | 10, hr => exact hr
            | 11, hr => exact hr
            | 12, hr => exact hr
            | 13, hr => exact hr
            | 14, hr => exact hr
            | 15, hr => exact hr
            | 16, hr => exact hr
            | 17, hr => exact hr
            | 18, hr => exact hr
            | 19, hr => exact hr
            | 20, hr => exact hr
            | 21, hr => exact hr
            | 22, hr => exact hr
            | (kx + 23), hr => exact hr
          · intro ix vals vals_ v w1 hi hv hr
            exact hr
          · refine ⟨?_, ?_, ?_, ?_, ?_, ?_, ?_, ?_, ?_, ?_, ?_, ?_, ?_, ?_, ?_, ?_, ?_, ?_, ?_, ?_, ?_, ?_, ?_, ?_, trivial⟩
            · intro vals w1 hx hd ha
              clear hd ha
              simp only [Lf]
              go_wp2
              exact ⟨rfl, Ext.refl _, rfl⟩
            · intro vals w1 hx hd ha
              clear hd ha
              simp only [Lf, dstAt, Act.put, List.getElem?_toArray, List.getElem?_cons_zero, Option.bind_some, List.setIfInBounds_toArray, List.set_cons_zero, List.set_cons_succ]
              go_wp2
              exact ⟨rfl, Ext.refl _, rfl⟩
            · intro vals w1 hx hd ha
              have e0 : vals 0 = .slice (some ⟨b, o, none⟩) n c := hd 0 (by decide)
              have e1 : vals 1 = .int .i64 (k : Int) := hd 1 (by decide)
              clear hd ha
              simp only [Lf, dstAt, Act.put, List.getElem?_toArray, List.getElem?_cons_zero, List.getElem?_cons_succ, Option.bind_some, List.setIfInBounds_toArray, List.set_cons_zero, List.set_cons_succ]
              simp only [e0, e1]
              clear e0 e1
              go_wp2
              exact ⟨rfl, Ext.refl _, rfl⟩
            · intro vals w1 hx hd ha
              have e2 : vals 2 = .pointer (some ⟨b, o + k * 6, none⟩) := hd 2 (by decide)
              clear hd ha
              simp only [Lf, dstAt, Act.put, List.getElem?_toArray, List.getElem?_cons_zero, List.getElem?_cons_succ, Option.bind_some, List.setIfInBounds_toArray, List.set_cons_zero, List.set_cons_succ]
              simp only [e2]
              clear e2
              refine wpList_load_st rfl _ _ rfl b (o + k * 6) rfl X (stnCells x) HXX.out _ (RA.range2 HC.out hx.undrew) Try.underlying122 rfl stn_size ?_
              go_wp2
              exact ⟨rfl, Ext.refl _, rfl⟩
            · intro vals w1 hx hd ha
              have e3 : vals 3 = .agg X := hd 3 (by decide)
              clear hd ha
              simp only [Lf, dstAt, Act.put, List.getElem?_toArray, List.getElem?_cons_zero, List.getElem?_cons_succ, Option.bind_some, List.setIfInBounds_toArray, List.set_cons_zero, List.set_cons_succ]
              simp only [e3]
              clear e3
              go_wp2_with fail
              refine (HV.out _).mono ?_
              rintro e w2 ⟨rfl, hb2⟩
              go_wp2
              exact ⟨rfl, hb2, rfl⟩
            · intro vals w1 hx hd ha
              have e4 : vals 4 = .bool false := hd 4 (by decide)
              clear hd ha
              simp only [Lf, dstAt, Act.put, List.getElem?_toArray, List.getElem?_cons_zero, List.getElem?_cons_succ, Option.bind_some, List.setIfInBounds_toArray, List.set_cons_zero, List.set_cons_succ]
              simp only [e4]
              clear e4
              go_wp2
              exact ⟨rfl, Ext.refl _, rfl⟩
            · intro vals w1 hx hd ha
              have e4 : vals 4 = .bool false := hd 4 (by decide)
              have e5 : vals 5 = .bool true := hd 5 (by decide)
              clear hd ha
              simp only [Lf, dstAt, Act.put, List.getElem?_toArray, List.getElem?_cons_zero, List.getElem?_cons_succ, Option.bind_some, List.setIfInBounds_toArray, List.set_cons_zero, List.set_cons_succ]
              simp only [e4, e5]
              clear e4 e5
              go_wp2
              exact ⟨rfl, Ext.refl _, rfl⟩
            · intro vals w1 hx hd ha
              have e6 : vals 6 = .bool true := hd 6 (by decide)
              clear hd ha
              simp only [Lf, dstAt, Act.put, List.getElem?_toArray, List.getElem?_cons_zero, List.getElem?_cons_succ, Option.bind_some, List.setIfInBounds_toArray, List.set_cons_zero, List.set_cons_succ]
              simp only [e6]
              clear e6
              go_wp2
              exact ⟨rfl, Ext.refl _, rfl⟩
            · intro vals w1 hx hd ha
              have e6 : vals 6 = .bool true := hd 6 (by decide)
              have e7 : vals 7 = undef := hd 7 (by decide)
              clear hd ha
              simp only [Lf, dstAt, Act.put, List.getElem?_toArray, List.getElem?_cons_zero, List.getElem?_cons_succ, Option.bind_some, List.setIfInBounds_toArray, List.set_cons_zero, List.set_cons_succ]
              simp only [e6, e7]
              clear e6 e7
              go_wp2
              exact ⟨rfl, Ext.refl _, rfl⟩
            · intro vals w1 hx hd ha
              have e6 : vals 6 = .bool true := hd 6 (by decide)
              have e8 : vals 8 = undef := hd 8 (by decide)
              clear hd ha
              simp only [Lf, dstAt, Act.put, List.getElem?_toArray, List.getElem?_cons_zero, List.getElem?_cons_succ, Option.bind_some, List.setIfInBounds_toArray, List.set_cons_zero, List.set_cons_succ]
              simp only [e6, e8]
              clear e6 e8
              go_wp2
              exact ⟨rfl, Ext.refl _, rfl⟩
            · intro vals w1 hx hd ha
              have e9 : vals 9 = undef := hd 9 (by decide)
              clear hd ha
              simp only [Lf, dstAt, Act.put, List.getElem?_toArray, List.getElem?_cons_zero, List.getElem?_cons_succ, Option.bind_some, List.setIfInBounds_toArray, List.set_cons_zero, List.set_cons_succ]
              simp only [e9]
              clear e9
              go_wp2
              exact ⟨rfl, Ext.refl _, rfl⟩
            · intro vals w1 hx hd ha
              have e9 : vals 9 = undef := hd 9 (by decide)
              clear hd ha
              simp only [Lf, dstAt, Act.put, List.getElem?_toArray, List.getElem?_cons_zero, List.getElem?_cons_succ, Option.bind_some, List.setIfInBounds_toArray, List.set_cons_zero, List.set_cons_succ]
              simp only [e9]
              clear e9
              go_wp2
              exact ⟨rfl, Ext.refl _, rfl⟩
            · intro vals w1 hx hd ha
              have e9 : vals 9 = undef := hd 9 (by decide)
              have e10 : vals 10 = undef := hd 10 (by decide)
              have e11 : vals 11 = undef := hd 11 (by decide)
              clear hd ha
              simp only [Lf, dstAt, Act.put, List.getElem?_toArray, List.getElem?_cons_zero, List.getElem?_cons_succ, Option.bind_some, List.setIfInBounds_toArray, List.set_cons_zero, List.set_cons_succ]
              simp only [e9, e10, e11]
              clear e9 e10 e11
              go_wp2
              exact ⟨rfl, Ext.refl _, rfl⟩
            · intro vals w1 hx hd ha
              have e9 : vals 9 = undef := hd 9 (by decide)
              have e12 : vals 12 = undef := hd 12 (by decide)
              clear hd ha
              simp only [Lf, dstAt, Act.put, List.getElem?_toArray, List.getElem?_cons_zero, List.getElem?_cons_succ, Option.bind_some, List.setIfInBounds_toArray, List.set_cons_zero, List.set_cons_succ]
              simp only [e9, e12]
              clear e9 e12
              go_wp2
              exact ⟨rfl, Ext.refl _, rfl⟩
            · intro vals w1 hx hd ha
              have e9 : vals 9 = undef := hd 9 (by decide)
              have e13 : vals 13 = undef := hd 13 (by decide)
              clear hd ha
              simp only [Lf, dstAt, Act.put, List.getElem?_toArray, List.getElem?_cons_zero, List.getElem?_cons_succ, Option.bind_some, List.setIfInBounds_toArray, List.set_cons_zero, List.set_cons_succ]
              simp only [e9, e13]
              clear e9 e13
              go_wp2
              exact ⟨rfl, Ext.refl _, rfl⟩
            · intro vals w1 hx hd ha
              have e9 : vals 9 = undef := hd 9 (by decide)
              clear hd ha
              simp only [Lf, dstAt, Act.put, List.getElem?_toArray, List.getElem?_cons_zero, List.getElem?_cons_succ, Option.bind_some, List.setIfInBounds_toArray, List.set_cons_zero, List.set_cons_succ]
              simp only [e9]
              clear e9
              go_wp2
              exact ⟨rfl, Ext.refl _, rfl⟩
            · intro vals w1 hx hd ha
              have e9 : vals 9 = undef := hd 9 (by decide)
              clear hd ha
              simp only [Lf, dstAt, Act.put, List.getElem?_toArray, List.getElem?_cons_zero, List.getElem?_cons_succ, Option.bind_some, List.setIfInBounds_toArray, List.set_cons_zero, List.set_cons_succ]
              simp only [e9]
              clear e9
              go_wp2
              exact ⟨rfl, Ext.refl _, rfl⟩
            · intro vals w1 hx hd ha
              have e9 : vals 9 = undef := hd 9 (by decide)
              have e16 : vals 16 = undef := hd 16 (by decide)
              clear hd ha
              simp only [Lf, dstAt, Act.put, List.getElem?_toArray, List.getElem?_cons_zero, List.getElem?_cons_succ, Option.bind_some, List.setIfInBounds_toArray, List.set_cons_zero, List.set_cons_succ]
              simp only [e9, e16]
              clear e9 e16
              go_wp2
              exact ⟨rfl, Ext.refl _, rfl⟩
            · intro vals w1 hx hd ha
              have e9 : vals 9 = undef := hd 9 (by decide)
              have e15 : vals 15 = undef := hd 15 (by decide)
              have e17 : vals 17 = undef := hd 17 (by decide)
              clear hd ha
              simp only [Lf, dstAt, Act.put, List.getElem?_toArray, List.getElem?_cons_zero, List.getElem?_cons_succ, Option.bind_some, List.setIfInBounds_toArray, List.set_cons_zero, List.set_cons_succ]
              simp only [e9, e15, e17]
              clear e9 e15 e17
              go_wp2
              exact ⟨rfl, Ext.refl _, rfl⟩
            · intro vals w1 hx hd ha
              have e9 : vals 9 = undef := hd 9 (by decide)
              have e18 : vals 18 = undef := hd 18 (by decide)
              clear hd ha
              simp only [Lf, dstAt, Act.put, List.getElem?_toArray, List.getElem?_cons_zero, List.getElem?_cons_succ, Option.bind_some, List.setIfInBounds_toArray, List.set_cons_zero, List.set_cons_succ]
              simp only [e9, e18]
              clear e9 e18
              go_wp2
              exact ⟨rfl, Ext.refl _, rfl⟩
            · intro vals w1 hx hd ha
              have e9 : vals 9 = undef := hd 9 (by decide)
              have e19 : vals 19 = undef := hd 19 (by decide)
              clear hd ha
              simp only [Lf, dstAt, Act.put, List.getElem?_toArray, List.getElem?_cons_zero, List.getElem?_cons_succ, Option.bind_some, List.setIfInBounds_toArray, List.set_cons_zero, List.set_cons_succ]
              simp only [e9, e19]
              clear e9 e19
              go_wp2
              exact ⟨rfl, Ext.refl _, rfl⟩
            · intro vals w1 hx hd ha
              have e9 : vals 9 = undef := hd 9 (by decide)
              have e14 : vals 14 = undef := hd 14 (by decide)
              have e20 : vals 20 = undef := hd 20 (by decide)
              clear hd ha
              simp only [Lf, dstAt, Act.put, List.getElem?_toArray, List.getElem?_cons_zero, List.getElem?_cons_succ, Option.bind_some, List.setIfInBounds_toArray, List.set_cons_zero, List.set_cons_succ]
              simp only [e9, e14, e20]
              clear e9 e14 e20
              go_wp2
              exact ⟨rfl, Ext.refl _, rfl⟩
            · intro vals w1 hx hd ha
              have e6 : vals 6 = .bool true := hd 6 (by decide)
              have e9 : vals 9 = undef := hd 9 (by decide)
              have e21 : vals 21 = undef := hd 21 (by decide)
              clear hd ha
              simp only [Lf, dstAt, Act.put, List.getElem?_toArray, List.getElem?_cons_zero, List.getElem?_cons_succ, Option.bind_some, List.setIfInBounds_toArray, List.set_cons_zero, List.set_cons_succ]
              simp only [e6, e9, e21]
              clear e6 e9 e21
              go_wp2
              exact ⟨rfl, Ext.refl _, rfl⟩
            · intro vals w1 hx hd ha
              have e6 : vals 6 = .bool true := hd 6 (by decide)
              have e22 : vals 22 = undef := hd 22 (by decide)
              clear hd ha
              simp only [Lf, dstAt, Act.put, List.getElem?_toArray, List.getElem?_cons_zero, List.getElem?_cons_succ, Option.bind_some, List.setIfInBounds_toArray, List.set_cons_zero, List.set_cons_succ]
              simp only [e6, e22]
              clear e6 e22
              go_wp2
              exact ⟨rfl, Ext.refl _, rfl⟩
          intro vals w5 hx hf
          have e23 : vals 23 = .bool true := hf 23 (by omega)
          clear hf
          have hx := hx.undrew
          have hB5 := bl_then hB hx
          refine tail0 (by kernel_rfl) ?_
          simp only [Lf, dstAt, Act.put, List.getElem?_toArray, List.getElem?_cons_zero, List.getElem?_cons_succ, Option.bind_some, List.setIfInBounds_toArray, List.set_cons_zero, List.set_cons_succ]
          rw [e23]
          clear e23
          go_wp2
          go_ret
          exact ⟨by rw [HS.out]; rfl, hB5⟩
        · by_cases hk0 : k = 0
          · have hk0' : (k : Int) ≤ 0 := by omega
            have hpv : prevAt l k = none := by simp [prevAt, hk0]
            have HP := Lib.hid hpv
            have hk0h := Lib.hid hk0
            have hkd : decide (0 < k) = false := by simp; omega
            clear hpv hk0
            refine wp_region_obl 24 (fun ix vals v w1 => match ix with | 0 => v = .slice (some ⟨b, o, none⟩) n c | 1 => v = .int .i64 (k : Int) | 2 => v = .pointer (some ⟨b, o + k * 6, none⟩) | 3 => v = .agg X | 4 => v = .bool true | 5 => v = .bool false | 6 => v = .bool false | 7 => v = .int .i64 (k : Int) | 8 => v = .bool false | 9 => v = .bool false | 10 => v = undef | 11 => v = undef | 12 => v = undef | 13 => v = undef | 14 => v = undef | 15 => v = undef | 16 => v = undef | 17 => v = undef | 18 => v = undef | 19 => v = undef | 20 => v = undef | 21 => v = undef | 22 => v = .bool false | _ => v = .bool false) (by kernel_rfl) (by kernel_rfl) ?_ ?_ ?_ ?_
            · intro ix vals v w1 w2 hi hr hx
              match ix, hr with
              | 0, hr => exact hr
              | 1, hr => exact hr
              | 2, hr => exact hr
              | 3, hr => exact hr
              | 4, hr => exact hr
              | 5, hr => exact hr
              | 6, hr => exact hr
              | 7, hr => exact hr
              | 8, hr => exact hr
              | 9, hr => exact hr
              | 10, hr => exact hr
              | 11, hr => exact hr
              | 12, hr => exact hr
              | 13, hr => exact hr
              | 14, hr => exact hr
              | 15, hr => exact hr
              | 16, hr => exact hr
              | 17, hr => exact hr
              | 18, hr => exact hr
              | 19, hr => exact hr
              | 20, hr => exact hr
              | 21, hr => exact hr
              | 22, hr => exact hr
              | (kx + 23), hr => exact hr
            · intro ix vals vals_ v w1 hi hv hr
              exact hr
            · refine ⟨?_, ?_, ?_, ?_, ?_, ?_, ?_, ?_, ?_, ?_, ?_, ?_, ?_, ?_, ?_, ?_, ?_, ?_, ?_, ?_, ?_, ?_, ?_, ?_, trivial⟩
              · intro vals w1 hx hd ha
                clear hd ha
                simp only [Lf]
                go_wp2
                exact ⟨rfl, Ext.refl _, rfl⟩
              · intro vals w1 hx hd ha
                clear hd ha
                simp only [Lf, dstAt, Act.put, List.getElem?_toArray, List.getElem?_cons_zero, Option.bind_some, List.setIfInBounds_toArray, List.set_cons_zero, List.set_cons_succ]
                go_wp2
                exact ⟨rfl, Ext.refl _, rfl⟩
              · intro vals w1 hx hd ha
                have e0 : vals 0 = .slice (some ⟨b, o, none⟩) n c := hd 0 (by decide)
                have e1 : vals 1 = .int .i64 (k : Int) := hd 1 (by decide)
                clear hd ha
                simp only [Lf, dstAt, Act.put, List.getElem?_toArray, List.getElem?_cons_zero, List.getElem?_cons_succ, Option.bind_some, List.setIfInBounds_toArray, List.set_cons_zero, List.set_cons_succ]
                simp only [e0, e1]
                clear e0 e1
                go_wp2
                exact ⟨rfl, Ext.refl _, rfl⟩
              · intro vals w1 hx hd ha
                have e2 : vals 2 = .pointer (some ⟨b, o + k * 6, none⟩) := hd 2 (by decide)
                clear hd ha
                simp only [Lf, dstAt, Act.put, List.getElem?_toArray, List.getElem?_cons_zero, List.getElem?_cons_succ, Option.bind_some, List.setIfInBounds_toArray, List.set_cons_zero, List.set_cons_succ]
                simp only [e2]
                clear e2
                refine wpList_load_st rfl _ _ rfl b (o + k * 6) rfl X (stnCells x) HXX.out _ (RA.range2 HC.out hx.undrew) Try.underlying122 rfl stn_size ?_
                go_wp2
                exact ⟨rfl, Ext.refl _, rfl⟩
              · intro vals w1 hx hd ha
                have e3 : vals 3 = .agg X := hd 3 (by decide)
                clear hd ha
                simp only [Lf, dstAt, Act.put, List.getElem?_toArray, List.getElem?_cons_zero, List.getElem?_cons_succ, Option.bind_some, List.setIfInBounds_toArray, List.set_cons_zero, List.set_cons_succ]
                simp only [e3]
                clear e3
                go_wp2_with fail
                refine (HV.out _).mono ?_
                rintro e w2 ⟨rfl, hb2⟩
                go_wp2
                exact ⟨rfl, hb2, rfl⟩
              · intro vals w1 hx hd ha
                have e4 : vals 4 = .bool true := hd 4 (by decide)
                clear hd ha
                simp only [Lf, dstAt, Act.put, List.getElem?_toArray, List.getElem?_cons_zero, List.getElem?_cons_succ, Option.bind_some, List.setIfInBounds_toArray, List.set_cons_zero, List.set_cons_succ]
                simp only [e4]
                clear e4
                go_wp2
                exact ⟨rfl, Ext.refl _, rfl⟩
              · intro vals w1 hx hd ha
                have e4 : vals 4 = .bool true := hd 4 (by decide)
                have e5 : vals 5 = .bool false := hd 5 (by decide)
                clear hd ha
                simp only [Lf, dstAt, Act.put, List.getElem?_toArray, List.getElem?_cons_zero, List.getElem?_cons_succ, Option.bind_some, List.setIfInBounds_toArray, List.set_cons_zero, List.set_cons_succ]
                simp only [e4, e5]
                clear e4 e5
                go_wp2
                exact ⟨rfl, Ext.refl _, rfl⟩
              · intro vals w1 hx hd ha
                have e6 : vals 6 = .bool false := hd 6 (by decide)
                clear hd ha
                simp only [Lf, dstAt, Act.put, List.getElem?_toArray, List.getElem?_cons_zero, List.getElem?_cons_succ, Option.bind_some, List.setIfInBounds_toArray, List.set_cons_zero, List.set_cons_succ]
                simp only [e6]
                clear e6
                go_wp2
                exact ⟨rfl, Ext.refl _, rfl⟩
              · intro vals w1 hx hd ha
                have e6 : vals 6 = .bool false := hd 6 (by decide)
                have e7 : vals 7 = .int .i64 (k : Int) := hd 7 (by decide)
                clear hd ha
                simp only [Lf, dstAt, Act.put, List.getElem?_toArray, List.getElem?_cons_zero, List.getElem?_cons_succ, Option.bind_some, List.setIfInBounds_toArray, List.set_cons_zero, List.set_cons_succ]
                simp only [e6, e7]
                clear e6 e7
                go_wp2
                exact ⟨rfl, Ext.refl _, rfl⟩
              · intro vals w1 hx hd ha
                have e6 : vals 6 = .bool false := hd 6 (by decide)
                have e8 : vals 8 = .bool false := hd 8 (by decide)
                clear hd ha
                simp only [Lf, dstAt, Act.put, List.getElem?_toArray, List.getElem?_cons_zero, List.getElem?_cons_succ, Option.bind_some, List.setIfInBounds_toArray, List.set_cons_zero, List.set_cons_succ]
                simp only [e6, e8]
                clear e6 e8
                go_wp2
                exact ⟨rfl, Ext.refl _, rfl⟩
              · intro vals w1 hx hd ha
                have e9 : vals 9 = .bool false := hd 9 (by decide)
                clear hd ha
                simp only [Lf, dstAt, Act.put, List.getElem?_toArray, List.getElem?_cons_zero, List.getElem?_cons_succ, Option.bind_some, List.setIfInBounds_toArray, List.set_cons_zero, List.set_cons_succ]
                simp only [e9]
                clear e9
                go_wp2
                exact ⟨rfl, Ext.refl _, rfl⟩
              · intro vals w1 hx hd ha
                have e9 : vals 9 = .bool false := hd 9 (by decide)
                clear hd ha
                simp only [Lf, dstAt, Act.put, List.getElem?_toArray, List.getElem?_cons_zero, List.getElem?_cons_succ, Option.bind_some, List.setIfInBounds_toArray, List.set_cons_zero, List.set_cons_succ]
                simp only [e9]
                clear e9
                go_wp2
                exact ⟨rfl, Ext.refl _, rfl⟩
              · intro vals w1 hx hd ha
                have e9 : vals 9 = .bool false := hd 9 (by decide)
                have e10 : vals 10 = undef := hd 10 (by decide)
                have e11 : vals 11 = undef := hd 11 (by decide)
                clear hd ha
                simp only [Lf, dstAt, Act.put, List.getElem?_toArray, List.getElem?_cons_zero, List.getElem?_cons_succ, Option.bind_some, List.setIfInBounds_toArray, List.set_cons_zero, List.set_cons_succ]
                simp only [e9, e10, e11]
                clear e9 e10 e11
                go_wp2
                exact ⟨rfl, Ext.refl _, rfl⟩
              · intro vals w1 hx hd ha
                have e9 : vals 9 = .bool false := hd 9 (by decide)
                have e12 : vals 12 = undef := hd 12 (by decide)
                clear hd ha
                simp only [Lf, dstAt, Act.put, List.getElem?_toArray, List.getElem?_cons_zero, List.getElem?_cons_succ, Option.bind_some, List.setIfInBounds_toArray, List.set_cons_zero, List.set_cons_succ]
                simp only [e9, e12]
                clear e9 e12
                go_wp2
                exact ⟨rfl, Ext.refl _, rfl⟩
              · intro vals w1 hx hd ha
                have e9 : vals 9 = .bool false := hd 9 (by decide)
                have e13 : vals 13 = undef := hd 13 (by decide)
                clear hd ha
                simp only [Lf, dstAt, Act.put, List.getElem?_toArray, List.getElem?_cons_zero, List.getElem?_cons_succ, Option.bind_some, List.setIfInBounds_toArray, List.set_cons_zero, List.set_cons_succ]
                simp only [e9, e13]
                clear e9 e13
                have g0 := ext_cell hx g0
                go_wp2
                exact ⟨rfl, Ext.refl _, rfl⟩
              · intro vals w1 hx hd ha
                have e9 : vals 9 = .bool false := hd 9 (by decide)
                clear hd ha
                simp only [Lf, dstAt, Act.put, List.getElem?_toArray, List.getElem?_cons_zero, List.getElem?_cons_succ, Option.bind_some, List.setIfInBounds_toArray, List.set_cons_zero, List.set_cons_succ]
                simp only [e9]
                clear e9
                go_wp2
                exact ⟨rfl, Ext.refl _, rfl⟩
              · intro vals w1 hx hd ha
                have e9 : vals 9 = .bool false := hd 9 (by decide)
                clear hd ha
                simp only [Lf, dstAt, Act.put, List.getElem?_toArray, List.getElem?_cons_zero, List.getElem?_cons_succ, Option.bind_some, List.setIfInBounds_toArray, List.set_cons_zero, List.set_cons_succ]
                simp only [e9]
                clear e9
                go_wp2
                exact ⟨rfl, Ext.refl _, rfl⟩
              · intro vals w1 hx hd ha
                have e9 : vals 9 = .bool false := hd 9 (by decide)
                have e16 : vals 16 = undef := hd 16 (by decide)
                clear hd ha
                simp only [Lf, dstAt, Act.put, List.getElem?_toArray, List.getElem?_cons_zero, List.getElem?_cons_succ, Option.bind_some, List.setIfInBounds_toArray, List.set_cons_zero, List.set_cons_succ]
                simp only [e9, e16]
                clear e9 e16
                go_wp2
                exact ⟨rfl, Ext.refl _, rfl⟩
              · intro vals w1 hx hd ha
                have e9 : vals 9 = .bool false := hd 9 (by decide)
                have e15 : vals 15 = undef := hd 15 (by decide)
                have e17 : vals 17 = undef := hd 17 (by decide)
                clear hd ha
                simp only [Lf, dstAt, Act.put, List.getElem?_toArray, List.getElem?_cons_zero, List.getElem?_cons_succ, Option.bind_some, List.setIfInBounds_toArray, List.set_cons_zero, List.set_cons_succ]
                simp only [e9, e15, e17]
                clear e9 e15 e17
                go_wp2
                exact ⟨rfl, Ext.refl _, rfl⟩
              · intro vals w1 hx hd ha
                have e9 : vals 9 = .bool false := hd 9 (by decide)
                have e18 : vals 18 = undef := hd 18 (by decide)
                clear hd ha
                simp only [Lf, dstAt, Act.put, List.getElem?_toArray, List.getElem?_cons_zero, List.getElem?_cons_succ, Option.bind_some, List.setIfInBounds_toArray, List.set_cons_zero, List.set_cons_succ]
                simp only [e9, e18]
                clear e9 e18
                go_wp2
                exact ⟨rfl, Ext.refl _, rfl⟩
              · intro vals w1 hx hd ha
                have e9 : vals 9 = .bool false := hd 9 (by decide)
                have e19 : vals 19 = undef := hd 19 (by decide)
                clear hd ha
                simp only [Lf, dstAt, Act.put, List.getElem?_toArray, List.getElem?_cons_zero, List.getElem?_cons_succ, Option.bind_some, List.setIfInBounds_toArray, List.set_cons_zero, List.set_cons_succ]
                simp only [e9, e19]
                clear e9 e19
                go_wp2
                exact ⟨rfl, Ext.refl _, rfl⟩
              · intro vals w1 hx hd ha
                have e9 : vals 9 = .bool false := hd 9 (by decide)
                have e14 : vals 14 = undef := hd 14 (by decide)
                have e20 : vals 20 = undef := hd 20 (by decide)
                clear hd ha
                simp only [Lf, dstAt, Act.put, List.getElem?_toArray, List.getElem?_cons_zero, List.getElem?_cons_succ, Option.bind_some, List.setIfInBounds_toArray, List.set_cons_zero, List.set_cons_succ]
                simp only [e9, e14, e20]
                clear e9 e14 e20
                go_wp2
                exact ⟨rfl, Ext.refl _, rfl⟩
              · intro vals w1 hx hd ha
                have e6 : vals 6 = .bool false := hd 6 (by decide)
                have e9 : vals 9 = .bool false := hd 9 (by decide)
                have e21 : vals 21 = undef := hd 21 (by decide)
                clear hd ha
                simp only [Lf, dstAt, Act.put, List.getElem?_toArray, List.getElem?_cons_zero, List.getElem?_cons_succ, Option.bind_some, List.setIfInBounds_toArray, List.set_cons_zero, List.set_cons_succ]
                simp only [e6, e9, e21]
                clear e6 e9 e21
                go_wp2
                exact ⟨rfl, Ext.refl _, rfl⟩
              · intro vals w1 hx hd ha
                have e6 : vals 6 = .bool false := hd 6 (by decide)
                have e22 : vals 22 = .bool false := hd 22 (by decide)
                clear hd ha
                simp only [Lf, dstAt, Act.put, List.getElem?_toArray, List.getElem?_cons_zero, List.getElem?_cons_succ, Option.bind_some, List.setIfInBounds_toArray, List.set_cons_zero, List.set_cons_succ]
                simp only [e6, e22]
                clear e6 e22
                go_wp2
                exact ⟨rfl, Ext.refl _, rfl⟩
            intro vals w5 hx hf
            have e23 : vals 23 = .bool false := hf 23 (by omega)
            clear hf
            have hx := hx.undrew
            have hB5 := bl_then hB hx
            refine tail0 (by kernel_rfl) ?_
            simp only [Lf, dstAt, Act.put, List.getElem?_toArray, List.getElem?_cons_zero, List.getElem?_cons_succ, Option.bind_some, List.setIfInBounds_toArray, List.set_cons_zero, List.set_cons_succ]
            rw [e23]
            clear e23
            go_wp2
            go_roundw
            case rel => exact ⟨k + 1, by omega, by go_num, Lib.hid (by rw [HS.out, HP.out]; rfl), hB5⟩
            case measure => simp [intOf]; omega
          · have hk1 : (0 : Int) < (k : Int) := by omega
            obtain ⟨b', o', hz', hA', hbl', hc'⟩ := RA.at_ stn_len (HR.out.below hB) (k := k - 1) (by omega)
            obtain ⟨rfl, rfl⟩ : b' = b ∧ o' = o := by injection hA' with hA'; injection hA' with h1 h2; exact ⟨h1.symm, h2.symm⟩
            have hpv : prevAt l k = some l[k - 1] := by unfold prevAt; rw [if_neg hk0, List.getElem?_eq_getElem hz']
            generalize l[k - 1] = y at hpv hc'
            have d0 : wr.cell? ⟨b', o' + (k - 1) * 6, none⟩ = some (.int .i64 y.id) := hc' 0 (by omega)
            have HP := Lib.hid hpv
            have hk0h := Lib.hid hk0
            clear hpv hc' hA' hbl' hk0
            have hki : IntKind.i64.wrap ((k : Int) - 1) = (k : Int) - 1 := IntWalk.i64_in _ (by omega)
            have hkn : ((k : Int) - 1).toNat = k - 1 := by omega
            have hkd : decide (0 < k) = true := by simp; omega
            refine wp_region_obl 24 (fun ix vals v w1 => match ix with | 0 => v = .slice (some ⟨b', o', none⟩) n c | 1 => v = .int .i64 (k : Int) | 2 => v = .pointer (some ⟨b', o' + k * 6, none⟩) | 3 => v = .agg X | 4 => v = .bool true | 5 => v = .bool false | 6 => v = .bool false | 7 => v = .int .i64 (k : Int) | 8 => v = .bool true | 9 => v = .bool true | 10 => v = .slice (some ⟨b', o', none⟩) n c | 11 => v = .int .i64 (k : Int) | 12 => v = .pointer (some ⟨b', o' + k * 6, none⟩) | 13 => v = .pointer (some ⟨b', o' + k * 6, none⟩) | 14 => v = .int .i64 x.id | 15 => v = .slice (some ⟨b', o', none⟩) n c | 16 => v = .int .i64 (k : Int) | 17 => v = .int .i64 ((k : Int) - 1) | 18 => v = .pointer (some ⟨b', o' + (k - 1) * 6, none⟩) | 19 => v = .pointer (some ⟨b', o' + (k - 1) * 6, none⟩) | 20 => v = .int .i64 y.id | 21 => v = .bool (decide (x.id ≤ y.id)) | 22 => v = .bool (decide (x.id ≤ y.id)) | _ => v = .bool (decide (x.id ≤ y.id))) (by kernel_rfl) (by kernel_rfl) ?_ ?_ ?_ ?_
            · intro ix vals v w1 w2 hi hr hx
              match ix, hr with
              | 0, hr => exact hr
              | 1, hr => exact hr
              | 2, hr => exact hr
              | 3, hr => exact hr
              | 4, hr => exact hr
              | 5, hr => exact hr
              | 6, hr => exact hr
              | 7, hr => exact hr
              | 8, hr => exact hr
              | 9, hr => exact hr
              | 10, hr => exact hr
              | 11, hr => exact hr
              | 12, hr => exact hr
              | 13, hr => exact hr
              | 14, hr => exact hr
              | 15, hr => exact hr
              | 16, hr => exact hr
              | 17, hr => exact hr
              | 18, hr => exact hr
              | 19, hr => exact hr
              | 20, hr => exact hr
              | 21, hr => exact hr
              | 22, hr => exact hr
              | (kx + 23), hr => exact hr
            · intro ix vals vals_ v w1 hi hv hr
              exact hr
            · refine ⟨?_, ?_, ?_, ?_, ?_, ?_, ?_, ?_, ?_, ?_, ?_, ?_, ?_, ?_, ?_, ?_, ?_, ?_, ?_, ?_, ?_, ?_, ?_, ?_, trivial⟩
              · intro vals w1 hx hd ha
                clear hd ha
                simp only [Lf]
                go_wp2
                exact ⟨rfl, Ext.refl _, rfl⟩
              · intro vals w1 hx hd ha
                clear hd ha
                simp only [Lf, dstAt, Act.put, List.getElem?_toArray, List.getElem?_cons_zero, Option.bind_some, List.setIfInBounds_toArray, List.set_cons_zero, List.set_cons_succ]
                go_wp2
                exact ⟨rfl, Ext.refl _, rfl⟩
              · intro vals w1 hx hd ha
                have e0 : vals 0 = .slice (some ⟨b', o', none⟩) n c := hd 0 (by decide)
                have e1 : vals 1 = .int .i64 (k : Int) := hd 1 (by decide)
                clear hd ha
                simp only [Lf, dstAt, Act.put, List.getElem?_toArray, List.getElem?_cons_zero, List.getElem?_cons_succ, Option.bind_some, List.setIfInBounds_toArray, List.set_cons_zero, List.set_cons_succ]
                simp only [e0, e1]
                clear e0 e1
                go_wp2
                exact ⟨rfl, Ext.refl _, rfl⟩
              · intro vals w1 hx hd ha
                have e2 : vals 2 = .pointer (some ⟨b', o' + k * 6, none⟩) := hd 2 (by decide)
                clear hd ha
                simp only [Lf, dstAt, Act.put, List.getElem?_toArray, List.getElem?_cons_zero, List.getElem?_cons_succ, Option.bind_some, List.setIfInBounds_toArray, List.set_cons_zero, List.set_cons_succ]
                simp only [e2]
                clear e2
                refine wpList_load_st rfl _ _ rfl b' (o' + k * 6) rfl X (stnCells x) HXX.out _ (RA.range2 HC.out hx.undrew) Try.underlying122 rfl stn_size ?_
                go_wp2
                exact ⟨rfl, Ext.refl _, rfl⟩
              · intro vals w1 hx hd ha
                have e3 : vals 3 = .agg X := hd 3 (by decide)
                clear hd ha
                simp only [Lf, dstAt, Act.put, List.getElem?_toArray, List.getElem?_cons_zero, List.getElem?_cons_succ, Option.bind_some, List.setIfInBounds_toArray, List.set_cons_zero, List.set_cons_succ]
                simp only [e3]
                clear e3
                go_wp2_with fail
                refine (HV.out _).mono ?_
                rintro e w2 ⟨rfl, hb2⟩
                go_wp2
                exact ⟨rfl, hb2, rfl⟩
              · intro vals w1 hx hd ha
                have e4 : vals 4 = .bool true := hd 4 (by decide)
                clear hd ha
                simp only [Lf, dstAt, Act.put, List.getElem?_toArray, List.getElem?_cons_zero, List.getElem?_cons_succ, Option.bind_some, List.setIfInBounds_toArray, List.set_cons_zero, List.set_cons_succ]
                simp only [e4]
                clear e4
                go_wp2
                exact ⟨rfl, Ext.refl _, rfl⟩
              · intro vals w1 hx hd ha
                have e4 : vals 4 = .bool true := hd 4 (by decide)
                have e5 : vals 5 = .bool false := hd 5 (by decide)
                clear hd ha
                simp only [Lf, dstAt, Act.put, List.getElem?_toArray, List.getElem?_cons_zero, List.getElem?_cons_succ, Option.bind_some, List.setIfInBounds_toArray, List.set_cons_zero, List.set_cons_succ]
                simp only [e4, e5]
                clear e4 e5
                go_wp2
                exact ⟨rfl, Ext.refl _, rfl⟩
              · intro vals w1 hx hd ha
                have e6 : vals 6 = .bool false := hd 6 (by decide)
                clear hd ha
                simp only [Lf, dstAt, Act.put, List.getElem?_toArray, List.getElem?_cons_zero, List.getElem?_cons_succ, Option.bind_some, List.setIfInBounds_toArray, List.set_cons_zero, List.set_cons_succ]
                simp only [e6]
                clear e6
                go_wp2
                exact ⟨rfl, Ext.refl _, rfl⟩
              · intro vals w1 hx hd ha
                have e6 : vals 6 = .bool false := hd 6 (by decide)
                have e7 : vals 7 = .int .i64 (k : Int) := hd 7 (by decide)
                clear hd ha
                simp only [Lf, dstAt, Act.put, List.getElem?_toArray, List.getElem?_cons_zero, List.getElem?_cons_succ, Option.bind_some, List.setIfInBounds_toArray, List.set_cons_zero, List.set_cons_succ]
                simp only [e6, e7]
                clear e6 e7
                go_wp2
                exact ⟨rfl, Ext.refl _, rfl⟩
              · intro vals w1 hx hd ha
                have e6 : vals 6 = .bool false := hd 6 (by decide)
                have e8 : vals 8 = .bool true := hd 8 (by decide)
                clear hd ha
                simp only [Lf, dstAt, Act.put, List.getElem?_toArray, List.getElem?_cons_zero, List.getElem?_cons_succ, Option.bind_some, List.setIfInBounds_toArray, List.set_cons_zero, List.set_cons_succ]
                simp only [e6, e8]
                clear e6 e8
                go_wp2
                exact ⟨rfl, Ext.refl _, rfl⟩
              · intro vals w1 hx hd ha
                have e9 : vals 9 = .bool true := hd 9 (by decide)
                clear hd ha
                simp only [Lf, dstAt, Act.put, List.getElem?_toArray, List.getElem?_cons_zero, List.getElem?_cons_succ, Option.bind_some, List.setIfInBounds_toArray, List.set_cons_zero, List.set_cons_succ]
                simp only [e9]
                clear e9
                go_wp2
                exact ⟨rfl, Ext.refl _, rfl⟩
              · intro vals w1 hx hd ha
                have e9 : vals 9 = .bool true := hd 9 (by decide)
                clear hd ha
                simp only [Lf, dstAt, Act.put, List.getElem?_toArray, List.getElem?_cons_zero, List.getElem?_cons_succ, Option.bind_some, List.setIfInBounds_toArray, List.set_cons_zero, List.set_cons_succ]
                simp only [e9]
                clear e9
                go_wp2
                exact ⟨rfl, Ext.refl _, rfl⟩
              · intro vals w1 hx hd ha
                have e9 : vals 9 = .bool true := hd 9 (by decide)
                have e10 : vals 10 = .slice (some ⟨b', o', none⟩) n c := hd 10 (by decide)
                have e11 : vals 11 = .int .i64 (k : Int) := hd 11 (by decide)
                clear hd ha
                simp only [Lf, dstAt, Act.put, List.getElem?_toArray, List.getElem?_cons_zero, List.getElem?_cons_succ, Option.bind_some, List.setIfInBounds_toArray, List.set_cons_zero, List.set_cons_succ]
                simp only [e9, e10, e11]
                clear e9 e10 e11
                go_wp2
                exact ⟨rfl, Ext.refl _, rfl⟩
              · intro vals w1 hx hd ha
                have e9 : vals 9 = .bool true := hd 9 (by decide)
                have e12 : vals 12 = .pointer (some ⟨b', o' + k * 6, none⟩) := hd 12 (by decide)
                clear hd ha
                simp only [Lf, dstAt, Act.put, List.getElem?_toArray, List.getElem?_cons_zero, List.getElem?_cons_succ, Option.bind_some, List.setIfInBounds_toArray, List.set_cons_zero, List.set_cons_succ]
                simp only [e9, e12]
                clear e9 e12
                go_wp2
                exact ⟨rfl, Ext.refl _, rfl⟩
              · intro vals w1 hx hd ha
                have e9 : vals 9 = .bool true := hd 9 (by decide)
                have e13 : vals 13 = .pointer (some ⟨b', o' + k * 6, none⟩) := hd 13 (by decide)
                clear hd ha
                simp only [Lf, dstAt, Act.put, List.getElem?_toArray, List.getElem?_cons_zero, List.getElem?_cons_succ, Option.bind_some, List.setIfInBounds_toArray, List.set_cons_zero, List.set_cons_succ]
                simp only [e9, e13]
                clear e9 e13
                have g0 := ext_cell hx g0
                go_wp2
                exact ⟨rfl, Ext.refl _, rfl⟩
              · intro vals w1 hx hd ha
                have e9 : vals 9 = .bool true := hd 9 (by decide)
                clear hd ha
                simp only [Lf, dstAt, Act.put, List.getElem?_toArray, List.getElem?_cons_zero, List.getElem?_cons_succ, Option.bind_some, List.setIfInBounds_toArray, List.set_cons_zero, List.set_cons_succ]
                simp only [e9]
                clear e9
                go_wp2
                exact ⟨rfl, Ext.refl _, rfl⟩
              · intro vals w1 hx hd ha
                have e9 : vals 9 = .bool true := hd 9 (by decide)
                clear hd ha
                simp only [Lf, dstAt, Act.put, List.getElem?_toArray, List.getElem?_cons_zero, List.getElem?_cons_succ, Option.bind_some, List.setIfInBounds_toArray, List.set_cons_zero, List.set_cons_succ]
                simp only [e9]
                clear e9
                go_wp2
                exact ⟨rfl, Ext.refl _, rfl⟩
              · intro vals w1 hx hd ha
                have e9 : vals 9 = .bool true := hd 9 (by decide)
                have e16 : vals 16 = .int .i64 (k : Int) := hd 16 (by decide)
                clear hd ha
                simp only [Lf, dstAt, Act.put, List.getElem?_toArray, List.getElem?_cons_zero, List.getElem?_cons_succ, Option.bind_some, List.setIfInBounds_toArray, List.set_cons_zero, List.set_cons_succ]
                simp only [e9, e16]
                clear e9 e16
                go_wp2
                exact ⟨rfl, Ext.refl _, rfl⟩
              · intro vals w1 hx hd ha
                have e9 : vals 9 = .bool true := hd 9 (by decide)
                have e15 : vals 15 = .slice (some ⟨b', o', none⟩) n c := hd 15 (by decide)
                have e17 : vals 17 = .int .i64 ((k : Int) - 1) := hd 17 (by decide)
                clear hd ha
                simp only [Lf, dstAt, Act.put, List.getElem?_toArray, List.getElem?_cons_zero, List.getElem?_cons_succ, Option.bind_some, List.setIfInBounds_toArray, List.set_cons_zero, List.set_cons_succ]
                simp only [e9, e15, e17]
                clear e9 e15 e17
                go_wp2
                exact ⟨rfl, Ext.refl _, rfl⟩
              · intro vals w1 hx hd ha
                have e9 : vals 9 = .bool true := hd 9 (by decide)
                have e18 : vals 18 = .pointer (some ⟨b', o' + (k - 1) * 6, none⟩) := hd 18 (by decide)
                clear hd ha
                simp only [Lf, dstAt, Act.put, List.getElem?_toArray, List.getElem?_cons_zero, List.getElem?_cons_succ, Option.bind_some, List.setIfInBounds_toArray, List.set_cons_zero, List.set_cons_succ]
                simp only [e9, e18]
                clear e9 e18
                go_wp2
                exact ⟨rfl, Ext.refl _, rfl⟩
              · intro vals w1 hx hd ha
                have e9 : vals 9 = .bool true := hd 9 (by decide)
                have e19 : vals 19 = .pointer (some ⟨b', o' + (k - 1) * 6, none⟩) := hd 19 (by decide)
                clear hd ha
                simp only [Lf, dstAt, Act.put, List.getElem?_toArray, List.getElem?_cons_zero, List.getElem?_cons_succ, Option.bind_some, List.setIfInBounds_toArray, List.set_cons_zero, List.set_cons_succ]
                simp only [e9, e19]
                clear e9 e19
                have d0 := ext_cell hx d0
                go_wp2
                exact ⟨rfl, Ext.refl _, rfl⟩
              · intro vals w1 hx hd ha
                have e9 : vals 9 = .bool true := hd 9 (by decide)
                have e14 : vals 14 = .int .i64 x.id := hd 14 (by decide)
                have e20 : vals 20 = .int .i64 y.id := hd 20 (by decide)
                clear hd ha
                simp only [Lf, dstAt, Act.put, List.getElem?_toArray, List.getElem?_cons_zero, List.getElem?_cons_succ, Option.bind_some, List.setIfInBounds_toArray, List.set_cons_zero, List.set_cons_succ]
                simp only [e9, e14, e20]
                clear e9 e14 e20
                go_wp2
                exact ⟨rfl, Ext.refl _, rfl⟩
              · intro vals w1 hx hd ha
                have e6 : vals 6 = .bool false := hd 6 (by decide)
                have e9 : vals 9 = .bool true := hd 9 (by decide)
                have e21 : vals 21 = .bool (decide (x.id ≤ y.id)) := hd 21 (by decide)
                clear hd ha
                simp only [Lf, dstAt, Act.put, List.getElem?_toArray, List.getElem?_cons_zero, List.getElem?_cons_succ, Option.bind_some, List.setIfInBounds_toArray, List.set_cons_zero, List.set_cons_succ]
                simp only [e6, e9, e21]
                clear e6 e9 e21
                go_wp2
                exact ⟨rfl, Ext.refl _, rfl⟩
              · intro vals w1 hx hd ha
                have e6 : vals 6 = .bool false := hd 6 (by decide)
                have e22 : vals 22 = .bool (decide (x.id ≤ y.id)) := hd 22 (by decide)
                clear hd ha
                simp only [Lf, dstAt, Act.put, List.getElem?_toArray, List.getElem?_cons_zero, List.getElem?_cons_succ, Option.bind_some, List.setIfInBounds_toArray, List.set_cons_zero, List.set_cons_succ]
                simp only [e6, e22]
                clear e6 e22
                go_wp2
                exact ⟨rfl, Ext.refl _, rfl⟩
            intro vals w5 hx hf
            have e23 : vals 23 = .bool (decide (x.id ≤ y.id)) := hf 23 (by omega)
            clear hf
            have hx := hx.undrew
            have hB5 := bl_then hB hx
            refine tail0 (by kernel_rfl) ?_
            simp only [Lf, dstAt, Act.put, List.getElem?_toArray, List.getElem?_cons_zero, List.getElem?_cons_succ, Option.bind_some, List.setIfInBounds_toArray, List.set_cons_zero, List.set_cons_succ]
            rw [e23]
            clear e23
            by_cases hid : x.id ≤ y.id
            · have hid2 : decide (y.id < x.id) = false := by simp; omega
              have HI := Lib.hid hid2
              clear hid2
              go_wp2
              go_ret
              exact ⟨by rw [HS.out, HP.out]; simp [HI.out], hB5⟩
            · have hid2 : decide (y.id < x.id) = true := by simp; omega
              have HI := Lib.hid hid2
              clear hid2
              go_wp2
              go_roundw
              case rel => exact ⟨k + 1, by omega, by go_num, Lib.hid (by rw [HS.out, HP.out]; simp [HI.out]), hB5⟩
              case measure => simp [intOf]; omega
      · go_wp2
        go_ret
        exact ⟨by rw [HK.out, List.drop_of_length_le (by rw [HL.out]; omega)]; rfl, hB⟩
  · have hd : decide (n ≤ 12) = false := by simpa using hm
    rw [hd, Bool.false_and]
    clear hd
    go_enter Try.func44, Try.ntmps44
    go_wp2
    go_ret
    exact ⟨rfl, (by repeat (first | exact Below.refl _ _ | assumption | refine Below.drew ?_ | refine below_drewN ?_ _ | refine bl_alloc ?_ _ | refine Below.setCell ?_ (by first | (simp; done) | omega | (simp; omega)) _ | refine bl_then ?_ (by assumption)))⟩
end Go.Proofs.Ytmlabgmigakcbaa
namespace Go.Proofs.Ytmlabgmigakcbaa
open Go.RowKit

theorem lt_pas (x y : Pas) : ltOf cmpPas x y = true ↔ x.can.fr < y.can.fr ∨ (x.can.fr = y.can.fr ∧ (x.sat < y.sat ∨ (x.sat = y.sat ∧ (x.station < y.station ∨ (x.station = y.station ∧ (x.sure.fr < y.sure.fr ∨ (x.sure.fr = y.sure.fr ∧ x.can.tt < y.can.tt))))))) := by
  have hor : ∀ a b : Int, orI a b < 0 ↔ (a < 0 ∨ (a = 0 ∧ b < 0)) := fun a b => by unfold orI; split <;> omega
  have hc : ∀ a b : Int, cmpI a b < 0 ↔ a < b := fun a b => by unfold cmpI; split <;> (try split) <;> omega
  have hz : ∀ a b : Int, cmpI a b = 0 ↔ a = b := fun a b => by unfold cmpI; split <;> (try split) <;> omega
  simp only [ltOf, cmpPas, decide_eq_true_eq, hor, hc, hz]
set_option maxHeartbeats 2000000 in
theorem before_any (asa asn aa ab ac ad bsa bsn ba bb bc bd : Int) (w : World) :
    Calls Try.prog 79 #[.agg #[.int .i64 asa, .int .i64 asn, .int .i64 aa, .int .i64 ab, .int .i64 ac, .int .i64 ad], .agg #[.int .i64 bsa, .int .i64 bsn, .int .i64 ba, .int .i64 bb, .int .i64 bc, .int .i64 bd]] w fun e w' => e = .returned (.bool (ltOf cmpPas ⟨asa, asn, ⟨aa, ab⟩, ⟨ac, ad⟩⟩ ⟨bsa, bsn, ⟨ba, bb⟩, ⟨bc, bd⟩⟩)) ∧ Below w.heap.size w w' := by
  have hl := lt_pas ⟨asa, asn, ⟨aa, ab⟩, ⟨ac, ad⟩⟩ ⟨bsa, bsn, ⟨ba, bb⟩, ⟨bc, bd⟩⟩
  dsimp only at hl
  generalize ltOf cmpPas ⟨asa, asn, ⟨aa, ab⟩, ⟨ac, ad⟩⟩ ⟨bsa, bsn, ⟨ba, bb⟩, ⟨bc, bd⟩⟩ = r at hl ⊢
  have hr : ∀ z : Int, ∀ u : Int, (z < u ↔ r = true) → Ending.returned (.bool (decide (z < u))) = .returned (.bool r) := fun z u h => by
    have : decide (z < u) = r := by rw [Bool.eq_iff_iff, decide_eq_true_iff]; exact h
    rw [this]
  have HR := Lib.hid hr
  have HL := Lib.hid hl
  clear hr hl
  by_cases h1 : ac = bc
  · subst h1
    by_cases h2 : asa = bsa
    · subst h2
      by_cases h3 : asn = bsn
      · subst h3
        by_cases h4 : aa = ba
        · subst h4
          go_enter Try.func79, Try.ntmps79
          go_wp2
          go_ret
          exact ⟨HR.out _ _ (by rw [HL.out]; first | omega | (simp only [true_and]; omega)), (by repeat (first | exact Below.refl _ _ | assumption | refine Below.drew ?_ | refine below_drewN ?_ _ | refine bl_alloc ?_ _ | refine Below.setCell ?_ (by first | (simp; done) | omega | (simp; omega)) _ | refine bl_then ?_ (by assumption)))⟩
        · have n4 : (aa != ba) = true := by simpa using h4
          go_enter Try.func79, Try.ntmps79
          go_wp2
          go_ret
          exact ⟨HR.out _ _ (by rw [HL.out]; first | omega | (simp only [true_and]; omega)), (by repeat (first | exact Below.refl _ _ | assumption | refine Below.drew ?_ | refine below_drewN ?_ _ | refine bl_alloc ?_ _ | refine Below.setCell ?_ (by first | (simp; done) | omega | (simp; omega)) _ | refine bl_then ?_ (by assumption)))⟩
      · have n3 : (asn != bsn) = true := by simpa using h3
        go_enter Try.func79, Try.ntmps79
        go_wp2
        go_ret
        exact ⟨HR.out _ _ (by rw [HL.out]; first | omega | (simp only [true_and]; omega)), (by repeat (first | exact Below.refl _ _ | assumption | refine Below.drew ?_ | refine below_drewN ?_ _ | refine bl_alloc ?_ _ | refine Below.setCell ?_ (by first | (simp; done) | omega | (simp; omega)) _ | refine bl_then ?_ (by assumption)))⟩
    · have n2 : (asa != bsa) = true := by simpa using h2
      go_enter Try.func79, Try.ntmps79
      go_wp2
      go_ret
      exact ⟨HR.out _ _ (by rw [HL.out]; first | omega | (simp only [true_and]; omega)), (by repeat (first | exact Below.refl _ _ | assumption | refine Below.drew ?_ | refine below_drewN ?_ _ | refine bl_alloc ?_ _ | refine Below.setCell ?_ (by first | (simp; done) | omega | (simp; omega)) _ | refine bl_then ?_ (by assumption)))⟩
  · have n1 : (ac != bc) = true := by simpa using h1
    go_enter Try.func79, Try.ntmps79
    go_wp2
    go_ret
    exact ⟨HR.out _ _ (by rw [HL.out]; first | omega | (simp only [true_and]; omega)), (by repeat (first | exact Below.refl _ _ | assumption | refine Below.drew ?_ | refine below_drewN ?_ _ | refine bl_alloc ?_ _ | refine Below.setCell ?_ (by first | (simp; done) | omega | (simp; omega)) _ | refine bl_then ?_ (by assumption)))⟩

def properR : Option Pas → List Pas → Bool
  | _, [] => true
  | p, x :: r => pasOK x && (match p with | none => true | some y => !ltOf cmpPas x y) && properR (some x) r
theorem properR_some (l : List Pas) (y : Pas) : properR (some y) l = (l.all pasOK && sortedP (y :: l)) := by
  induction l generalizing y with
  | nil => rfl
  | cons x r ih =>
    rw [properR, ih, List.all_cons, sortedP]
    show (pasOK x && !decide (cmpPas x y < 0) && _) = _
    generalize pasOK x = a
    generalize (!decide (cmpPas x y < 0)) = b
    generalize r.all pasOK = c
    generalize sortedP (x :: r) = d
    cases a <;> cases b <;> cases c <;> cases d <;> rfl
theorem properP_eq (l : List Pas) : properP l = (decide (l.length ≤ 64) && properR none l) := by
  unfold properP
  cases l with
  | nil => rfl
  | cons x r =>
    rw [properR, properR_some, List.all_cons]
    generalize pasOK x = a
    generalize r.all pasOK = c
    generalize sortedP (x :: r) = d
    generalize decide ((x :: r).length ≤ 64) = e
    cases a <;> cases c <;> cases d <;> cases e <;> rfl
theorem properR_step (l : List Pas) (k : Nat) (h : k < l.length) :
    properR (prevAt l k) (l.drop k) = (pasOK l[k] && (match prevAt l k with | none => true | some y => !ltOf cmpPas l[k] y) && properR (prevAt l (k + 1)) (l.drop (k + 1))) := by
  have hp : prevAt l (k + 1) = some l[k] := by simp [prevAt, h]
  rw [List.drop_eq_getElem_cons h, hp]
  cases prevAt l k <;> rfl
theorem pasOK_flat (sa sn a b c d : Int) : pasOK ⟨sa, sn, ⟨a, b⟩, ⟨c, d⟩⟩ = (inB sa 0 23 && inB sn 0 11 && decide (0 ≤ c) && decide (c < d) && decide (d ≤ 1000001) && (decide (a = 0 ∧ b = 0) || (decide (c ≤ a) && decide (a < b) && decide (b ≤ d)))) := by
  simp only [pasOK, splIn, Spl.mk.injEq, Bool.decide_and, Bool.and_assoc]
theorem eql_spl0 (a b : Int) (w : World) : (binOp .eql 29 (.agg #[.int .i64 a, .int .i64 b]) (.agg #[.int .i64 0, .int .i64 0])).run Try.prog w = .ok (.bool (decide (a = 0 ∧ b = 0))) w := by
  have u3 := Try.underlying3
  have hS : Try.prog.underlying 29 = some (.struct (Try.prog.fieldsOf 29)) := by kernel_rfl
  have hp : Try.prog.stoodInHeld 29 = false := by kernel_rfl
  rw [run_eql_struct, show (10000 : Nat) = 9999 + 1 from rfl, run_equalIn_agg w 9999 29 _ _ hS hp]
  clear hS hp
  simp only [Program.fieldsOf, Try.underlying29]
  go_simp
  by_cases h0 : a = 0 <;> by_cases h1 : b = 0 <;> simp [h0, h1]
set_option maxRecDepth 100000 in
set_option maxHeartbeats 8000000 in
theorem rproper_any (l : List Pas) (A : Option Addr) (n c : Nat) (w : World) (h : RA pasCells 6 w w.heap.size A n c l) :
    Calls Try.prog 43 #[.slice A n c] w fun e w' => e = .returned (.bool (properP l)) ∧ Below w.heap.size w w' := by
  have HR := Lib.hid h
  have hle := h.le
  have HL := Lib.hid h.len
  have hpp : properP l = (decide (n ≤ 64) && properR none l) := by rw [properP_eq, h.len]
  rw [hpp]
  clear h hpp
  by_cases hn : n ≤ 64
  · have hd : decide (n ≤ 64) = true := by simpa using hn
    rw [hd, Bool.true_and]
    clear hd
    have hrl : properR none l = properR (prevAt l 0) (l.drop 0) := by simp [prevAt]
    have HQ := Lib.hid hrl
    clear hrl
    go_enter Try.func43, Try.ntmps43
    go_wp2
    go_loopw [3] (fun i wr => ∃ k : Nat, k ≤ n ∧ i = .int .i64 k ∧ Hid (properR none l = properR (prevAt l k) (l.drop k)) ∧ Below w.heap.size w wr) (fun i _ => n - (intOf i).toNat)
    case atStart => exact ⟨0, Nat.zero_le _, rfl, HQ, Below.refl _ _⟩
    case round =>
      clear HQ
      obtain ⟨k, hk, rfl, HK, hB⟩ := hrel
      by_cases hlt : k < n
      · obtain ⟨b_, o, hz, hA, hbl, hc⟩ := (HR.out.below hB).at_ pas_len hlt
        have hst := properR_step l k hz
        rw [← HK.out] at hst
        generalize l[k] = x at hst hc
        obtain ⟨sa, sn, ⟨a, b⟩, ⟨c', d⟩⟩ := x
        have v0 : wr.cell? ⟨b_, o + k * 6, none⟩ = some (.int .i64 sa) := hc 0 (by omega)
        have v1 : wr.cell? ⟨b_, o + k * 6 + 1, none⟩ = some (.int .i64 sn) := hc 1 (by omega)
        have v2 : wr.cell? ⟨b_, o + k * 6 + 2, none⟩ = some (.int .i64 a) := hc 2 (by omega)
        have v3 : wr.cell? ⟨b_, o + k * 6 + 3, none⟩ = some (.int .i64 b) := hc 3 (by omega)
        have v4 : wr.cell? ⟨b_, o + k * 6 + 4, none⟩ = some (.int .i64 c') := hc 4 (by omega)
        have v5 : wr.cell? ⟨b_, o + k * 6 + 5, none⟩ = some (.int .i64 d) := hc 5 (by omega)
        rw [pasOK_flat] at hst
        have HS := Lib.hid hst
        clear hst hc HK
        subst hA
        have hblt : b_ < w.heap.size := hbl
        go_upto_region 7 with (fail)
        obtain ⟨gb, hgb⟩ : ∃ g, g = wr.heap.size := ⟨_, rfl⟩
        have K : Blk (wr.alloc (.cells #[.int .i64 sa, .int .i64 sn, .int .i64 a, .int .i64 b, .int .i64 c', .int .i64 d] 98)) gb 98 #[.int .i64 sa, .int .i64 sn, .int .i64 a, .int .i64 b, .int .i64 c', .int .i64 d] := Blk.new_at _ _ _ hgb.symm
        have hx1 : Ext wr (wr.alloc (.cells #[.int .i64 sa, .int .i64 sn, .int .i64 a, .int .i64 b, .int .i64 c', .int .i64 d] 98)) := bl_alloc (Below.refl _ _) _
        rw [← hgb]
        generalize wr.alloc (.cells #[.int .i64 sa, .int .i64 sn, .int .i64 a, .int .i64 b, .int .i64 c', .int .i64 d] 98) = W1 at K hx1 ⊢
        have hB1 : Below w.heap.size w W1 := bl_then hB hx1
        have HX1 := Lib.hid hx1
        have g0 : W1.cell? ⟨gb, 0, none⟩ = some (.int .i64 sa) := K.cell 0
        have g1 : W1.cell? ⟨gb, 1, none⟩ = some (.int .i64 sn) := K.cell 1
        have g2 : W1.cell? ⟨gb, 2, none⟩ = some (.int .i64 a) := K.cell 2
        have g3 : W1.cell? ⟨gb, 3, none⟩ = some (.int .i64 b) := K.cell 3
        have g4 : W1.cell? ⟨gb, 4, none⟩ = some (.int .i64 c') := K.cell 4
        have g5 : W1.cell? ⟨gb, 5, none⟩ = some (.int .i64 d) := K.cell 5
        clear K hx1 hgb v0 v1 v2 v3 v4 v5
        cases e1 : inB sa 0 23
        · have E1 := Lib.hid e1
          clear e1
          go_wp2_with (go_at_call 78; refine (rin_any _ _ _ _).mono ?_; rintro e w' ⟨rfl, rfl⟩; first | rw [E1.out])
          go_ret
          exact ⟨by rw [HS.out, E1.out]; rfl, hB1⟩
        cases e2 : inB sn 0 11
        · have E1 := Lib.hid e1
          have E2 := Lib.hid e2
          clear e1 e2
          go_wp2_with (go_at_call 78; refine (rin_any _ _ _ _).mono ?_; rintro e w' ⟨rfl, rfl⟩; first | rw [E1.out] | rw [E2.out])
          go_ret
          exact ⟨by rw [HS.out, E1.out, E2.out]; rfl, hB1⟩
        have E1 := Lib.hid e1
        have E2 := Lib.hid e2
        clear e1 e2
        by_cases h3 : 0 ≤ c'
        case neg =>
          have h3' : c' < 0 := by omega
          have d3 : decide (0 ≤ c') = false := by simpa using h3'
          have D3 := Lib.hid d3
          clear d3
          go_wp2_with (go_at_call 78; refine (rin_any _ _ _ _).mono ?_; rintro e w' ⟨rfl, rfl⟩; first | rw [E1.out] | rw [E2.out])
          go_ret
          exact ⟨by rw [HS.out, E1.out, E2.out, D3.out]; rfl, hB1⟩
        have d3 : decide (0 ≤ c') = true := by simpa using h3
        have D3 := Lib.hid d3
        have d3 : decide (c' < 0) = false := by simp; omega
        by_cases h4 : c' < d
        case neg =>
          have h4' : d ≤ c' := by omega
          have d4 : decide (c' < d) = false := by simpa using h4'
          have D4 := Lib.hid d4
          clear d4
          go_wp2_with (go_at_call 78; refine (rin_any _ _ _ _).mono ?_; rintro e w' ⟨rfl, rfl⟩; first | rw [E1.out] | rw [E2.out])
          go_ret
          exact ⟨by rw [HS.out, E1.out, E2.out, D3.out, D4.out]; rfl, hB1⟩
        have d4 : decide (c' < d) = true := by simpa using h4
        have D4 := Lib.hid d4
        have d4 : decide (d ≤ c') = false := by simp; omega
        by_cases h5 : d ≤ 1000001
        case neg =>
          have h5' : 1000001 < d := by omega
          have d5 : decide (d ≤ 1000001) = false := by simpa using h5'
          have D5 := Lib.hid d5
          clear d5
          go_wp2_with (go_at_call 78; refine (rin_any _ _ _ _).mono ?_; rintro e w' ⟨rfl, rfl⟩; first | rw [E1.out] | rw [E2.out])
          go_ret
          exact ⟨by rw [HS.out, E1.out, E2.out, D3.out, D4.out, D5.out]; rfl, hB1⟩
        have d5 : decide (d ≤ 1000001) = true := by simpa using h5
        have hnext : properR none l = ((decide (a = 0 ∧ b = 0) || (decide (c' ≤ a) && decide (a < b) && decide (b ≤ d))) && (match prevAt l k with | none => true | some y => !ltOf cmpPas ⟨sa, sn, ⟨a, b⟩, ⟨c', d⟩⟩ y) && properR (prevAt l (k + 1)) (l.drop (k + 1))) := by
          rw [HS.out, E1.out, E2.out, D3.out, D4.out, d5]; rfl
        have HN := Lib.hid hnext
        clear hnext HS D3 D4
        have d5 : decide (1000001 < d) = false := by simp; omega
        have heq := eql_spl0
        cases h6 : decide (a = 0 ∧ b = 0)
        · have h6n : ¬ (a = 0 ∧ b = 0) := by simpa using h6
          by_cases h7 : a < c'
          · have h7b : decide (a < c') = true := decide_eq_true h7
            have hF : (decide (a = 0 ∧ b = 0) || (decide (c' ≤ a) && decide (a < b) && decide (b ≤ d))) = false := by rw [h6]; simp; omega
            have HF := Lib.hid hF
            clear hF h6n
            go_upto_region 10 with (go_at_call 78; refine (rin_any _ _ _ _).mono ?_; rintro e w' ⟨rfl, rfl⟩; first | rw [E1.out] | rw [E2.out])
            go_quiet (fail)
            have hB5 : Below w.heap.size w (W1.drewN nq) := (by repeat (first | exact Below.refl _ _ | assumption | refine Below.drew ?_ | refine below_drewN ?_ _ | refine bl_alloc ?_ _ | refine Below.setCell ?_ (by first | (simp; done) | omega | (simp; omega)) _ | refine bl_then ?_ (by assumption)))
            clear g0 g1 g2 g3 g4 g5
            go_wp2
            go_ret
            exact ⟨by rw [HN.out, HF.out]; rfl, hB5⟩
          · have h7' : c' ≤ a := by omega
            have d7 : decide (a < c') = false := by simp; omega
            by_cases h8 : b ≤ a
            · have h8b : decide (b ≤ a) = true := decide_eq_true h8
              have hF : (decide (a = 0 ∧ b = 0) || (decide (c' ≤ a) && decide (a < b) && decide (b ≤ d))) = false := by rw [h6]; simp; omega
              have HF := Lib.hid hF
              clear hF h6n
              go_upto_region 10 with (go_at_call 78; refine (rin_any _ _ _ _).mono ?_; rintro e w' ⟨rfl, rfl⟩; first | rw [E1.out] | rw [E2.out])
              go_quiet (fail)
              have hB5 : Below w.heap.size w (W1.drewN nq) := (by repeat (first | exact Below.refl _ _ | assumption | refine Below.drew ?_ | refine below_drewN ?_ _ | refine bl_alloc ?_ _ | refine Below.setCell ?_ (by first | (simp; done) | omega | (simp; omega)) _ | refine bl_then ?_ (by assumption)))
              clear g0 g1 g2 g3 g4 g5
              go_wp2
              go_ret
              exact ⟨by rw [HN.out, HF.out]; rfl, hB5⟩
            · have h8' : a < b := by omega
              have d8 : decide (b ≤ a) = false := by simp; omega
              by_cases h9 : d < b
              · have h9b : decide (d < b) = true := decide_eq_true h9
                have hF : (decide (a = 0 ∧ b = 0) || (decide (c' ≤ a) && decide (a < b) && decide (b ≤ d))) = false := by rw [h6]; simp; omega
                have HF := Lib.hid hF
                clear hF h6n
                go_upto_region 10 with (go_at_call 78; refine (rin_any _ _ _ _).mono ?_; rintro e w' ⟨rfl, rfl⟩; first | rw [E1.out] | rw [E2.out])
                go_quiet (fail)
                have hB5 : Below w.heap.size w (W1.drewN nq) := (by repeat (first | exact Below.refl _ _ | assumption | refine Below.drew ?_ | refine below_drewN ?_ _ | refine bl_alloc ?_ _ | refine Below.setCell ?_ (by first | (simp; done) | omega | (simp; omega)) _ | refine bl_then ?_ (by assumption)))
                clear g0 g1 g2 g3 g4 g5
                go_wp2
                go_ret
                exact ⟨by rw [HN.out, HF.out]; rfl, hB5⟩
              · have h9' : b ≤ d := by omega
                have d9 : decide (d < b) = false := by simp; omega
                have hF : (decide (a = 0 ∧ b = 0) || (decide (c' ≤ a) && decide (a < b) && decide (b ≤ d))) = true := by rw [h6]; simp; omega
                have HF := Lib.hid hF
                clear hF h6n
                go_upto_region 10 with (go_at_call 78; refine (rin_any _ _ _ _).mono ?_; rintro e w' ⟨rfl, rfl⟩; first | rw [E1.out] | rw [E2.out])
                by_cases hk0 : k = 0
                · have hk0' : (k : Int) ≤ 0 := by omega
                  have hpv : prevAt l k = none := by simp [prevAt, hk0]
                  have HP := Lib.hid hpv
                  have hk0h := Lib.hid hk0
                  have hkd : decide (0 < k) = false := by simp; omega
                  have hke : decide ((0 : Int) < (k : Int)) = false := by simp; omega
                  clear hpv hk0
                  go_quiet (fail)
                  have hB5 : Below w.heap.size w (W1.drewN nq) := (by repeat (first | exact Below.refl _ _ | assumption | refine Below.drew ?_ | refine below_drewN ?_ _ | refine bl_alloc ?_ _ | refine Below.setCell ?_ (by first | (simp; done) | omega | (simp; omega)) _ | refine bl_then ?_ (by assumption)))
                  clear g0 g1 g2 g3 g4 g5
                  go_wp2
                  go_roundw
                  case rel => exact ⟨k + 1, by omega, by go_num, Lib.hid (by rw [HN.out, HF.out, HP.out]; rfl), hB5⟩
                  case measure => simp [intOf]; omega
                · have hk1 : (0 : Int) < (k : Int) := by omega
                  obtain ⟨b', o', hz', hA', hbl', hc'⟩ := RA.at_ pas_len (HR.out.below hB) (k := k - 1) (by omega)
                  obtain ⟨rfl, rfl⟩ : b' = b_ ∧ o' = o := by injection hA' with hA'; injection hA' with h1 h2; exact ⟨h1.symm, h2.symm⟩
                  have hpv : prevAt l k = some l[k - 1] := by unfold prevAt; rw [if_neg hk0, List.getElem?_eq_getElem hz']
                  generalize l[k - 1] = y at hpv hc'
                  obtain ⟨ysa, ysn, ⟨ya, yb⟩, ⟨yc, yd⟩⟩ := y
                  have d0 : W1.cell? ⟨b', o' + (k - 1) * 6, none⟩ = some (.int .i64 ysa) := ext_cell HX1.out (hc' 0 (by omega))
                  have d1 : W1.cell? ⟨b', o' + (k - 1) * 6 + 1, none⟩ = some (.int .i64 ysn) := ext_cell HX1.out (hc' 1 (by omega))
                  have d2 : W1.cell? ⟨b', o' + (k - 1) * 6 + 2, none⟩ = some (.int .i64 ya) := ext_cell HX1.out (hc' 2 (by omega))
                  have d3 : W1.cell? ⟨b', o' + (k - 1) * 6 + 3, none⟩ = some (.int .i64 yb) := ext_cell HX1.out (hc' 3 (by omega))
                  have d4 : W1.cell? ⟨b', o' + (k - 1) * 6 + 4, none⟩ = some (.int .i64 yc) := ext_cell HX1.out (hc' 4 (by omega))
                  have d5 : W1.cell? ⟨b', o' + (k - 1) * 6 + 5, none⟩ = some (.int .i64 yd) := ext_cell HX1.out (hc' 5 (by omega))
                  have hlc := before_any sa sn a b c' d ysa ysn ya yb yc yd
                  generalize hlq : ltOf cmpPas ⟨sa, sn, ⟨a, b⟩, ⟨c', d⟩⟩ ⟨ysa, ysn, ⟨ya, yb⟩, ⟨yc, yd⟩⟩ = lt at hlc
                  have HLQ := Lib.hid hlq
                  have HLT := Lib.hid hlc
                  have HP := Lib.hid hpv
                  have hk0h := Lib.hid hk0
                  clear hpv hc' hA' hbl' hk0 hlc hlq
                  have hki : IntKind.i64.wrap ((k : Int) - 1) = (k : Int) - 1 := IntWalk.i64_in _ (by omega)
                  have hkn : ((k : Int) - 1).toNat = k - 1 := by omega
                  have hkd : decide (0 < k) = true := by simp; omega
                  refine wp_region_obl 42 (fun ix vals v w1 => match ix with | 0 => v = .bool false | 1 => v = .bool true | 2 => v = .bool true | 3 => v = .pointer (some ⟨gb, 2, none⟩) | 4 => v = .pointer (some ⟨gb, 2, none⟩) | 5 => v = .int .i64 a | 6 => v = .pointer (some ⟨gb, 4, none⟩) | 7 => v = .pointer (some ⟨gb, 4, none⟩) | 8 => v = .int .i64 c' | 9 => v = .bool false | 10 => v = .bool false | 11 => v = .pointer (some ⟨gb, 2, none⟩) | 12 => v = .pointer (some ⟨gb, 2, none⟩) | 13 => v = .int .i64 a | 14 => v = .pointer (some ⟨gb, 2, none⟩) | 15 => v = .pointer (some ⟨gb, 3, none⟩) | 16 => v = .int .i64 b | 17 => v = .bool false | 18 => v = .bool false | 19 => v = .bool false | 20 => v = .pointer (some ⟨gb, 2, none⟩) | 21 => v = .pointer (some ⟨gb, 3, none⟩) | 22 => v = .int .i64 b | 23 => v = .pointer (some ⟨gb, 4, none⟩) | 24 => v = .pointer (some ⟨gb, 5, none⟩) | 25 => v = .int .i64 d | 26 => v = .bool false | 27 => v = .bool false | 28 => v = .bool false | 29 => v = .bool false | 30 => v = .int .i64 (k : Int) | 31 => v = .bool true | 32 => v = .bool true | 33 => v = .agg #[.int .i64 sa, .int .i64 sn, .int .i64 a, .int .i64 b, .int .i64 c', .int .i64 d] | 34 => v = .slice (some ⟨b', o', none⟩) n c | 35 => v = .int .i64 (k : Int) | 36 => v = .int .i64 ((k : Int) - 1) | 37 => v = .pointer (some ⟨b', o' + (k - 1) * 6, none⟩) | 38 => v = .agg #[.int .i64 ysa, .int .i64 ysn, .int .i64 ya, .int .i64 yb, .int .i64 yc, .int .i64 yd] | 39 => v = .bool lt | 40 => v = .bool lt | _ => v = .bool lt) (by kernel_rfl) (by kernel_rfl) ?_ ?_ ?_ ?_
                  · intro ix vals v w1 w2 hi hr hx
                    match ix, hr with
                    | 0, hr => exact hr
                    | 1, hr => exact hr
                    | 2, hr => exact hr
                    | 3, hr => exact hr
                    | 4, hr => exact hr
                    | 5, hr => exact hr
                    | 6, hr => exact hr
                    | 7, hr => exact hr
                    | 8, hr => exact hr
                    | 9, hr => exact hr
                    | 10, hr => exact hr
                    | 11, hr => exact hr
                    | 12, hr => exact hr
                    | 13, hr => exact hr
                    | 14, hr => exact hr
                    | 15, hr => exact hr
                    | 16, hr => exact hr
                    | 17, hr => exact hr
                    | 18, hr => exact hr
                    | 19, hr => exact hr
                    | 20, hr => exact hr
                    | 21, hr => exact hr
                    | 22, hr => exact hr
                    | 23, hr => exact hr
                    | 24, hr => exact hr
                    | 25, hr => exact hr
                    | 26, hr => exact hr
                    | 27, hr => exact hr
                    | 28, hr => exact hr
                    | 29, hr => exact hr
                    | 30, hr => exact hr
                    | 31, hr => exact hr
                    | 32, hr => exact hr
                    | 33, hr => exact hr
                    | 34, hr => exact hr
                    | 35, hr => exact hr
                    | 36, hr => exact hr
                    | 37, hr => exact hr
                    | 38, hr => exact hr
                    | 39, hr => exact hr
                    | 40, hr => exact hr
                    | (kx + 41), hr => exact hr
                  · intro ix vals vals_ v w1 hi hv hr
                    exact hr
                  · refine ⟨?_, ?_, ?_, ?_, ?_, ?_, ?_, ?_, ?_, ?_, ?_, ?_, ?_, ?_, ?_, ?_, ?_, ?_, ?_, ?_, ?_, ?_, ?_, ?_, ?_, ?_, ?_, ?_, ?_, ?_, ?_, ?_, ?_, ?_, ?_, ?_, ?_, ?_, ?_, ?_, ?_, ?_, trivial⟩
                    · intro vals w1 hx hd ha
                      clear hd ha
                      simp only [Lf]
                      go_wp2
                      exact ⟨rfl, Ext.refl _, rfl⟩
                    · intro vals w1 hx hd ha
                      have e0 : vals 0 = .bool false := hd 0 (by decide)
                      clear hd ha
                      simp only [Lf, dstAt, Act.put, List.getElem?_toArray, List.getElem?_cons_zero, Option.bind_some, List.setIfInBounds_toArray, List.set_cons_zero, List.set_cons_succ]
                      simp only [e0]
                      clear e0
                      go_wp2
                      exact ⟨rfl, Ext.refl _, rfl⟩
                    · intro vals w1 hx hd ha
                      have e1 : vals 1 = .bool true := hd 1 (by decide)
                      clear hd ha
                      simp only [Lf, dstAt, Act.put, List.getElem?_toArray, List.getElem?_cons_zero, List.getElem?_cons_succ, Option.bind_some, List.setIfInBounds_toArray, List.set_cons_zero, List.set_cons_succ]
                      simp only [e1]
                      clear e1
                      go_wp2
                      exact ⟨rfl, Ext.refl _, rfl⟩
                    · intro vals w1 hx hd ha
                      have e2 : vals 2 = .bool true := hd 2 (by decide)
                      clear hd ha
                      simp only [Lf, dstAt, Act.put, List.getElem?_toArray, List.getElem?_cons_zero, List.getElem?_cons_succ, Option.bind_some, List.setIfInBounds_toArray, List.set_cons_zero, List.set_cons_succ]
                      simp only [e2]
                      clear e2
                      go_wp2
                      exact ⟨rfl, Ext.refl _, rfl⟩
                    · intro vals w1 hx hd ha
                      have e2 : vals 2 = .bool true := hd 2 (by decide)
                      have e3 : vals 3 = .pointer (some ⟨gb, 2, none⟩) := hd 3 (by decide)
                      clear hd ha
                      simp only [Lf, dstAt, Act.put, List.getElem?_toArray, List.getElem?_cons_zero, List.getElem?_cons_succ, Option.bind_some, List.setIfInBounds_toArray, List.set_cons_zero, List.set_cons_succ]
                      simp only [e2, e3]
                      clear e2 e3
                      go_wp2
                      exact ⟨rfl, Ext.refl _, rfl⟩
                    · intro vals w1 hx hd ha
                      have e2 : vals 2 = .bool true := hd 2 (by decide)
                      have e4 : vals 4 = .pointer (some ⟨gb, 2, none⟩) := hd 4 (by decide)
                      clear hd ha
                      simp only [Lf, dstAt, Act.put, List.getElem?_toArray, List.getElem?_cons_zero, List.getElem?_cons_succ, Option.bind_some, List.setIfInBounds_toArray, List.set_cons_zero, List.set_cons_succ]
                      simp only [e2, e4]
                      clear e2 e4
                      have g2 := ext_cell hx g2
                      go_wp2
                      exact ⟨rfl, Ext.refl _, rfl⟩
                    · intro vals w1 hx hd ha
                      have e2 : vals 2 = .bool true := hd 2 (by decide)
                      clear hd ha
                      simp only [Lf, dstAt, Act.put, List.getElem?_toArray, List.getElem?_cons_zero, List.getElem?_cons_succ, Option.bind_some, List.setIfInBounds_toArray, List.set_cons_zero, List.set_cons_succ]
                      simp only [e2]
                      clear e2
                      go_wp2
                      exact ⟨rfl, Ext.refl _, rfl⟩
                    · intro vals w1 hx hd ha
                      have e2 : vals 2 = .bool true := hd 2 (by decide)
                      have e6 : vals 6 = .pointer (some ⟨gb, 4, none⟩) := hd 6 (by decide)
                      clear hd ha
                      simp only [Lf, dstAt, Act.put, List.getElem?_toArray, List.getElem?_cons_zero, List.getElem?_cons_succ, Option.bind_some, List.setIfInBounds_toArray, List.set_cons_zero, List.set_cons_succ]
                      simp only [e2, e6]
                      clear e2 e6
                      go_wp2
                      exact ⟨rfl, Ext.refl _, rfl⟩
                    · intro vals w1 hx hd ha
                      have e2 : vals 2 = .bool true := hd 2 (by decide)
                      have e7 : vals 7 = .pointer (some ⟨gb, 4, none⟩) := hd 7 (by decide)
                      clear hd ha
                      simp only [Lf, dstAt, Act.put, List.getElem?_toArray, List.getElem?_cons_zero, List.getElem?_cons_succ, Option.bind_some, List.setIfInBounds_toArray, List.set_cons_zero, List.set_cons_succ]
                      simp only [e2, e7]
                      clear e2 e7
                      have g4 := ext_cell hx g4
                      go_wp2
                      exact ⟨rfl, Ext.refl _, rfl⟩
                    · intro vals w1 hx hd ha
                      have e2 : vals 2 = .bool true := hd 2 (by decide)
                      have e5 : vals 5 = .int .i64 a := hd 5 (by decide)
                      have e8 : vals 8 = .int .i64 c' := hd 8 (by decide)
                      clear hd ha
                      simp only [Lf, dstAt, Act.put, List.getElem?_toArray, List.getElem?_cons_zero, List.getElem?_cons_succ, Option.bind_some, List.setIfInBounds_toArray, List.set_cons_zero, List.set_cons_succ]
                      simp only [e2, e5, e8]
                      clear e2 e5 e8
                      go_wp2
                      exact ⟨rfl, Ext.refl _, rfl⟩
                    · intro vals w1 hx hd ha
                      have e2 : vals 2 = .bool true := hd 2 (by decide)
                      have e9 : vals 9 = .bool false := hd 9 (by decide)
                      clear hd ha
                      simp only [Lf, dstAt, Act.put, List.getElem?_toArray, List.getElem?_cons_zero, List.getElem?_cons_succ, Option.bind_some, List.setIfInBounds_toArray, List.set_cons_zero, List.set_cons_succ]
                      simp only [e2, e9]
                      clear e2 e9
                      go_wp2
                      exact ⟨rfl, Ext.refl _, rfl⟩
                    · intro vals w1 hx hd ha
                      have e10 : vals 10 = .bool false := hd 10 (by decide)
                      clear hd ha
                      simp only [Lf, dstAt, Act.put, List.getElem?_toArray, List.getElem?_cons_zero, List.getElem?_cons_succ, Option.bind_some, List.setIfInBounds_toArray, List.set_cons_zero, List.set_cons_succ]
                      simp only [e10]
                      clear e10
                      go_wp2
                      exact ⟨rfl, Ext.refl _, rfl⟩
                    · intro vals w1 hx hd ha
                      have e10 : vals 10 = .bool false := hd 10 (by decide)
                      have e11 : vals 11 = .pointer (some ⟨gb, 2, none⟩) := hd 11 (by decide)
                      clear hd ha
                      simp only [Lf, dstAt, Act.put, List.getElem?_toArray, List.getElem?_cons_zero, List.getElem?_cons_succ, Option.bind_some, List.setIfInBounds_toArray, List.set_cons_zero, List.set_cons_succ]
                      simp only [e10, e11]
                      clear e10 e11
                      go_wp2
                      exact ⟨rfl, Ext.refl _, rfl⟩
                    · intro vals w1 hx hd ha
                      have e10 : vals 10 = .bool false := hd 10 (by decide)
                      have e12 : vals 12 = .pointer (some ⟨gb, 2, none⟩) := hd 12 (by decide)
                      clear hd ha
                      simp only [Lf, dstAt, Act.put, List.getElem?_toArray, List.getElem?_cons_zero, List.getElem?_cons_succ, Option.bind_some, List.setIfInBounds_toArray, List.set_cons_zero, List.set_cons_succ]
                      simp only [e10, e12]
                      clear e10 e12
                      have g2 := ext_cell hx g2
                      go_wp2
                      exact ⟨rfl, Ext.refl _, rfl⟩
                    · intro vals w1 hx hd ha
                      have e10 : vals 10 = .bool false := hd 10 (by decide)
                      clear hd ha
                      simp only [Lf, dstAt, Act.put, List.getElem?_toArray, List.getElem?_cons_zero, List.getElem?_cons_succ, Option.bind_some, List.setIfInBounds_toArray, List.set_cons_zero, List.set_cons_succ]
                      simp only [e10]
                      clear e10
                      go_wp2
                      exact ⟨rfl, Ext.refl _, rfl⟩
                    · intro vals w1 hx hd ha
                      have e10 : vals 10 = .bool false := hd 10 (by decide)
                      have e14 : vals 14 = .pointer (some ⟨gb, 2, none⟩) := hd 14 (by decide)
                      clear hd ha
                      simp only [Lf, dstAt, Act.put, List.getElem?_toArray, List.getElem?_cons_zero, List.getElem?_cons_succ, Option.bind_some, List.setIfInBounds_toArray, List.set_cons_zero, List.set_cons_succ]
                      simp only [e10, e14]
                      clear e10 e14
                      go_wp2
                      exact ⟨rfl, Ext.refl _, rfl⟩
                    · intro vals w1 hx hd ha
                      have e10 : vals 10 = .bool false := hd 10 (by decide)
                      have e15 : vals 15 = .pointer (some ⟨gb, 3, none⟩) := hd 15 (by decide)
                      clear hd ha
                      simp only [Lf, dstAt, Act.put, List.getElem?_toArray, List.getElem?_cons_zero, List.getElem?_cons_succ, Option.bind_some, List.setIfInBounds_toArray, List.set_cons_zero, List.set_cons_succ]
                      simp only [e10, e15]
                      clear e10 e15
                      have g3 := ext_cell hx g3
                      go_wp2
                      exact ⟨rfl, Ext.refl _, rfl⟩
                    · intro vals w1 hx hd ha
                      have e10 : vals 10 = .bool false := hd 10 (by decide)
                      have e13 : vals 13 = .int .i64 a := hd 13 (by decide)
                      have e16 : vals 16 = .int .i64 b := hd 16 (by decide)
                      clear hd ha
                      simp only [Lf, dstAt, Act.put, List.getElem?_toArray, List.getElem?_cons_zero, List.getElem?_cons_succ, Option.bind_some, List.setIfInBounds_toArray, List.set_cons_zero, List.set_cons_succ]
                      simp only [e10, e13, e16]
                      clear e10 e13 e16
                      go_wp2
                      exact ⟨rfl, Ext.refl _, rfl⟩
                    · intro vals w1 hx hd ha
                      have e2 : vals 2 = .bool true := hd 2 (by decide)
                      have e10 : vals 10 = .bool false := hd 10 (by decide)
                      have e17 : vals 17 = .bool false := hd 17 (by decide)
                      clear hd ha
                      simp only [Lf, dstAt, Act.put, List.getElem?_toArray, List.getElem?_cons_zero, List.getElem?_cons_succ, Option.bind_some, List.setIfInBounds_toArray, List.set_cons_zero, List.set_cons_succ]
                      simp only [e2, e10, e17]
                      clear e2 e10 e17
                      go_wp2
                      exact ⟨rfl, Ext.refl _, rfl⟩
                    · intro vals w1 hx hd ha
                      have e2 : vals 2 = .bool true := hd 2 (by decide)
                      have e10 : vals 10 = .bool false := hd 10 (by decide)
                      have e18 : vals 18 = .bool false := hd 18 (by decide)
                      clear hd ha
                      simp only [Lf, dstAt, Act.put, List.getElem?_toArray, List.getElem?_cons_zero, List.getElem?_cons_succ, Option.bind_some, List.setIfInBounds_toArray, List.set_cons_zero, List.set_cons_succ]
                      simp only [e2, e10, e18]
                      clear e2 e10 e18
                      go_wp2
                      exact ⟨rfl, Ext.refl _, rfl⟩
                    · intro vals w1 hx hd ha
                      have e19 : vals 19 = .bool false := hd 19 (by decide)
                      clear hd ha
                      simp only [Lf, dstAt, Act.put, List.getElem?_toArray, List.getElem?_cons_zero, List.getElem?_cons_succ, Option.bind_some, List.setIfInBounds_toArray, List.set_cons_zero, List.set_cons_succ]
                      simp only [e19]
                      clear e19
                      go_wp2
                      exact ⟨rfl, Ext.refl _, rfl⟩
                    · intro vals w1 hx hd ha
                      have e19 : vals 19 = .bool false := hd 19 (by decide)
                      have e20 : vals 20 = .pointer (some ⟨gb, 2, none⟩) := hd 20 (by decide)
                      clear hd ha
                      simp only [Lf, dstAt, Act.put, List.getElem?_toArray, List.getElem?_cons_zero, List.getElem?_cons_succ, Option.bind_some, List.setIfInBounds_toArray, List.set_cons_zero, List.set_cons_succ]
                      simp only [e19, e20]
                      clear e19 e20
                      go_wp2
                      exact ⟨rfl, Ext.refl _, rfl⟩
                    · intro vals w1 hx hd ha
                      have e19 : vals 19 = .bool false := hd 19 (by decide)
                      have e21 : vals 21 = .pointer (some ⟨gb, 3, none⟩) := hd 21 (by decide)
                      clear hd ha
                      simp only [Lf, dstAt, Act.put, List.getElem?_toArray, List.getElem?_cons_zero, List.getElem?_cons_succ, Option.bind_some, List.setIfInBounds_toArray, List.set_cons_zero, List.set_cons_succ]
                      simp only [e19, e21]
                      clear e19 e21
                      have g3 := ext_cell hx g3
                      go_wp2
                      exact ⟨rfl, Ext.refl _, rfl⟩
                    · intro vals w1 hx hd ha
                      have e19 : vals 19 = .bool false := hd 19 (by decide)
                      clear hd ha
                      simp only [Lf, dstAt, Act.put, List.getElem?_toArray, List.getElem?_cons_zero, List.getElem?_cons_succ, Option.bind_some, List.setIfInBounds_toArray, List.set_cons_zero, List.set_cons_succ]
                      simp only [e19]
                      clear e19
                      go_wp2
                      exact ⟨rfl, Ext.refl _, rfl⟩
                    · intro vals w1 hx hd ha
                      have e19 : vals 19 = .bool false := hd 19 (by decide)
                      have e23 : vals 23 = .pointer (some ⟨gb, 4, none⟩) := hd 23 (by decide)
                      clear hd ha
                      simp only [Lf, dstAt, Act.put, List.getElem?_toArray, List.getElem?_cons_zero, List.getElem?_cons_succ, Option.bind_some, List.setIfInBounds_toArray, List.set_cons_zero, List.set_cons_succ]
                      simp only [e19, e23]
                      clear e19 e23
                      go_wp2
                      exact ⟨rfl, Ext.refl _, rfl⟩
                    · intro vals w1 hx hd ha
                      have e19 : vals 19 = .bool false := hd 19 (by decide)
                      have e24 : vals 24 = .pointer (some ⟨gb, 5, none⟩) := hd 24 (by decide)
                      clear hd ha
                      simp only [Lf, dstAt, Act.put, List.getElem?_toArray, List.getElem?_cons_zero, List.getElem?_cons_succ, Option.bind_some, List.setIfInBounds_toArray, List.set_cons_zero, List.set_cons_succ]
                      simp only [e19, e24]
                      clear e19 e24
                      have g5 := ext_cell hx g5
                      go_wp2
                      exact ⟨rfl, Ext.refl _, rfl⟩
                    · intro vals w1 hx hd ha
                      have e19 : vals 19 = .bool false := hd 19 (by decide)
                      have e22 : vals 22 = .int .i64 b := hd 22 (by decide)
                      have e25 : vals 25 = .int .i64 d := hd 25 (by decide)
                      clear hd ha
                      simp only [Lf, dstAt, Act.put, List.getElem?_toArray, List.getElem?_cons_zero, List.getElem?_cons_succ, Option.bind_some, List.setIfInBounds_toArray, List.set_cons_zero, List.set_cons_succ]
                      simp only [e19, e22, e25]
                      clear e19 e22 e25
                      go_wp2
                      exact ⟨rfl, Ext.refl _, rfl⟩
                    · intro vals w1 hx hd ha
                      have e2 : vals 2 = .bool true := hd 2 (by decide)
                      have e19 : vals 19 = .bool false := hd 19 (by decide)
                      have e26 : vals 26 = .bool false := hd 26 (by decide)
                      clear hd ha
                      simp only [Lf, dstAt, Act.put, List.getElem?_toArray, List.getElem?_cons_zero, List.getElem?_cons_succ, Option.bind_some, List.setIfInBounds_toArray, List.set_cons_zero, List.set_cons_succ]
                      simp only [e2, e19, e26]
                      clear e2 e19 e26
                      go_wp2
                      exact ⟨rfl, Ext.refl _, rfl⟩
                    · intro vals w1 hx hd ha
                      have e2 : vals 2 = .bool true := hd 2 (by decide)
                      have e27 : vals 27 = .bool false := hd 27 (by decide)
                      clear hd ha
                      simp only [Lf, dstAt, Act.put, List.getElem?_toArray, List.getElem?_cons_zero, List.getElem?_cons_succ, Option.bind_some, List.setIfInBounds_toArray, List.set_cons_zero, List.set_cons_succ]
                      simp only [e2, e27]
                      clear e2 e27
                      go_wp2
                      exact ⟨rfl, Ext.refl _, rfl⟩
                    · intro vals w1 hx hd ha
                      have e19 : vals 19 = .bool false := hd 19 (by decide)
                      have e28 : vals 28 = .bool false := hd 28 (by decide)
                      clear hd ha
                      simp only [Lf, dstAt, Act.put, List.getElem?_toArray, List.getElem?_cons_zero, List.getElem?_cons_succ, Option.bind_some, List.setIfInBounds_toArray, List.set_cons_zero, List.set_cons_succ]
                      simp only [e19, e28]
                      clear e19 e28
                      go_wp2
                      exact ⟨rfl, Ext.refl _, rfl⟩
                    · intro vals w1 hx hd ha
                      have e29 : vals 29 = .bool false := hd 29 (by decide)
                      clear hd ha
                      simp only [Lf, dstAt, Act.put, List.getElem?_toArray, List.getElem?_cons_zero, List.getElem?_cons_succ, Option.bind_some, List.setIfInBounds_toArray, List.set_cons_zero, List.set_cons_succ]
                      simp only [e29]
                      clear e29
                      go_wp2
                      exact ⟨rfl, Ext.refl _, rfl⟩
                    · intro vals w1 hx hd ha
                      have e29 : vals 29 = .bool false := hd 29 (by decide)
                      have e30 : vals 30 = .int .i64 (k : Int) := hd 30 (by decide)
                      clear hd ha
                      simp only [Lf, dstAt, Act.put, List.getElem?_toArray, List.getElem?_cons_zero, List.getElem?_cons_succ, Option.bind_some, List.setIfInBounds_toArray, List.set_cons_zero, List.set_cons_succ]
                      simp only [e29, e30]
                      clear e29 e30
                      go_wp2
                      exact ⟨rfl, Ext.refl _, rfl⟩
                    · intro vals w1 hx hd ha
                      have e29 : vals 29 = .bool false := hd 29 (by decide)
                      have e31 : vals 31 = .bool true := hd 31 (by decide)
                      clear hd ha
                      simp only [Lf, dstAt, Act.put, List.getElem?_toArray, List.getElem?_cons_zero, List.getElem?_cons_succ, Option.bind_some, List.setIfInBounds_toArray, List.set_cons_zero, List.set_cons_succ]
                      simp only [e29, e31]
                      clear e29 e31
                      go_wp2
                      exact ⟨rfl, Ext.refl _, rfl⟩
                    · intro vals w1 hx hd ha
                      have e32 : vals 32 = .bool true := hd 32 (by decide)
                      clear hd ha
                      simp only [Lf, dstAt, Act.put, List.getElem?_toArray, List.getElem?_cons_zero, List.getElem?_cons_succ, Option.bind_some, List.setIfInBounds_toArray, List.set_cons_zero, List.set_cons_succ]
                      simp only [e32]
                      clear e32
                      have g0 := ext_cell hx g0
                      have g1 := ext_cell hx g1
                      have g2 := ext_cell hx g2
                      have g3 := ext_cell hx g3
                      have g4 := ext_cell hx g4
                      have g5 := ext_cell hx g5
                      go_wp2
                      exact ⟨rfl, Ext.refl _, rfl⟩
                    · intro vals w1 hx hd ha
                      have e32 : vals 32 = .bool true := hd 32 (by decide)
                      clear hd ha
                      simp only [Lf, dstAt, Act.put, List.getElem?_toArray, List.getElem?_cons_zero, List.getElem?_cons_succ, Option.bind_some, List.setIfInBounds_toArray, List.set_cons_zero, List.set_cons_succ]
                      simp only [e32]
                      clear e32
                      go_wp2
                      exact ⟨rfl, Ext.refl _, rfl⟩
                    · intro vals w1 hx hd ha
                      have e32 : vals 32 = .bool true := hd 32 (by decide)
                      clear hd ha
                      simp only [Lf, dstAt, Act.put, List.getElem?_toArray, List.getElem?_cons_zero, List.getElem?_cons_succ, Option.bind_some, List.setIfInBounds_toArray, List.set_cons_zero, List.set_cons_succ]
                      simp only [e32]
                      clear e32
                      go_wp2
                      exact ⟨rfl, Ext.refl _, rfl⟩
                    · intro vals w1 hx hd ha
                      have e32 : vals 32 = .bool true := hd 32 (by decide)
                      have e35 : vals 35 = .int .i64 (k : Int) := hd 35 (by decide)
                      clear hd ha
                      simp only [Lf, dstAt, Act.put, List.getElem?_toArray, List.getElem?_cons_zero, List.getElem?_cons_succ, Option.bind_some, List.setIfInBounds_toArray, List.set_cons_zero, List.set_cons_succ]
                      simp only [e32, e35]
                      clear e32 e35
                      go_wp2
                      exact ⟨rfl, Ext.refl _, rfl⟩
                    · intro vals w1 hx hd ha
                      have e32 : vals 32 = .bool true := hd 32 (by decide)
                      have e34 : vals 34 = .slice (some ⟨b', o', none⟩) n c := hd 34 (by decide)
                      have e36 : vals 36 = .int .i64 ((k : Int) - 1) := hd 36 (by decide)
                      clear hd ha
                      simp only [Lf, dstAt, Act.put, List.getElem?_toArray, List.getElem?_cons_zero, List.getElem?_cons_succ, Option.bind_some, List.setIfInBounds_toArray, List.set_cons_zero, List.set_cons_succ]
                      simp only [e32, e34, e36]
                      clear e32 e34 e36
                      go_wp2
                      exact ⟨rfl, Ext.refl _, rfl⟩
                    · intro vals w1 hx hd ha
                      have e32 : vals 32 = .bool true := hd 32 (by decide)
                      have e37 : vals 37 = .pointer (some ⟨b', o' + (k - 1) * 6, none⟩) := hd 37 (by decide)
                      clear hd ha
                      simp only [Lf, dstAt, Act.put, List.getElem?_toArray, List.getElem?_cons_zero, List.getElem?_cons_succ, Option.bind_some, List.setIfInBounds_toArray, List.set_cons_zero, List.set_cons_succ]
                      simp only [e32, e37]
                      clear e32 e37
                      have d0 := ext_cell hx d0
                      have d1 := ext_cell hx d1
                      have d2 := ext_cell hx d2
                      have d3 := ext_cell hx d3
                      have d4 := ext_cell hx d4
                      have d5 := ext_cell hx d5
                      go_wp2
                      exact ⟨rfl, Ext.refl _, rfl⟩
                    · intro vals w1 hx hd ha
                      have e32 : vals 32 = .bool true := hd 32 (by decide)
                      have e33 : vals 33 = .agg #[.int .i64 sa, .int .i64 sn, .int .i64 a, .int .i64 b, .int .i64 c', .int .i64 d] := hd 33 (by decide)
                      have e38 : vals 38 = .agg #[.int .i64 ysa, .int .i64 ysn, .int .i64 ya, .int .i64 yb, .int .i64 yc, .int .i64 yd] := hd 38 (by decide)
                      clear hd ha
                      simp only [Lf, dstAt, Act.put, List.getElem?_toArray, List.getElem?_cons_zero, List.getElem?_cons_succ, Option.bind_some, List.setIfInBounds_toArray, List.set_cons_zero, List.set_cons_succ]
                      simp only [e32]
                      simp only [e33]
                      simp only [e38]
                      clear e32 e33 e38
                      go_wp2_with fail
                      refine (HLT.out _).mono ?_
                      rintro e w2 ⟨rfl, hb2⟩
                      go_wp2
                      exact ⟨rfl, hb2, rfl⟩
                    · intro vals w1 hx hd ha
                      have e29 : vals 29 = .bool false := hd 29 (by decide)
                      have e32 : vals 32 = .bool true := hd 32 (by decide)
                      have e39 : vals 39 = .bool lt := hd 39 (by decide)
                      clear hd ha
                      simp only [Lf, dstAt, Act.put, List.getElem?_toArray, List.getElem?_cons_zero, List.getElem?_cons_succ, Option.bind_some, List.setIfInBounds_toArray, List.set_cons_zero, List.set_cons_succ]
                      simp only [e29, e32, e39]
                      clear e29 e32 e39
                      go_wp2
                      exact ⟨rfl, Ext.refl _, rfl⟩
                    · intro vals w1 hx hd ha
                      have e29 : vals 29 = .bool false := hd 29 (by decide)
                      have e40 : vals 40 = .bool lt := hd 40 (by decide)
                      clear hd ha
                      simp only [Lf, dstAt, Act.put, List.getElem?_toArray, List.getElem?_cons_zero, List.getElem?_cons_succ, Option.bind_some, List.setIfInBounds_toArray, List.set_cons_zero, List.set_cons_succ]
                      simp only [e29, e40]
                      clear e29 e40
                      go_wp2
                      exact ⟨rfl, Ext.refl _, rfl⟩
                  intro vals w5 hx hf
                  have e41 : vals 41 = .bool lt := hf 41 (by omega)
                  clear hf
                  have hx := hx.undrew
                  have hB5 := bl_then hB1 hx
                  refine tail0 (by kernel_rfl) ?_
                  simp only [Lf, dstAt, Act.put, List.getElem?_toArray, List.getElem?_cons_zero, List.getElem?_cons_succ, Option.bind_some, List.setIfInBounds_toArray, List.set_cons_zero, List.set_cons_succ]
                  rw [e41]
                  clear e41 g0 g1 g2 g3 g4 g5
                  clear d0 d1 d2 d3 d4 d5
                  cases lt
                  · go_wp2
                    go_roundw
                    case rel => exact ⟨k + 1, by omega, by go_num, Lib.hid (by rw [HN.out, HF.out, HP.out]; simp only [HLQ.out]; rfl), hB5⟩
                    case measure => simp [intOf]; omega
                  · go_wp2
                    go_ret
                    exact ⟨by rw [HN.out, HF.out, HP.out]; simp only [HLQ.out]; rfl, hB5⟩
        · have hF : (decide (a = 0 ∧ b = 0) || (decide (c' ≤ a) && decide (a < b) && decide (b ≤ d))) = true := by rw [h6]; rfl
          have HF := Lib.hid hF
          clear hF
          go_upto_region 10 with (go_at_call 78; refine (rin_any _ _ _ _).mono ?_; rintro e w' ⟨rfl, rfl⟩; first | rw [E1.out] | rw [E2.out])
          by_cases hk0 : k = 0
          · have hk0' : (k : Int) ≤ 0 := by omega
            have hpv : prevAt l k = none := by simp [prevAt, hk0]
            have HP := Lib.hid hpv
            have hk0h := Lib.hid hk0
            have hkd : decide (0 < k) = false := by simp; omega
            have hke : decide ((0 : Int) < (k : Int)) = false := by simp; omega
            clear hpv hk0
            go_quiet (fail)
            have hB5 : Below w.heap.size w (W1.drewN nq) := (by repeat (first | exact Below.refl _ _ | assumption | refine Below.drew ?_ | refine below_drewN ?_ _ | refine bl_alloc ?_ _ | refine Below.setCell ?_ (by first | (simp; done) | omega | (simp; omega)) _ | refine bl_then ?_ (by assumption)))
            clear g0 g1 g2 g3 g4 g5
            go_wp2
            go_roundw
            case rel => exact ⟨k + 1, by omega, by go_num, Lib.hid (by rw [HN.out, HF.out, HP.out]; rfl), hB5⟩
            case measure => simp [intOf]; omega
          · have hk1 : (0 : Int) < (k : Int) := by omega
            obtain ⟨b', o', hz', hA', hbl', hc'⟩ := RA.at_ pas_len (HR.out.below hB) (k := k - 1) (by omega)
            obtain ⟨rfl, rfl⟩ : b' = b_ ∧ o' = o := by injection hA' with hA'; injection hA' with h1 h2; exact ⟨h1.symm, h2.symm⟩
            have hpv : prevAt l k = some l[k - 1] := by unfold prevAt; rw [if_neg hk0, List.getElem?_eq_getElem hz']
            generalize l[k - 1] = y at hpv hc'
            obtain ⟨ysa, ysn, ⟨ya, yb⟩, ⟨yc, yd⟩⟩ := y
            have d0 : W1.cell? ⟨b', o' + (k - 1) * 6, none⟩ = some (.int .i64 ysa) := ext_cell HX1.out (hc' 0 (by omega))
            have d1 : W1.cell? ⟨b', o' + (k - 1) * 6 + 1, none⟩ = some (.int .i64 ysn) := ext_cell HX1.out (hc' 1 (by omega))
            have d2 : W1.cell? ⟨b', o' + (k - 1) * 6 + 2, none⟩ = some (.int .i64 ya) := ext_cell HX1.out (hc' 2 (by omega))
            have d3 : W1.cell? ⟨b', o' + (k - 1) * 6 + 3, none⟩ = some (.int .i64 yb) := ext_cell HX1.out (hc' 3 (by omega))
            have d4 : W1.cell? ⟨b', o' + (k - 1) * 6 + 4, none⟩ = some (.int .i64 yc) := ext_cell HX1.out (hc' 4 (by omega))
            have d5 : W1.cell? ⟨b', o' + (k - 1) * 6 + 5, none⟩ = some (.int .i64 yd) := ext_cell HX1.out (hc' 5 (by omega))
            have hlc := before_any sa sn a b c' d ysa ysn ya yb yc yd
            generalize hlq : ltOf cmpPas ⟨sa, sn, ⟨a, b⟩, ⟨c', d⟩⟩ ⟨ysa, ysn, ⟨ya, yb⟩, ⟨yc, yd⟩⟩ = lt at hlc
            have HLQ := Lib.hid hlq
            have HLT := Lib.hid hlc
            have HP := Lib.hid hpv
            have hk0h := Lib.hid hk0
            clear hpv hc' hA' hbl' hk0 hlc hlq
            have hki : IntKind.i64.wrap ((k : Int) - 1) = (k : Int) - 1 := IntWalk.i64_in _ (by omega)
            have hkn : ((k : Int) - 1).toNat = k - 1 := by omega
            have hkd : decide (0 < k) = true := by simp; omega
            refine wp_region_obl 42 (fun ix vals v w1 => match ix with | 0 => v = .bool true | 1 => v = .bool false | 2 => v = .bool false | 3 => v = undef | 4 => v = undef | 5 => v = undef | 6 => v = undef | 7 => v = undef | 8 => v = undef | 9 => v = undef | 10 => v = undef | 11 => v = undef | 12 => v = undef | 13 => v = undef | 14 => v = undef | 15 => v = undef | 16 => v = undef | 17 => v = undef | 18 => v = undef | 19 => v = undef | 20 => v = undef | 21 => v = undef | 22 => v = undef | 23 => v = undef | 24 => v = undef | 25 => v = undef | 26 => v = undef | 27 => v = undef | 28 => v = .bool false | 29 => v = .bool false | 30 => v = .int .i64 (k : Int) | 31 => v = .bool true | 32 => v = .bool true | 33 => v = .agg #[.int .i64 sa, .int .i64 sn, .int .i64 a, .int .i64 b, .int .i64 c', .int .i64 d] | 34 => v = .slice (some ⟨b', o', none⟩) n c | 35 => v = .int .i64 (k : Int) | 36 => v = .int .i64 ((k : Int) - 1) | 37 => v = .pointer (some ⟨b', o' + (k - 1) * 6, none⟩) | 38 => v = .agg #[.int .i64 ysa, .int .i64 ysn, .int .i64 ya, .int .i64 yb, .int .i64 yc, .int .i64 yd] | 39 => v = .bool lt | 40 => v = .bool lt | _ => v = .bool lt) (by kernel_rfl) (by kernel_rfl) ?_ ?_ ?_ ?_
            · intro ix vals v w1 w2 hi hr hx
              match ix, hr with
              | 0, hr => exact hr
              | 1, hr => exact hr
              | 2, hr => exact hr
              | 3, hr => exact hr
              | 4, hr => exact hr
              | 5, hr => exact hr
              | 6, hr => exact hr
              | 7, hr => exact hr
              | 8, hr => exact hr
              | 9, hr => exact hr
              | 10, hr => exact hr
              | 11, hr => exact hr
              | 12, hr => exact hr
              | 13, hr => exact hr
              | 14, hr => exact hr
              | 15, hr => exact hr
              | 16, hr => exact hr
              | 17, hr => exact hr
              | 18, hr => exact hr
              | 19, hr => exact hr
              | 20, hr => exact hr
              | 21, hr => exact hr
              | 22, hr => exact hr
              | 23, hr => exact hr
              | 24, hr => exact hr
              | 25, hr => exact hr
              | 26, hr => exact hr
              | 27, hr => exact hr
              | 28, hr => exact hr
              | 29, hr => exact hr
              | 30, hr => exact hr
              | 31, hr => exact hr
              | 32, hr => exact hr
              | 33, hr => exact hr
              | 34, hr => exact hr
              | 35, hr => exact hr
              | 36, hr => exact hr
              | 37, hr => exact hr
              | 38, hr => exact hr
              | 39, hr => exact hr
              | 40, hr => exact hr
              | (kx + 41), hr => exact hr
            · intro ix vals vals_ v w1 hi hv hr
              exact hr
            · refine ⟨?_, ?_, ?_, ?_, ?_, ?_, ?_, ?_, ?_, ?_, ?_, ?_, ?_, ?_, ?_, ?_, ?_, ?_, ?_, ?_, ?_, ?_, ?_, ?_, ?_, ?_, ?_, ?_, ?_, ?_, ?_, ?_, ?_, ?_, ?_, ?_, ?_, ?_, ?_, ?_, ?_, ?_, trivial⟩
              · intro vals w1 hx hd ha
                clear hd ha
                simp only [Lf]
                go_wp2
                exact ⟨rfl, Ext.refl _, rfl⟩
              · intro vals w1 hx hd ha
                have e0 : vals 0 = .bool true := hd 0 (by decide)
                clear hd ha
                simp only [Lf, dstAt, Act.put, List.getElem?_toArray, List.getElem?_cons_zero, Option.bind_some, List.setIfInBounds_toArray, List.set_cons_zero, List.set_cons_succ]
                simp only [e0]
                clear e0
                go_wp2
                exact ⟨rfl, Ext.refl _, rfl⟩
              · intro vals w1 hx hd ha
                have e1 : vals 1 = .bool false := hd 1 (by decide)
                clear hd ha
                simp only [Lf, dstAt, Act.put, List.getElem?_toArray, List.getElem?_cons_zero, List.getElem?_cons_succ, Option.bind_some, List.setIfInBounds_toArray, List.set_cons_zero, List.set_cons_succ]
                simp only [e1]
                clear e1
                go_wp2
                exact ⟨rfl, Ext.refl _, rfl⟩
              · intro vals w1 hx hd ha
                have e2 : vals 2 = .bool false := hd 2 (by decide)
                clear hd ha
                simp only [Lf, dstAt, Act.put, List.getElem?_toArray, List.getElem?_cons_zero, List.getElem?_cons_succ, Option.bind_some, List.setIfInBounds_toArray, List.set_cons_zero, List.set_cons_succ]
                simp only [e2]
                clear e2
                go_wp2
                exact ⟨rfl, Ext.refl _, rfl⟩
              · intro vals w1 hx hd ha
                have e2 : vals 2 = .bool false := hd 2 (by decide)
                have e3 : vals 3 = undef := hd 3 (by decide)
                clear hd ha
                simp only [Lf, dstAt, Act.put, List.getElem?_toArray, List.getElem?_cons_zero, List.getElem?_cons_succ, Option.bind_some, List.setIfInBounds_toArray, List.set_cons_zero, List.set_cons_succ]
                simp only [e2, e3]
                clear e2 e3
                go_wp2
                exact ⟨rfl, Ext.refl _, rfl⟩
              · intro vals w1 hx hd ha
                have e2 : vals 2 = .bool false := hd 2 (by decide)
                have e4 : vals 4 = undef := hd 4 (by decide)
                clear hd ha
                simp only [Lf, dstAt, Act.put, List.getElem?_toArray, List.getElem?_cons_zero, List.getElem?_cons_succ, Option.bind_some, List.setIfInBounds_toArray, List.set_cons_zero, List.set_cons_succ]
                simp only [e2, e4]
                clear e2 e4
                go_wp2
                exact ⟨rfl, Ext.refl _, rfl⟩
              · intro vals w1 hx hd ha
                have e2 : vals 2 = .bool false := hd 2 (by decide)
                clear hd ha
                simp only [Lf, dstAt, Act.put, List.getElem?_toArray, List.getElem?_cons_zero, List.getElem?_cons_succ, Option.bind_some, List.setIfInBounds_toArray, List.set_cons_zero, List.set_cons_succ]
                simp only [e2]
                clear e2
                go_wp2
                exact ⟨rfl, Ext.refl _, rfl⟩
              · intro vals w1 hx hd ha
                have e2 : vals 2 = .bool false := hd 2 (by decide)
                have e6 : vals 6 = undef := hd 6 (by decide)
                clear hd ha
                simp only [Lf, dstAt, Act.put, List.getElem?_toArray, List.getElem?_cons_zero, List.getElem?_cons_succ, Option.bind_some, List.setIfInBounds_toArray, List.set_cons_zero, List.set_cons_succ]
                simp only [e2, e6]
                clear e2 e6
                go_wp2
                exact ⟨rfl, Ext.refl _, rfl⟩
              · intro vals w1 hx hd ha
                have e2 : vals 2 = .bool false := hd 2 (by decide)
                have e7 : vals 7 = undef := hd 7 (by decide)
                clear hd ha
                simp only [Lf, dstAt, Act.put, List.getElem?_toArray, List.getElem?_cons_zero, List.getElem?_cons_succ, Option.bind_some, List.setIfInBounds_toArray, List.set_cons_zero, List.set_cons_succ]
                simp only [e2, e7]
                clear e2 e7
                go_wp2
                exact ⟨rfl, Ext.refl _, rfl⟩
              · intro vals w1 hx hd ha
                have e2 : vals 2 = .bool false := hd 2 (by decide)
                have e5 : vals 5 = undef := hd 5 (by decide)
                have e8 : vals 8 = undef := hd 8 (by decide)
                clear hd ha
                simp only [Lf, dstAt, Act.put, List.getElem?_toArray, List.getElem?_cons_zero, List.getElem?_cons_succ, Option.bind_some, List.setIfInBounds_toArray, List.set_cons_zero, List.set_cons_succ]
                simp only [e2, e5, e8]
                clear e2 e5 e8
                go_wp2
                exact ⟨rfl, Ext.refl _, rfl⟩
              · intro vals w1 hx hd ha
                have e2 : vals 2 = .bool false := hd 2 (by decide)
                have e9 : vals 9 = undef := hd 9 (by decide)
                clear hd ha
                simp only [Lf, dstAt, Act.put, List.getElem?_toArray, List.getElem?_cons_zero, List.getElem?_cons_succ, Option.bind_some, List.setIfInBounds_toArray, List.set_cons_zero, List.set_cons_succ]
                simp only [e2, e9]
                clear e2 e9
                go_wp2
                exact ⟨rfl, Ext.refl _, rfl⟩
              · intro vals w1 hx hd ha
                have e10 : vals 10 = undef := hd 10 (by decide)
                clear hd ha
                simp only [Lf, dstAt, Act.put, List.getElem?_toArray, List.getElem?_cons_zero, List.getElem?_cons_succ, Option.bind_some, List.setIfInBounds_toArray, List.set_cons_zero, List.set_cons_succ]
                simp only [e10]
                clear e10
                go_wp2
                exact ⟨rfl, Ext.refl _, rfl⟩
              · intro vals w1 hx hd ha
                have e10 : vals 10 = undef := hd 10 (by decide)
                have e11 : vals 11 = undef := hd 11 (by decide)
                clear hd ha
                simp only [Lf, dstAt, Act.put, List.getElem?_toArray, List.getElem?_cons_zero, List.getElem?_cons_succ, Option.bind_some, List.setIfInBounds_toArray, List.set_cons_zero, List.set_cons_succ]
                simp only [e10, e11]
                clear e10 e11
                go_wp2
                exact ⟨rfl, Ext.refl _, rfl⟩
              · intro vals w1 hx hd ha
                have e10 : vals 10 = undef := hd 10 (by decide)
                have e12 : vals 12 = undef := hd 12 (by decide)
                clear hd ha
                simp only [Lf, dstAt, Act.put, List.getElem?_toArray, List.getElem?_cons_zero, List.getElem?_cons_succ, Option.bind_some, List.setIfInBounds_toArray, List.set_cons_zero, List.set_cons_succ]
                simp only [e10, e12]
                clear e10 e12
                go_wp2
                exact ⟨rfl, Ext.refl _, rfl⟩
              · intro vals w1 hx hd ha
                have e10 : vals 10 = undef := hd 10 (by decide)
                clear hd ha
                simp only [Lf, dstAt, Act.put, List.getElem?_toArray, List.getElem?_cons_zero, List.getElem?_cons_succ, Option.bind_some, List.setIfInBounds_toArray, List.set_cons_zero, List.set_cons_succ]
                simp only [e10]
                clear e10
                go_wp2
                exact ⟨rfl, Ext.refl _, rfl⟩
              · intro vals w1 hx hd ha
                have e10 : vals 10 = undef := hd 10 (by decide)
                have e14 : vals 14 = undef := hd 14 (by decide)
                clear hd ha
                simp only [Lf, dstAt, Act.put, List.getElem?_toArray, List.getElem?_cons_zero, List.getElem?_cons_succ, Option.bind_some, List.setIfInBounds_toArray, List.set_cons_zero, List.set_cons_succ]
                simp only [e10, e14]
                clear e10 e14
                go_wp2
                exact ⟨rfl, Ext.refl _, rfl⟩
              · intro vals w1 hx hd ha
                have e10 : vals 10 = undef := hd 10 (by decide)
                have e15 : vals 15 = undef := hd 15 (by decide)
                clear hd ha
                simp only [Lf, dstAt, Act.put, List.getElem?_toArray, List.getElem?_cons_zero, List.getElem?_cons_succ, Option.bind_some, List.setIfInBounds_toArray, List.set_cons_zero, List.set_cons_succ]
                simp only [e10, e15]
                clear e10 e15
                go_wp2
                exact ⟨rfl, Ext.refl _, rfl⟩
              · intro vals w1 hx hd ha
                have e10 : vals 10 = undef := hd 10 (by decide)
                have e13 : vals 13 = undef := hd 13 (by decide)
                have e16 : vals 16 = undef := hd 16 (by decide)
                clear hd ha
                simp only [Lf, dstAt, Act.put, List.getElem?_toArray, List.getElem?_cons_zero, List.getElem?_cons_succ, Option.bind_some, List.setIfInBounds_toArray, List.set_cons_zero, List.set_cons_succ]
                simp only [e10, e13, e16]
                clear e10 e13 e16
                go_wp2
                exact ⟨rfl, Ext.refl _, rfl⟩
              · intro vals w1 hx hd ha
                have e2 : vals 2 = .bool false := hd 2 (by decide)
                have e10 : vals 10 = undef := hd 10 (by decide)
                have e17 : vals 17 = undef := hd 17 (by decide)
                clear hd ha
                simp only [Lf, dstAt, Act.put, List.getElem?_toArray, List.getElem?_cons_zero, List.getElem?_cons_succ, Option.bind_some, List.setIfInBounds_toArray, List.set_cons_zero, List.set_cons_succ]
                simp only [e2, e10, e17]
                clear e2 e10 e17
                go_wp2
                exact ⟨rfl, Ext.refl _, rfl⟩
              · intro vals w1 hx hd ha
                have e2 : vals 2 = .bool false := hd 2 (by decide)
                have e10 : vals 10 = undef := hd 10 (by decide)
                have e18 : vals 18 = undef := hd 18 (by decide)
                clear hd ha
                simp only [Lf, dstAt, Act.put, List.getElem?_toArray, List.getElem?_cons_zero, List.getElem?_cons_succ, Option.bind_some, List.setIfInBounds_toArray, List.set_cons_zero, List.set_cons_succ]
                simp only [e2, e10, e18]
                clear e2 e10 e18
                go_wp2
                exact ⟨rfl, Ext.refl _, rfl⟩
              · intro vals w1 hx hd ha
                have e19 : vals 19 = undef := hd 19 (by decide)
                clear hd ha
                simp only [Lf, dstAt, Act.put, List.getElem?_toArray, List.getElem?_cons_zero, List.getElem?_cons_succ, Option.bind_some, List.setIfInBounds_toArray, List.set_cons_zero, List.set_cons_succ]
                simp only [e19]
                clear e19
                go_wp2
                exact ⟨rfl, Ext.refl _, rfl⟩
              · intro vals w1 hx hd ha
                have e19 : vals 19 = undef := hd 19 (by decide)
                have e20 : vals 20 = undef := hd 20 (by decide)
                clear hd ha
                simp only [Lf, dstAt, Act.put, List.getElem?_toArray, List.getElem?_cons_zero, List.getElem?_cons_succ, Option.bind_some, List.setIfInBounds_toArray, List.set_cons_zero, List.set_cons_succ]
                simp only [e19, e20]
                clear e19 e20
                go_wp2
                exact ⟨rfl, Ext.refl _, rfl⟩
              · intro vals w1 hx hd ha
                have e19 : vals 19 = undef := hd 19 (by decide)
                have e21 : vals 21 = undef := hd 21 (by decide)
                clear hd ha
                simp only [Lf, dstAt, Act.put, List.getElem?_toArray, List.getElem?_cons_zero, List.getElem?_cons_succ, Option.bind_some, List.setIfInBounds_toArray, List.set_cons_zero, List.set_cons_succ]
                simp only [e19, e21]
                clear e19 e21
                go_wp2
                exact ⟨rfl, Ext.refl _, rfl⟩
              · intro vals w1 hx hd ha
                have e19 : vals 19 = undef := hd 19 (by decide)
                clear hd ha
                simp only [Lf, dstAt, Act.put, List.getElem?_toArray, List.getElem?_cons_zero, List.getElem?_cons_succ, Option.bind_some, List.setIfInBounds_toArray, List.set_cons_zero, List.set_cons_succ]
                simp only [e19]
                clear e19
                go_wp2
                exact ⟨rfl, Ext.refl _, rfl⟩
              · intro vals w1 hx hd ha
                have e19 : vals 19 = undef := hd 19 (by decide)
                have e23 : vals 23 = undef := hd 23 (by decide)
                clear hd ha
                simp only [Lf, dstAt, Act.put, List.getElem?_toArray, List.getElem?_cons_zero, List.getElem?_cons_succ, Option.bind_some, List.setIfInBounds_toArray, List.set_cons_zero, List.set_cons_succ]
                simp only [e19, e23]
                clear e19 e23
                go_wp2
                exact ⟨rfl, Ext.refl _, rfl⟩
              · intro vals w1 hx hd ha
                have e19 : vals 19 = undef := hd 19 (by decide)
                have e24 : vals 24 = undef := hd 24 (by decide)
                clear hd ha
                simp only [Lf, dstAt, Act.put, List.getElem?_toArray, List.getElem?_cons_zero, List.getElem?_cons_succ, Option.bind_some, List.setIfInBounds_toArray, List.set_cons_zero, List.set_cons_succ]
                simp only [e19, e24]
                clear e19 e24
                go_wp2
                exact ⟨rfl, Ext.refl _, rfl⟩
              · intro vals w1 hx hd ha
                have e19 : vals 19 = undef := hd 19 (by decide)
                have e22 : vals 22 = undef := hd 22 (by decide)
                have e25 : vals 25 = undef := hd 25 (by decide)
                clear hd ha
                simp only [Lf, dstAt, Act.put, List.getElem?_toArray, List.getElem?_cons_zero, List.getElem?_cons_succ, Option.bind_some, List.setIfInBounds_toArray, List.set_cons_zero, List.set_cons_succ]
                simp only [e19, e22, e25]
                clear e19 e22 e25
                go_wp2
                exact ⟨rfl, Ext.refl _, rfl⟩
              · intro vals w1 hx hd ha
                have e2 : vals 2 = .bool false := hd 2 (by decide)
                have e19 : vals 19 = undef := hd 19 (by decide)
                have e26 : vals 26 = undef := hd 26 (by decide)
                clear hd ha
                simp only [Lf, dstAt, Act.put, List.getElem?_toArray, List.getElem?_cons_zero, List.getElem?_cons_succ, Option.bind_some, List.setIfInBounds_toArray, List.set_cons_zero, List.set_cons_succ]
                simp only [e2, e19, e26]
                clear e2 e19 e26
                go_wp2
                exact ⟨rfl, Ext.refl _, rfl⟩
              · intro vals w1 hx hd ha
                have e2 : vals 2 = .bool false := hd 2 (by decide)
                have e27 : vals 27 = undef := hd 27 (by decide)
                clear hd ha
                simp only [Lf, dstAt, Act.put, List.getElem?_toArray, List.getElem?_cons_zero, List.getElem?_cons_succ, Option.bind_some, List.setIfInBounds_toArray, List.set_cons_zero, List.set_cons_succ]
                simp only [e2, e27]
                clear e2 e27
                go_wp2
                exact ⟨rfl, Ext.refl _, rfl⟩
              · intro vals w1 hx hd ha
                have e19 : vals 19 = undef := hd 19 (by decide)
                have e28 : vals 28 = .bool false := hd 28 (by decide)
                clear hd ha
                simp only [Lf, dstAt, Act.put, List.getElem?_toArray, List.getElem?_cons_zero, List.getElem?_cons_succ, Option.bind_some, List.setIfInBounds_toArray, List.set_cons_zero, List.set_cons_succ]
                simp only [e19, e28]
                clear e19 e28
                go_wp2
                exact ⟨rfl, Ext.refl _, rfl⟩
              · intro vals w1 hx hd ha
                have e29 : vals 29 = .bool false := hd 29 (by decide)
                clear hd ha
                simp only [Lf, dstAt, Act.put, List.getElem?_toArray, List.getElem?_cons_zero, List.getElem?_cons_succ, Option.bind_some, List.setIfInBounds_toArray, List.set_cons_zero, List.set_cons_succ]
                simp only [e29]
                clear e29
                go_wp2
                exact ⟨rfl, Ext.refl _, rfl⟩
              · intro vals w1 hx hd ha
                have e29 : vals 29 = .bool false := hd 29 (by decide)
                have e30 : vals 30 = .int .i64 (k : Int) := hd 30 (by decide)
                clear hd ha
                simp only [Lf, dstAt, Act.put, List.getElem?_toArray, List.getElem?_cons_zero, List.getElem?_cons_succ, Option.bind_some, List.setIfInBounds_toArray, List.set_cons_zero, List.set_cons_succ]
                simp only [e29, e30]
                clear e29 e30
                go_wp2
                exact ⟨rfl, Ext.refl _, rfl⟩
              · intro vals w1 hx hd ha
                have e29 : vals 29 = .bool false := hd 29 (by decide)
                have e31 : vals 31 = .bool true := hd 31 (by decide)
                clear hd ha
                simp only [Lf, dstAt, Act.put, List.getElem?_toArray, List.getElem?_cons_zero, List.getElem?_cons_succ, Option.bind_some, List.setIfInBounds_toArray, List.set_cons_zero, List.set_cons_succ]
                simp only [e29, e31]
                clear e29 e31
                go_wp2
                exact ⟨rfl, Ext.refl _, rfl⟩
              · intro vals w1 hx hd ha
                have e32 : vals 32 = .bool true := hd 32 (by decide)
                clear hd ha
                simp only [Lf, dstAt, Act.put, List.getElem?_toArray, List.getElem?_cons_zero, List.getElem?_cons_succ, Option.bind_some, List.setIfInBounds_toArray, List.set_cons_zero, List.set_cons_succ]
                simp only [e32]
                clear e32
                have g0 := ext_cell hx g0
                have g1 := ext_cell hx g1
                have g2 := ext_cell hx g2
                have g3 := ext_cell hx g3
                have g4 := ext_cell hx g4
                have g5 := ext_cell hx g5
                go_wp2
                exact ⟨rfl, Ext.refl _, rfl⟩
              · intro vals w1 hx hd ha
                have e32 : vals 32 = .bool true := hd 32 (by decide)
                clear hd ha
                simp only [Lf, dstAt, Act.put, List.getElem?_toArray, List.getElem?_cons_zero, List.getElem?_cons_succ, Option.bind_some, List.setIfInBounds_toArray, List.set_cons_zero, List.set_cons_succ]
                simp only [e32]
                clear e32
                go_wp2
                exact ⟨rfl, Ext.refl _, rfl⟩
              · intro vals w1 hx hd ha
                have e32 : vals 32 = .bool true := hd 32 (by decide)
                clear hd ha
                simp only [Lf, dstAt, Act.put, List.getElem?_toArray, List.getElem?_cons_zero, List.getElem?_cons_succ, Option.bind_some, List.setIfInBounds_toArray, List.set_cons_zero, List.set_cons_succ]
                simp only [e32]
                clear e32
                go_wp2
                exact ⟨rfl, Ext.refl _, rfl⟩
              · intro vals w1 hx hd ha
                have e32 : vals 32 = .bool true := hd 32 (by decide)
                have e35 : vals 35 = .int .i64 (k : Int) := hd 35 (by decide)
                clear hd ha
                simp only [Lf, dstAt, Act.put, List.getElem?_toArray, List.getElem?_cons_zero, List.getElem?_cons_succ, Option.bind_some, List.setIfInBounds_toArray, List.set_cons_zero, List.set_cons_succ]
                simp only [e32, e35]
                clear e32 e35
                go_wp2
                exact ⟨rfl, Ext.refl _, rfl⟩
              · intro vals w1 hx hd ha
                have e32 : vals 32 = .bool true := hd 32 (by decide)
                have e34 : vals 34 = .slice (some ⟨b', o', none⟩) n c := hd 34 (by decide)
                have e36 : vals 36 = .int .i64 ((k : Int) - 1) := hd 36 (by decide)
                clear hd ha
                simp only [Lf, dstAt, Act.put, List.getElem?_toArray, List.getElem?_cons_zero, List.getElem?_cons_succ, Option.bind_some, List.setIfInBounds_toArray, List.set_cons_zero, List.set_cons_succ]
                simp only [e32, e34, e36]
                clear e32 e34 e36
                go_wp2
                exact ⟨rfl, Ext.refl _, rfl⟩
              · intro vals w1 hx hd ha
                have e32 : vals 32 = .bool true := hd 32 (by decide)
                have e37 : vals 37 = .pointer (some ⟨b', o' + (k - 1) * 6, none⟩) := hd 37 (by decide)
                clear hd ha
                simp only [Lf, dstAt, Act.put, List.getElem?_toArray, List.getElem?_cons_zero, List.getElem?_cons_succ, Option.bind_some, List.setIfInBounds_toArray, List.set_cons_zero, List.set_cons_succ]
                simp only [e32, e37]
                clear e32 e37
                have d0 := ext_cell hx d0
                have d1 := ext_cell hx d1
                have d2 := ext_cell hx d2
                have d3 := ext_cell hx d3
                have d4 := ext_cell hx d4
                have d5 := ext_cell hx d5
                go_wp2
                exact ⟨rfl, Ext.refl _, rfl⟩
              · intro vals w1 hx hd ha
                have e32 : vals 32 = .bool true := hd 32 (by decide)
                have e33 : vals 33 = .agg #[.int .i64 sa, .int .i64 sn, .int .i64 a, .int .i64 b, .int .i64 c', .int .i64 d] := hd 33 (by decide)
                have e38 : vals 38 = .agg #[.int .i64 ysa, .int .i64 ysn, .int .i64 ya, .int .i64 yb, .int .i64 yc, .int .i64 yd] := hd 38 (by decide)
                clear hd ha
                simp only [Lf, dstAt, Act.put, List.getElem?_toArray, List.getElem?_cons_zero, List.getElem?_cons_succ, Option.bind_some, List.setIfInBounds_toArray, List.set_cons_zero, List.set_cons_succ]
                simp only [e32]
                simp only [e33]
                simp only [e38]
                clear e32 e33 e38
                go_wp2_with fail
                refine (HLT.out _).mono ?_
                rintro e w2 ⟨rfl, hb2⟩
                go_wp2
                exact ⟨rfl, hb2, rfl⟩
              · intro vals w1 hx hd ha
                have e29 : vals 29 = .bool false := hd 29 (by decide)
                have e32 : vals 32 = .bool true := hd 32 (by decide)
                have e39 : vals 39 = .bool lt := hd 39 (by decide)
                clear hd ha
                simp only [Lf, dstAt, Act.put, List.getElem?_toArray, List.getElem?_cons_zero, List.getElem?_cons_succ, Option.bind_some, List.setIfInBounds_toArray, List.set_cons_zero, List.set_cons_succ]
                simp only [e29, e32, e39]
                clear e29 e32 e39
                go_wp2
                exact ⟨rfl, Ext.refl _, rfl⟩
              · intro vals w1 hx hd ha
                have e29 : vals 29 = .bool false := hd 29 (by decide)
                have e40 : vals 40 = .bool lt := hd 40 (by decide)
                clear hd ha
                simp only [Lf, dstAt, Act.put, List.getElem?_toArray, List.getElem?_cons_zero, List.getElem?_cons_succ, Option.bind_some, List.setIfInBounds_toArray, List.set_cons_zero, List.set_cons_succ]
                simp only [e29, e40]
                clear e29 e40
                go_wp2
                exact ⟨rfl, Ext.refl _, rfl⟩
            intro vals w5 hx hf
            have e41 : vals 41 = .bool lt := hf 41 (by omega)
            clear hf
            have hx := hx.undrew
            have hB5 := bl_then hB1 hx
            refine tail0 (by kernel_rfl) ?_
            simp only [Lf, dstAt, Act.put, List.getElem?_toArray, List.getElem?_cons_zero, List.getElem?_cons_succ, Option.bind_some, List.setIfInBounds_toArray, List.set_cons_zero, List.set_cons_succ]
            rw [e41]
            clear e41 g0 g1 g2 g3 g4 g5
            clear d0 d1 d2 d3 d4 d5
            cases lt
            · go_wp2
              go_roundw
              case rel => exact ⟨k + 1, by omega, by go_num, Lib.hid (by rw [HN.out, HF.out, HP.out]; simp only [HLQ.out]; rfl), hB5⟩
              case measure => simp [intOf]; omega
            · go_wp2
              go_ret
              exact ⟨by rw [HN.out, HF.out, HP.out]; simp only [HLQ.out]; rfl, hB5⟩
      · go_wp2
        go_ret
        exact ⟨by rw [HK.out, List.drop_of_length_le (by rw [HL.out]; omega)]; rfl, hB⟩
  · have hd : decide (n ≤ 64) = false := by simpa using hn
    rw [hd, Bool.false_and]
    clear hd
    go_enter Try.func43, Try.ntmps43
    go_wp2
    go_ret
    exact ⟨rfl, (by repeat (first | exact Below.refl _ _ | assumption | refine Below.drew ?_ | refine below_drewN ?_ _ | refine bl_alloc ?_ _ | refine Below.setCell ?_ (by first | (simp; done) | omega | (simp; omega)) _ | refine bl_then ?_ (by assumption)))⟩

end Go.Proofs.Ytmlabgmigakcbaa
namespace Go.Proofs.Ytmlabgmigakcbaa
open Go.RowKit

set_option maxRecDepth 100000 in
set_option maxHeartbeats 4000000 in
theorem rstation_any (x : Int) (sts : List Stn) (SA : Option Addr) (n c : Nat) (w : World) (hs : RA stnCells 6 w w.heap.size SA n c sts) :
    Calls Try.prog 45 #[.slice SA n c, .int .i64 x] w fun e w' => e = .returned (.int .i64 (stI x 0 sts)) ∧ w = w' := by
  have hle := hs.le
  have HL := Lib.hid hs
  obtain ⟨fin, hfin⟩ : ∃ y, y = stI x 0 sts := ⟨_, rfl⟩
  rw [← hfin]
  have HF0 : Hid (fin = stI x 0 (sts.drop 0)) := Lib.hid hfin
  clear hfin hs
  go_enter Try.func45, Try.ntmps45
  go_wp2
  go_loopw [5] (fun y wr => ∃ k : Nat, k ≤ n ∧ y = .int .i64 k ∧ Hid (fin = stI x k (sts.drop k)) ∧ wr = w) (fun y _ => n - (intOf y).toNat)
  case atStart => exact ⟨0, Nat.zero_le _, rfl, HF0, rfl⟩
  case round =>
    clear HF0
    obtain ⟨k, hk, rfl, HF, rfl⟩ := hrel
    by_cases hkn : k < n
    · obtain ⟨b, ob, hz, hA, _, hc⟩ := HL.out.at_ stn_len hkn
      have hst := HF.out
      rw [List.drop_eq_getElem_cons hz, stI_cons] at hst
      have c0 : wr.cell? ⟨b, ob + k * 6, none⟩ = some (.int .i64 sts[k].id) := hc 0 (by omega)
      generalize sts[k] = s at hst c0
      obtain ⟨sid, scl, sre, san, ssk⟩ := s
      dsimp only at hst c0
      have HST := Lib.hid hst
      subst hA
      clear hc hz hst HF
      by_cases hxy : sid = x
      · have hft : fin = (k : Int) := by rw [HST.out, if_pos hxy]
        have HFT := Lib.hid hft
        subst hxy
        clear hft HST
        go_wp2
        go_ret
        exact ⟨by rw [HFT.out]; rfl, rfl⟩
      · have HN2 : Hid (fin = stI x (k + 1) (sts.drop (k + 1))) := Lib.hid (by rw [HST.out, if_neg hxy])
        have hxy1 : (sid == x) = false := by simpa using hxy
        clear HST
        go_wp2
        go_roundw
        case rel => exact ⟨k + 1, by omega, by go_num, HN2, (by first | rfl | trivial)⟩
        case measure => simp [intOf]; omega
    · have hff : fin = -1 := by rw [HF.out, List.drop_of_length_le (by rw [HL.out.len]; omega)]; rfl
      have HFF := Lib.hid hff
      clear hff HF
      go_wp2
      go_ret
      exact ⟨by rw [HFF.out]; rfl, rfl⟩
set_option maxRecDepth 100000 in
set_option maxHeartbeats 4000000 in
theorem rset_any (ps : List Pas) (lost : List Int) (PA LA : Option Addr) (pn pc n c : Nat) (w : World) (hp : RA pasCells 6 w w.heap.size PA pn pc ps) (hl : RA intCells 1 w w.heap.size LA n c lost) :
    Calls Try.prog 87 #[.slice PA pn pc, .slice LA n c] w fun e w' => e = .returned (.bool (setR ps.length (-1) lost && properP ps)) ∧ Ext w w' := by
  have hle := hl.le
  have hple := hp.le
  have HPR := Lib.hid (fun (W : World) (hW : Ext w W) => rproper_any ps PA pn pc W (ra_ext hp hW))
  have HL := Lib.hid hl
  rw [hp.len]
  obtain ⟨fin, hfin⟩ : ∃ x, x = (setR pn (-1) lost && properP ps) := ⟨_, rfl⟩
  rw [← hfin]
  have HF0 : Hid (fin = (setR pn (-1) (lost.drop 0) && properP ps)) := Lib.hid hfin
  clear hfin hp hl
  go_enter Try.func87, Try.ntmps87
  go_wp2
  go_loopw [5] (fun y wr => ∃ (k : Nat) (p : Int), k ≤ n ∧ y = .int .i64 k ∧ Hid (fin = (setR pn p (lost.drop k) && properP ps)) ∧ (k = 0 → p = -1) ∧ (0 < k → 0 ≤ p ∧ Hid (∀ b o, LA = some ⟨b, o, none⟩ → w.cell? ⟨b, o + (k - 1), none⟩ = some (.int .i64 p))) ∧ Ext w wr) (fun y _ => n - (intOf y).toNat)
  case atStart => exact ⟨0, -1, Nat.zero_le _, rfl, HF0, fun _ => rfl, fun h => absurd h (by omega), Ext.refl _⟩
  case round =>
    clear HF0
    obtain ⟨k, p, hk, rfl, HF, hp0, hp1, hx⟩ := hrel
    by_cases hkn : k < n
    · obtain ⟨b, ob, hz, hA, _, hc⟩ := HL.out.at_ int_len hkn
      have hst := HF.out
      rw [List.drop_eq_getElem_cons hz, setR_cons] at hst
      have hc1 : ∀ b' o', LA = some ⟨b', o', none⟩ → w.cell? ⟨b', o' + k, none⟩ = some (.int .i64 lost[k]) := by
        intro b' o' e
        rw [hA] at e
        injection e with e
        injection e with e1 e2 _
        subst e1 e2
        have := hc 0 (by omega)
        rw [Nat.mul_one] at this
        exact this
      generalize lost[k] = x at hst hc hc1
      have c0 : wr.cell? ⟨b, ob + k, none⟩ = some (.int .i64 x) := ext_cell hx (hc1 b ob hA)
      have HC1 := Lib.hid hc1
      have HST := Lib.hid hst
      have hp1' : 0 < k → 0 ≤ p ∧ wr.cell? ⟨b, ob + (k - 1), none⟩ = some (.int .i64 p) := fun h => ⟨(hp1 h).1, ext_cell hx ((hp1 h).2.out b ob hA)⟩
      clear hc hz hst hc1 hp1 HF
      have HLA := Lib.hid hA
      have hkz : (k : Int) < (n : Int) := by omega
      clear HL
      subst hA
      go_upto_region 4 with (fail)
      by_cases hx0 : x < 0
      · have hff : fin = false := by rw [HST.out, decide_eq_false (by intro h; rcases Nat.eq_zero_or_pos k with e | e; (have := hp0 e; omega); (have := (hp1' e).1; omega))]; rfl
        have HFF := Lib.hid hff
        have hx0' : decide (x < 0) = true := decide_eq_true hx0
        clear hff HST hp0 hp1'
        go_quiet (fail)
        have HY : Hid (Ext w (wr.drewN nq)) := Lib.hid (Ext.trans hx (by repeat (first | exact Below.refl _ _ | assumption | refine Below.drew ?_ | refine below_drewN ?_ _ | refine bl_alloc ?_ _ | refine Below.setCell ?_ (by first | (simp; done) | omega | (simp; omega)) _ | refine bl_then ?_ (by assumption))))
        clear hx
        go_wp2
        go_ret
        exact ⟨by rw [HFF.out]; rfl, HY.out⟩
      · have hx0' : decide (x < 0) = false := decide_eq_false hx0
        by_cases hxn : (pn : Int) ≤ x
        · have hff : fin = false := by rw [HST.out, decide_eq_false (by omega)]; rfl
          have HFF := Lib.hid hff
          have hxn' : decide ((pn : Int) ≤ x) = true := decide_eq_true hxn
          clear hff HST hp0 hp1'
          go_quiet (fail)
          have HY : Hid (Ext w (wr.drewN nq)) := Lib.hid (Ext.trans hx (by repeat (first | exact Below.refl _ _ | assumption | refine Below.drew ?_ | refine below_drewN ?_ _ | refine bl_alloc ?_ _ | refine Below.setCell ?_ (by first | (simp; done) | omega | (simp; omega)) _ | refine bl_then ?_ (by assumption))))
          clear hx
          go_wp2
          go_ret
          exact ⟨by rw [HFF.out]; rfl, HY.out⟩
        · have hxn' : decide ((pn : Int) ≤ x) = false := decide_eq_false hxn
          by_cases hk0 : k = 0
          · subst hk0
            have hp := hp0 rfl
            subst hp
            have HN2 : Hid (fin = (setR pn x (lost.drop 1) && properP ps)) := Lib.hid (by rw [HST.out, decide_eq_true (by omega)]; rfl)
            have c0' : wr.cell? ⟨b, ob, none⟩ = some (.int .i64 x) := c0
            clear HST hp0 hp1' c0
            go_quiet (fail)
            have HY : Hid (Ext w (wr.drewN nq)) := Lib.hid (Ext.trans hx (by repeat (first | exact Below.refl _ _ | assumption | refine Below.drew ?_ | refine below_drewN ?_ _ | refine bl_alloc ?_ _ | refine Below.setCell ?_ (by first | (simp; done) | omega | (simp; omega)) _ | refine bl_then ?_ (by assumption))))
            clear hx
            go_wp2
            go_roundw
            case rel => exact ⟨1, x, by omega, by go_num, HN2, fun h => absurd h (by omega), fun _ => ⟨by omega, Lib.hid (fun b' o' e => HC1.out b' o' e)⟩, HY.out⟩
            case measure => simp [intOf]; omega
          · obtain ⟨hpn, cp⟩ := hp1' (by omega)
            have hk2 : (0 : Int) < (k : Int) := by omega
            have hk2' : decide ((0 : Int) < (k : Int)) = true := decide_eq_true hk2
            have hk3 : (0 : Int) ≤ (k : Int) - 1 := by omega
            have hk4 : (k : Int) - 1 < (n : Int) := by omega
            obtain ⟨k1, hk5⟩ : ∃ k1, k = k1 + 1 := ⟨k - 1, by omega⟩
            subst hk5
            have hw1 : IntKind.i64.wrap (((k1 + 1 : Nat) : Int) - 1) = (k1 : Int) := by
              rw [IntWalk.i64_in _ (by omega)]
              omega
            have hk6 : ((k1 + 1 : Nat) : Int) - 1 = (k1 : Int) := by omega
            have cp' : wr.cell? ⟨b, ob + k1, none⟩ = some (.int .i64 p) := cp
            clear cp hp0 hp1'
            by_cases hxp : x ≤ p
            · have hff : fin = false := by rw [HST.out, decide_eq_false (by omega)]; rfl
              have HFF := Lib.hid hff
              have hxp' : decide (x ≤ p) = true := decide_eq_true hxp
              clear hff HST
              go_quiet (fail)
              have HY : Hid (Ext w (wr.drewN nq)) := Lib.hid (Ext.trans hx (by repeat (first | exact Below.refl _ _ | assumption | refine Below.drew ?_ | refine below_drewN ?_ _ | refine bl_alloc ?_ _ | refine Below.setCell ?_ (by first | (simp; done) | omega | (simp; omega)) _ | refine bl_then ?_ (by assumption))))
              clear hx
              go_wp2
              go_ret
              exact ⟨by rw [HFF.out]; rfl, HY.out⟩
            · have HN2 : Hid (fin = (setR pn x (lost.drop (k1 + 1 + 1)) && properP ps)) := Lib.hid (by rw [HST.out, decide_eq_true (by omega)]; rfl)
              have hxp' : decide (x ≤ p) = false := decide_eq_false hxp
              clear HST
              go_quiet (fail)
              have HY : Hid (Ext w (wr.drewN nq)) := Lib.hid (Ext.trans hx (by repeat (first | exact Below.refl _ _ | assumption | refine Below.drew ?_ | refine below_drewN ?_ _ | refine bl_alloc ?_ _ | refine Below.setCell ?_ (by first | (simp; done) | omega | (simp; omega)) _ | refine bl_then ?_ (by assumption))))
              clear hx
              go_wp2
              go_roundw
              case rel => exact ⟨k1 + 1 + 1, x, by omega, by go_num, HN2, fun h => absurd h (by omega), fun _ => ⟨by omega, Lib.hid (fun b' o' e => HC1.out b' o' e)⟩, HY.out⟩
              case measure => simp [intOf]; omega
    · have hst := HF.out
      rw [List.drop_of_length_le (by rw [HL.out.len]; omega), setR, Bool.true_and] at hst
      have HST := Lib.hid hst
      have HC := Lib.hid (HPR.out wr hx)
      have HX := Lib.hid hx
      clear hst HF hp0 hp1 hx
      go_wp2_with fail
      refine HC.out.mono ?_
      rintro e W ⟨rfl, hy⟩
      go_wp2
      go_ret
      exact ⟨by rw [HST.out]; rfl, Ext.trans HX.out hy⟩
set_option maxRecDepth 100000 in
set_option maxHeartbeats 4000000 in
theorem rsent0_any (o : Opt) (lost : List Int) (LA : Option Addr) (ln lc : Nat) (w : World) (ho : RA sltCells 3 w w.heap.size o.a o.n o.c o.l) (hl : RA intCells 1 w w.heap.size LA ln lc lost) :
    Calls Try.prog 88 #[.agg (optCells o).toArray, .slice LA ln lc] w fun e w' => e = .returned (.int .i64 (sentI lost 0 o.l)) ∧ Ext w w' := by
  obtain ⟨id, i1, i2, i3, i4, i5, i6, i7, a, n, c, l⟩ := o
  dsimp only at ho ⊢
  have hle := ho.le
  obtain ⟨fin, hfin⟩ : ∃ y, y = sentI lost 0 l := ⟨_, rfl⟩
  rw [← hfin]
  have HF0 : Hid (fin = sentI lost 0 (l.drop 0)) := Lib.hid hfin
  clear hfin
  show Calls Try.prog 88 #[.agg #[.int .i64 id, .int .i64 i1, .int .i64 i2, .int .i64 i3, .int .i64 i4, .int .i64 i5, .int .i64 i6, .int .i64 i7, .slice a n c], .slice LA ln lc] w _
  go_enter Try.func88, Try.ntmps88
  go_upto_region 1 with (fail)
  have hx1 : Ext w (w.alloc (.cells #[.int .i64 id, .int .i64 i1, .int .i64 i2, .int .i64 i3, .int .i64 i4, .int .i64 i5, .int .i64 i6, .int .i64 i7, .slice a n c] 32)) := bl_alloc (Below.refl _ _) _
  have J := Blk.new w 32 #[.int .i64 id, .int .i64 i1, .int .i64 i2, .int .i64 i3, .int .i64 i4, .int .i64 i5, .int .i64 i6, .int .i64 i7, .slice a n c]
  obtain ⟨g3, hg3⟩ : ∃ g, g = w.heap.size := ⟨_, rfl⟩
  rw [← hg3] at J ⊢
  clear hg3
  generalize w.alloc (.cells #[.int .i64 id, .int .i64 i1, .int .i64 i2, .int .i64 i3, .int .i64 i4, .int .i64 i5, .int .i64 i6, .int .i64 i7, .slice a n c] 32) = W1 at hx1 J ⊢
  have d8 : W1.cell? ⟨g3, 8, none⟩ = some (.slice a n c) := J.cell 8
  have d8' : W1.cell? ⟨g3, 7 + 1, none⟩ = some (.slice a n c) := d8
  have HL := Lib.hid (ra_ext hl hx1)
  have HO := Lib.hid (ra_ext ho hx1)
  have HX := Lib.hid hx1
  clear J hx1 hl ho
  go_wp2_with fail
  go_loopw [5] (fun y wr => ∃ k : Nat, k ≤ n ∧ y = .int .i64 k ∧ Hid (fin = sentI lost k (l.drop k)) ∧ wr = W1) (fun y _ => n - (intOf y).toNat)
  case atStart => exact ⟨0, Nat.zero_le _, rfl, HF0, rfl⟩
  case round =>
    clear HF0
    obtain ⟨k, hk, rfl, HF, rfl⟩ := hrel
    by_cases hkn : k < n
    · obtain ⟨b, ob, hz, hA, _, hc⟩ := HO.out.at_ slt_len hkn
      have hst := HF.out
      rw [List.drop_eq_getElem_cons hz, sentI_cons] at hst
      have c0 : wr.cell? ⟨b, ob + k * 3, none⟩ = some (.int .i64 l[k].p) := hc 0 (by omega)
      have hH := has_any lost l[k].p LA ln lc wr HL.out
      generalize l[k].p = x at hst c0 hH
      generalize hasI lost x = q at hst hH
      have HST := Lib.hid hst
      have HH := Lib.hid hH
      subst hA
      have hkz : (k : Int) < (n : Int) := by omega
      clear hc hz hst hH HF
      cases q
      · have hft : fin = (k : Int) := by rw [HST.out]; rfl
        have HFT := Lib.hid hft
        clear hft HST
        go_wp2_with (refine HH.out.mono ?_; rintro e w2 ⟨rfl, rfl⟩)
        go_ret
        exact ⟨by rw [HFT.out]; rfl, HX.out⟩
      · have HN2 : Hid (fin = sentI lost (k + 1) (l.drop (k + 1))) := Lib.hid (by rw [HST.out]; rfl)
        clear HST
        go_wp2_with (refine HH.out.mono ?_; rintro e w2 ⟨rfl, rfl⟩)
        go_roundw
        case rel => exact ⟨k + 1, by omega, by go_num, HN2, (by first | rfl | trivial)⟩
        case measure => simp [intOf]; omega
    · have hff : fin = -1 := by rw [HF.out, List.drop_of_length_le (by rw [HO.out.len]; omega)]; rfl
      have HFF := Lib.hid hff
      clear hff HF
      go_wp2
      go_ret
      exact ⟨by rw [HFF.out]; rfl, HX.out⟩
end Go.Proofs.Ytmlabgmigakcbaa
namespace Go.Proofs.Ytmlabgmigakcbaa
open Go.RowKit

def prevT (l : List Slt) (k : Nat) : Int := if k = 0 then 0 else ttAt l (k - 1)
theorem prevT_succ (l : List Slt) (k : Nat) (h : k < l.length) : prevT l (k + 1) = l[k].tt := by
  unfold prevT
  rw [if_neg (by omega), Nat.add_sub_cancel, ttAt_eq h]
theorem proper_sure {ps : List Pas} (h : properP ps = true) {p : Pas} (hp : p ∈ ps) : 0 ≤ p.sure.fr := by
  unfold properP at h
  simp only [Bool.and_eq_true] at h
  exact (pas_bd (List.all_eq_true.1 h.1.2 p hp)).1


set_option maxRecDepth 100000 in
set_option maxHeartbeats 8000000 in
theorem rloss_valid (o : Opt) (ps : List Pas) (PA : Option Addr) (pn pc : Nat) (w : World) (ho : RA sltCells 3 w w.heap.size o.a o.n o.c o.l) (hp : RA pasCells 6 w w.heap.size PA pn pc ps) :
    Calls Try.prog 46 #[.agg (optCells o).toArray, .slice PA pn pc] w fun e w' => e = .returned (.bool (properP ps && lossOK ps o.l)) ∧ Ext w w' := by
  obtain ⟨id, i1, i2, i3, i4, i5, i6, i7, a, n, c, l⟩ := o
  dsimp only at ho ⊢
  show Calls Try.prog 46 #[.agg #[.int .i64 id, .int .i64 i1, .int .i64 i2, .int .i64 i3, .int .i64 i4, .int .i64 i5, .int .i64 i6, .int .i64 i7, .slice a n c], .slice PA pn pc] w _
  have hle := ho.le
  have hple := hp.le
  have HO := Lib.hid ho
  have HP := Lib.hid hp
  have HL := Lib.hid ho.len
  have HPL := Lib.hid hp.len
  have hPR := (fun (W : World) (hW : Ext w W) => rproper_any ps PA pn pc W (ra_ext hp hW))
  have hPB := (fun (h : properP ps = true) (p : Pas) (hm : p ∈ ps) => proper_sure h hm)
  have hlo : lossOK ps l = (decide (1 ≤ n ∧ n ≤ 6) && slotsOK ps 0 l) := by rw [lossOK, ho.len]
  rw [hlo]
  clear ho hp hlo
  obtain ⟨vt, hvt⟩ : ∃ b, b = (properP ps && (decide (1 ≤ n ∧ n ≤ 6) && slotsOK ps 0 l)) := ⟨_, rfl⟩
  rw [← hvt]
  generalize properP ps = q at hvt hPR hPB
  have HVT := Lib.hid hvt
  have HPR := Lib.hid hPR
  have HPB := Lib.hid hPB
  clear hvt hPR hPB
  go_enter Try.func46, Try.ntmps46
  go_upto_region 1 with (fail)
  have hx0 : Ext w (w.alloc (.cells #[.int .i64 id, .int .i64 i1, .int .i64 i2, .int .i64 i3, .int .i64 i4, .int .i64 i5, .int .i64 i6, .int .i64 i7, .slice a n c] 32)) := bl_alloc (Below.refl _ _) _
  have J := Blk.new w 32 #[.int .i64 id, .int .i64 i1, .int .i64 i2, .int .i64 i3, .int .i64 i4, .int .i64 i5, .int .i64 i6, .int .i64 i7, .slice a n c]
  obtain ⟨g2, hg2⟩ : ∃ g, g = w.heap.size := ⟨_, rfl⟩
  rw [← hg2] at J ⊢
  clear hg2
  generalize w.alloc (.cells #[.int .i64 id, .int .i64 i1, .int .i64 i2, .int .i64 i3, .int .i64 i4, .int .i64 i5, .int .i64 i6, .int .i64 i7, .slice a n c] 32) = W1 at hx0 J ⊢
  have HJ := Lib.hid J
  clear J
  go_wp2_with fail
  refine (HPR.out _ hx0).mono ?_
  rintro e W2 ⟨rfl, hy⟩
  have HX2 := Lib.hid (Ext.trans hx0 hy)
  have HJ2 := Lib.hid (HJ.out.ext hy)
  clear HPR hy hx0 HJ
  have e7 : W2.cell? ⟨g2, 7 + 1, none⟩ = some (.slice a n c) := HJ2.out.cell 8
  cases q
  · have hvt := HVT.out
    rw [Bool.false_and] at hvt
    subst hvt
    go_wp2_with fail
    go_ret
    exact ⟨rfl, HX2.out⟩
  by_cases h1 : 1 ≤ n
  case neg =>
    have hvt := HVT.out
    rw [decide_eq_false (show ¬ (1 ≤ n ∧ n ≤ 6) from fun h => h1 h.1), Bool.false_and, Bool.and_false] at hvt
    subst hvt
    have h1' : (n : Int) < 1 := by omega
    go_wp2_with fail
    go_ret
    exact ⟨rfl, HX2.out⟩
  by_cases h6 : n ≤ 6
  case neg =>
    have hvt := HVT.out
    rw [decide_eq_false (show ¬ (1 ≤ n ∧ n ≤ 6) from fun h => h6 h.2), Bool.false_and, Bool.and_false] at hvt
    subst hvt
    have h1' : ¬ (n : Int) < 1 := by omega
    have h6' : (6 : Int) < (n : Int) := by omega
    have h1b : decide ((n : Int) < 1) = false := decide_eq_false h1'
    have h6b : decide ((6 : Int) < (n : Int)) = true := decide_eq_true h6'
    go_wp2_with fail
    go_ret
    exact ⟨rfl, HX2.out⟩
  have HV0 : Hid (vt = slotsOK ps (prevT l 0) (l.drop 0)) := Lib.hid (by
    have hvt := HVT.out
    rw [decide_eq_true (show 1 ≤ n ∧ n ≤ 6 from ⟨h1, h6⟩), Bool.true_and, Bool.true_and] at hvt
    exact hvt)
  have h1' : ¬ (n : Int) < 1 := by omega
  have h6' : ¬ (6 : Int) < (n : Int) := by omega
  have h1b : decide ((n : Int) < 1) = false := decide_eq_false h1'
  have h6b : decide ((6 : Int) < (n : Int)) = false := decide_eq_false h6'
  clear HVT
  go_wp2_with fail
  go_loopw [6] (fun z wr => ∃ k : Nat, k ≤ n ∧ z = .int .i64 k ∧ Hid (vt = slotsOK ps (prevT l k) (l.drop k)) ∧ Ext W2 wr) (fun z _ => n - (intOf z).toNat)
  case atStart => exact ⟨0, Nat.zero_le _, rfl, HV0, Ext.refl _⟩
  case round =>
    clear HV0 e7 h1' h6' h1b h6b
    obtain ⟨k, hk, rfl, HV, hx⟩ := hrel
    have e7 : wr.cell? ⟨g2, 7 + 1, none⟩ = some (.slice a n c) := (HJ2.out.ext hx).cell 8
    by_cases hkn : k < n
    · have HO2 := Lib.hid (HO.out.below (Ext.trans HX2.out hx))
      obtain ⟨b, o, hz, hA, _, hc⟩ := HO2.out.at_ slt_len hkn
      have hst := HV.out
      rw [List.drop_eq_getElem_cons hz, slotsOK_cons] at hst
      have hsu := prevT_succ l k hz
      generalize l[k] = s at hst hc hsu
      obtain ⟨sp, sf, st⟩ := s
      dsimp only at hst hsu
      rw [show slotsOK ps st (l.drop (k + 1)) = slotsOK ps (prevT l (k + 1)) (l.drop (k + 1)) by rw [hsu]] at hst
      have HSU := Lib.hid hsu
      have hprev : ∀ k1, k = k1 + 1 → wr.cell? ⟨b, o + k1 * 3 + 2, none⟩ = some (.int .i64 (prevT l k)) := fun k1 e => by
        subst e
        obtain ⟨b', o', hz', hA', _, hc'⟩ := HO2.out.at_ slt_len (show k1 < n by omega)
        rw [hA] at hA'
        injection hA' with hA'
        injection hA' with hb1 hb2 _
        subst hb1 hb2
        rw [prevT_succ l k1 hz']
        exact hc' 2 (by omega)
      have hp0 : k = 0 → prevT l k = 0 := fun e => by unfold prevT; rw [if_pos e]
      generalize prevT l k = e at hst hprev hp0
      have c0 : wr.cell? ⟨b, o + k * 3, none⟩ = some (.int .i64 sp) := hc 0 (by omega)
      have c1 : wr.cell? ⟨b, o + k * 3 + 1, none⟩ = some (.int .i64 sf) := hc 1 (by omega)
      have c2 : wr.cell? ⟨b, o + k * 3 + 2, none⟩ = some (.int .i64 st) := hc 2 (by omega)
      have hkz : (k : Int) < (n : Int) := by omega
      have HPV := Lib.hid hprev
      have HP0 := Lib.hid hp0
      subst hA
      have HST := Lib.hid hst
      clear hst hc hz HV hsu hprev hp0 HO2
      go_upto_region 8 with (fail)
      have hy : Ext wr (wr.alloc (.cells #[.int .i64 sp, .int .i64 sf, .int .i64 st] 78)) := bl_alloc (Below.refl _ _) _
      have J := Blk.new wr 78 #[.int .i64 sp, .int .i64 sf, .int .i64 st]
      obtain ⟨g7, hg7⟩ : ∃ g, g = wr.heap.size := ⟨_, rfl⟩
      rw [← hg7] at J ⊢
      clear hg7
      generalize wr.alloc (.cells #[.int .i64 sp, .int .i64 sf, .int .i64 st] 78) = W3 at hy J ⊢
      have hx := Ext.trans hx hy
      have d0 : W3.cell? ⟨g7, 0, none⟩ = some (.int .i64 sp) := J.cell 0
      have HPV := Lib.hid (fun k1 e => ext_cell hy (HPV.out k1 e))
      clear c0 c1 c2 hy e7
      by_cases hp0 : sp < 0
      · have hst := HST.out
        rw [show inB sp 0 ((ps.length : Int) - 1) = false by simp [inB]; omega, Bool.false_and, Bool.false_and] at hst
        subst hst
        go_wp2_with fail
        go_ret
        exact ⟨rfl, Ext.trans HX2.out hx⟩
      by_cases hp1 : (pn : Int) ≤ sp
      · have hst := HST.out
        rw [show inB sp 0 ((ps.length : Int) - 1) = false by rw [HPL.out]; simp [inB]; omega, Bool.false_and, Bool.false_and] at hst
        subst hst
        go_wp2_with fail
        go_ret
        exact ⟨rfl, Ext.trans HX2.out hx⟩
      obtain ⟨m, rfl, hm⟩ : ∃ m : Nat, sp = m ∧ m < pn := ⟨sp.toNat, by omega, by omega⟩
      obtain ⟨bp, op, hzp, hPA, _, hcp⟩ := (HP.out.below (Ext.trans HX2.out hx)).at_ pas_len hm
      have hst := HST.out
      rw [show inB (m : Int) 0 ((ps.length : Int) - 1) = true by rw [HPL.out, inB_iff]; omega, Bool.true_and, Int.toNat_natCast, List.getElem?_eq_getElem hzp] at hst
      dsimp only at hst
      have hpa0 := HPB.out (by first | rfl | trivial) ps[m] (List.getElem_mem hzp)
      generalize ps[m] = p at hst hcp hpa0
      obtain ⟨psa, psn, ⟨pa, pb⟩, ⟨pc1, pd⟩⟩ := p
      dsimp only at hst hpa0
      have f2 : W3.cell? ⟨bp, op + m * 6 + 2, none⟩ = some (.int .i64 pa) := hcp 2 (by omega)
      have f3 : W3.cell? ⟨bp, op + m * 6 + 3, none⟩ = some (.int .i64 pb) := hcp 3 (by omega)
      subst hPA
      have HST2 := Lib.hid hst
      have hmp : (m : Int) < (pn : Int) := by omega
      have HJ3 := Lib.hid J
      clear hst hcp hzp HST J
      go_upto_region 11 with (fail)
      have hy : Ext W3 (W3.alloc (.cells #[.int .i64 pa, .int .i64 pb] 29)) := bl_alloc (Below.refl _ _) _
      have J := Blk.new W3 29 #[.int .i64 pa, .int .i64 pb]
      obtain ⟨g8, hg8⟩ : ∃ g, g = W3.heap.size := ⟨_, rfl⟩
      rw [← hg8] at J ⊢
      clear hg8
      generalize W3.alloc (.cells #[.int .i64 pa, .int .i64 pb] 29) = W4 at hy J ⊢
      have hx := Ext.trans hx hy
      have J3 := HJ3.out.ext hy
      have e7 : W4.cell? ⟨g2, 7 + 1, none⟩ = some (.slice (some ⟨b, o, none⟩) n c) := (HJ2.out.ext hx).cell 8
      have d1 : W4.cell? ⟨g7, 1, none⟩ = some (.int .i64 sf) := J3.cell 1
      have d2 : W4.cell? ⟨g7, 2, none⟩ = some (.int .i64 st) := J3.cell 2
      have d2' : W4.cell? ⟨g7, 1 + 1, none⟩ = some (.int .i64 st) := d2
      have k0 : W4.cell? ⟨g8, 0, none⟩ = some (.int .i64 pa) := J.cell 0
      have k1s : W4.cell? ⟨g8, 1, none⟩ = some (.int .i64 pb) := J.cell 1
      have HPV := Lib.hid (fun k1 e => ext_cell hy (HPV.out k1 e))
      clear f2 f3 d0 hy HJ3 J3 J
      by_cases hc1 : sf < pa
      · have hst := HST2.out
        rw [decide_eq_false (show ¬ max e pa ≤ sf by omega), Bool.false_and, Bool.false_and, Bool.false_and] at hst
        have hc1' : decide (sf < pa) = true := decide_eq_true hc1
        clear HST2 HPV HP0
        go_quiet (fail)
        have HY : Hid (Ext W2 (W4.drewN nq)) := Lib.hid (Ext.trans hx (by repeat (first | exact Below.refl _ _ | assumption | refine Below.drew ?_ | refine below_drewN ?_ _ | refine bl_alloc ?_ _ | refine Below.setCell ?_ (by first | (simp; done) | omega | (simp; omega)) _ | refine bl_then ?_ (by assumption))))
        clear hx
        subst hst
        go_wp2
        go_ret
        exact ⟨rfl, Ext.trans HX2.out HY.out⟩
      have hc1' : decide (sf < pa) = false := decide_eq_false hc1
      by_cases hc2 : st ≤ sf
      · have hst := HST2.out
        rw [decide_eq_false (show ¬ sf < st by omega), Bool.and_false, Bool.false_and, Bool.false_and] at hst
        have hc2' : decide (st ≤ sf) = true := decide_eq_true hc2
        clear HST2 HPV HP0
        go_quiet (fail)
        have HY : Hid (Ext W2 (W4.drewN nq)) := Lib.hid (Ext.trans hx (by repeat (first | exact Below.refl _ _ | assumption | refine Below.drew ?_ | refine below_drewN ?_ _ | refine bl_alloc ?_ _ | refine Below.setCell ?_ (by first | (simp; done) | omega | (simp; omega)) _ | refine bl_then ?_ (by assumption))))
        clear hx
        subst hst
        go_wp2
        go_ret
        exact ⟨rfl, Ext.trans HX2.out HY.out⟩
      have hc2' : decide (st ≤ sf) = false := decide_eq_false hc2
      by_cases hc3 : pb < st
      · have hst := HST2.out
        rw [decide_eq_false (show ¬ st ≤ pb by omega), Bool.and_false, Bool.false_and] at hst
        have hc3' : decide (pb < st) = true := decide_eq_true hc3
        clear HST2 HPV HP0
        go_quiet (fail)
        have HY : Hid (Ext W2 (W4.drewN nq)) := Lib.hid (Ext.trans hx (by repeat (first | exact Below.refl _ _ | assumption | refine Below.drew ?_ | refine below_drewN ?_ _ | refine bl_alloc ?_ _ | refine Below.setCell ?_ (by first | (simp; done) | omega | (simp; omega)) _ | refine bl_then ?_ (by assumption))))
        clear hx
        subst hst
        go_wp2
        go_ret
        exact ⟨rfl, Ext.trans HX2.out HY.out⟩
      have hc3' : decide (pb < st) = false := decide_eq_false hc3
      by_cases hk0 : k = 0
      · have he := HP0.out hk0
        subst hk0
        have HN2 : Hid (vt = slotsOK ps (prevT l (0 + 1)) (l.drop (0 + 1))) := Lib.hid (by
          have hst := HST2.out
          rw [decide_eq_true (show max e pa ≤ sf by omega), decide_eq_true (show sf < st by omega), decide_eq_true (show st ≤ pb by omega), Bool.true_and, Bool.true_and, Bool.true_and] at hst
          exact hst)
        clear HST2 HPV HP0 he HSU
        go_quiet (fail)
        have HY : Hid (Ext W2 (W4.drewN nq)) := Lib.hid (Ext.trans hx (by repeat (first | exact Below.refl _ _ | assumption | refine Below.drew ?_ | refine below_drewN ?_ _ | refine bl_alloc ?_ _ | refine Below.setCell ?_ (by first | (simp; done) | omega | (simp; omega)) _ | refine bl_then ?_ (by assumption))))
        clear hx
        go_wp2
        go_roundw
        case rel => exact ⟨0 + 1, by omega, by go_num, HN2, HY.out⟩
        case measure => simp [intOf]; omega
      obtain ⟨k1, hk5⟩ : ∃ k1, k = k1 + 1 := ⟨k - 1, by omega⟩
      have cp := HPV.out k1 hk5
      subst hk5
      have cp' : W4.cell? ⟨b, o + k1 * 3 + 1 + 1, none⟩ = some (.int .i64 e) := cp
      have hk2 : (0 : Int) < ((k1 + 1 : Nat) : Int) := by omega
      have hk2' : decide ((0 : Int) < ((k1 + 1 : Nat) : Int)) = true := decide_eq_true hk2
      have hk3 : (0 : Int) ≤ ((k1 + 1 : Nat) : Int) - 1 := by omega
      have hk4 : ((k1 + 1 : Nat) : Int) - 1 < (n : Int) := by omega
      have hw1 : IntKind.i64.wrap (((k1 + 1 : Nat) : Int) - 1) = (k1 : Int) := by
        rw [IntWalk.i64_in _ (by omega)]
        omega
      have hk6 : ((k1 + 1 : Nat) : Int) - 1 = (k1 : Int) := by omega
      by_cases hc5 : sf < e
      · have hst := HST2.out
        rw [decide_eq_false (show ¬ max e pa ≤ sf by omega), Bool.false_and, Bool.false_and, Bool.false_and] at hst
        have hc5' : decide (sf < e) = true := decide_eq_true hc5
        clear HST2 HPV HP0 HSU
        go_quiet (fail)
        have HY : Hid (Ext W2 (W4.drewN nq)) := Lib.hid (Ext.trans hx (by repeat (first | exact Below.refl _ _ | assumption | refine Below.drew ?_ | refine below_drewN ?_ _ | refine bl_alloc ?_ _ | refine Below.setCell ?_ (by first | (simp; done) | omega | (simp; omega)) _ | refine bl_then ?_ (by assumption))))
        clear hx
        subst hst
        go_wp2
        go_ret
        exact ⟨rfl, Ext.trans HX2.out HY.out⟩
      · have hc5' : decide (sf < e) = false := decide_eq_false hc5
        have HN2 : Hid (vt = slotsOK ps (prevT l (k1 + 1 + 1)) (l.drop (k1 + 1 + 1))) := Lib.hid (by
          have hst := HST2.out
          rw [decide_eq_true (show max e pa ≤ sf by omega), decide_eq_true (show sf < st by omega), decide_eq_true (show st ≤ pb by omega), Bool.true_and, Bool.true_and, Bool.true_and] at hst
          exact hst)
        clear HST2 HPV HP0 HSU
        go_quiet (fail)
        have HY : Hid (Ext W2 (W4.drewN nq)) := Lib.hid (Ext.trans hx (by repeat (first | exact Below.refl _ _ | assumption | refine Below.drew ?_ | refine below_drewN ?_ _ | refine bl_alloc ?_ _ | refine Below.setCell ?_ (by first | (simp; done) | omega | (simp; omega)) _ | refine bl_then ?_ (by assumption))))
        clear hx
        go_wp2
        go_roundw
        case rel => exact ⟨k1 + 1 + 1, by omega, by go_num, HN2, HY.out⟩
        case measure => simp [intOf]; omega
    · have hst := HV.out
      rw [List.drop_of_length_le (by rw [HL.out]; omega), slotsOK] at hst
      subst hst
      have HX := Lib.hid (Ext.trans HX2.out hx)
      clear hx
      go_wp2_with fail
      go_ret
      exact ⟨rfl, HX.out⟩
end Go.Proofs.Ytmlabgmigakcbaa
namespace Go.Proofs.Ytmlabgmigakcbaa
open Go.RowKit

set_option maxRecDepth 100000 in
set_option maxHeartbeats 4000000 in
theorem rSent_any (o : Opt) (ps : List Pas) (lost : List Int) (PA LA : Option Addr) (pn pc ln lc : Nat) (w : World) (ho : RA sltCells 3 w w.heap.size o.a o.n o.c o.l) (hp : RA pasCells 6 w w.heap.size PA pn pc ps) (hl : RA intCells 1 w w.heap.size LA ln lc lost) :
    Calls Try.prog 63 #[.agg (optCells o).toArray, .slice PA pn pc, .slice LA ln lc] w fun e w' => e = .returned (.tuple #[.int .i64 (sentV o ps lost).1, .int .i64 (sentV o ps lost).2]) ∧ Ext w w' := by
  have HV := Lib.hid (fun (W : World) (hW : Ext w W) => rloss_valid o ps PA pn pc W (ra_ext ho hW) (ra_ext hp hW))
  have HIS := Lib.hid (fun (W : World) (hW : Ext w W) => rset_any ps lost PA LA pn pc ln lc W (ra_ext hp hW) (ra_ext hl hW))
  have HIX := Lib.hid (fun (W : World) (hW : Ext w W) => rsent0_any o lost LA ln lc W (ra_ext ho hW) (ra_ext hl hW))
  unfold sentV sentOK
  generalize sentI lost 0 o.l = z at HIX ⊢
  generalize (properP ps && lossOK ps o.l) = q1 at HV ⊢
  generalize (setR ps.length (-1) lost && properP ps) = q2 at HIS ⊢
  obtain ⟨id, i1, i2, i3, i4, i5, i6, i7, a, m, d, l⟩ := o
  have hoe : (optCells ⟨id, i1, i2, i3, i4, i5, i6, i7, a, m, d, l⟩).toArray = #[.int .i64 id, .int .i64 i1, .int .i64 i2, .int .i64 i3, .int .i64 i4, .int .i64 i5, .int .i64 i6, .int .i64 i7, .slice a m d] := rfl
  rw [hoe] at HV HIX ⊢
  clear ho hp hl hoe
  go_enter Try.func63, Try.ntmps63
  go_upto_region 1 with (fail)
  have hx1 : Ext w (w.alloc (.cells #[.int .i64 id, .int .i64 i1, .int .i64 i2, .int .i64 i3, .int .i64 i4, .int .i64 i5, .int .i64 i6, .int .i64 i7, .slice a m d] 32)) := bl_alloc (Below.refl _ _) _
  have J0 := Blk.new w 32 #[.int .i64 id, .int .i64 i1, .int .i64 i2, .int .i64 i3, .int .i64 i4, .int .i64 i5, .int .i64 i6, .int .i64 i7, .slice a m d]
  obtain ⟨g3, hg3⟩ : ∃ g, g = w.heap.size := ⟨_, rfl⟩
  rw [← hg3] at J0 ⊢
  clear hg3
  generalize w.alloc (.cells #[.int .i64 id, .int .i64 i1, .int .i64 i2, .int .i64 i3, .int .i64 i4, .int .i64 i5, .int .i64 i6, .int .i64 i7, .slice a m d] 32) = W1 at hx1 J0 ⊢
  have d0 : W1.cell? ⟨g3, 0, none⟩ = some (.int .i64 id) := J0.cell 0
  have d1 : W1.cell? ⟨g3, 1, none⟩ = some (.int .i64 i1) := J0.cell 1
  have d2 : W1.cell? ⟨g3, 2, none⟩ = some (.int .i64 i2) := J0.cell 2
  have d3 : W1.cell? ⟨g3, 3, none⟩ = some (.int .i64 i3) := J0.cell 3
  have d4 : W1.cell? ⟨g3, 4, none⟩ = some (.int .i64 i4) := J0.cell 4
  have d5 : W1.cell? ⟨g3, 5, none⟩ = some (.int .i64 i5) := J0.cell 5
  have d6 : W1.cell? ⟨g3, 6, none⟩ = some (.int .i64 i6) := J0.cell 6
  have d7 : W1.cell? ⟨g3, 7, none⟩ = some (.int .i64 i7) := J0.cell 7
  have d8 : W1.cell? ⟨g3, 8, none⟩ = some (.slice a m d) := J0.cell 8
  have HJ0 := Lib.hid J0
  have HK := Lib.hid (HV.out W1 hx1)
  clear J0 HV
  go_wp2_with fail
  refine HK.out.mono ?_
  rintro e W2 ⟨rfl, hy⟩
  have hx2 := Ext.trans hx1 hy
  have HJ0 := Lib.hid (HJ0.out.ext hy)
  clear d0 d1 d2 d3 d4 d5 d6 d7 d8 HK hx1 hy
  cases q1
  · go_wp2
    exact bodyPost_ret (v := .tuple #[.int .i64 0, .int .i64 180]) (by simp [results, Try.results63, go_sem]) rfl ⟨rfl, hx2⟩
  · have HK := Lib.hid (HIS.out W2 hx2)
    clear HIS
    go_wp2_with fail
    refine HK.out.mono ?_
    rintro e W3 ⟨rfl, hy⟩
    have hx3 := Ext.trans hx2 hy
    have J0 := HJ0.out.ext hy
    clear HK hx2 hy HJ0
    cases q2
    · go_wp2
      exact bodyPost_ret (v := .tuple #[.int .i64 0, .int .i64 180]) (by simp [results, Try.results63, go_sem]) rfl ⟨rfl, hx3⟩
    · have HK := Lib.hid (HIX.out W3 hx3)
      have d0 : W3.cell? ⟨g3, 0, none⟩ = some (.int .i64 id) := J0.cell 0
      have d1 : W3.cell? ⟨g3, 1, none⟩ = some (.int .i64 i1) := J0.cell 1
      have d2 : W3.cell? ⟨g3, 2, none⟩ = some (.int .i64 i2) := J0.cell 2
      have d3 : W3.cell? ⟨g3, 3, none⟩ = some (.int .i64 i3) := J0.cell 3
      have d4 : W3.cell? ⟨g3, 4, none⟩ = some (.int .i64 i4) := J0.cell 4
      have d5 : W3.cell? ⟨g3, 5, none⟩ = some (.int .i64 i5) := J0.cell 5
      have d6 : W3.cell? ⟨g3, 6, none⟩ = some (.int .i64 i6) := J0.cell 6
      have d7 : W3.cell? ⟨g3, 7, none⟩ = some (.int .i64 i7) := J0.cell 7
      have d8 : W3.cell? ⟨g3, 8, none⟩ = some (.slice a m d) := J0.cell 8
      clear HIX J0
      go_wp2_with fail
      refine HK.out.mono ?_
      rintro e W4 ⟨rfl, hy⟩
      have hx4 := Ext.trans hx3 hy
      clear d0 d1 d2 d3 d4 d5 d6 d7 d8 HK hx3 hy
      go_wp2
      exact bodyPost_ret (v := .tuple #[.int .i64 z, .int .i64 0]) (by simp [results, Try.results63, go_sem]) rfl ⟨rfl, hx4⟩

theorem stI_any (x : Int) : ∀ (l : List Stn) (i : Nat), decide (0 ≤ stI x i l) = l.any (fun s => decide (s.id = x))
  | [], i => rfl
  | s :: r, i => by
    rw [stI_cons, List.any_cons]
    by_cases h : s.id = x
    · rw [if_pos h, decide_eq_true h, Bool.true_or]
      exact decide_eq_true (by omega)
    · rw [if_neg h, decide_eq_false h, Bool.false_or]
      exact stI_any x r (i + 1)
theorem skewL_any (x : Int) : ∀ (l : List Stn) (f : Int → Option Int), (skewL f l x).isSome = ((f x).isSome || l.any (fun s => decide (s.id = x)))
  | [], f => by simp [skewL]
  | s :: r, f => by
    rw [skewL_cons, skewL_any x r, List.any_cons]
    by_cases h : x = s.id
    · subst h; simp
    · have h2 : ¬ s.id = x := fun e => h e.symm
      simp [h, h2]
theorem stn_some (x : Int) (l : List Stn) : (skewF l x).isSome = decide (0 ≤ stI x 0 l) := by
  rw [stI_any]
  have := skewL_any x l (fun _ => none)
  simpa [skewL, skewF] using this
def seenB (os : List Opt) (k : Nat) (x : Int) : Bool := (os.take k).any (fun o => decide (o.id = x))
theorem seenB_succ (os : List Opt) (k : Nat) (h : k < os.length) (x : Int) : seenB os (k + 1) x = if x = os[k].id then true else seenB os k x := by
  unfold seenB
  rw [List.take_succ_eq_append_getElem h, List.any_append]
  by_cases e : x = os[k].id
  · rw [if_pos e]; simp [e]
  · have e2 : ¬ os[k].id = x := fun h => e h.symm
    rw [if_neg e]; simp [e2]
theorem seenB_zero (os : List Opt) : seenB os 0 = fun _ => false := by funext x; simp [seenB]
theorem optsR_seen (ps : List Pas) (os : List Opt) (k : Nat) (h : k < os.length) : optsR ps (seenB os k) (os.drop k) = (inB os[k].id 0 63 && !seenB os k os[k].id && (properP ps && lossOK ps os[k].l) && optsR ps (seenB os (k + 1)) (os.drop (k + 1))) := by
  rw [List.drop_eq_getElem_cons h, optsR_cons]
  congr 2
  funext x
  exact (seenB_succ os k h x).symm

set_option maxRecDepth 100000 in
set_option maxHeartbeats 8000000 in
theorem rvalid_any (os : List Opt) (ps : List Pas) (sts : List Stn) (OA PA SA : Option Addr) (n c pn pc sn sc : Nat) (w : World) (ho : Ops w w.heap.size OA n c os) (hp : RA pasCells 6 w w.heap.size PA pn pc ps) (hs : RA stnCells 6 w w.heap.size SA sn sc sts) :
    Calls Try.prog 15 #[.slice OA n c, .slice PA pn pc, .slice SA sn sc] w fun e w' => e = .returned (.bool (validP os ps sts)) ∧ Ext w w' := by
  have hle := ho.out.le
  have hple := hp.le
  have hvt0 : validP os ps sts = (properP ps && (stnsOK sts && (decide (n ≤ 24) && (ps.all (fun p => decide (0 ≤ stI p.station 0 sts)) && optsR ps (seenB os 0) os)))) := by
    have hst : stnIn (skewF sts) ps = ps.all (fun p => decide (0 ≤ stI p.station 0 sts)) := by
      unfold stnIn
      congr 1
      funext p
      exact stn_some p.station sts
    unfold validP
    rw [ho.out.len, hst, seenB_zero]
    generalize properP ps = q1
    generalize stnsOK sts = q2
    generalize decide (n ≤ 24) = q3
    cases q1 <;> cases q2 <;> cases q3 <;> rfl
  obtain ⟨vt, hvt⟩ : ∃ b, b = validP os ps sts := ⟨_, rfl⟩
  rw [← hvt]
  rw [hvt0] at hvt
  have hPR := (fun (W : World) (hW : Ext w W) => rproper_any ps PA pn pc W (ra_ext hp hW))
  have hVS := (fun (W : World) (hW : Ext w W) => rvalidStns_any sts SA sn sc W (ra_ext hs hW))
  have HRS := Lib.hid (fun (x : Int) (W : World) (hW : Ext w W) => rstation_any x sts SA sn sc W (ra_ext hs hW))
  have hLV := (fun (o : Opt) (hm : o ∈ os) (W : World) (hW : Ext w W) => rloss_valid o ps PA pn pc W (ra_ext (ho.each o hm) hW) (ra_ext hp hW))
  have HOK := Lib.hid (fun (k : Nat) (h : k < os.length) => optsR_seen ps os k h)
  generalize properP ps = q1 at hvt hPR hLV HOK
  generalize stnsOK sts = q2 at hvt hVS
  have HVT := Lib.hid hvt
  have HPR := Lib.hid hPR
  have HVS := Lib.hid hVS
  have HLV := Lib.hid hLV
  have HO := Lib.hid ho
  have HP := Lib.hid hp
  clear hvt hvt0 hPR hVS hLV ho hp hs
  go_enter Try.func15, Try.ntmps15
  go_wp2_with fail
  refine (HPR.out w (Ext.refl _)).mono ?_
  rintro e W1 ⟨rfl, hx1⟩
  have HC := Lib.hid (HVS.out W1 hx1)
  clear HPR HVS
  go_wp2_with fail
  refine HC.out.mono ?_
  rintro e W2 ⟨rfl, hy⟩
  have hx2 : Ext w W2 := Ext.trans hx1 hy
  clear HC hx1 hy
  cases q1
  · have hvt := HVT.out
    rw [Bool.false_and] at hvt
    subst hvt
    go_wp2_with fail
    go_ret
    exact ⟨rfl, hx2⟩
  cases q2
  · have hvt := HVT.out
    rw [Bool.true_and, Bool.false_and] at hvt
    subst hvt
    go_wp2_with fail
    go_ret
    exact ⟨rfl, hx2⟩
  by_cases h24 : n ≤ 24
  case neg =>
    have hvt := HVT.out
    rw [Bool.true_and, Bool.true_and, decide_eq_false h24, Bool.false_and] at hvt
    subst hvt
    have h24' : (24 : Int) < (n : Int) := by omega
    have h24b : decide ((24 : Int) < (n : Int)) = true := decide_eq_true h24'
    go_wp2_with fail
    go_ret
    exact ⟨rfl, hx2⟩
  have h24' : ¬ (24 : Int) < (n : Int) := by omega
  have h24b : decide ((24 : Int) < (n : Int)) = false := decide_eq_false h24'
  have HV0 : Hid (vt = ((ps.drop 0).all (fun p => decide (0 ≤ stI p.station 0 sts)) && optsR ps (seenB os 0) os)) := Lib.hid (by
    have hvt := HVT.out
    rw [Bool.true_and, Bool.true_and, decide_eq_true h24, Bool.true_and] at hvt
    exact hvt)
  clear HVT
  go_wp2_with fail
  go_loopw [9] (fun z wr => ∃ k : Nat, k ≤ pn ∧ z = .int .i64 k ∧ Hid (vt = ((ps.drop k).all (fun p => decide (0 ≤ stI p.station 0 sts)) && optsR ps (seenB os 0) os)) ∧ wr = W2) (fun z _ => pn - (intOf z).toNat)
  case atStart => exact ⟨0, Nat.zero_le _, rfl, HV0, rfl⟩
  case round =>
    clear HV0 h24' h24b
    obtain ⟨k, hk, rfl, HV, rfl⟩ := hrel
    by_cases hkn : k < pn
    · obtain ⟨b, ob, hz, hA, _, hc⟩ := (HP.out.below hx2).at_ pas_len hkn
      have hst := HV.out
      rw [List.drop_eq_getElem_cons hz, List.all_cons] at hst
      have c1 : wr.cell? ⟨b, ob + k * 6 + 1, none⟩ = some (.int .i64 ps[k].station) := hc 1 (by omega)
      have hS := HRS.out ps[k].station wr hx2
      generalize ps[k].station = x at hst c1 hS
      generalize stI x 0 sts = z at hst hS
      have HS := Lib.hid hS
      have HST := Lib.hid hst
      have hkz : (k : Int) < (pn : Int) := by omega
      subst hA
      clear hc hz hst hS HV
      by_cases hz0 : z < 0
      · have hft : vt = false := by rw [HST.out, decide_eq_false (by omega)]; rfl
        subst hft
        go_wp2_with (refine HS.out.mono ?_; rintro e w2 ⟨rfl, rfl⟩)
        go_ret
        exact ⟨rfl, hx2⟩
      · have HN2 : Hid (vt = ((ps.drop (k + 1)).all (fun p => decide (0 ≤ stI p.station 0 sts)) && optsR ps (seenB os 0) os)) := Lib.hid (by rw [HST.out, decide_eq_true (by omega), Bool.true_and])
        clear HST
        go_wp2_with (refine HS.out.mono ?_; rintro e w2 ⟨rfl, rfl⟩)
        go_roundw
        case rel => exact ⟨k + 1, by omega, by go_num, HN2, (by first | rfl | trivial)⟩
        case measure => simp [intOf]; omega
    · have HV1 : Hid (vt = optsR ps (seenB os 0) (os.drop 0)) := Lib.hid (by
        have hst := HV.out
        rw [List.drop_of_length_le (by rw [HP.out.len]; omega), List.all_nil, Bool.true_and] at hst
        exact hst)
      clear HV HRS
      go_wp2_with fail
      go_loopw [10] (fun z wr => ∃ k : Nat, k ≤ n ∧ z = .int .i64 k ∧ Hid (vt = optsR ps (seenB os k) (os.drop k)) ∧ Ext w wr) (fun z _ => n - (intOf z).toNat)
      case atStart => exact ⟨0, Nat.zero_le _, rfl, HV1, hx2⟩
      case round =>
        clear HV1 hx2
        obtain ⟨k, hk, rfl, HV, hx⟩ := hrel
        by_cases hkn : k < n
        · obtain ⟨b, ob, hz, hA, _, hc⟩ := (HO.out.out.below hx).at_ opt_len hkn
          have hst := HV.out
          rw [HOK.out k hz] at hst
          have hlv := HLV.out os[k] (List.getElem_mem hz)
          have HSEE : Hid (seenB os k os[k].id = (os.take k).any (fun o => decide (o.id = os[k].id))) := Lib.hid rfl
          have HIDK : Hid (∀ h : k < os.length, os[k].id = os[k].id) := Lib.hid (fun _ => rfl)
          clear HIDK
          have HID : Hid (∃ x, x = os[k].id) := Lib.hid ⟨_, rfl⟩
          clear HID
          generalize hoe : os[k] = o at hst hc hlv HSEE
          obtain ⟨id, i1, i2, i3, i4, i5, i6, i7, a, m, d, l⟩ := o
          have hoe2 : (optCells ⟨id, i1, i2, i3, i4, i5, i6, i7, a, m, d, l⟩).toArray = #[.int .i64 id, .int .i64 i1, .int .i64 i2, .int .i64 i3, .int .i64 i4, .int .i64 i5, .int .i64 i6, .int .i64 i7, .slice a m d] := rfl
          rw [hoe2] at hlv
          dsimp only at hst hlv HSEE
          generalize seenB os k id = sb at hst HSEE
          generalize (true && lossOK ps l) = q3 at hst hlv
          have c0 : wr.cell? ⟨b, ob + k * 9, none⟩ = some (.int .i64 id) := hc 0 (by omega)
          have c1_ : wr.cell? ⟨b, ob + k * 9 + 1, none⟩ = some (.int .i64 i1) := hc 1 (by omega)
          have c2_ : wr.cell? ⟨b, ob + k * 9 + 2, none⟩ = some (.int .i64 i2) := hc 2 (by omega)
          have c3_ : wr.cell? ⟨b, ob + k * 9 + 3, none⟩ = some (.int .i64 i3) := hc 3 (by omega)
          have c4_ : wr.cell? ⟨b, ob + k * 9 + 4, none⟩ = some (.int .i64 i4) := hc 4 (by omega)
          have c5_ : wr.cell? ⟨b, ob + k * 9 + 5, none⟩ = some (.int .i64 i5) := hc 5 (by omega)
          have c6_ : wr.cell? ⟨b, ob + k * 9 + 6, none⟩ = some (.int .i64 i6) := hc 6 (by omega)
          have c7_ : wr.cell? ⟨b, ob + k * 9 + 7, none⟩ = some (.int .i64 i7) := hc 7 (by omega)
          have c8 : wr.cell? ⟨b, ob + k * 9 + 8, none⟩ = some (.slice a m d) := hc 8 (by omega)
          have HLV2 := Lib.hid hlv
          have HST := Lib.hid hst
          have hkz : (k : Int) < (n : Int) := by omega
          subst hA
          clear hc hz hst hlv HV hoe hoe2
          by_cases h0 : id < 0
          · have hft : vt = false := by rw [HST.out, show inB id 0 63 = false by simp [inB]; omega]; simp
            subst hft
            clear HST
            go_wp2_with fail
            go_ret
            exact ⟨rfl, hx⟩
          have h0b : decide (id < 0) = false := decide_eq_false h0
          by_cases h63 : 64 ≤ id
          · have hft : vt = false := by rw [HST.out, show inB id 0 63 = false by simp [inB]; omega]; simp
            have h63b : decide (64 ≤ id) = true := decide_eq_true h63
            subst hft
            clear HST
            go_wp2_with fail
            go_ret
            exact ⟨rfl, hx⟩
          have h63b : decide (64 ≤ id) = false := decide_eq_false h63
          have hst := HST.out
          rw [show inB id 0 63 = true by rw [inB_iff]; omega, Bool.true_and] at hst
          have HST := Lib.hid hst
          have HC := Lib.hid (HLV2.out wr hx)
          clear hst HLV2
          go_wp2_with fail
          refine HC.out.mono ?_
          rintro e W4 ⟨rfl, hy⟩
          have hx4 := Ext.trans hx hy
          have c0 := ext_cell hy c0
          clear hx hy HC c1_ c2_ c3_ c4_ c5_ c6_ c7_ c8
          cases q3
          · have hft : vt = false := by rw [HST.out, Bool.and_false]; rfl
            subst hft
            clear HST
            go_wp2_with fail
            go_ret
            exact ⟨rfl, hx4⟩
          have hst := HST.out
          rw [Bool.and_true] at hst
          have HST := Lib.hid hst
          have HS0 : Hid (sb = ((os.take 0).any (fun o => decide (o.id = id)) || ((os.take k).drop 0).any (fun o => decide (o.id = id)))) := Lib.hid (by rw [HSEE.out]; rfl)
          clear hst HSEE
          go_wp2_with fail
          go_loopw [11] (fun z wr => ∃ j : Nat, j ≤ k ∧ z = .int .i64 j ∧ Hid (sb = ((os.take k).drop j).any (fun o => decide (o.id = id))) ∧ Ext W4 wr) (fun z _ => k - (intOf z).toNat)
          case atStart => exact ⟨0, Nat.zero_le _, rfl, Lib.hid (by have h := HS0.out; simpa using h), Ext.refl _⟩
          case round =>
            clear HS0
            obtain ⟨j, hj, rfl, HJ, hxi⟩ := hrel
            by_cases hjk : j < k
            · have hjn : j < n := by omega
              obtain ⟨b2, ob2, hz2, hA2, _, hc2⟩ := (HO.out.out.below (Ext.trans hx4 hxi)).at_ opt_len hjn
              injection hA2 with hA2
              injection hA2 with hb1 hb2 _
              subst hb1 hb2
              have hst := HJ.out
              rw [List.drop_eq_getElem_cons (by rw [List.length_take]; omega), List.any_cons, List.getElem_take] at hst
              have f0 : wr.cell? ⟨b, ob + j * 9, none⟩ = some (.int .i64 os[j].id) := hc2 0 (by omega)
              generalize os[j].id = y at hst f0
              have c0 := ext_cell hxi c0
              have HJT := Lib.hid hst
              have hjz : (j : Int) < (k : Int) := by omega
              have hjz2 : (j : Int) < (n : Int) := by omega
              clear hst hc2 hz2 HJ
              go_upto_region 18 with (fail)
              by_cases hyi : y = id
              · have hft : vt = false := by rw [HST.out, HJT.out, decide_eq_true hyi]; rfl
                subst hft hyi
                have hyb : (y == y) = true := by simp
                clear HST HJT
                go_quiet (fail)
                have HX : Hid (Ext w (wr.drewN nq)) := Lib.hid (Ext.trans hx4 (Ext.trans hxi (by repeat (first | exact Below.refl _ _ | assumption | refine Below.drew ?_ | refine below_drewN ?_ _ | refine bl_alloc ?_ _ | refine Below.setCell ?_ (by first | (simp; done) | omega | (simp; omega)) _ | refine bl_then ?_ (by assumption)))))
                clear hxi hx4
                go_wp2
                go_ret
                exact ⟨rfl, HX.out⟩
              · have hyb : (y == id) = false := by simpa using hyi
                have HN2 : Hid (sb = ((os.take k).drop (j + 1)).any (fun o => decide (o.id = id))) := Lib.hid (by rw [HJT.out, decide_eq_false hyi, Bool.false_or])
                clear HJT
                go_quiet (fail)
                have HY : Hid (Ext W4 (wr.drewN nq)) := Lib.hid (Ext.trans hxi (by repeat (first | exact Below.refl _ _ | assumption | refine Below.drew ?_ | refine below_drewN ?_ _ | refine bl_alloc ?_ _ | refine Below.setCell ?_ (by first | (simp; done) | omega | (simp; omega)) _ | refine bl_then ?_ (by assumption))))
                clear hxi c0 f0
                go_wp2
                go_roundw
                case rel => exact ⟨j + 1, by omega, by go_num, HN2, HY.out⟩
                case measure => simp [intOf]; omega
            · have hsb : sb = false := by rw [HJ.out, List.drop_of_length_le (by rw [List.length_take]; omega)]; rfl
              have HN2 : Hid (vt = optsR ps (seenB os (k + 1)) (os.drop (k + 1))) := Lib.hid (by have h := HST.out; rw [hsb] at h; exact h)
              have HXF := Lib.hid (Ext.trans hx4 hxi)
              clear hsb HST HJ hxi
              go_wp2_with fail
              go_roundw
              case rel => exact ⟨k + 1, by omega, by go_num, HN2, HXF.out⟩
              case measure => simp [intOf]; omega
        · have hst := HV.out
          rw [List.drop_of_length_le (by rw [HO.out.out.len]; omega), optsR] at hst
          subst hst
          clear HV
          go_wp2_with fail
          go_ret
          exact ⟨rfl, hx⟩
end Go.Proofs.Ytmlabgmigakcbaa
namespace Go.Proofs.Ytmlabgmigakcbaa
open Go.RowKit


set_option maxRecDepth 100000 in
set_option maxHeartbeats 8000000 in
theorem rwrite_any (os : List Opt) (ps : List Pas) (sts : List Stn) (lost wrong : List Int) (OA PA SA LA GA : Option Addr) (n c pn pc sn sc ln lc gn gc : Nat) (w : World) (ho : Ops w w.heap.size OA n c os) (hp : RA pasCells 6 w w.heap.size PA pn pc ps) (hs : RA stnCells 6 w w.heap.size SA sn sc sts) (hl : RA intCells 1 w w.heap.size LA ln lc lost) (hg : RA intCells 1 w w.heap.size GA gn gc wrong) :
    Calls Try.prog 27 #[.slice OA n c, .slice PA pn pc, .slice SA sn sc, .slice LA ln lc, .slice GA gn gc] w (WrtRet (wrtV os ps sts lost wrong) w) := by
  have hle := ho.out.le
  have hgle := hg.le
  have hsle := hs.le
  have HVAL := Lib.hid (rvalid_any os ps sts OA PA SA n c pn pc sn sc w ho hp hs)
  obtain ⟨X, hX⟩ : ∃ x, x = wrtV os ps sts lost wrong := ⟨_, rfl⟩
  rw [← hX]
  have HX := Lib.hid hX
  have HO := Lib.hid ho
  have HP := Lib.hid hp
  have HS := Lib.hid hs
  have HL := Lib.hid hl
  have HG := Lib.hid hg
  clear hX ho hp hs hl hg
  go_enter Try.func27, Try.ntmps27
  go_wp2_with fail
  refine HVAL.out.mono ?_
  rintro e W1 ⟨rfl, hx⟩
  clear HVAL
  by_cases hV : validP os ps sts = true
  · rw [hV]
    have hvok := valid_vok hV
    have HVK := Lib.hid hvok
    have HXV : Hid (X = (match wrtL ps sts lost wrong [] [] (os.drop 0) with | some x => (x, 0) | none => (([], []), 300))) := Lib.hid (by rw [HX.out]; unfold wrtV; rw [hV]; rfl)
    have hn24 : n ≤ 24 := by rw [← HO.out.out.len]; exact hvok.len
    have HPN : Hid (pn = ps.length) := Lib.hid HP.out.len.symm
    have HO1 := Lib.hid (HO.out.ext hx)
    have HP1 := Lib.hid (ra_ext HP.out hx)
    have HS1 := Lib.hid (ra_ext HS.out hx)
    have HL1 := Lib.hid (ra_ext HL.out hx)
    have HG1 := Lib.hid (ra_ext HG.out hx)
    have HW : Hid (Ext w W1) := Lib.hid hx
    have HR0 : Hid (OwnRc W1 W1.heap.size (.slice none 0 0) []) := Lib.hid (World.ownsRow_nil _ _ _ _)
    have HN0 : Hid (OwnNt W1 W1.heap.size (.slice none 0 0) []) := Lib.hid (World.ownsRow_nil _ _ _ _)
    clear hV hvok HX HO HP HS HL HG hx
    go_wp2_with fail
    go_loopw [13, 14, 15] (fun x y i wr => ∃ (k : Nat) (rs : List Rcp) (ns : List Nte), k ≤ n ∧ i = .int .i64 k ∧ Hid (X = (match wrtL ps sts lost wrong rs ns (os.drop k) with | some x => (x, 0) | none => (([], []), 300))) ∧ Hid (OwnRc wr W1.heap.size x rs) ∧ Hid (OwnNt wr W1.heap.size y ns) ∧ rs.length ≤ k ∧ ns.length ≤ 6 * k ∧ Ext W1 wr) (fun _ _ i _ => n - (intOf i).toNat)
    case atStart => exact ⟨0, [], [], Nat.zero_le _, rfl, HXV, HR0, HN0, Nat.zero_le _, Nat.zero_le _, Ext.refl _⟩
    case round =>
      clear HXV HR0 HN0
      obtain ⟨k, rs, ns, hk, rfl, HXV, HR, HNt, hrl, hnl, hx⟩ := hrel
      obtain ⟨A1, c1, hv1, _, _⟩ := own_slice HR.out
      subst hv1
      obtain ⟨A2, c2, hv2, _, _⟩ := own_slice HNt.out
      subst hv2
      by_cases hkn : k < n
      · obtain ⟨b, ob, hz, hA, _, hc⟩ := HO1.out.out.at_ opt_len hkn
        have hst := HXV.out
        rw [List.drop_eq_getElem_cons hz, wrtL_cons] at hst
        have hmem := List.getElem_mem hz
        have hSEN := rSent_any os[k] ps lost PA LA pn pc ln lc wr (ra_ext (HO1.out.each _ hmem) hx) (ra_ext HP1.out hx) (ra_ext HL1.out hx)
        have hslk := HVK.out.sl hmem
        have hsr := HO1.out.each _ hmem
        have hcas := sentV_cases os[k] ps lost
        generalize os[k] = o at hst hc hSEN hslk hsr hcas
        obtain ⟨id, i1, i2, i3, i4, i5, i6, i7, a, m, d, l⟩ := o
        have hoe : (optCells ⟨id, i1, i2, i3, i4, i5, i6, i7, a, m, d, l⟩).toArray = #[.int .i64 id, .int .i64 i1, .int .i64 i2, .int .i64 i3, .int .i64 i4, .int .i64 i5, .int .i64 i6, .int .i64 i7, .slice a m d] := rfl
        rw [hoe] at hSEN
        dsimp only at hst hslk hsr
        have hml := hsr.len
        have hm6 : m ≤ 6 := by rw [← hml]; exact hslk.len
        have c0 : wr.cell? ⟨b, ob + k * 9, none⟩ = some (.int .i64 id) := ext_cell hx (hc 0 (by omega))
        have c1_ : wr.cell? ⟨b, ob + k * 9 + 1, none⟩ = some (.int .i64 i1) := ext_cell hx (hc 1 (by omega))
        have c2_ : wr.cell? ⟨b, ob + k * 9 + 2, none⟩ = some (.int .i64 i2) := ext_cell hx (hc 2 (by omega))
        have c3 : wr.cell? ⟨b, ob + k * 9 + 3, none⟩ = some (.int .i64 i3) := ext_cell hx (hc 3 (by omega))
        have c4 : wr.cell? ⟨b, ob + k * 9 + 4, none⟩ = some (.int .i64 i4) := ext_cell hx (hc 4 (by omega))
        have c5 : wr.cell? ⟨b, ob + k * 9 + 5, none⟩ = some (.int .i64 i5) := ext_cell hx (hc 5 (by omega))
        have c6 : wr.cell? ⟨b, ob + k * 9 + 6, none⟩ = some (.int .i64 i6) := ext_cell hx (hc 6 (by omega))
        have c7 : wr.cell? ⟨b, ob + k * 9 + 7, none⟩ = some (.int .i64 i7) := ext_cell hx (hc 7 (by omega))
        have c8 : wr.cell? ⟨b, ob + k * 9 + 8, none⟩ = some (.slice a m d) := ext_cell hx (hc 8 (by omega))
        have HE0 : Hid (W1.cell? ⟨b, ob + k * 9, none⟩ = some (.int .i64 id)) := Lib.hid (hc 0 (by omega))
        have HE7 : Hid (W1.cell? ⟨b, ob + k * 9 + 8, none⟩ = some (.slice a m d)) := Lib.hid (hc 8 (by omega))
        have HST := Lib.hid hst
        have HK := Lib.hid hSEN
        have HSLK := Lib.hid hslk
        have HSR := Lib.hid hsr
        have HCAS := Lib.hid hcas
        have HML := Lib.hid hml
        have hkz : (k : Int) < (n : Int) := by omega
        subst hA
        clear hc hz hst hmem hSEN hslk hsr hcas hml HXV hoe
        go_wp2_with fail
        refine HK.out.mono ?_
        rintro e W3 ⟨rfl, hy⟩
        have hx3 := Ext.trans hx hy
        have HR3 := Lib.hid (HR.out.ext hy)
        have HN3 := Lib.hid (HNt.out.ext hy)
        have e7 : W3.cell? ⟨b, ob + k * 9 + 8, none⟩ = some (.slice a m d) := ext_cell hx3 HE7.out
        have e7' : W3.cell? ⟨b, ob + k * 9 + (7 + 1), none⟩ = some (.slice a m d) := e7
        clear c0 c1_ c2_ c3 c4 c5 c6 c7 c8 HK hy hx HR HNt
        rcases HCAS.out with hv | ⟨z, hv, hzb⟩
        · rw [hv]
          have hXe : X = (([], []), 300) := by have h := HST.out; rw [hv, if_neg (by decide)] at h; exact h
          have hxf := Ext.trans HW.out hx3
          clear HST HCAS hv HR3 HN3
          have HXE := Lib.hid hXe
          clear hXe
          go_wp2
          exact bodyPost_ret (v := .tuple #[.slice none 0 0, .slice none 0 0, .int .i64 300]) (by simp [results, Try.results27, go_sem]) rfl ⟨_, _, by rw [HXE.out], by rw [HXE.out]; exact World.ownsRow_nil _ _ _ _, by rw [HXE.out]; exact World.ownsRow_nil _ _ _ _, hxf⟩
        · rw [hv]
          have hst := HST.out
          rw [hv] at hst
          dsimp only at hst
          rw [if_pos rfl] at hst
          clear HST HCAS hv
          by_cases hz0 : 0 ≤ z
          · have hzm : z < m := by have := HML.out; omega
            rw [if_pos hz0] at hst
            have hnt : ntsOf id z l.length = ntsTo id z (z.toNat + 1) := by unfold ntsOf; rw [if_pos hz0]
            rw [hnt] at hst
            obtain ⟨zn, rfl⟩ : ∃ q : Nat, z = q := ⟨z.toNat, by omega⟩
            have hznm : zn < m := by omega
            rw [show ((zn : Int)).toNat = zn by omega] at hst
            have HST := Lib.hid hst
            have hzb0 : decide ((zn : Int) < 0) = false := decide_eq_false (by omega)
            clear hst hnt hzb hz0 hzm
            go_wp2_with fail
            go_loopw [14, 18] (fun y i_ wr => ∃ j : Nat, j ≤ zn + 1 ∧ i_ = .int .i64 j ∧ Hid (OwnNt wr W1.heap.size y (ns ++ ntsTo id (zn : Int) j)) ∧ Hid (OwnRc wr W1.heap.size (.slice A1 rs.length c1) rs) ∧ Ext W1 wr) (fun _ i_ _ => m + 1 - (intOf i_).toNat)
            case atStart => exact ⟨0, Nat.zero_le _, rfl, Lib.hid (by have h := HN3.out; rw [← List.append_nil ns] at h; simpa [ntsTo] using h), HR3, hx3⟩
            case round =>
              clear HN3 HR3 hx3 e7 e7'
              obtain ⟨j, hj, rfl, HNj, HRj, hxj⟩ := hrel
              obtain ⟨NL, hNL⟩ : ∃ NL, NL = ns ++ ntsTo id (zn : Int) j := ⟨_, rfl⟩
              rw [← hNL] at HNj
              have HNL := Lib.hid hNL
              obtain ⟨A2, c2, hv2, _, _⟩ := own_slice HNj.out
              subst hv2
              have f0 : wr.cell? ⟨b, ob + k * 9, none⟩ = some (.int .i64 id) := ext_cell hxj HE0.out
              have f7 : wr.cell? ⟨b, ob + k * 9 + 8, none⟩ = some (.slice a m d) := ext_cell hxj HE7.out
              have f7' : wr.cell? ⟨b, ob + k * 9 + (7 + 1), none⟩ = some (.slice a m d) := f7
              clear hNL
              by_cases hjz : j < zn + 1
              · have hjm : (j : Int) < (m : Int) := by omega
                have hjb : decide ((j : Int) < (m : Int)) = true := decide_eq_true hjm
                have hjc : decide ((j : Int) ≤ (zn : Int)) = true := decide_eq_true (by omega)
                by_cases hje : j = zn
                · subst hje
                  have hq1 : ((j : Int) == (j : Int)) = true := by simp
                  have HQ : Hid ((⟨id, j, decide ((j : Int) = (j : Int))⟩ : Nte) = ⟨id, j, true⟩) := Lib.hid (by simp)
                  have hxa : Ext wr (wr.alloc (.cells #[.int .i64 id, .int .i64 (j : Int), .bool true] 89)) := bl_alloc (Below.refl _ _) _
                  have hxw := Ext.trans hxj hxa
                  obtain ⟨v7, W7, hrun, hg7, hn7⟩ := nte_snoc 34 NL (.slice A2 NL.length c2) ⟨id, j, true⟩ W1.heap.size wr.heap.size (Blk.new _ _ _) (HNj.out.ext hxa) (by rw [HNL.out, List.length_append, ntsTo_len]; omega) (Below.size hxw)
                  have hx7 : Ext W1 W7 := hxw.grown hg7 (Below.size hxw) (fun q e => (World.ownsRow.lt HNj.out q e).1)
                  have HR7 := Lib.hid (show OwnRc W7 W1.heap.size (.slice A1 rs.length c1) rs from own_other (HRj.out.ext hxa) (HNj.out.ext hxa) (by decide) hg7)
                  have HRUN := Lib.hid hrun
                  have HN7 : Hid (OwnNt W7 W1.heap.size v7 (ns ++ ntsTo id (j : Int) (j + 1))) := Lib.hid (by rw [ntsTo_succ, ← List.append_assoc, HQ.out, ← HNL.out]; exact hn7)
                  clear hrun hg7 hn7 hxw hxa
                  go_upto_region 14 with (fail)
                  clear f7 f7'
                  go_wp2_with (refine wpList_append_run_ rfl _ _ _ rfl rfl rfl HRUN.out ?_)
                  go_roundw
                  case rel => exact ⟨j + 1, by omega, by go_num, HN7, HR7, hx7⟩
                  case measure => simp [intOf]; omega
                · have hq1 : ((j : Int) == (zn : Int)) = false := by simpa using (by omega : ¬ (j : Int) = (zn : Int))
                  have HQ : Hid ((⟨id, j, decide ((j : Int) = (zn : Int))⟩ : Nte) = ⟨id, j, false⟩) := Lib.hid (by rw [decide_eq_false (by omega)])
                  have hxa : Ext wr (wr.alloc (.cells #[.int .i64 id, .int .i64 (j : Int), .bool false] 89)) := bl_alloc (Below.refl _ _) _
                  have hxw := Ext.trans hxj hxa
                  obtain ⟨v7, W7, hrun, hg7, hn7⟩ := nte_snoc 34 NL (.slice A2 NL.length c2) ⟨id, j, false⟩ W1.heap.size wr.heap.size (Blk.new _ _ _) (HNj.out.ext hxa) (by rw [HNL.out, List.length_append, ntsTo_len]; omega) (Below.size hxw)
                  have hx7 : Ext W1 W7 := hxw.grown hg7 (Below.size hxw) (fun q e => (World.ownsRow.lt HNj.out q e).1)
                  have HR7 := Lib.hid (show OwnRc W7 W1.heap.size (.slice A1 rs.length c1) rs from own_other (HRj.out.ext hxa) (HNj.out.ext hxa) (by decide) hg7)
                  have HRUN := Lib.hid hrun
                  have HN7 : Hid (OwnNt W7 W1.heap.size v7 (ns ++ ntsTo id (zn : Int) (j + 1))) := Lib.hid (by rw [ntsTo_succ, ← List.append_assoc, HQ.out, ← HNL.out]; exact hn7)
                  clear hrun hg7 hn7 hxw hxa
                  go_upto_region 14 with (fail)
                  clear f7 f7'
                  go_wp2_with (refine wpList_append_run_ rfl _ _ _ rfl rfl rfl HRUN.out ?_)
                  go_roundw
                  case rel => exact ⟨j + 1, by omega, by go_num, HN7, HR7, hx7⟩
                  case measure => simp [intOf]; omega
              · have hj1 : j = zn + 1 := by omega
                have HJ1 := Lib.hid hj1
                have hjc : decide ((j : Int) ≤ (zn : Int)) = false := decide_eq_false (by omega)
                clear hj1
                go_upto_region 12 with (fail)
                go_cut [61] from 45 to 62 (fun v wc => v = .bool false ∧ wc = wr)
                case first =>
                  by_cases hjm : j < m
                  · have hjb : decide ((j : Int) < (m : Int)) = true := decide_eq_true (by omega)
                    go_wp2_with fail
                    go_meet
                    case rel => exact ⟨by first | rfl | (simp; omega), rfl⟩
                  · have hjb : decide ((j : Int) < (m : Int)) = false := decide_eq_false (by omega)
                    go_wp2_with fail
                    go_meet
                    case rel => exact ⟨by first | rfl | (simp; omega), rfl⟩
                obtain ⟨rfl, rfl⟩ := hcut
                obtain ⟨wr, hwr⟩ : ∃ q, q = wc := ⟨_, rfl⟩
                rw [← hwr] at HNj HRj hxj f0 f7 f7' ⊢
                clear hwr hjc hjz
                obtain ⟨bq, oq, hzq, hAq, _, hcq⟩ := (HSR.out.below hxj).at_ slt_len hznm
                have hslk := HSLK.out
                have hbp := hslk.pass l[zn] (List.getElem_mem hzq)
                have hbt := hslk.bd l[zn] (List.getElem_mem hzq)
                have hsl : sltAt l (zn : Int) = l[zn] := by unfold sltAt; rw [show ((zn : Int)).toNat = zn by omega, List.getD_eq_getElem?_getD, List.getElem?_eq_getElem hzq]; rfl
                have hst := HST.out
                rw [hsl] at hst
                have hsta := HVK.out.sta (List.getElem_mem (show l[zn].p.toNat < ps.length by omega))
                have hsta2 : staOf ps l[zn].p = (ps[l[zn].p.toNat]'(by omega)).station := by unfold staOf; rw [List.getElem?_eq_getElem (by omega)]
                have hstq : ∃ s ∈ sts, s.id = staOf ps l[zn].p := by rw [hsta2]; exact hsta
                clear hsta hsta2
                have hsta := hstq
                clear hstq
                generalize l[zn] = sl at hcq hbp hbt hst hsta
                obtain ⟨sp, sf, stt⟩ := sl
                dsimp only at hbp hbt hst hsta
                obtain ⟨spn, rfl⟩ : ∃ q : Nat, sp = q := ⟨sp.toNat, by omega⟩
                have hspn : spn < pn := by rw [HPN.out]; omega
                obtain ⟨bp, op, hzp, hPA, _, hcp⟩ := HP1.out.at_ pas_len hspn
                have hsta2 : staOf ps (spn : Int) = ps[spn].station := by unfold staOf; rw [Int.toNat_natCast, List.getElem?_eq_getElem hzp]
                have p1 : W1.cell? ⟨bp, op + spn * 6 + 1, none⟩ = some (.int .i64 ps[spn].station) := hcp 1 (by omega)
                rw [← hsta2] at p1
                obtain ⟨ki, hki, hkv, hkid⟩ := stI_bd (staOf ps (spn : Int)) sts 0 hsta
                rw [Nat.zero_add] at hkv
                have hsn : sts.length = sn := HS1.out.len
                have hkin : ki < sn := by omega
                obtain ⟨bs, os_, hzs, hAs, _, hcs⟩ := HS1.out.at_ stn_len hkin
                have hskb := stn_skew HVK.out.stns sts[ki] (List.getElem_mem hki)
                have hrc : rcpOf ps sts wrong id ⟨spn, sf, stt⟩ = ⟨sts[ki].id, id, max 0 (stt + byOf wrong ki sts[ki].skew)⟩ := by
                  unfold rcpOf
                  dsimp only
                  rw [hkv, show ((ki : Int)).toNat = ki by omega, List.getElem?_eq_getElem hki]
                have hIX := fun (W : World) (hW : Ext W1 W) => rstation_any (staOf ps (spn : Int)) sts SA sn sc W (ra_ext HS1.out hW)
                rw [hkv] at hIX
                have e0 : W1.cell? ⟨bs, os_ + ki * 6, none⟩ = some (.int .i64 sts[ki].id) := hcs 0 (by omega)
                have e5 : W1.cell? ⟨bs, os_ + ki * 6 + 5, none⟩ = some (.int .i64 sts[ki].skew) := hcs 5 (by omega)
                generalize sts[ki].skew = sk at hskb hrc e5
                generalize sts[ki].id = sid at hrc e0
                generalize staOf ps (spn : Int) = sx at p1 hIX
                have HRC := Lib.hid hrc
                have HST := Lib.hid hst
                have HIX := Lib.hid hIX
                have q0 : wr.cell? ⟨bq, oq + zn * 3, none⟩ = some (.int .i64 spn) := hcq 0 (by omega)
                have q1 : wr.cell? ⟨bq, oq + zn * 3 + 1, none⟩ = some (.int .i64 sf) := hcq 1 (by omega)
                have q2 : wr.cell? ⟨bq, oq + zn * 3 + 2, none⟩ = some (.int .i64 stt) := hcq 2 (by omega)
                have hznz : (zn : Int) < (m : Int) := by omega
                have hspz : (spn : Int) < (pn : Int) := by omega
                subst hAq
                have HAS := Lib.hid hAs
                have HPA := Lib.hid hPA
                clear hcs hcq hst hrc hsta hsta2 hkv hkid hAs hPA hsl hsn hcp hzp hslk hbp hIX
                go_upto_region 17 with (fail)
                have hya : Ext wr (wr.alloc (.cells #[.int .i64 (spn : Int), .int .i64 sf, .int .i64 stt] 78)) := bl_alloc (Below.refl _ _) _
                have J19 := Blk.new wr 78 #[.int .i64 (spn : Int), .int .i64 sf, .int .i64 stt]
                generalize wr.heap.size = g19 at J19 ⊢
                generalize wr.alloc (.cells #[.int .i64 (spn : Int), .int .i64 sf, .int .i64 stt] 78) = W8 at hya J19 ⊢
                have hx8 := Ext.trans hxj hya
                have HR8 := Lib.hid (HRj.out.ext hya)
                have HN8 := Lib.hid (HNj.out.ext hya)
                have HJ19 := Lib.hid J19
                have s0 : W8.cell? ⟨g19, 0, none⟩ = some (.int .i64 (spn : Int)) := J19.cell 0
                have p1 := ext_cell hx8 p1
                have HK := Lib.hid (HIX.out W8 hx8)
                have hPA := HPA.out
                have hSA := HAS.out
                subst hSA hPA
                clear q0 q1 q2 f0 f7 f7' hya J19 HNj HRj hxj HIX
                go_wp2_with fail
                refine HK.out.mono ?_
                rintro e w2 ⟨rfl, rfl⟩
                have e0 := ext_cell hx8 e0
                have e5 := ext_cell hx8 e5
                have HW8 : Hid (Ext W8 W8) := Lib.hid (Ext.refl _)
                clear HK s0 p1
                go_upto_region 19 with (fail)
                by_cases hkg : ki < gn
                · obtain ⟨bg, og, hzg, hAg, _, hcg⟩ := (HG1.out.below hx8).at_ int_len hkg
                  have hby : min sk (max (-sk) wrong[ki]) = byOf wrong ki sk := by
                    have e : byOf wrong ki sk = min (max wrong[ki] (-sk)) sk := by
                      unfold byOf
                      rw [if_pos hzg, List.getD_eq_getElem?_getD, List.getElem?_eq_getElem hzg]
                      rfl
                    rw [e]
                    omega
                  have w0 : W8.cell? ⟨bg, og + ki, none⟩ = some (.int .i64 wrong[ki]) := by have h := hcg 0 (by omega); rw [Nat.mul_one] at h; exact h
                  generalize wrong[ki] = wv at hby w0
                  have HBY0 := Lib.hid hby
                  have hAG := hAg
                  subst hAG
                  clear hcg hzg hby
                  have hkg2 : (ki : Int) < (gn : Int) := by omega
                  have hkn2 : (ki : Int) < (sn : Int) := by omega
                  have hng : IntKind.i64.wrap (-sk) = -sk := IntWalk.i64_in _ (by omega)
                  go_upto_region 20 with (fail)
                  refine wp_region_obl 17 (fun ix vals v w1 => match ix with | 0 => v = .slice (some ⟨bs, os_, none⟩) sn sc | 1 => v = .int .i64 (ki : Int) | 2 => v = .pointer (some ⟨bs, os_ + ki * 6, none⟩) | 3 => v = .pointer (some ⟨bs, os_ + ki * 6 + 5, none⟩) | 4 => v = .int .i64 sk | 5 => v = .slice (some ⟨bs, os_, none⟩) sn sc | 6 => v = .int .i64 (ki : Int) | 7 => v = .pointer (some ⟨bs, os_ + ki * 6, none⟩) | 8 => v = .pointer (some ⟨bs, os_ + ki * 6 + 5, none⟩) | 9 => v = .int .i64 sk | 10 => v = .int .i64 (-sk) | 11 => v = .slice (some ⟨bg, og, none⟩) gn gc | 12 => v = .int .i64 (ki : Int) | 13 => v = .pointer (some ⟨bg, og + ki, none⟩) | 14 => v = .int .i64 wv | 15 => v = .int .i64 (max (-sk) wv) | _ => v = .int .i64 (min sk (max (-sk) wv))) (by kernel_rfl) (by kernel_rfl) ?_ ?_ ?_ ?_
                  · intro ix vals v w1 w2 hi hr hx
                    match ix, hr with
                    | 0, hr => exact hr
                    | 1, hr => exact hr
                    | 2, hr => exact hr
                    | 3, hr => exact hr
                    | 4, hr => exact hr
                    | 5, hr => exact hr
                    | 6, hr => exact hr
                    | 7, hr => exact hr
                    | 8, hr => exact hr
                    | 9, hr => exact hr
                    | 10, hr => exact hr
                    | 11, hr => exact hr
                    | 12, hr => exact hr
                    | 13, hr => exact hr
                    | 14, hr => exact hr
                    | 15, hr => exact hr
                    | (kx + 16), hr => exact hr
                  · intro ix vals vals_ v w1 hi hv hr
                    exact hr
                  · refine ⟨?_, ?_, ?_, ?_, ?_, ?_, ?_, ?_, ?_, ?_, ?_, ?_, ?_, ?_, ?_, ?_, ?_, trivial⟩
                    · intro vals w1 hx hd ha
                      clear hd ha
                      simp only [Lf]
                      go_wp2
                      exact ⟨rfl, Ext.refl _, rfl⟩
                    · intro vals w1 hx hd ha
                      clear hd ha
                      simp only [Lf, dstAt, Act.put, List.getElem?_toArray, List.getElem?_cons_zero, Option.bind_some, List.setIfInBounds_toArray, List.set_cons_zero, List.set_cons_succ]
                      go_wp2
                      exact ⟨rfl, Ext.refl _, rfl⟩
                    · intro vals w1 hx hd ha
                      have e0 : vals 0 = .slice (some ⟨bs, os_, none⟩) sn sc := hd 0 (by decide)
                      have e1 : vals 1 = .int .i64 (ki : Int) := hd 1 (by decide)
                      clear hd ha
                      simp only [Lf, dstAt, Act.put, List.getElem?_toArray, List.getElem?_cons_zero, List.getElem?_cons_succ, Option.bind_some, List.setIfInBounds_toArray, List.set_cons_zero, List.set_cons_succ]
                      simp only [e0, e1]
                      clear e0 e1
                      go_wp2
                      exact ⟨rfl, Ext.refl _, rfl⟩
                    · intro vals w1 hx hd ha
                      have e2 : vals 2 = .pointer (some ⟨bs, os_ + ki * 6, none⟩) := hd 2 (by decide)
                      clear hd ha
                      simp only [Lf, dstAt, Act.put, List.getElem?_toArray, List.getElem?_cons_zero, List.getElem?_cons_succ, Option.bind_some, List.setIfInBounds_toArray, List.set_cons_zero, List.set_cons_succ]
                      simp only [e2]
                      clear e2
                      go_wp2
                      exact ⟨rfl, Ext.refl _, rfl⟩
                    · intro vals w1 hx hd ha
                      have e3 : vals 3 = .pointer (some ⟨bs, os_ + ki * 6 + 5, none⟩) := hd 3 (by decide)
                      clear hd ha
                      simp only [Lf, dstAt, Act.put, List.getElem?_toArray, List.getElem?_cons_zero, List.getElem?_cons_succ, Option.bind_some, List.setIfInBounds_toArray, List.set_cons_zero, List.set_cons_succ]
                      simp only [e3]
                      clear e3
                      have e5 := ext_cell hx e5
                      go_wp2
                      exact ⟨rfl, Ext.refl _, rfl⟩
                    · intro vals w1 hx hd ha
                      clear hd ha
                      simp only [Lf, dstAt, Act.put, List.getElem?_toArray, List.getElem?_cons_zero, List.getElem?_cons_succ, Option.bind_some, List.setIfInBounds_toArray, List.set_cons_zero, List.set_cons_succ]
                      go_wp2
                      exact ⟨rfl, Ext.refl _, rfl⟩
                    · intro vals w1 hx hd ha
                      clear hd ha
                      simp only [Lf, dstAt, Act.put, List.getElem?_toArray, List.getElem?_cons_zero, List.getElem?_cons_succ, Option.bind_some, List.setIfInBounds_toArray, List.set_cons_zero, List.set_cons_succ]
                      go_wp2
                      exact ⟨rfl, Ext.refl _, rfl⟩
                    · intro vals w1 hx hd ha
                      have e5 : vals 5 = .slice (some ⟨bs, os_, none⟩) sn sc := hd 5 (by decide)
                      have e6 : vals 6 = .int .i64 (ki : Int) := hd 6 (by decide)
                      clear hd ha
                      simp only [Lf, dstAt, Act.put, List.getElem?_toArray, List.getElem?_cons_zero, List.getElem?_cons_succ, Option.bind_some, List.setIfInBounds_toArray, List.set_cons_zero, List.set_cons_succ]
                      simp only [e5, e6]
                      clear e5 e6
                      go_wp2
                      exact ⟨rfl, Ext.refl _, rfl⟩
                    · intro vals w1 hx hd ha
                      have e7 : vals 7 = .pointer (some ⟨bs, os_ + ki * 6, none⟩) := hd 7 (by decide)
                      clear hd ha
                      simp only [Lf, dstAt, Act.put, List.getElem?_toArray, List.getElem?_cons_zero, List.getElem?_cons_succ, Option.bind_some, List.setIfInBounds_toArray, List.set_cons_zero, List.set_cons_succ]
                      simp only [e7]
                      clear e7
                      go_wp2
                      exact ⟨rfl, Ext.refl _, rfl⟩
                    · intro vals w1 hx hd ha
                      have e8 : vals 8 = .pointer (some ⟨bs, os_ + ki * 6 + 5, none⟩) := hd 8 (by decide)
                      clear hd ha
                      simp only [Lf, dstAt, Act.put, List.getElem?_toArray, List.getElem?_cons_zero, List.getElem?_cons_succ, Option.bind_some, List.setIfInBounds_toArray, List.set_cons_zero, List.set_cons_succ]
                      simp only [e8]
                      clear e8
                      have e5 := ext_cell hx e5
                      go_wp2
                      exact ⟨rfl, Ext.refl _, rfl⟩
                    · intro vals w1 hx hd ha
                      have e9 : vals 9 = .int .i64 sk := hd 9 (by decide)
                      clear hd ha
                      simp only [Lf, dstAt, Act.put, List.getElem?_toArray, List.getElem?_cons_zero, List.getElem?_cons_succ, Option.bind_some, List.setIfInBounds_toArray, List.set_cons_zero, List.set_cons_succ]
                      simp only [e9]
                      clear e9
                      go_wp2
                      exact ⟨rfl, Ext.refl _, rfl⟩
                    · intro vals w1 hx hd ha
                      clear hd ha
                      simp only [Lf, dstAt, Act.put, List.getElem?_toArray, List.getElem?_cons_zero, List.getElem?_cons_succ, Option.bind_some, List.setIfInBounds_toArray, List.set_cons_zero, List.set_cons_succ]
                      go_wp2
                      exact ⟨rfl, Ext.refl _, rfl⟩
                    · intro vals w1 hx hd ha
                      clear hd ha
                      simp only [Lf, dstAt, Act.put, List.getElem?_toArray, List.getElem?_cons_zero, List.getElem?_cons_succ, Option.bind_some, List.setIfInBounds_toArray, List.set_cons_zero, List.set_cons_succ]
                      go_wp2
                      exact ⟨rfl, Ext.refl _, rfl⟩
                    · intro vals w1 hx hd ha
                      have e11 : vals 11 = .slice (some ⟨bg, og, none⟩) gn gc := hd 11 (by decide)
                      have e12 : vals 12 = .int .i64 (ki : Int) := hd 12 (by decide)
                      clear hd ha
                      simp only [Lf, dstAt, Act.put, List.getElem?_toArray, List.getElem?_cons_zero, List.getElem?_cons_succ, Option.bind_some, List.setIfInBounds_toArray, List.set_cons_zero, List.set_cons_succ]
                      simp only [e11, e12]
                      clear e11 e12
                      go_wp2
                      exact ⟨rfl, Ext.refl _, rfl⟩
                    · intro vals w1 hx hd ha
                      have e13 : vals 13 = .pointer (some ⟨bg, og + ki, none⟩) := hd 13 (by decide)
                      clear hd ha
                      simp only [Lf, dstAt, Act.put, List.getElem?_toArray, List.getElem?_cons_zero, List.getElem?_cons_succ, Option.bind_some, List.setIfInBounds_toArray, List.set_cons_zero, List.set_cons_succ]
                      simp only [e13]
                      clear e13
                      have w0 := ext_cell hx w0
                      go_wp2
                      exact ⟨rfl, Ext.refl _, rfl⟩
                    · intro vals w1 hx hd ha
                      have e10 : vals 10 = .int .i64 (-sk) := hd 10 (by decide)
                      have e14 : vals 14 = .int .i64 wv := hd 14 (by decide)
                      clear hd ha
                      simp only [Lf, dstAt, Act.put, List.getElem?_toArray, List.getElem?_cons_zero, List.getElem?_cons_succ, Option.bind_some, List.setIfInBounds_toArray, List.set_cons_zero, List.set_cons_succ]
                      simp only [e10]
                      simp only [e14]
                      clear e10 e14
                      go_wp2
                      all_goals exact ⟨rfl, Ext.refl _, by show Value.int _ _ = Value.int _ _; congr 1; omega⟩
                    · intro vals w1 hx hd ha
                      have e4 : vals 4 = .int .i64 sk := hd 4 (by decide)
                      have e15 : vals 15 = .int .i64 (max (-sk) wv) := hd 15 (by decide)
                      clear hd ha
                      simp only [Lf, dstAt, Act.put, List.getElem?_toArray, List.getElem?_cons_zero, List.getElem?_cons_succ, Option.bind_some, List.setIfInBounds_toArray, List.set_cons_zero, List.set_cons_succ]
                      simp only [e4]
                      simp only [e15]
                      clear e4 e15
                      go_wp2
                      all_goals exact ⟨rfl, Ext.refl _, by show Value.int _ _ = Value.int _ _; congr 1; omega⟩
                  intro vals Wc hyc hf
                  have v16 : vals 16 = .int .i64 (min sk (max (-sk) wv)) := hf 16 (by omega)
                  have hyc := hyc.undrew
                  have hbyb : -30 ≤ min sk (max (-sk) wv) ∧ min sk (max (-sk) wv) ≤ 30 := by omega
                  generalize min sk (max (-sk) wv) = byv at v16 HBY0 hbyb
                  have e0 := ext_cell hyc e0
                  clear hf w0 e5 hng
                  refine tail1 17 _ (by kernel_rfl) (by kernel_rfl) rfl ?_
                  simp only [Lf, dstAt, Act.put, List.getElem?_toArray, List.getElem?_cons_zero, List.getElem?_cons_succ, Option.bind_some, List.setIfInBounds_toArray, List.set_cons_zero, List.set_cons_succ]
                  rw [v16]
                  clear v16
                  go_upto_region 21 with (fail)
                  have f0 : Wc.cell? ⟨b, ob + k * 9, none⟩ = some (.int .i64 id) := ext_cell (Ext.trans hx8 hyc) HE0.out
                  have s2 : Wc.cell? ⟨g19, 2, none⟩ = some (.int .i64 stt) := (HJ19.out.ext hyc).cell 2
                  have hwr : IntKind.i64.wrap (stt + byv) = stt + byv := IntWalk.i64_in _ (by omega)
                  refine wp_region_obl 19 (fun ix vals v w1 => match ix with | 0 => v = .slice A1 rs.length c1 | 1 => v = .slice (some ⟨bs, os_, none⟩) sn sc | 2 => v = .int .i64 (ki : Int) | 3 => v = .pointer (some ⟨bs, os_ + ki * 6, none⟩) | 4 => v = .pointer (some ⟨bs, os_ + ki * 6, none⟩) | 5 => v = .int .i64 sid | 6 => v = .slice (some ⟨b, ob, none⟩) n c | 7 => v = .int .i64 (k : Int) | 8 => v = .pointer (some ⟨b, ob + k * 9, none⟩) | 9 => v = .pointer (some ⟨b, ob + k * 9, none⟩) | 10 => v = .int .i64 id | 11 => v = .pointer (some ⟨g19, 1, none⟩) | 12 => v = .pointer (some ⟨g19, 2, none⟩) | 13 => v = .int .i64 stt | 14 => v = .int .i64 byv | 15 => v = .int .i64 (stt + byv) | 16 => v = .int .i64 (max 0 (stt + byv)) | 17 => v = .agg #[.int .i64 sid, .int .i64 id, .int .i64 (max 0 (stt + byv))] | _ => ∃ gx, v = .slice (some ⟨gx, 0, none⟩) 1 1 ∧ Blk w1 gx 63 #[.int .i64 sid, .int .i64 id, .int .i64 (max 0 (stt + byv))]) (by kernel_rfl) (by kernel_rfl) ?_ ?_ ?_ ?_
                  · intro ix vals v w1 w2 hi hr hx
                    match ix, hr with
                    | 0, hr => exact hr
                    | 1, hr => exact hr
                    | 2, hr => exact hr
                    | 3, hr => exact hr
                    | 4, hr => exact hr
                    | 5, hr => exact hr
                    | 6, hr => exact hr
                    | 7, hr => exact hr
                    | 8, hr => exact hr
                    | 9, hr => exact hr
                    | 10, hr => exact hr
                    | 11, hr => exact hr
                    | 12, hr => exact hr
                    | 13, hr => exact hr
                    | 14, hr => exact hr
                    | 15, hr => exact hr
                    | 16, hr => exact hr
                    | 17, hr => exact hr
                    | (kx + 18), hr => obtain ⟨gx, h1, h2⟩ := hr; exact ⟨gx, h1, h2.ext hx⟩
                  · intro ix vals vals_ v w1 hi hv hr
                    exact hr
                  · refine ⟨?_, ?_, ?_, ?_, ?_, ?_, ?_, ?_, ?_, ?_, ?_, ?_, ?_, ?_, ?_, ?_, ?_, ?_, ?_, trivial⟩
                    · intro vals w1 hx hd ha
                      clear hd ha
                      simp only [Lf]
                      go_wp2
                      exact ⟨rfl, Ext.refl _, rfl⟩
                    · intro vals w1 hx hd ha
                      clear hd ha
                      simp only [Lf, dstAt, Act.put, List.getElem?_toArray, List.getElem?_cons_zero, Option.bind_some, List.setIfInBounds_toArray, List.set_cons_zero, List.set_cons_succ]
                      go_wp2
                      exact ⟨rfl, Ext.refl _, rfl⟩
                    · intro vals w1 hx hd ha
                      clear hd ha
                      simp only [Lf, dstAt, Act.put, List.getElem?_toArray, List.getElem?_cons_zero, List.getElem?_cons_succ, Option.bind_some, List.setIfInBounds_toArray, List.set_cons_zero, List.set_cons_succ]
                      go_wp2
                      exact ⟨rfl, Ext.refl _, rfl⟩
                    · intro vals w1 hx hd ha
                      have e1 : vals 1 = .slice (some ⟨bs, os_, none⟩) sn sc := hd 1 (by decide)
                      have e2 : vals 2 = .int .i64 (ki : Int) := hd 2 (by decide)
                      clear hd ha
                      simp only [Lf, dstAt, Act.put, List.getElem?_toArray, List.getElem?_cons_zero, List.getElem?_cons_succ, Option.bind_some, List.setIfInBounds_toArray, List.set_cons_zero, List.set_cons_succ]
                      simp only [e1, e2]
                      clear e1 e2
                      go_wp2
                      exact ⟨rfl, Ext.refl _, rfl⟩
                    · intro vals w1 hx hd ha
                      have e3 : vals 3 = .pointer (some ⟨bs, os_ + ki * 6, none⟩) := hd 3 (by decide)
                      clear hd ha
                      simp only [Lf, dstAt, Act.put, List.getElem?_toArray, List.getElem?_cons_zero, List.getElem?_cons_succ, Option.bind_some, List.setIfInBounds_toArray, List.set_cons_zero, List.set_cons_succ]
                      simp only [e3]
                      clear e3
                      go_wp2
                      exact ⟨rfl, Ext.refl _, rfl⟩
                    · intro vals w1 hx hd ha
                      have e4 : vals 4 = .pointer (some ⟨bs, os_ + ki * 6, none⟩) := hd 4 (by decide)
                      clear hd ha
                      simp only [Lf, dstAt, Act.put, List.getElem?_toArray, List.getElem?_cons_zero, List.getElem?_cons_succ, Option.bind_some, List.setIfInBounds_toArray, List.set_cons_zero, List.set_cons_succ]
                      simp only [e4]
                      clear e4
                      have e0 := ext_cell hx e0
                      go_wp2
                      exact ⟨rfl, Ext.refl _, rfl⟩
                    · intro vals w1 hx hd ha
                      clear hd ha
                      simp only [Lf, dstAt, Act.put, List.getElem?_toArray, List.getElem?_cons_zero, List.getElem?_cons_succ, Option.bind_some, List.setIfInBounds_toArray, List.set_cons_zero, List.set_cons_succ]
                      go_wp2
                      exact ⟨rfl, Ext.refl _, rfl⟩
                    · intro vals w1 hx hd ha
                      clear hd ha
                      simp only [Lf, dstAt, Act.put, List.getElem?_toArray, List.getElem?_cons_zero, List.getElem?_cons_succ, Option.bind_some, List.setIfInBounds_toArray, List.set_cons_zero, List.set_cons_succ]
                      go_wp2
                      exact ⟨rfl, Ext.refl _, rfl⟩
                    · intro vals w1 hx hd ha
                      have e6 : vals 6 = .slice (some ⟨b, ob, none⟩) n c := hd 6 (by decide)
                      have e7 : vals 7 = .int .i64 (k : Int) := hd 7 (by decide)
                      clear hd ha
                      simp only [Lf, dstAt, Act.put, List.getElem?_toArray, List.getElem?_cons_zero, List.getElem?_cons_succ, Option.bind_some, List.setIfInBounds_toArray, List.set_cons_zero, List.set_cons_succ]
                      simp only [e6, e7]
                      clear e6 e7
                      go_wp2
                      exact ⟨rfl, Ext.refl _, rfl⟩
                    · intro vals w1 hx hd ha
                      have e8 : vals 8 = .pointer (some ⟨b, ob + k * 9, none⟩) := hd 8 (by decide)
                      clear hd ha
                      simp only [Lf, dstAt, Act.put, List.getElem?_toArray, List.getElem?_cons_zero, List.getElem?_cons_succ, Option.bind_some, List.setIfInBounds_toArray, List.set_cons_zero, List.set_cons_succ]
                      simp only [e8]
                      clear e8
                      go_wp2
                      exact ⟨rfl, Ext.refl _, rfl⟩
                    · intro vals w1 hx hd ha
                      have e9 : vals 9 = .pointer (some ⟨b, ob + k * 9, none⟩) := hd 9 (by decide)
                      clear hd ha
                      simp only [Lf, dstAt, Act.put, List.getElem?_toArray, List.getElem?_cons_zero, List.getElem?_cons_succ, Option.bind_some, List.setIfInBounds_toArray, List.set_cons_zero, List.set_cons_succ]
                      simp only [e9]
                      clear e9
                      have f0 := ext_cell hx f0
                      go_wp2
                      exact ⟨rfl, Ext.refl _, rfl⟩
                    · intro vals w1 hx hd ha
                      clear hd ha
                      simp only [Lf, dstAt, Act.put, List.getElem?_toArray, List.getElem?_cons_zero, List.getElem?_cons_succ, Option.bind_some, List.setIfInBounds_toArray, List.set_cons_zero, List.set_cons_succ]
                      go_wp2
                      exact ⟨rfl, Ext.refl _, rfl⟩
                    · intro vals w1 hx hd ha
                      have e11 : vals 11 = .pointer (some ⟨g19, 1, none⟩) := hd 11 (by decide)
                      clear hd ha
                      simp only [Lf, dstAt, Act.put, List.getElem?_toArray, List.getElem?_cons_zero, List.getElem?_cons_succ, Option.bind_some, List.setIfInBounds_toArray, List.set_cons_zero, List.set_cons_succ]
                      simp only [e11]
                      clear e11
                      go_wp2
                      exact ⟨rfl, Ext.refl _, rfl⟩
                    · intro vals w1 hx hd ha
                      have e12 : vals 12 = .pointer (some ⟨g19, 2, none⟩) := hd 12 (by decide)
                      clear hd ha
                      simp only [Lf, dstAt, Act.put, List.getElem?_toArray, List.getElem?_cons_zero, List.getElem?_cons_succ, Option.bind_some, List.setIfInBounds_toArray, List.set_cons_zero, List.set_cons_succ]
                      simp only [e12]
                      clear e12
                      have s2 := ext_cell hx s2
                      go_wp2
                      exact ⟨rfl, Ext.refl _, rfl⟩
                    · intro vals w1 hx hd ha
                      clear hd ha
                      simp only [Lf, dstAt, Act.put, List.getElem?_toArray, List.getElem?_cons_zero, List.getElem?_cons_succ, Option.bind_some, List.setIfInBounds_toArray, List.set_cons_zero, List.set_cons_succ]
                      go_wp2
                      exact ⟨rfl, Ext.refl _, rfl⟩
                    · intro vals w1 hx hd ha
                      have e13 : vals 13 = .int .i64 stt := hd 13 (by decide)
                      have e14 : vals 14 = .int .i64 byv := hd 14 (by decide)
                      clear hd ha
                      simp only [Lf, dstAt, Act.put, List.getElem?_toArray, List.getElem?_cons_zero, List.getElem?_cons_succ, Option.bind_some, List.setIfInBounds_toArray, List.set_cons_zero, List.set_cons_succ]
                      simp only [e13, e14]
                      clear e13 e14
                      go_wp2
                      exact ⟨rfl, Ext.refl _, rfl⟩
                    · intro vals w1 hx hd ha
                      have e15 : vals 15 = .int .i64 (stt + byv) := hd 15 (by decide)
                      clear hd ha
                      simp only [Lf, dstAt, Act.put, List.getElem?_toArray, List.getElem?_cons_zero, List.getElem?_cons_succ, Option.bind_some, List.setIfInBounds_toArray, List.set_cons_zero, List.set_cons_succ]
                      simp only [e15]
                      clear e15
                      go_wp2
                      all_goals exact ⟨rfl, Ext.refl _, by show Value.int _ _ = Value.int _ _; congr 1; omega⟩
                    · intro vals w1 hx hd ha
                      have e5 : vals 5 = .int .i64 sid := hd 5 (by decide)
                      have e10 : vals 10 = .int .i64 id := hd 10 (by decide)
                      have e16 : vals 16 = .int .i64 (max 0 (stt + byv)) := hd 16 (by decide)
                      clear hd ha
                      simp only [Lf, dstAt, Act.put, List.getElem?_toArray, List.getElem?_cons_zero, List.getElem?_cons_succ, Option.bind_some, List.setIfInBounds_toArray, List.set_cons_zero, List.set_cons_succ]
                      simp only [e5, e10, e16]
                      clear e5 e10 e16
                      go_wp2
                      exact ⟨rfl, Ext.refl _, rfl⟩
                    · intro vals w1 hx hd ha
                      have e17 : vals 17 = .agg #[.int .i64 sid, .int .i64 id, .int .i64 (max 0 (stt + byv))] := hd 17 (by decide)
                      clear hd ha
                      simp only [Lf, dstAt, Act.put, List.getElem?_toArray, List.getElem?_cons_zero, List.getElem?_cons_succ, Option.bind_some, List.setIfInBounds_toArray, List.set_cons_zero, List.set_cons_succ]
                      simp only [e17]
                      clear e17
                      go_wp2
                      exact ⟨rfl, (by repeat (first | exact Below.refl _ _ | assumption | refine Below.drew ?_ | refine below_drewN ?_ _ | refine bl_alloc ?_ _ | refine Below.setCell ?_ (by first | (simp; done) | omega | (simp; omega)) _ | refine bl_then ?_ (by assumption))), _, rfl, Blk.new _ _ _⟩
                  intro vals W9 hy9 hf9
                  have v0 : vals 0 = .slice A1 rs.length c1 := hf9 0 (by omega)
                  obtain ⟨gx, v18, jx⟩ : ∃ gx, vals 18 = .slice (some ⟨gx, 0, none⟩) 1 1 ∧ Blk W9 gx 63 #[.int .i64 sid, .int .i64 id, .int .i64 (max 0 (stt + byv))] := hf9 18 (by omega)
                  have hy9 := hy9.undrew
                  have hxA := Ext.trans hyc hy9
                  have hxB := Ext.trans hx8 hxA
                  obtain ⟨v10, WA, hrun, hgA, hrA⟩ := rcp_snoc 33 rs (.slice A1 rs.length c1) ⟨sid, id, max 0 (stt + byv)⟩ W1.heap.size gx jx (HR8.out.ext hxA) (by omega) (Below.size hxB)
                  have hxF : Ext W1 WA := hxB.grown hgA (Below.size hxB) (fun q e => (World.ownsRow.lt HR8.out q e).1)
                  have HNA := Lib.hid (show OwnNt WA W1.heap.size (.slice A2 NL.length c2) NL from own_other (HN8.out.ext hxA) (HR8.out.ext hxA) (by decide) hgA)
                  have HRA := Lib.hid hrA
                  have HRUN := Lib.hid hrun
                  have HBY : Hid (byv = byOf wrong ki sk) := Lib.hid HBY0.out
                  have HST2 : Hid (X = (match wrtL ps sts lost wrong (rs ++ [⟨sid, id, max 0 (stt + byv)⟩]) NL (os.drop (k + 1)) with | some x => (x, 0) | none => (([], []), 300))) := Lib.hid (by have h := HST.out; rw [HRC.out, ← HBY.out, ← HJ1.out, ← HNL.out] at h; exact h)
                  have HXF := Lib.hid hxF
                  have hnl9 : NL.length ≤ 6 * (k + 1) := by rw [HNL.out, List.length_append, ntsTo_len]; omega
                  have HNL9 := Lib.hid hnl9
                  clear hf9 hy9 hxA hxB jx hrun hgA hrA hxF hwr f0 s2 e0 hnl9 HR8 HN8
                  refine tailF 19 _ _ 1 (by kernel_rfl) rfl ?_ (fun a w q => tail1 20 _ (by kernel_rfl) (by kernel_rfl) rfl q)
                  simp only [Lf, dstAt, Act.put, List.getElem?_toArray, List.getElem?_cons_zero, List.getElem?_cons_succ, Option.bind_some, List.setIfInBounds_toArray, List.set_cons_zero, List.set_cons_succ]
                  rw [v0, v18]
                  clear v0 v18
                  refine wpList_append_run_ rfl _ _ _ rfl rfl rfl HRUN.out ?_
                  go_wp2_with fail
                  go_roundw
                  case rel => exact ⟨k + 1, rs ++ [_], _, by omega, by go_num, HST2, HRA, HNA, by simp; omega, HNL9.out, HXF.out⟩
                  case measure => simp [intOf]; omega
                · have HBY0 : Hid ((0 : Int) = byOf wrong ki sk) := Lib.hid (by unfold byOf; rw [if_neg (by rw [HG1.out.len]; exact hkg)])
                  have hkg2 : ¬ (ki : Int) < (gn : Int) := by omega
                  have hkn2 : (ki : Int) < (sn : Int) := by omega
                  clear e5
                  go_upto_region 21 with (fail)
                  have f0 : W8.cell? ⟨b, ob + k * 9, none⟩ = some (.int .i64 id) := ext_cell (Ext.trans hx8 HW8.out) HE0.out
                  have s2 : W8.cell? ⟨g19, 2, none⟩ = some (.int .i64 stt) := (HJ19.out.ext HW8.out).cell 2
                  have hwr : IntKind.i64.wrap (stt + (0 : Int)) = stt + (0 : Int) := IntWalk.i64_in _ (by omega)
                  refine wp_region_obl 19 (fun ix vals v w1 => match ix with | 0 => v = .slice A1 rs.length c1 | 1 => v = .slice (some ⟨bs, os_, none⟩) sn sc | 2 => v = .int .i64 (ki : Int) | 3 => v = .pointer (some ⟨bs, os_ + ki * 6, none⟩) | 4 => v = .pointer (some ⟨bs, os_ + ki * 6, none⟩) | 5 => v = .int .i64 sid | 6 => v = .slice (some ⟨b, ob, none⟩) n c | 7 => v = .int .i64 (k : Int) | 8 => v = .pointer (some ⟨b, ob + k * 9, none⟩) | 9 => v = .pointer (some ⟨b, ob + k * 9, none⟩) | 10 => v = .int .i64 id | 11 => v = .pointer (some ⟨g19, 1, none⟩) | 12 => v = .pointer (some ⟨g19, 2, none⟩) | 13 => v = .int .i64 stt | 14 => v = .int .i64 (0 : Int) | 15 => v = .int .i64 (stt + (0 : Int)) | 16 => v = .int .i64 (max 0 (stt + (0 : Int))) | 17 => v = .agg #[.int .i64 sid, .int .i64 id, .int .i64 (max 0 (stt + (0 : Int)))] | _ => ∃ gx, v = .slice (some ⟨gx, 0, none⟩) 1 1 ∧ Blk w1 gx 63 #[.int .i64 sid, .int .i64 id, .int .i64 (max 0 (stt + (0 : Int)))]) (by kernel_rfl) (by kernel_rfl) ?_ ?_ ?_ ?_
                  · intro ix vals v w1 w2 hi hr hx
                    match ix, hr with
                    | 0, hr => exact hr
                    | 1, hr => exact hr
                    | 2, hr => exact hr
                    | 3, hr => exact hr
                    | 4, hr => exact hr
                    | 5, hr => exact hr
                    | 6, hr => exact hr
                    | 7, hr => exact hr
                    | 8, hr => exact hr
                    | 9, hr => exact hr
                    | 10, hr => exact hr
                    | 11, hr => exact hr
                    | 12, hr => exact hr
                    | 13, hr => exact hr
                    | 14, hr => exact hr
                    | 15, hr => exact hr
                    | 16, hr => exact hr
                    | 17, hr => exact hr
                    | (kx + 18), hr => obtain ⟨gx, h1, h2⟩ := hr; exact ⟨gx, h1, h2.ext hx⟩
                  · intro ix vals vals_ v w1 hi hv hr
                    exact hr
                  · refine ⟨?_, ?_, ?_, ?_, ?_, ?_, ?_, ?_, ?_, ?_, ?_, ?_, ?_, ?_, ?_, ?_, ?_, ?_, ?_, trivial⟩
                    · intro vals w1 hx hd ha
                      clear hd ha
                      simp only [Lf]
                      go_wp2
                      exact ⟨rfl, Ext.refl _, rfl⟩
                    · intro vals w1 hx hd ha
                      clear hd ha
                      simp only [Lf, dstAt, Act.put, List.getElem?_toArray, List.getElem?_cons_zero, Option.bind_some, List.setIfInBounds_toArray, List.set_cons_zero, List.set_cons_succ]
                      go_wp2
                      exact ⟨rfl, Ext.refl _, rfl⟩
                    · intro vals w1 hx hd ha
                      clear hd ha
                      simp only [Lf, dstAt, Act.put, List.getElem?_toArray, List.getElem?_cons_zero, List.getElem?_cons_succ, Option.bind_some, List.setIfInBounds_toArray, List.set_cons_zero, List.set_cons_succ]
                      go_wp2
                      exact ⟨rfl, Ext.refl _, rfl⟩
                    · intro vals w1 hx hd ha
                      have e1 : vals 1 = .slice (some ⟨bs, os_, none⟩) sn sc := hd 1 (by decide)
                      have e2 : vals 2 = .int .i64 (ki : Int) := hd 2 (by decide)
                      clear hd ha
                      simp only [Lf, dstAt, Act.put, List.getElem?_toArray, List.getElem?_cons_zero, List.getElem?_cons_succ, Option.bind_some, List.setIfInBounds_toArray, List.set_cons_zero, List.set_cons_succ]
                      simp only [e1, e2]
                      clear e1 e2
                      go_wp2
                      exact ⟨rfl, Ext.refl _, rfl⟩
                    · intro vals w1 hx hd ha
                      have e3 : vals 3 = .pointer (some ⟨bs, os_ + ki * 6, none⟩) := hd 3 (by decide)
                      clear hd ha
                      simp only [Lf, dstAt, Act.put, List.getElem?_toArray, List.getElem?_cons_zero, List.getElem?_cons_succ, Option.bind_some, List.setIfInBounds_toArray, List.set_cons_zero, List.set_cons_succ]
                      simp only [e3]
                      clear e3
                      go_wp2
                      exact ⟨rfl, Ext.refl _, rfl⟩
                    · intro vals w1 hx hd ha
                      have e4 : vals 4 = .pointer (some ⟨bs, os_ + ki * 6, none⟩) := hd 4 (by decide)
                      clear hd ha
                      simp only [Lf, dstAt, Act.put, List.getElem?_toArray, List.getElem?_cons_zero, List.getElem?_cons_succ, Option.bind_some, List.setIfInBounds_toArray, List.set_cons_zero, List.set_cons_succ]
                      simp only [e4]
                      clear e4
                      have e0 := ext_cell hx e0
                      go_wp2
                      exact ⟨rfl, Ext.refl _, rfl⟩
                    · intro vals w1 hx hd ha
                      clear hd ha
                      simp only [Lf, dstAt, Act.put, List.getElem?_toArray, List.getElem?_cons_zero, List.getElem?_cons_succ, Option.bind_some, List.setIfInBounds_toArray, List.set_cons_zero, List.set_cons_succ]
                      go_wp2
                      exact ⟨rfl, Ext.refl _, rfl⟩
                    · intro vals w1 hx hd ha
                      clear hd ha
                      simp only [Lf, dstAt, Act.put, List.getElem?_toArray, List.getElem?_cons_zero, List.getElem?_cons_succ, Option.bind_some, List.setIfInBounds_toArray, List.set_cons_zero, List.set_cons_succ]
                      go_wp2
                      exact ⟨rfl, Ext.refl _, rfl⟩
                    · intro vals w1 hx hd ha
                      have e6 : vals 6 = .slice (some ⟨b, ob, none⟩) n c := hd 6 (by decide)
                      have e7 : vals 7 = .int .i64 (k : Int) := hd 7 (by decide)
                      clear hd ha
                      simp only [Lf, dstAt, Act.put, List.getElem?_toArray, List.getElem?_cons_zero, List.getElem?_cons_succ, Option.bind_some, List.setIfInBounds_toArray, List.set_cons_zero, List.set_cons_succ]
                      simp only [e6, e7]
                      clear e6 e7
                      go_wp2
                      exact ⟨rfl, Ext.refl _, rfl⟩
                    · intro vals w1 hx hd ha
                      have e8 : vals 8 = .pointer (some ⟨b, ob + k * 9, none⟩) := hd 8 (by decide)
                      clear hd ha
                      simp only [Lf, dstAt, Act.put, List.getElem?_toArray, List.getElem?_cons_zero, List.getElem?_cons_succ, Option.bind_some, List.setIfInBounds_toArray, List.set_cons_zero, List.set_cons_succ]
                      simp only [e8]
                      clear e8
                      go_wp2
                      exact ⟨rfl, Ext.refl _, rfl⟩
                    · intro vals w1 hx hd ha
                      have e9 : vals 9 = .pointer (some ⟨b, ob + k * 9, none⟩) := hd 9 (by decide)
                      clear hd ha
                      simp only [Lf, dstAt, Act.put, List.getElem?_toArray, List.getElem?_cons_zero, List.getElem?_cons_succ, Option.bind_some, List.setIfInBounds_toArray, List.set_cons_zero, List.set_cons_succ]
                      simp only [e9]
                      clear e9
                      have f0 := ext_cell hx f0
                      go_wp2
                      exact ⟨rfl, Ext.refl _, rfl⟩
                    · intro vals w1 hx hd ha
                      clear hd ha
                      simp only [Lf, dstAt, Act.put, List.getElem?_toArray, List.getElem?_cons_zero, List.getElem?_cons_succ, Option.bind_some, List.setIfInBounds_toArray, List.set_cons_zero, List.set_cons_succ]
                      go_wp2
                      exact ⟨rfl, Ext.refl _, rfl⟩
                    · intro vals w1 hx hd ha
                      have e11 : vals 11 = .pointer (some ⟨g19, 1, none⟩) := hd 11 (by decide)
                      clear hd ha
                      simp only [Lf, dstAt, Act.put, List.getElem?_toArray, List.getElem?_cons_zero, List.getElem?_cons_succ, Option.bind_some, List.setIfInBounds_toArray, List.set_cons_zero, List.set_cons_succ]
                      simp only [e11]
                      clear e11
                      go_wp2
                      exact ⟨rfl, Ext.refl _, rfl⟩
                    · intro vals w1 hx hd ha
                      have e12 : vals 12 = .pointer (some ⟨g19, 2, none⟩) := hd 12 (by decide)
                      clear hd ha
                      simp only [Lf, dstAt, Act.put, List.getElem?_toArray, List.getElem?_cons_zero, List.getElem?_cons_succ, Option.bind_some, List.setIfInBounds_toArray, List.set_cons_zero, List.set_cons_succ]
                      simp only [e12]
                      clear e12
                      have s2 := ext_cell hx s2
                      go_wp2
                      exact ⟨rfl, Ext.refl _, rfl⟩
                    · intro vals w1 hx hd ha
                      clear hd ha
                      simp only [Lf, dstAt, Act.put, List.getElem?_toArray, List.getElem?_cons_zero, List.getElem?_cons_succ, Option.bind_some, List.setIfInBounds_toArray, List.set_cons_zero, List.set_cons_succ]
                      go_wp2
                      exact ⟨rfl, Ext.refl _, rfl⟩
                    · intro vals w1 hx hd ha
                      have e13 : vals 13 = .int .i64 stt := hd 13 (by decide)
                      have e14 : vals 14 = .int .i64 (0 : Int) := hd 14 (by decide)
                      clear hd ha
                      simp only [Lf, dstAt, Act.put, List.getElem?_toArray, List.getElem?_cons_zero, List.getElem?_cons_succ, Option.bind_some, List.setIfInBounds_toArray, List.set_cons_zero, List.set_cons_succ]
                      simp only [e13, e14]
                      clear e13 e14
                      go_wp2
                      exact ⟨rfl, Ext.refl _, rfl⟩
                    · intro vals w1 hx hd ha
                      have e15 : vals 15 = .int .i64 (stt + (0 : Int)) := hd 15 (by decide)
                      clear hd ha
                      simp only [Lf, dstAt, Act.put, List.getElem?_toArray, List.getElem?_cons_zero, List.getElem?_cons_succ, Option.bind_some, List.setIfInBounds_toArray, List.set_cons_zero, List.set_cons_succ]
                      simp only [e15]
                      clear e15
                      go_wp2
                      all_goals exact ⟨rfl, Ext.refl _, by show Value.int _ _ = Value.int _ _; congr 1; omega⟩
                    · intro vals w1 hx hd ha
                      have e5 : vals 5 = .int .i64 sid := hd 5 (by decide)
                      have e10 : vals 10 = .int .i64 id := hd 10 (by decide)
                      have e16 : vals 16 = .int .i64 (max 0 (stt + (0 : Int))) := hd 16 (by decide)
                      clear hd ha
                      simp only [Lf, dstAt, Act.put, List.getElem?_toArray, List.getElem?_cons_zero, List.getElem?_cons_succ, Option.bind_some, List.setIfInBounds_toArray, List.set_cons_zero, List.set_cons_succ]
                      simp only [e5, e10, e16]
                      clear e5 e10 e16
                      go_wp2
                      exact ⟨rfl, Ext.refl _, rfl⟩
                    · intro vals w1 hx hd ha
                      have e17 : vals 17 = .agg #[.int .i64 sid, .int .i64 id, .int .i64 (max 0 (stt + (0 : Int)))] := hd 17 (by decide)
                      clear hd ha
                      simp only [Lf, dstAt, Act.put, List.getElem?_toArray, List.getElem?_cons_zero, List.getElem?_cons_succ, Option.bind_some, List.setIfInBounds_toArray, List.set_cons_zero, List.set_cons_succ]
                      simp only [e17]
                      clear e17
                      go_wp2
                      exact ⟨rfl, (by repeat (first | exact Below.refl _ _ | assumption | refine Below.drew ?_ | refine below_drewN ?_ _ | refine bl_alloc ?_ _ | refine Below.setCell ?_ (by first | (simp; done) | omega | (simp; omega)) _ | refine bl_then ?_ (by assumption))), _, rfl, Blk.new _ _ _⟩
                  intro vals W9 hy9 hf9
                  have v0 : vals 0 = .slice A1 rs.length c1 := hf9 0 (by omega)
                  obtain ⟨gx, v18, jx⟩ : ∃ gx, vals 18 = .slice (some ⟨gx, 0, none⟩) 1 1 ∧ Blk W9 gx 63 #[.int .i64 sid, .int .i64 id, .int .i64 (max 0 (stt + (0 : Int)))] := hf9 18 (by omega)
                  have hy9 := hy9.undrew
                  have hxA := Ext.trans HW8.out hy9
                  have hxB := Ext.trans hx8 hxA
                  obtain ⟨v10, WA, hrun, hgA, hrA⟩ := rcp_snoc 33 rs (.slice A1 rs.length c1) ⟨sid, id, max 0 (stt + (0 : Int))⟩ W1.heap.size gx jx (HR8.out.ext hxA) (by omega) (Below.size hxB)
                  have hxF : Ext W1 WA := hxB.grown hgA (Below.size hxB) (fun q e => (World.ownsRow.lt HR8.out q e).1)
                  have HNA := Lib.hid (show OwnNt WA W1.heap.size (.slice A2 NL.length c2) NL from own_other (HN8.out.ext hxA) (HR8.out.ext hxA) (by decide) hgA)
                  have HRA := Lib.hid hrA
                  have HRUN := Lib.hid hrun
                  have HBY : Hid ((0 : Int) = byOf wrong ki sk) := Lib.hid HBY0.out
                  have HST2 : Hid (X = (match wrtL ps sts lost wrong (rs ++ [⟨sid, id, max 0 (stt + (0 : Int))⟩]) NL (os.drop (k + 1)) with | some x => (x, 0) | none => (([], []), 300))) := Lib.hid (by have h := HST.out; rw [HRC.out, ← HBY.out, ← HJ1.out, ← HNL.out] at h; exact h)
                  have HXF := Lib.hid hxF
                  have hnl9 : NL.length ≤ 6 * (k + 1) := by rw [HNL.out, List.length_append, ntsTo_len]; omega
                  have HNL9 := Lib.hid hnl9
                  clear hf9 hy9 hxA hxB jx hrun hgA hrA hxF hwr f0 s2 e0 hnl9 HR8 HN8
                  refine tailF 19 _ _ 1 (by kernel_rfl) rfl ?_ (fun a w q => tail1 20 _ (by kernel_rfl) (by kernel_rfl) rfl q)
                  simp only [Lf, dstAt, Act.put, List.getElem?_toArray, List.getElem?_cons_zero, List.getElem?_cons_succ, Option.bind_some, List.setIfInBounds_toArray, List.set_cons_zero, List.set_cons_succ]
                  rw [v0, v18]
                  clear v0 v18
                  refine wpList_append_run_ rfl _ _ _ rfl rfl rfl HRUN.out ?_
                  go_wp2_with fail
                  go_roundw
                  case rel => exact ⟨k + 1, rs ++ [_], _, by omega, by go_num, HST2, HRA, HNA, by simp; omega, HNL9.out, HXF.out⟩
                  case measure => simp [intOf]; omega
          · have hzz : z = -1 := by omega
            subst hzz
            rw [if_neg (by omega)] at hst
            have hnt : ntsOf id (-1) l.length = ntsTo id (-1) l.length := rfl
            rw [hnt] at hst
            have HST := Lib.hid hst
            clear hst hnt hzb hz0
            go_wp2_with fail
            go_loopw [14, 18] (fun y i_ wr => ∃ j : Nat, j ≤ m ∧ i_ = .int .i64 j ∧ Hid (OwnNt wr W1.heap.size y (ns ++ ntsTo id (-1) j)) ∧ Hid (OwnRc wr W1.heap.size (.slice A1 rs.length c1) rs) ∧ Ext W1 wr) (fun _ i_ _ => m + 1 - (intOf i_).toNat)
            case atStart => exact ⟨0, Nat.zero_le _, rfl, Lib.hid (by have h := HN3.out; rw [← List.append_nil ns] at h; simpa [ntsTo] using h), HR3, hx3⟩
            case round =>
              clear HN3 HR3 hx3 e7 e7'
              obtain ⟨j, hj, rfl, HNj, HRj, hxj⟩ := hrel
              obtain ⟨NL, hNL⟩ : ∃ NL, NL = ns ++ ntsTo id (-1) j := ⟨_, rfl⟩
              rw [← hNL] at HNj
              have HNL := Lib.hid hNL
              obtain ⟨A2, c2, hv2, _, _⟩ := own_slice HNj.out
              subst hv2
              have f0 : wr.cell? ⟨b, ob + k * 9, none⟩ = some (.int .i64 id) := ext_cell hxj HE0.out
              have f7 : wr.cell? ⟨b, ob + k * 9 + 8, none⟩ = some (.slice a m d) := ext_cell hxj HE7.out
              have f7' : wr.cell? ⟨b, ob + k * 9 + (7 + 1), none⟩ = some (.slice a m d) := f7
              clear hNL
              by_cases hjm : j < m
              · have hjm' : (j : Int) < (m : Int) := by omega
                have hjb : decide ((j : Int) < (m : Int)) = true := decide_eq_true hjm'
                have hq1 : ((j : Int) == -1) = false := by simp
                have hq2 : ¬ (j : Int) = -1 := by omega
                have HQ : Hid ((⟨id, j, decide ((j : Int) = -1)⟩ : Nte) = ⟨id, j, false⟩) := Lib.hid (by rw [decide_eq_false hq2])
                have hxa : Ext wr (wr.alloc (.cells #[.int .i64 id, .int .i64 (j : Int), .bool false] 89)) := bl_alloc (Below.refl _ _) _
                have hxw := Ext.trans hxj hxa
                obtain ⟨v7, W7, hrun, hg7, hn7⟩ := nte_snoc 34 NL (.slice A2 NL.length c2) ⟨id, j, false⟩ W1.heap.size wr.heap.size (Blk.new _ _ _) (HNj.out.ext hxa) (by rw [HNL.out, List.length_append, ntsTo_len]; omega) (Below.size hxw)
                have hx7 : Ext W1 W7 := hxw.grown hg7 (Below.size hxw) (fun q e => (World.ownsRow.lt HNj.out q e).1)
                have HR7 := Lib.hid (show OwnRc W7 W1.heap.size (.slice A1 rs.length c1) rs from own_other (HRj.out.ext hxa) (HNj.out.ext hxa) (by decide) hg7)
                have HRUN := Lib.hid hrun
                have HN7 : Hid (OwnNt W7 W1.heap.size v7 (ns ++ ntsTo id (-1) (j + 1))) := Lib.hid (by rw [ntsTo_succ, ← List.append_assoc, HQ.out, ← HNL.out]; exact hn7)
                clear hrun hg7 hn7 hxw hxa
                go_upto_region 14 with (fail)
                clear f7 f7'
                go_wp2_with (refine wpList_append_run_ rfl _ _ _ rfl rfl rfl HRUN.out ?_)
                go_roundw
                case rel => exact ⟨j + 1, by omega, by go_num, HN7, HR7, hx7⟩
                case measure => simp [intOf]; omega
              · obtain rfl : j = m := by omega
                have hjb : decide ((j : Int) < (j : Int)) = false := decide_eq_false (by omega)
                have HNF : Hid (OwnNt wr W1.heap.size (.slice A2 NL.length c2) (ns ++ ntsTo id (-1) l.length)) := Lib.hid (by rw [HML.out, ← HNL.out]; exact HNj.out)
                clear HNj
                go_wp2_with fail
                go_roundw
                case rel => exact ⟨k + 1, rs, _, by omega, by go_num, HST, HRj, HNF, by omega, by rw [List.length_append, ntsTo_len, HML.out]; omega, hxj⟩
                case measure => simp [intOf]; omega
      · have hst := HXV.out
        rw [List.drop_of_length_le (by rw [HO1.out.out.len]; omega), wrtL] at hst
        dsimp only at hst
        have HST := Lib.hid hst
        have HB := Lib.hid (Below.size HW.out)
        have HXF := Lib.hid (Ext.trans HW.out hx)
        clear hst HXV hx
        go_wp2_with fail
        exact bodyPost_ret (v := .tuple #[.slice A1 rs.length c1, .slice A2 ns.length c2, .int .i64 0]) (by simp [results, Try.results27, go_sem]) rfl ⟨_, _, by rw [HST.out], by rw [HST.out]; exact own_base HR.out HB.out, by rw [HST.out]; exact own_base HNt.out HB.out, HXF.out⟩
  · have hVf : validP os ps sts = false := by simpa using hV
    rw [hVf]
    have hXe : X = (([], []), 300) := by rw [HX.out]; unfold wrtV; rw [hVf]; rfl
    clear hV hVf HX
    have HXE := Lib.hid hXe
    clear hXe
    go_wp2
    exact bodyPost_ret (v := .tuple #[.slice none 0 0, .slice none 0 0, .int .i64 300]) (by simp [results, Try.results27, go_sem]) rfl ⟨_, _, by rw [HXE.out], by rw [HXE.out]; exact World.ownsRow_nil _ _ _ _, by rw [HXE.out]; exact World.ownsRow_nil _ _ _ _, hx⟩
end Go.Proofs.Ytmlabgmigakcbaa
namespace Go.Proofs.Ytmlabgmigakcbaa
open Go.ChangeShapes Go.WideShapes Go.ChangeAt Go.RowKit Go.Deep

section
variable {H : Type} {enc : TypeId × Value → H} {W : World} {base : Nat} {spare : Nat → Bool} {held : Bool}
/-- What is read of this type are integers, cell by cell. -/
def AllInt (enc : TypeId × Value → H) (W : World) (base : Nat) (spare : Nat → Bool) (held : Bool) (t : TypeId) : Prop := ∀ (n : Nat) (cs : List Value) (x : DataW H × List MemPlace), DataW.trod enc Try.prog W base spare held n t cs = some x →
  cs.length = Try.prog.cellsOf t ∧ ∀ (j : Nat) (v : Value), cs[j]? = some v → ∃ a : Int, v = .int .i64 a ∧ I64ok a
theorem allInt_int : AllInt enc W base spare held 3 := by
  intro n cs x h
  obtain ⟨a, rfl, _, wa⟩ := DataW.trod_int Try.underlying3 h
  refine ⟨by kernel_rfl, fun j v hv => ?_⟩
  match j, hv with
  | 0, hv => exact ⟨a, by simpa using hv.symm, i64_of_wf wa⟩
  | j + 1, hv => simp at hv
theorem allInt_struct {t : TypeId} {fs : Array Field} (hs : Try.prog.underlying t = some (.struct fs)) (hf : ∀ (j : Nat) (f : Field), fs[j]? = some f → AllInt enc W base spare held f.type)
    (hc : ((List.range (Try.prog.cellsOf t)).all fun i => fs.toList.any fun f => decide (f.offset ≤ i) && decide (i < f.offset + Try.prog.cellsOf f.type)) = true) : AllInt enc W base spare held t := by
  intro n cs x h
  obtain ⟨xs, m, _, _, hlen, hxl, hg⟩ := DataW.trod_struct hs h
  refine ⟨hlen, fun j v hv => ?_⟩
  have hj : j < cs.length := by
    rcases Nat.lt_or_ge j cs.length with e | e
    · exact e
    · rw [List.getElem?_eq_none e] at hv; cases hv
  rw [List.all_eq_true] at hc
  have h1 := hc j (by rw [List.mem_range, ← hlen]; exact hj)
  rw [List.any_eq_true] at h1
  obtain ⟨f, hfm, h2⟩ := h1
  rw [Bool.and_eq_true, decide_eq_true_eq, decide_eq_true_eq] at h2
  obtain ⟨k, hk, rfl⟩ := List.mem_iff_getElem.1 hfm
  have hk2 : fs[k]? = some fs.toList[k] := by rw [← Array.getElem?_toList, List.getElem?_eq_getElem hk]
  have h3 := hg k _ hk2
  have hkx : k < xs.length := by rw [hxl]; simpa using hk
  rw [List.getElem?_eq_getElem hkx] at h3
  refine (hf k _ hk2 _ _ _ h3).2 (j - fs.toList[k].offset) v ?_
  rw [List.getElem?_take, if_pos (by omega), List.getElem?_drop, show fs.toList[k].offset + (j - fs.toList[k].offset) = j by omega]
  exact hv
theorem AllInt.ints {t : TypeId} (h : AllInt enc W base spare held t) {n : Nat} {cs : List Value} {x : DataW H × List MemPlace} (hx : DataW.trod enc Try.prog W base spare held n t cs = some x) : ∃ zs : List Int, zs.length = Try.prog.cellsOf t ∧ cs = zs.map (Value.int .i64) ∧ ∀ z ∈ zs, I64ok z := by
  obtain ⟨hl, hg⟩ := h n cs x hx
  rw [← hl]
  clear hl hx
  induction cs with
  | nil => exact ⟨[], rfl, rfl, by simp⟩
  | cons c r ih =>
    obtain ⟨zs, h1, h2, h3⟩ := ih (fun j v hv => hg (j + 1) v (by simpa using hv))
    obtain ⟨a, h4, h5⟩ := hg 0 c rfl
    exact ⟨a :: zs, by simp [h1], by simp [h2, h4], by intro z hz; rcases List.mem_cons.1 hz with rfl | hz; exact h5; exact h3 z hz⟩
theorem two_types {fs : Array Field} {P : TypeId → Prop} {t1 t2 : TypeId} (h : (fs.toList.all fun f => f.type == t1 || f.type == t2) = true) (h1 : P t1) (h2 : P t2) (j : Nat) (f : Field) (hj : fs[j]? = some f) : P f.type := by
  rw [List.all_eq_true] at h
  have hm : f ∈ fs.toList := by rw [← Array.getElem?_toList] at hj; exact List.mem_of_getElem? hj
  have := h f hm
  rw [Bool.or_eq_true, beq_iff_eq, beq_iff_eq] at this
  rcases this with e | e
  · rw [e]; exact h1
  · rw [e]; exact h2
theorem allInt_Spell : AllInt enc W base spare held 29 := allInt_struct Try.underlying29 (two_types (t1 := 3) (t2 := 3) (by kernel_rfl) allInt_int allInt_int) (by kernel_rfl)
theorem allInt_Slot : AllInt enc W base spare held 78 := allInt_struct Try.underlying78 (two_types (t1 := 3) (t2 := 29) (by kernel_rfl) allInt_int allInt_Spell) (by kernel_rfl)
theorem allInt_Rcp : AllInt enc W base spare held 63 := allInt_struct Try.underlying63 (two_types (t1 := 3) (t2 := 3) (by kernel_rfl) allInt_int allInt_int) (by kernel_rfl)
set_option maxRecDepth 100000 in
theorem open_Case_nil {c : Cas} {d : DataW H} {p : List MemPlace} (h : DataW.Trod enc Try.prog W base spare held 27 (casV c) d p) : c.wa = none → c.wc = 0 := by
  obtain ⟨fuel, hf⟩ := h
  obtain ⟨xs, m, _, _, hlen, hxl, hg⟩ := DataW.trod_struct Try.underlying27 hf
  have hcw : Try.prog.cellsOf 25 = 1 := by kernel_rfl
  have g4 : DataW.trod enc Try.prog W base spare held m 25 (((casV c).cells.toList.drop 6).take (Try.prog.cellsOf 25)) = xs[4]? := hg 4 _ rfl
  rw [hcw] at g4
  match xs, hxl with
  | [y0, y1, y2, y3, y4], _ =>
    have g5 : DataW.trod enc Try.prog W base spare held m 25 [.slice c.wa c.wn c.wc] = some y4 := g4
    obtain ⟨wa, wn, wc, e, wr, _, h2, _⟩ := open_rows (cells := intCells) (s := 1) Try.underlying25 (by kernel_rfl) (fun _ => rfl) (by decide) (fun _ _ _ h => open_Int h) g5
    injection e with e1 e2 e3
    rw [e1, e3]
    exact h2
theorem open_Slt {n : Nat} {cs : List Value} {x : DataW H × List MemPlace} (h : DataW.trod enc Try.prog W base spare held n 78 cs = some x) : ∃ q : Slt, True ∧ cs = sltCells q := by
  obtain ⟨zs, h1, h2, h3⟩ := allInt_Slot.ints h
  have hc : Try.prog.cellsOf 78 = 3 := by kernel_rfl
  rw [hc] at h1
  match zs, h1 with
  | [a, b, c], _ => exact ⟨⟨a, b, c⟩, trivial, h2⟩
theorem open_Rcp {n : Nat} {cs : List Value} {x : DataW H × List MemPlace} (h : DataW.trod enc Try.prog W base spare held n 63 cs = some x) : ∃ q : Rcp, True ∧ cs = rcpCells q := by
  obtain ⟨zs, h1, h2, h3⟩ := allInt_Rcp.ints h
  have hc : Try.prog.cellsOf 63 = 3 := by kernel_rfl
  rw [hc] at h1
  match zs, h1 with
  | [a, b, c], _ => exact ⟨⟨a, b, c⟩, trivial, h2⟩
theorem open_Rcps {A : Option Addr} {n c : Nat} {d : DataW H} {p : List MemPlace} (h : DataW.Trod enc Try.prog W base spare held 33 (.slice A n c) d p) : ∃ xs, RA rcpCells 3 W W.heap.size A n c xs ∧ (A = none → c = 0) := by
  obtain ⟨fuel, hf⟩ := h
  obtain ⟨A', n', c', e, xs, h1, h2, h3⟩ := open_rows (cells := rcpCells) (s := 3) Try.underlying33 (by kernel_rfl) (fun _ => rfl) (by decide) (fun _ _ _ h => open_Rcp h) hf
  injection e with e1 e2 e3
  subst e1 e2 e3
  exact ⟨xs, h1, h2⟩
/-- An option with slots that can be read. -/
structure OptR (W : World) (o : Opt) : Prop where
  sl : RA sltCells 3 W W.heap.size o.a o.n o.c o.l
  nil_ : o.a = none → o.c = 0
theorem OptR.ext {W W' : World} {o : Opt} (h : OptR W o) (hx : Ext W W') : OptR W' o := ⟨ra_ext h.sl hx, h.nil_⟩
set_option maxRecDepth 100000 in
theorem open_Opt {v : Value} {d : DataW H} {p : List MemPlace} {r : Reach} {b0 : Nat} (hv : Value.okWide Try.prog W r b0 32 v) (h : DataW.Trod enc Try.prog W base spare held 32 v d p) : ∃ o : Opt, v = .agg (optCells o).toArray ∧ OptR W o := by
  obtain ⟨cs, rfl, hsz⟩ := okWide_struct Try.underlying32 hv
  obtain ⟨fuel, hf⟩ := h
  obtain ⟨xs, m, _, _, hlen, hxl, hg⟩ := DataW.trod_struct Try.underlying32 hf
  obtain ⟨cs⟩ := cs
  simp only [Value.cells] at hlen hg
  have hc9 : Try.prog.cellsOf 32 = 9 := by kernel_rfl
  have hci : Try.prog.cellsOf 3 = 1 := by kernel_rfl
  have hcs : Try.prog.cellsOf 29 = 2 := by kernel_rfl
  have hcl : Try.prog.cellsOf 30 = 1 := by kernel_rfl
  rw [hc9] at hlen
  match cs, hlen with
  | [c0, c1, c2, c3, c4, c5, c6, c7, c8], _ =>
    have g0 : DataW.trod enc Try.prog W base spare held m 3 (([c0, c1, c2, c3, c4, c5, c6, c7, c8].drop 0).take (Try.prog.cellsOf 3)) = xs[0]? := hg 0 _ rfl
    have g1 : DataW.trod enc Try.prog W base spare held m 3 (([c0, c1, c2, c3, c4, c5, c6, c7, c8].drop 1).take (Try.prog.cellsOf 3)) = xs[1]? := hg 1 _ rfl
    have g2 : DataW.trod enc Try.prog W base spare held m 3 (([c0, c1, c2, c3, c4, c5, c6, c7, c8].drop 2).take (Try.prog.cellsOf 3)) = xs[2]? := hg 2 _ rfl
    have g3 : DataW.trod enc Try.prog W base spare held m 3 (([c0, c1, c2, c3, c4, c5, c6, c7, c8].drop 3).take (Try.prog.cellsOf 3)) = xs[3]? := hg 3 _ rfl
    have g4 : DataW.trod enc Try.prog W base spare held m 29 (([c0, c1, c2, c3, c4, c5, c6, c7, c8].drop 4).take (Try.prog.cellsOf 29)) = xs[4]? := hg 4 _ rfl
    have g5 : DataW.trod enc Try.prog W base spare held m 3 (([c0, c1, c2, c3, c4, c5, c6, c7, c8].drop 6).take (Try.prog.cellsOf 3)) = xs[5]? := hg 5 _ rfl
    have g6 : DataW.trod enc Try.prog W base spare held m 3 (([c0, c1, c2, c3, c4, c5, c6, c7, c8].drop 7).take (Try.prog.cellsOf 3)) = xs[6]? := hg 6 _ rfl
    have g7 : DataW.trod enc Try.prog W base spare held m 30 (([c0, c1, c2, c3, c4, c5, c6, c7, c8].drop 8).take (Try.prog.cellsOf 30)) = xs[7]? := hg 7 _ rfl
    rw [hci] at g0 g1 g2 g3 g5 g6
    rw [hcs] at g4
    rw [hcl] at g7
    match xs, hxl with
    | [y0, y1, y2, y3, y4, y5, y6, y7], _ =>
      simp at g0 g1 g2 g3 g4 g5 g6 g7
      obtain ⟨a0, _, h0⟩ := open_Int g0
      obtain ⟨a1, _, h1⟩ := open_Int g1
      obtain ⟨a2, _, h2⟩ := open_Int g2
      obtain ⟨a3, _, h3⟩ := open_Int g3
      obtain ⟨zs, k1, k2, _⟩ := allInt_Spell.ints g4
      rw [hcs] at k1
      obtain ⟨a6, _, h6⟩ := open_Int g5
      obtain ⟨a7, _, h7⟩ := open_Int g6
      obtain ⟨sa, sn, sc, rfl, sl, hs1, hs2, _⟩ := open_rows (cells := sltCells) (s := 3) Try.underlying30 (by kernel_rfl) (fun _ => rfl) (by decide) (fun _ _ _ h => open_Slt h) g7
      match zs, k1 with
      | [a4, a5], _ =>
        obtain rfl : c0 = .int .i64 a0 := by simpa [intCells] using h0
        obtain rfl : c1 = .int .i64 a1 := by simpa [intCells] using h1
        obtain rfl : c2 = .int .i64 a2 := by simpa [intCells] using h2
        obtain rfl : c3 = .int .i64 a3 := by simpa [intCells] using h3
        obtain ⟨rfl, rfl⟩ : c4 = .int .i64 a4 ∧ c5 = .int .i64 a5 := by simpa using k2
        obtain rfl : c6 = .int .i64 a6 := by simpa [intCells] using h6
        obtain rfl : c7 = .int .i64 a7 := by simpa [intCells] using h7
        exact ⟨⟨a0, a1, a2, a3, a4, a5, a6, a7, sa, sn, sc, sl⟩, rfl, ⟨hs1, hs2⟩⟩
end

theorem flat_drop {α : Type} {cells : α → List Value} {s : Nat} (hs : ∀ x, (cells x).length = s) (l : List α) (k : Nat) : (l.drop k).flatMap cells = (l.flatMap cells).drop (k * s) := by
  induction l generalizing k with
  | nil => simp
  | cons x r ih =>
    cases k with
    | zero => simp
    | succ k =>
      rw [List.drop_succ_cons, List.flatMap_cons, ih, List.drop_append, hs, Nat.succ_mul, List.drop_of_length_le (l := cells x) (i := k * s + s) (by rw [hs]; omega), List.nil_append, Nat.add_sub_cancel]
theorem RA.tail {α : Type} {cells : α → List Value} {s : Nat} (hs : ∀ x, (cells x).length = s) {w : World} {B n c : Nat} {A : Option Addr} {l : List α} (h : RA cells s w B A n c l) (k : Nat) (hk : k ≤ n) : RA cells s w B (if c = k then A else A.map (·.add (k * s))) (n - k) (c - k) (l.drop k) := by
  have hc := h.cap
  have hm := h.capM
  have hl := h.le
  refine ⟨?_, by rw [List.length_drop, h.len], by omega, by omega, by omega⟩
  rw [flat_drop hs]
  exact h.rd.cut hk h.cap
theorem run_append_none {P : Program} (w : World) (t ty e : TypeId) (i : TypeInfo) (ht : P.underlying t = some (.slice e)) (hi : P.info? e = some i) (b : Addr) (n c : Nat) (hn : n ≤ c) (A : Option Addr) (c' : Nat) :
    (Builtin.append_ #[t, t] ty #[.slice (some b) n c, .slice A 0 c']).run P w = .ok (.slice (some b) n c) w := by
  cases A <;> simp [Builtin.append_, run_underlying ht, sizeOf, typeInfo, hi, Builtin.lenOf, Builtin.firstCells, hn, storeCells, loadCells, loadCellsFrom]
theorem run_append_none2 {P : Program} (w : World) (t ty e : TypeId) (i : TypeInfo) (ht : P.underlying t = some (.slice e)) (hi : P.info? e = some i) (A : Option Addr) (c' : Nat) :
    (Builtin.append_ #[t, t] ty #[.slice none 0 0, .slice A 0 c']).run P w = .ok (.slice none 0 0) w := by
  cases A <;> simp [Builtin.append_, run_underlying ht, sizeOf, typeInfo, hi, Builtin.lenOf, Builtin.firstCells, loadCells, loadCellsFrom]
/-- A row of one's own is nil and empty, or has a block. -/
theorem own_nil_or {w : World} {base n : Nat} {e : TypeId} {s : Nat} {A : Option Addr} {m c : Nat} {xs : List Value} (h : w.ownsRow base e s (.slice A m c) n xs) : (A = none ∧ m = 0 ∧ c = 0 ∧ n = 0) ∨ ∃ g, A = some ⟨g, 0, none⟩ ∧ base ≤ g := by
  rcases h.2 with ⟨hv, hz⟩ | ⟨g, cap, cur, hv, hbb, _⟩
  · injection hv with e1 e2 e3
    exact .inl ⟨e1, e2, e3, hz⟩
  · injection hv with e1 e2 e3
    exact .inr ⟨g, e1, hbb⟩
theorem info_opt9 : (Try.prog.info? 32).map (fun i => (i.zero, i.size, i.bytes)) = some (some (.agg #[.int .i64 0, .int .i64 0, .int .i64 0, .int .i64 0, .int .i64 0, .int .i64 0, .int .i64 0, .int .i64 0, .slice none 0 0]), 9, 88) := by kernel_rfl
/-- A row of one's own holds these options. -/
def OwnOp (W : World) (b : Nat) (v : Value) (l : List Opt) : Prop := W.ownsRow b 32 9 v l.length (l.flatMap optCells)
/-- Options are copied behind an empty list. -/
theorem copy_opt {w : World} (ty : TypeId) (xs : List Opt) (b gx n c : Nat) (A : Option Addr) (B0 : Nat) (jx : Blk w gx 32 #[]) (hg : B0 ≤ gx) (hn : n ≤ 900) (hx : RA optCells 9 w b A n c xs) :
    ∃ g k w', (Builtin.append_ #[36, 36] ty #[.slice (some ⟨gx, 0, none⟩) 0 0, .slice A n c]).run Try.prog w = .ok (.slice (some ⟨g, 0, none⟩) n k) w' ∧ Ext w w' ∧ B0 ≤ g ∧ OwnOp w' B0 (.slice (some ⟨g, 0, none⟩) n k) xs := by
  obtain ⟨i0, hi0, hz0, hz1, hz2⟩ := info_parts info_opt9
  have hl := hx.len
  have hlt := jx.lt
  rcases Nat.eq_zero_or_pos n with h0 | h0
  · subst h0
    obtain rfl : xs = [] := List.eq_nil_of_length_eq_zero hl
    exact ⟨_, _, _, run_append_none w _ _ _ i0 Try.underlying36 hi0 ⟨gx, 0, none⟩ 0 0 (Nat.le_refl _) A c, Ext.refl _, hg, rfl, .inr ⟨gx, 0, #[], rfl, hg, jx, Nat.le_refl _, by unfold maxLen; omega, rfl, rfl⟩⟩
  · obtain ⟨b', o, rfl, hb, hc⟩ := hx.rd.2 h0
    obtain ⟨v', w', h1, h2, h3⟩ := run_append_arg_grows (P := Try.prog) (w := w) 36 ty 32 i0 _ 9 88 Try.underlying36 hi0 hz0 hz1 hz2 rfl (by omega) ⟨gx, 0, none⟩ 0 0 [] rfl (fun j u hu => by simp at hu) ⟨b', o, none⟩ n c _ hx.rd.1 (fun j u hu => by rw [Addr.add_lit]; exact hc j u hu) (by omega) (by unfold maxLen; omega) (by omega)
    rw [Nat.zero_add, List.nil_append] at h2
    have h4 := own_base h2 (by omega : B0 ≤ w.heap.size)
    obtain ⟨A', k, hv, _, _⟩ := own_slice h4
    subst hv
    rcases own_nil_or h4 with ⟨_, h5, _⟩ | ⟨g, rfl, h5⟩
    · omega
    · refine ⟨g, k, w', h1, ⟨h3.os, h3.tape, h3.output, h3.size, fun k hk => h3.block k hk (by simp)⟩, h5, ?_⟩
      unfold OwnOp
      rw [hl]
      exact h4
theorem OwnOp.ra {w : World} {b n c : Nat} {A : Option Addr} {l : List Opt} (h : OwnOp w b (.slice A n c) l) (hn : l.length ≤ 100000) : RA optCells 9 w w.heap.size A n c l := by
  obtain ⟨_, _, hv, _, _⟩ := own_slice h
  injection hv with _ e _
  subst e
  exact RA.of_own h rfl hn
/-- Like RA.of_own, for a row of any length. -/
theorem RA.of_own2 {α : Type} {cells : α → List Value} {s : Nat} {w : World} {base n c : Nat} {A : Option Addr} {e : TypeId} {l : List α} (h : w.ownsRow base e s (.slice A n c) n (l.flatMap cells)) (hl : l.length = n) : RA cells s w w.heap.size A n c l := by
  obtain ⟨A', c', hv, h1, h2⟩ := own_slice h
  injection hv with e1 e2 e3
  subst e1 e3
  exact ⟨Reads.of_own h, hl, h1, h2, by unfold maxLen at h2; omega⟩
/-- One option is replaced. -/
theorem own_opt_set {w : World} {b n c g : Nat} {l : List Opt} (h : OwnOp w b (.slice (some ⟨g, 0, none⟩) n c) l) (i : Nat) (hi : i < l.length) (x : Opt) :
    OwnOp (w.setCells g (i * 9) (optCells x)) b (.slice (some ⟨g, 0, none⟩) n c) (l.set i x) ∧ w.there g (i * 9) 9 ∧ w.grownBy (w.setCells g (i * 9) (optCells x)) (some g) := by
  obtain ⟨_, _, hv, _, _⟩ := own_slice h
  injection hv with _ e _
  subst e
  have hs : RowS optCells 9 b 32 g l.length c w l := ⟨rfl, h⟩
  obtain ⟨h1, h2⟩ := hs.store opt_len hi x
  refine ⟨?_, hs.there opt_len hi, h2⟩
  unfold OwnOp
  rw [List.length_set]
  exact h1.2

/-- A row of one's own stays where the blocks in which it lies stay. -/
theorem own_mid {w w' : World} {b B : Nat} {e : TypeId} {s n : Nat} {v : Value} {xs : List Value} (h : w.ownsRow b e s v n xs) (hq : ∀ q, v.ownBlock = some q → q < B) (hm : ∀ k, b ≤ k → k < B → w'.heap[k]? = w.heap[k]?) : w'.ownsRow b e s v n xs := by
  refine ⟨h.1, ?_⟩
  rcases h.2 with h0 | ⟨g, cap, cur, hv, hb, hg, r⟩
  · exact .inl h0
  · exact .inr ⟨g, cap, cur, hv, hb, (hm g hb (hq g (by rw [hv]; rfl))).trans hg, r⟩
/-- What made hands back, in blocks from b to B. -/
structure MadeO (w : World) (b B : Nat) (c : Cas) (OA PA SA : Option Addr) (oc pc sc : Nat) (os : List Opt) : Prop where
  ho : w.ownsRow b 32 9 (.slice OA (casO c).length oc) (casO c).length (os.flatMap optCells)
  hoB : ∀ q, (Value.slice OA (casO c).length oc).ownBlock = some q → q < B
  hl : os.length = (casO c).length
  each : ∀ o ∈ os, o.n = o.l.length ∧ OwnS w b (.slice o.a o.n o.c) o.l ∧ ∀ q, (Value.slice o.a o.n o.c).ownBlock = some q → q < B
  op : os.map Opt.p = casO c
  ps : w.ownsRow b 98 6 (.slice PA (casP c).length pc) (casP c).length ((casP c).flatMap pasCells)
  psB : ∀ q, (Value.slice PA (casP c).length pc).ownBlock = some q → q < B
  st : w.ownsRow b 122 6 (.slice SA 3 sc) 3 ((casS c).flatMap stnCells)
  stB : ∀ q, (Value.slice SA 3 sc).ownBlock = some q → q < B
theorem made_own {c : Cas} {w w' : World} {e : Ending} (h : MadeRet c w e w') : ∃ OA PA SA oc pc sc os, e = .returned (.tuple #[.slice OA (casO c).length oc, .slice PA (casP c).length pc, .slice SA 3 sc]) ∧ MadeO w' w.heap.size w'.heap.size c OA PA SA oc pc sc os ∧ Ext w w' := by
  obtain ⟨v, vp, vs, os, he, h1, h2, h3, h4, hx⟩ := h
  obtain ⟨OA, oc, hv, _, _⟩ := own_slice h1.1
  obtain ⟨PA, pc, hvp, _, _⟩ := own_slice h3
  obtain ⟨SA, sc, hvs, _, _⟩ := own_slice h4
  have hl : os.length = (casO c).length := by rw [← h2, List.length_map]
  subst hv hvp hvs
  have h1a := h1.1
  rw [hl] at he h1a
  exact ⟨OA, PA, SA, oc, pc, sc, os, he, ⟨h1a, fun q e => (World.ownsRow.lt h1a q e).2, hl, fun o ho => ⟨(h1.2 o ho).1, (h1.2 o ho).2, fun q e => (World.ownsRow.lt (h1.2 o ho).2 q e).2⟩, h2, h3, fun q e => (World.ownsRow.lt h3 q e).2, h4, fun q e => (World.ownsRow.lt h4 q e).2⟩, hx⟩
theorem MadeO.mid {w w' : World} {b B : Nat} {c : Cas} {OA PA SA : Option Addr} {oc pc sc : Nat} {os : List Opt} (h : MadeO w b B c OA PA SA oc pc sc os) (hm : ∀ k, b ≤ k → k < B → w'.heap[k]? = w.heap[k]?) : MadeO w' b B c OA PA SA oc pc sc os :=
  ⟨own_mid h.ho h.hoB hm, h.hoB, h.hl, fun o ho => ⟨(h.each o ho).1, own_mid (h.each o ho).2.1 (h.each o ho).2.2 hm, (h.each o ho).2.2⟩, h.op, own_mid h.ps h.psB hm, h.psB, own_mid h.st h.stB hm, h.stB⟩
theorem MadeO.r {w : World} {b B : Nat} {c : Cas} {OA PA SA : Option Addr} {oc pc sc : Nat} {os : List Opt} (h : MadeO w b B c OA PA SA oc pc sc os) : MadeR w c OA PA SA oc pc sc os :=
  ⟨⟨RA.of_own2 h.ho h.hl, fun o ho => by
    obtain ⟨h1, h2, _⟩ := h.each o ho
    have h3 : w.ownsRow b 78 3 (.slice o.a o.n o.c) o.n (o.l.flatMap sltCells) := by rw [h1] at h2 ⊢; exact h2
    exact RA.of_own2 h3 h1.symm⟩, h.op, RA.of_own2 h.ps rfl, RA.of_own2 h.st rfl⟩
theorem opt_ones (x : Opt) : ∀ v ∈ optCells x, v.oneCell' = true := by
  intro v hv
  simp [optCells] at hv
  rcases hv with rfl | rfl | rfl | rfl | rfl | rfl | rfl | rfl | rfl <;> rfl
theorem same_rcp_true (A1 A2 : Option Addr) (n1 n2 c1 c2 : Nat) (xs : List Rcp) (w : World) (h1 : RA rcpCells 3 w w.heap.size A1 n1 c1 xs) (h2 : RA rcpCells 3 w w.heap.size A2 n2 c2 xs) :
    Calls Try.prog 28 #[.slice A1 n1 c1, .slice A2 n2 c2] w fun e w' => e = .returned (.bool true) ∧ Ext w w' := by
  have h := same_rcp A1 A2 n1 n2 c1 c2 xs xs w h1 h2
  rw [decide_eq_true rfl] at h
  exact h
theorem same_nte_true (A1 A2 : Option Addr) (n1 n2 c1 c2 : Nat) (xs : List Nte) (w : World) (h1 : RA nteCells 3 w w.heap.size A1 n1 c1 xs) (h2 : RA nteCells 3 w w.heap.size A2 n2 c2 xs) :
    Calls Try.prog 29 #[.slice A1 n1 c1, .slice A2 n2 c2] w fun e w' => e = .returned (.bool true) ∧ Ext w w' := by
  have h := same_nte A1 A2 n1 n2 c1 c2 xs xs w h1 h2
  rw [decide_eq_true rfl] at h
  exact h
/-- What Write returns, as slices that can be read. -/
theorem WrtRet.out {X : (List Rcp × List Nte) × Int} {w w' : World} {e : Ending} (h : WrtRet X w e w') : ∃ RA_ rc NA nc, e = .returned (.tuple #[.slice RA_ X.1.1.length rc, .slice NA X.1.2.length nc, .int .i64 X.2]) ∧ RA rcpCells 3 w' w'.heap.size RA_ X.1.1.length rc X.1.1 ∧ RA nteCells 3 w' w'.heap.size NA X.1.2.length nc X.1.2 ∧ Ext w w' := by
  obtain ⟨v, vn, he, h1, h2, hx⟩ := h
  obtain ⟨A1, c1, hv1, _, _⟩ := own_slice h1
  obtain ⟨A2, c2, hv2, _, _⟩ := own_slice h2
  subst hv1 hv2
  exact ⟨A1, c1, A2, c2, he, RA.of_own2 h1 rfl, RA.of_own2 h2 rfl, hx⟩
end Go.Proofs.Ytmlabgmigakcbaa
