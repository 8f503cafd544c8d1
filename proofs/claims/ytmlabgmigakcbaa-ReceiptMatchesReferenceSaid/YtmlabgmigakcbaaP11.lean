/- Deliveries and how they are compared. -/
import Derived.Test.YtmlabgmigakcbaaP04
import Derived.Test.YtmlabgmigakcbaaP10
import Derived.Test.YtmlabgmigakcbaaP05
namespace Go.Proofs.Ytmlabgmigakcbaa
open Go.RowKit
theorem stn_size : (Try.prog.info? 122).map (·.size) = some 6 := by kernel_rfl
theorem rin_any (n lo hi : Int) (w : World) :
  Calls Try.prog 78 #[.int .i64 n, .int .i64 lo, .int .i64 hi] w fun e w' => e = .returned (.bool (inB n lo hi)) ∧ w = w' := by
 by_cases h1 : lo ≤ n
 ·have e : inB n lo hi = decide (n ≤ hi) := by simp [inB, h1]
  rw [e]
  go_enter Try.func78, Try.ntmps78
  go_wp2
  go_ret
  exact ⟨by first | rfl | simp [*], rfl⟩
 ·have e : inB n lo hi = false := by simp [inB, h1]
  rw [e]
  go_enter Try.func78, Try.ntmps78
  go_wp2
  go_ret
  exact ⟨rfl, rfl⟩
set_option maxHeartbeats 1000000 in
theorem rcell_any (x y : Int) (w : World) :
  Calls Try.prog 93 #[.agg #[.int .i64 x, .int .i64 y]] w fun e w' => e = .returned (.bool (celOK ⟨x, y⟩)) ∧ Below w.heap.size w w' := by
 have hb : celOK ⟨x, y⟩ = ((decide (0 ≤ x) && decide (x ≤ 47)) && decide (0 ≤ y) && decide (y ≤ 23)) := by
  simp [celOK, inB, Bool.and_assoc]
 rw [hb]
 clear hb
 go_enter Try.func93, Try.ntmps93
 go_wp2
 all_goals
  go_ret
  exact ⟨by simp [*] <;> (intros; omega), (by repeat (first | exact Below.refl _ _ | assumption | refine Below.drew ?_ | refine below_drewN ?_ _ | refine bl_alloc ?_ _ | refine Below.setCell ?_ (by first | (simp; done) | omega | (simp; omega)) _ | refine bl_then ?_ (by assumption)))⟩
set_option maxHeartbeats 4000000 in
set_option maxRecDepth 100000 in
theorem rstn_valid (id x y re an sk : Int) (w : World) :
  Calls Try.prog 80 #[.agg #[.int .i64 id, .int .i64 x, .int .i64 y, .int .i64 re, .int .i64 an, .int .i64 sk]] w fun e w' => e = .returned (.bool (stnOK ⟨id, ⟨x, y⟩, re, an, sk⟩)) ∧ Below w.heap.size w w' := by
 have hs : stnOK ⟨id, ⟨x, y⟩, re, an, sk⟩ = (celOK ⟨x, y⟩ && inB id 0 11 && inB re 0 6 && inB an 1 8 && inB sk 0 30) := by
  rfl
 rw [hs]
 clear hs
 generalize hq : celOK ⟨x, y⟩ = q
 have HQ := Lib.hid hq
 clear hq
 go_enter Try.func80, Try.ntmps80
 go_wp2_with fail
 refine (rcell_any x y _).mono ?_
 rintro e W0 ⟨rfl, hb0⟩
 rw [HQ.out]
 have K := (Blk.new w 122 #[.int .i64 id, .int .i64 x, .int .i64 y, .int .i64 re, .int .i64 an, .int .i64 sk]).below hb0 (by simp)
 have hb : Below w.heap.size w W0 := (by repeat (first | exact Below.refl _ _ | assumption | refine Below.drew ?_ | refine below_drewN ?_ _ | refine bl_alloc ?_ _ | refine Below.setCell ?_ (by first | (simp; done) | omega | (simp; omega)) _ | refine bl_then ?_ (by assumption)))
 clear hb0
 have g0 : W0.cell? ⟨w.heap.size, 0, none⟩ = some (.int .i64 id) := K.cell 0
 have g1 : W0.cell? ⟨w.heap.size, 1, none⟩ = some (.int .i64 x) := K.cell 1
 have g2 : W0.cell? ⟨w.heap.size, 2, none⟩ = some (.int .i64 y) := K.cell 2
 have g3 : W0.cell? ⟨w.heap.size, 3, none⟩ = some (.int .i64 re) := K.cell 3
 have g4 : W0.cell? ⟨w.heap.size, 4, none⟩ = some (.int .i64 an) := K.cell 4
 have g5 : W0.cell? ⟨w.heap.size, 5, none⟩ = some (.int .i64 sk) := K.cell 5
 clear K
 cases q
 ·go_wp2_with (go_at_call 78; refine (rin_any _ _ _ _).mono ?_; rintro e w' ⟨rfl, rfl⟩)
  all_goals
   go_ret
   exact ⟨by first | (simp [*]; done) | simp_all, hb⟩
 ·go_wp2_with (go_at_call 78; refine (rin_any _ _ _ _).mono ?_; rintro e w' ⟨rfl, rfl⟩)
  all_goals
   go_ret
   exact ⟨by first | (simp [*]; done) | simp_all, hb⟩
theorem rstn_valid_x (x : Stn) (w : World) : Calls Try.prog 80 #[.agg (stnCells x).toArray] w fun e w' => e = .returned (.bool (stnOK x)) ∧ Below w.heap.size w w' := by
 obtain ⟨id, ⟨x, y⟩, re, an, sk⟩ := x
 exact rstn_valid id x y re an sk w
set_option maxRecDepth 100000 in
set_option maxHeartbeats 2000000 in
theorem rvalidStns_any (l : List Stn) (A : Option Addr) (n c : Nat) (w : World) (h : RA stnCells 6 w w.heap.size A n c l) :
  Calls Try.prog 44 #[.slice A n c] w fun e w' => e = .returned (.bool (stnsOK l)) ∧ Below w.heap.size w w' := by
 have HR := Lib.hid h
 have hle := h.le
 have hlen := h.len
 have HL := Lib.hid hlen
 have hs : stnsOK l = (decide (n ≤ 12) && listOK stnOK (·.id) none l) := by rw [stnsOK, hlen]
 rw [hs]
 clear h hs hlen
 by_cases hm : n ≤ 12
 ·have hd : decide (n ≤ 12) = true := by simpa using hm
  rw [hd, Bool.true_and]
  clear hd
  have hrl : listOK stnOK (·.id) none l = listOK stnOK (·.id) (prevAt l 0) (l.drop 0) := by simp [prevAt]
  have HQ := Lib.hid hrl
  clear hrl
  go_enter Try.func44, Try.ntmps44
  go_wp2
  go_loopw [3] (fun i wr => ∃ k : Nat, k ≤ n ∧ i = .int .i64 k ∧ Hid (listOK stnOK (·.id) none l = listOK stnOK (·.id) (prevAt l k) (l.drop k)) ∧ Below w.heap.size w wr) (fun i _ => n - (intOf i).toNat)
  case atStart => exact ⟨0, Nat.zero_le _, rfl, HQ, Below.refl _ _⟩
  case round =>
   clear HQ
   obtain ⟨k, hk, rfl, HK, hB⟩ := hrel
   by_cases hlt : k < n
   ·obtain ⟨b, o, hz, hA, hbl, hc⟩ := RA.range stn_len (HR.out.below hB) hlt
    have hst := listOK_step stnOK (fun x => x.id) l k hz
    rw [← HK.out] at hst
    generalize l[k] = x at hst hc
    have hv := rstn_valid_x x
    have HC := Lib.hid hc
    have g0 : wr.cell? ⟨b, o + k * 6, none⟩ = some (.int .i64 x.id) := hc 0 _ rfl
    obtain ⟨X, hX⟩ : ∃ X, (stnCells x).toArray = X := ⟨_, rfl⟩
    rw [hX] at hv
    have HV := Lib.hid hv
    have HXX := Lib.hid hX
    generalize stnOK x = q at hst HV
    have HS := Lib.hid hst
    clear hst hc HK hX hv
    subst hA
    have hblt : b < w.heap.size := hbl
    go_wp2
    cases q
    ·skip
     refine wp_region_obl 24 (fun ix vals v w1 => match ix with | 0 => v = .slice (some ⟨b, o, none⟩) n c | 1 => v = .int .i64 (k : Int) | 2 => v = .pointer (some ⟨b, o + k * 6, none⟩) | 3 => v = .agg X | 4 => v = .bool false | 5 => v = .bool true | 6 => v = .bool true | 7 => v = undef | 8 => v = undef | 9 => v = undef | 10 => v = undef | 11 => v = undef | 12 => v = undef | 13 => v = undef | 14 => v = undef | 15 => v = undef | 16 => v = undef | 17 => v = undef | 18 => v = undef | 19 => v = undef | 20 => v = undef | 21 => v = undef | 22 => v = undef | _ => v = .bool true) (by kernel_rfl) (by kernel_rfl) ?_ ?_ ?_ ?_
     ·intro ix vals v w1 w2 hi hr hx
      match ix, hr with
      | 0, hr => exact hr
      | 1, hr => exact hr
      | 2, hr => exact hr
      | 3, hr => exact hr
      | 4, hr => exact hr
      | 5, hr => exact hr
      | 6, hr => exact hr
      | 7, hr => exact hr
      | 8, hr => exact hr
      | 9, hr => exact hr
      | 10, hr => exact hr
      | 11, hr => exact hr
      | 12, hr => exact hr
      | 13, hr => exact hr
      | 14, hr => exact hr
      | 15, hr => exact hr
      | 16, hr => exact hr
      | 17, hr => exact hr
      | 18, hr => exact hr
      | 19, hr => exact hr
      | 20, hr => exact hr
      | 21, hr => exact hr
      | 22, hr => exact hr
      | (kx + 23), hr => exact hr
     ·intro ix vals vals_ v w1 hi hv hr
      exact hr
     ·refine ⟨?_, ?_, ?_, ?_, ?_, ?_, ?_, ?_, ?_, ?_, ?_, ?_, ?_, ?_, ?_, ?_, ?_, ?_, ?_, ?_, ?_, ?_, ?_, ?_, trivial⟩
      ·intro vals w1 hx hd ha
       clear hd ha
       simp only [Lf]
       go_wp2
       exact ⟨rfl, Ext.refl _, rfl⟩
      ·intro vals w1 hx hd ha
       clear hd ha
       simp only [Lf, dstAt, Act.put, List.getElem?_toArray, List.getElem?_cons_zero, Option.bind_some, List.setIfInBounds_toArray, List.set_cons_zero, List.set_cons_succ]
       go_wp2
       exact ⟨rfl, Ext.refl _, rfl⟩
      ·intro vals w1 hx hd ha
       have e0 : vals 0 = .slice (some ⟨b, o, none⟩) n c := hd 0 (by decide)
       have e1 : vals 1 = .int .i64 (k : Int) := hd 1 (by decide)
       clear hd ha
       simp only [Lf, dstAt, Act.put, List.getElem?_toArray, List.getElem?_cons_zero, List.getElem?_cons_succ, Option.bind_some, List.setIfInBounds_toArray, List.set_cons_zero, List.set_cons_succ]
       simp only [e0, e1]
       clear e0 e1
       go_wp2
       exact ⟨rfl, Ext.refl _, rfl⟩
      ·intro vals w1 hx hd ha
       have e2 : vals 2 = .pointer (some ⟨b, o + k * 6, none⟩) := hd 2 (by decide)
       clear hd ha
       simp only [Lf, dstAt, Act.put, List.getElem?_toArray, List.getElem?_cons_zero, List.getElem?_cons_succ, Option.bind_some, List.setIfInBounds_toArray, List.set_cons_zero, List.set_cons_succ]
       simp only [e2]
       clear e2
       refine wpList_load_st rfl _ _ rfl b (o + k * 6) rfl X (stnCells x) HXX.out _ (RA.range2 HC.out hx.undrew) Try.underlying122 rfl stn_size ?_
       go_wp2
       exact ⟨rfl, Ext.refl _, rfl⟩
      ·intro vals w1 hx hd ha
       have e3 : vals 3 = .agg X := hd 3 (by decide)
       clear hd ha
       simp only [Lf, dstAt, Act.put, List.getElem?_toArray, List.getElem?_cons_zero, List.getElem?_cons_succ, Option.bind_some, List.setIfInBounds_toArray, List.set_cons_zero, List.set_cons_succ]
       simp only [e3]
       clear e3
       go_wp2_with fail
       refine (HV.out _).mono ?_
       rintro e w2 ⟨rfl, hb2⟩
       go_wp2
       exact ⟨rfl, hb2, rfl⟩
      ·intro vals w1 hx hd ha
       have e4 : vals 4 = .bool false := hd 4 (by decide)
       clear hd ha
       simp only [Lf, dstAt, Act.put, List.getElem?_toArray, List.getElem?_cons_zero, List.getElem?_cons_succ, Option.bind_some, List.setIfInBounds_toArray, List.set_cons_zero, List.set_cons_succ]
       simp only [e4]
       clear e4
       go_wp2
       exact ⟨rfl, Ext.refl _, rfl⟩
      ·intro vals w1 hx hd ha
       have e4 : vals 4 = .bool false := hd 4 (by decide)
       have e5 : vals 5 = .bool true := hd 5 (by decide)
       clear hd ha
       simp only [Lf, dstAt, Act.put, List.getElem?_toArray, List.getElem?_cons_zero, List.getElem?_cons_succ, Option.bind_some, List.setIfInBounds_toArray, List.set_cons_zero, List.set_cons_succ]
       simp only [e4, e5]
       clear e4 e5
       go_wp2
       exact ⟨rfl, Ext.refl _, rfl⟩
      ·intro vals w1 hx hd ha
       have e6 : vals 6 = .bool true := hd 6 (by decide)
       clear hd ha
       simp only [Lf, dstAt, Act.put, List.getElem?_toArray, List.getElem?_cons_zero, List.getElem?_cons_succ, Option.bind_some, List.setIfInBounds_toArray, List.set_cons_zero, List.set_cons_succ]
       simp only [e6]
       clear e6
       go_wp2
       exact ⟨rfl, Ext.refl _, rfl⟩
      ·intro vals w1 hx hd ha
       have e6 : vals 6 = .bool true := hd 6 (by decide)
       have e7 : vals 7 = undef := hd 7 (by decide)
       clear hd ha
       simp only [Lf, dstAt, Act.put, List.getElem?_toArray, List.getElem?_cons_zero, List.getElem?_cons_succ, Option.bind_some, List.setIfInBounds_toArray, List.set_cons_zero, List.set_cons_succ]
       simp only [e6, e7]
       clear e6 e7
       go_wp2
       exact ⟨rfl, Ext.refl _, rfl⟩
      ·intro vals w1 hx hd ha
       have e6 : vals 6 = .bool true := hd 6 (by decide)
       have e8 : vals 8 = undef := hd 8 (by decide)
       clear hd ha
       simp only [Lf, dstAt, Act.put, List.getElem?_toArray, List.getElem?_cons_zero, List.getElem?_cons_succ, Option.bind_some, List.setIfInBounds_toArray, List.set_cons_zero, List.set_cons_succ]
       simp only [e6, e8]
       clear e6 e8
       go_wp2
       exact ⟨rfl, Ext.refl _, rfl⟩
      ·intro vals w1 hx hd ha
       have e9 : vals 9 = undef := hd 9 (by decide)
       clear hd ha
       simp only [Lf, dstAt, Act.put, List.getElem?_toArray, List.getElem?_cons_zero, List.getElem?_cons_succ, Option.bind_some, List.setIfInBounds_toArray, List.set_cons_zero, List.set_cons_succ]
       simp only [e9]
       clear e9
       go_wp2
       exact ⟨rfl, Ext.refl _, rfl⟩
      ·intro vals w1 hx hd ha
       have e9 : vals 9 = undef := hd 9 (by decide)
       clear hd ha
       simp only [Lf, dstAt, Act.put, List.getElem?_toArray, List.getElem?_cons_zero, List.getElem?_cons_succ, Option.bind_some, List.setIfInBounds_toArray, List.set_cons_zero, List.set_cons_succ]
       simp only [e9]
       clear e9
       go_wp2
       exact ⟨rfl, Ext.refl _, rfl⟩
      ·intro vals w1 hx hd ha
       have e9 : vals 9 = undef := hd 9 (by decide)
       have e10 : vals 10 = undef := hd 10 (by decide)
       have e11 : vals 11 = undef := hd 11 (by decide)
       clear hd ha
       simp only [Lf, dstAt, Act.put, List.getElem?_toArray, List.getElem?_cons_zero, List.getElem?_cons_succ, Option.bind_some, List.setIfInBounds_toArray, List.set_cons_zero, List.set_cons_succ]
       simp only [e9, e10, e11]
       clear e9 e10 e11
       go_wp2
       exact ⟨rfl, Ext.refl _, rfl⟩
      ·intro vals w1 hx hd ha
       have e9 : vals 9 = undef := hd 9 (by decide)
       have e12 : vals 12 = undef := hd 12 (by decide)
       clear hd ha
       simp only [Lf, dstAt, Act.put, List.getElem?_toArray, List.getElem?_cons_zero, List.getElem?_cons_succ, Option.bind_some, List.setIfInBounds_toArray, List.set_cons_zero, List.set_cons_succ]
       simp only [e9, e12]
       clear e9 e12
       go_wp2
       exact ⟨rfl, Ext.refl _, rfl⟩
      ·intro vals w1 hx hd ha
       have e9 : vals 9 = undef := hd 9 (by decide)
       have e13 : vals 13 = undef := hd 13 (by decide)
       clear hd ha
       simp only [Lf, dstAt, Act.put, List.getElem?_toArray, List.getElem?_cons_zero, List.getElem?_cons_succ, Option.bind_some, List.setIfInBounds_toArray, List.set_cons_zero, List.set_cons_succ]
       simp only [e9, e13]
       clear e9 e13
       go_wp2
       exact ⟨rfl, Ext.refl _, rfl⟩
      ·intro vals w1 hx hd ha
       have e9 : vals 9 = undef := hd 9 (by decide)
       clear hd ha
       simp only [Lf, dstAt, Act.put, List.getElem?_toArray, List.getElem?_cons_zero, List.getElem?_cons_succ, Option.bind_some, List.setIfInBounds_toArray, List.set_cons_zero, List.set_cons_succ]
       simp only [e9]
       clear e9
       go_wp2
       exact ⟨rfl, Ext.refl _, rfl⟩
      ·intro vals w1 hx hd ha
       have e9 : vals 9 = undef := hd 9 (by decide)
       clear hd ha
       simp only [Lf, dstAt, Act.put, List.getElem?_toArray, List.getElem?_cons_zero, List.getElem?_cons_succ, Option.bind_some, List.setIfInBounds_toArray, List.set_cons_zero, List.set_cons_succ]
       simp only [e9]
       clear e9
       go_wp2
       exact ⟨rfl, Ext.refl _, rfl⟩
      ·intro vals w1 hx hd ha
       have e9 : vals 9 = undef := hd 9 (by decide)
       have e16 : vals 16 = undef := hd 16 (by decide)
       clear hd ha
       simp only [Lf, dstAt, Act.put, List.getElem?_toArray, List.getElem?_cons_zero, List.getElem?_cons_succ, Option.bind_some, List.setIfInBounds_toArray, List.set_cons_zero, List.set_cons_succ]
       simp only [e9, e16]
       clear e9 e16
       go_wp2
       exact ⟨rfl, Ext.refl _, rfl⟩
      ·intro vals w1 hx hd ha
       have e9 : vals 9 = undef := hd 9 (by decide)
       have e15 : vals 15 = undef := hd 15 (by decide)
       have e17 : vals 17 = undef := hd 17 (by decide)
       clear hd ha
       simp only [Lf, dstAt, Act.put, List.getElem?_toArray, List.getElem?_cons_zero, List.getElem?_cons_succ, Option.bind_some, List.setIfInBounds_toArray, List.set_cons_zero, List.set_cons_succ]
       simp only [e9, e15, e17]
       clear e9 e15 e17
       go_wp2
       exact ⟨rfl, Ext.refl _, rfl⟩
      ·intro vals w1 hx hd ha
       have e9 : vals 9 = undef := hd 9 (by decide)
       have e18 : vals 18 = undef := hd 18 (by decide)
       clear hd ha
       simp only [Lf, dstAt, Act.put, List.getElem?_toArray, List.getElem?_cons_zero, List.getElem?_cons_succ, Option.bind_some, List.setIfInBounds_toArray, List.set_cons_zero, List.set_cons_succ]
       simp only [e9, e18]
       clear e9 e18
       go_wp2
       exact ⟨rfl, Ext.refl _, rfl⟩
      ·intro vals w1 hx hd ha
       have e9 : vals 9 = undef := hd 9 (by decide)
       have e19 : vals 19 = undef := hd 19 (by decide)
       clear hd ha
       simp only [Lf, dstAt, Act.put, List.getElem?_toArray, List.getElem?_cons_zero, List.getElem?_cons_succ, Option.bind_some, List.setIfInBounds_toArray, List.set_cons_zero, List.set_cons_succ]
       simp only [e9, e19]
       clear e9 e19
       go_wp2
       exact ⟨rfl, Ext.refl _, rfl⟩
      ·intro vals w1 hx hd ha
       have e9 : vals 9 = undef := hd 9 (by decide)
       have e14 : vals 14 = undef := hd 14 (by decide)
       have e20 : vals 20 = undef := hd 20 (by decide)
       clear hd ha
       simp only [Lf, dstAt, Act.put, List.getElem?_toArray, List.getElem?_cons_zero, List.getElem?_cons_succ, Option.bind_some, List.setIfInBounds_toArray, List.set_cons_zero, List.set_cons_succ]
       simp only [e9, e14, e20]
       clear e9 e14 e20
       go_wp2
       exact ⟨rfl, Ext.refl _, rfl⟩
      ·intro vals w1 hx hd ha
       have e6 : vals 6 = .bool true := hd 6 (by decide)
       have e9 : vals 9 = undef := hd 9 (by decide)
       have e21 : vals 21 = undef := hd 21 (by decide)
       clear hd ha
       simp only [Lf, dstAt, Act.put, List.getElem?_toArray, List.getElem?_cons_zero, List.getElem?_cons_succ, Option.bind_some, List.setIfInBounds_toArray, List.set_cons_zero, List.set_cons_succ]
       simp only [e6, e9, e21]
       clear e6 e9 e21
       go_wp2
       exact ⟨rfl, Ext.refl _, rfl⟩
      ·intro vals w1 hx hd ha
       have e6 : vals 6 = .bool true := hd 6 (by decide)
       have e22 : vals 22 = undef := hd 22 (by decide)
       clear hd ha
       simp only [Lf, dstAt, Act.put, List.getElem?_toArray, List.getElem?_cons_zero, List.getElem?_cons_succ, Option.bind_some, List.setIfInBounds_toArray, List.set_cons_zero, List.set_cons_succ]
       simp only [e6, e22]
       clear e6 e22
       go_wp2
       exact ⟨rfl, Ext.refl _, rfl⟩
     intro vals w5 hx hf
     have e23 : vals 23 = .bool true := hf 23 (by omega)
     clear hf
     have hx := hx.undrew
     have hB5 := bl_then hB hx
     refine tail0 (by kernel_rfl) ?_
     simp only [Lf, dstAt, Act.put, List.getElem?_toArray, List.getElem?_cons_zero, List.getElem?_cons_succ, Option.bind_some, List.setIfInBounds_toArray, List.set_cons_zero, List.set_cons_succ]
     rw [e23]
     clear e23
     go_wp2
     go_ret
     exact ⟨by rw [HS.out]; rfl, hB5⟩
    ·by_cases hk0 : k = 0
     ·have hk0' : (k : Int) ≤ 0 := by omega
      have hpv : prevAt l k = none := by simp [prevAt, hk0]
      have HP := Lib.hid hpv
      have hk0h := Lib.hid hk0
      have hkd : decide (0 < k) = false := by simp; omega
      clear hpv hk0
      refine wp_region_obl 24 (fun ix vals v w1 => match ix with | 0 => v = .slice (some ⟨b, o, none⟩) n c | 1 => v = .int .i64 (k : Int) | 2 => v = .pointer (some ⟨b, o + k * 6, none⟩) | 3 => v = .agg X | 4 => v = .bool true | 5 => v = .bool false | 6 => v = .bool false | 7 => v = .int .i64 (k : Int) | 8 => v = .bool false | 9 => v = .bool false | 10 => v = undef | 11 => v = undef | 12 => v = undef | 13 => v = undef | 14 => v = undef | 15 => v = undef | 16 => v = undef | 17 => v = undef | 18 => v = undef | 19 => v = undef | 20 => v = undef | 21 => v = undef | 22 => v = .bool false | _ => v = .bool false) (by kernel_rfl) (by kernel_rfl) ?_ ?_ ?_ ?_
      ·intro ix vals v w1 w2 hi hr hx
       match ix, hr with
       | 0, hr => exact hr
       | 1, hr => exact hr
       | 2, hr => exact hr
       | 3, hr => exact hr
       | 4, hr => exact hr
       | 5, hr => exact hr
       | 6, hr => exact hr
       | 7, hr => exact hr
       | 8, hr => exact hr
       | 9, hr => exact hr
       | 10, hr => exact hr
       | 11, hr => exact hr
       | 12, hr => exact hr
       | 13, hr => exact hr
       | 14, hr => exact hr
       | 15, hr => exact hr
       | 16, hr => exact hr
       | 17, hr => exact hr
       | 18, hr => exact hr
       | 19, hr => exact hr
       | 20, hr => exact hr
       | 21, hr => exact hr
       | 22, hr => exact hr
       | (kx + 23), hr => exact hr
      ·intro ix vals vals_ v w1 hi hv hr
       exact hr
      ·refine ⟨?_, ?_, ?_, ?_, ?_, ?_, ?_, ?_, ?_, ?_, ?_, ?_, ?_, ?_, ?_, ?_, ?_, ?_, ?_, ?_, ?_, ?_, ?_, ?_, trivial⟩
       ·intro vals w1 hx hd ha
        clear hd ha
        simp only [Lf]
        go_wp2
        exact ⟨rfl, Ext.refl _, rfl⟩
       ·intro vals w1 hx hd ha
        clear hd ha
        simp only [Lf, dstAt, Act.put, List.getElem?_toArray, List.getElem?_cons_zero, Option.bind_some, List.setIfInBounds_toArray, List.set_cons_zero, List.set_cons_succ]
        go_wp2
        exact ⟨rfl, Ext.refl _, rfl⟩
       ·intro vals w1 hx hd ha
        have e0 : vals 0 = .slice (some ⟨b, o, none⟩) n c := hd 0 (by decide)
        have e1 : vals 1 = .int .i64 (k : Int) := hd 1 (by decide)
        clear hd ha
        simp only [Lf, dstAt, Act.put, List.getElem?_toArray, List.getElem?_cons_zero, List.getElem?_cons_succ, Option.bind_some, List.setIfInBounds_toArray, List.set_cons_zero, List.set_cons_succ]
        simp only [e0, e1]
        clear e0 e1
        go_wp2
        exact ⟨rfl, Ext.refl _, rfl⟩
       ·intro vals w1 hx hd ha
        have e2 : vals 2 = .pointer (some ⟨b, o + k * 6, none⟩) := hd 2 (by decide)
        clear hd ha
        simp only [Lf, dstAt, Act.put, List.getElem?_toArray, List.getElem?_cons_zero, List.getElem?_cons_succ, Option.bind_some, List.setIfInBounds_toArray, List.set_cons_zero, List.set_cons_succ]
        simp only [e2]
        clear e2
        refine wpList_load_st rfl _ _ rfl b (o + k * 6) rfl X (stnCells x) HXX.out _ (RA.range2 HC.out hx.undrew) Try.underlying122 rfl stn_size ?_
        go_wp2
        exact ⟨rfl, Ext.refl _, rfl⟩
       ·intro vals w1 hx hd ha
        have e3 : vals 3 = .agg X := hd 3 (by decide)
        clear hd ha
        simp only [Lf, dstAt, Act.put, List.getElem?_toArray, List.getElem?_cons_zero, List.getElem?_cons_succ, Option.bind_some, List.setIfInBounds_toArray, List.set_cons_zero, List.set_cons_succ]
        simp only [e3]
        clear e3
        go_wp2_with fail
        refine (HV.out _).mono ?_
        rintro e w2 ⟨rfl, hb2⟩
        go_wp2
        exact ⟨rfl, hb2, rfl⟩
       ·intro vals w1 hx hd ha
        have e4 : vals 4 = .bool true := hd 4 (by decide)
        clear hd ha
        simp only [Lf, dstAt, Act.put, List.getElem?_toArray, List.getElem?_cons_zero, List.getElem?_cons_succ, Option.bind_some, List.setIfInBounds_toArray, List.set_cons_zero, List.set_cons_succ]
        simp only [e4]
        clear e4
        go_wp2
        exact ⟨rfl, Ext.refl _, rfl⟩
       ·intro vals w1 hx hd ha
        have e4 : vals 4 = .bool true := hd 4 (by decide)
        have e5 : vals 5 = .bool false := hd 5 (by decide)
        clear hd ha
        simp only [Lf, dstAt, Act.put, List.getElem?_toArray, List.getElem?_cons_zero, List.getElem?_cons_succ, Option.bind_some, List.setIfInBounds_toArray, List.set_cons_zero, List.set_cons_succ]
        simp only [e4, e5]
        clear e4 e5
        go_wp2
        exact ⟨rfl, Ext.refl _, rfl⟩
       ·intro vals w1 hx hd ha
        have e6 : vals 6 = .bool false := hd 6 (by decide)
        clear hd ha
        simp only [Lf, dstAt, Act.put, List.getElem?_toArray, List.getElem?_cons_zero, List.getElem?_cons_succ, Option.bind_some, List.setIfInBounds_toArray, List.set_cons_zero, List.set_cons_succ]
        simp only [e6]
        clear e6
        go_wp2
        exact ⟨rfl, Ext.refl _, rfl⟩
       ·intro vals w1 hx hd ha
        have e6 : vals 6 = .bool false := hd 6 (by decide)
        have e7 : vals 7 = .int .i64 (k : Int) := hd 7 (by decide)
        clear hd ha
        simp only [Lf, dstAt, Act.put, List.getElem?_toArray, List.getElem?_cons_zero, List.getElem?_cons_succ, Option.bind_some, List.setIfInBounds_toArray, List.set_cons_zero, List.set_cons_succ]
        simp only [e6, e7]
        clear e6 e7
        go_wp2
        exact ⟨rfl, Ext.refl _, rfl⟩
       ·intro vals w1 hx hd ha
        have e6 : vals 6 = .bool false := hd 6 (by decide)
        have e8 : vals 8 = .bool false := hd 8 (by decide)
        clear hd ha
        simp only [Lf, dstAt, Act.put, List.getElem?_toArray, List.getElem?_cons_zero, List.getElem?_cons_succ, Option.bind_some, List.setIfInBounds_toArray, List.set_cons_zero, List.set_cons_succ]
        simp only [e6, e8]
        clear e6 e8
        go_wp2
        exact ⟨rfl, Ext.refl _, rfl⟩
       ·intro vals w1 hx hd ha
        have e9 : vals 9 = .bool false := hd 9 (by decide)
        clear hd ha
        simp only [Lf, dstAt, Act.put, List.getElem?_toArray, List.getElem?_cons_zero, List.getElem?_cons_succ, Option.bind_some, List.setIfInBounds_toArray, List.set_cons_zero, List.set_cons_succ]
        simp only [e9]
        clear e9
        go_wp2
        exact ⟨rfl, Ext.refl _, rfl⟩
       ·intro vals w1 hx hd ha
        have e9 : vals 9 = .bool false := hd 9 (by decide)
        clear hd ha
        simp only [Lf, dstAt, Act.put, List.getElem?_toArray, List.getElem?_cons_zero, List.getElem?_cons_succ, Option.bind_some, List.setIfInBounds_toArray, List.set_cons_zero, List.set_cons_succ]
        simp only [e9]
        clear e9
        go_wp2
        exact ⟨rfl, Ext.refl _, rfl⟩
       ·intro vals w1 hx hd ha
        have e9 : vals 9 = .bool false := hd 9 (by decide)
        have e10 : vals 10 = undef := hd 10 (by decide)
        have e11 : vals 11 = undef := hd 11 (by decide)
        clear hd ha
        simp only [Lf, dstAt, Act.put, List.getElem?_toArray, List.getElem?_cons_zero, List.getElem?_cons_succ, Option.bind_some, List.setIfInBounds_toArray, List.set_cons_zero, List.set_cons_succ]
        simp only [e9, e10, e11]
        clear e9 e10 e11
        go_wp2
        exact ⟨rfl, Ext.refl _, rfl⟩
       ·intro vals w1 hx hd ha
        have e9 : vals 9 = .bool false := hd 9 (by decide)
        have e12 : vals 12 = undef := hd 12 (by decide)
        clear hd ha
        simp only [Lf, dstAt, Act.put, List.getElem?_toArray, List.getElem?_cons_zero, List.getElem?_cons_succ, Option.bind_some, List.setIfInBounds_toArray, List.set_cons_zero, List.set_cons_succ]
        simp only [e9, e12]
        clear e9 e12
        go_wp2
        exact ⟨rfl, Ext.refl _, rfl⟩
       ·intro vals w1 hx hd ha
        have e9 : vals 9 = .bool false := hd 9 (by decide)
        have e13 : vals 13 = undef := hd 13 (by decide)
        clear hd ha
        simp only [Lf, dstAt, Act.put, List.getElem?_toArray, List.getElem?_cons_zero, List.getElem?_cons_succ, Option.bind_some, List.setIfInBounds_toArray, List.set_cons_zero, List.set_cons_succ]
        simp only [e9, e13]
        clear e9 e13
        have g0 := ext_cell hx g0
        go_wp2
        exact ⟨rfl, Ext.refl _, rfl⟩
       ·intro vals w1 hx hd ha
        have e9 : vals 9 = .bool false := hd 9 (by decide)
        clear hd ha
        simp only [Lf, dstAt, Act.put, List.getElem?_toArray, List.getElem?_cons_zero, List.getElem?_cons_succ, Option.bind_some, List.setIfInBounds_toArray, List.set_cons_zero, List.set_cons_succ]
        simp only [e9]
        clear e9
        go_wp2
        exact ⟨rfl, Ext.refl _, rfl⟩
       ·intro vals w1 hx hd ha
        have e9 : vals 9 = .bool false := hd 9 (by decide)
        clear hd ha
        simp only [Lf, dstAt, Act.put, List.getElem?_toArray, List.getElem?_cons_zero, List.getElem?_cons_succ, Option.bind_some, List.setIfInBounds_toArray, List.set_cons_zero, List.set_cons_succ]
        simp only [e9]
        clear e9
        go_wp2
        exact ⟨rfl, Ext.refl _, rfl⟩
       ·intro vals w1 hx hd ha
        have e9 : vals 9 = .bool false := hd 9 (by decide)
        have e16 : vals 16 = undef := hd 16 (by decide)
        clear hd ha
        simp only [Lf, dstAt, Act.put, List.getElem?_toArray, List.getElem?_cons_zero, List.getElem?_cons_succ, Option.bind_some, List.setIfInBounds_toArray, List.set_cons_zero, List.set_cons_succ]
        simp only [e9, e16]
        clear e9 e16
        go_wp2
        exact ⟨rfl, Ext.refl _, rfl⟩
       ·intro vals w1 hx hd ha
        have e9 : vals 9 = .bool false := hd 9 (by decide)
        have e15 : vals 15 = undef := hd 15 (by decide)
        have e17 : vals 17 = undef := hd 17 (by decide)
        clear hd ha
        simp only [Lf, dstAt, Act.put, List.getElem?_toArray, List.getElem?_cons_zero, List.getElem?_cons_succ, Option.bind_some, List.setIfInBounds_toArray, List.set_cons_zero, List.set_cons_succ]
        simp only [e9, e15, e17]
        clear e9 e15 e17
        go_wp2
        exact ⟨rfl, Ext.refl _, rfl⟩
       ·intro vals w1 hx hd ha
        have e9 : vals 9 = .bool false := hd 9 (by decide)
        have e18 : vals 18 = undef := hd 18 (by decide)
        clear hd ha
        simp only [Lf, dstAt, Act.put, List.getElem?_toArray, List.getElem?_cons_zero, List.getElem?_cons_succ, Option.bind_some, List.setIfInBounds_toArray, List.set_cons_zero, List.set_cons_succ]
        simp only [e9, e18]
        clear e9 e18
        go_wp2
        exact ⟨rfl, Ext.refl _, rfl⟩
       ·intro vals w1 hx hd ha
        have e9 : vals 9 = .bool false := hd 9 (by decide)
        have e19 : vals 19 = undef := hd 19 (by decide)
        clear hd ha
        simp only [Lf, dstAt, Act.put, List.getElem?_toArray, List.getElem?_cons_zero, List.getElem?_cons_succ, Option.bind_some, List.setIfInBounds_toArray, List.set_cons_zero, List.set_cons_succ]
        simp only [e9, e19]
        clear e9 e19
        go_wp2
        exact ⟨rfl, Ext.refl _, rfl⟩
       ·intro vals w1 hx hd ha
        have e9 : vals 9 = .bool false := hd 9 (by decide)
        have e14 : vals 14 = undef := hd 14 (by decide)
        have e20 : vals 20 = undef := hd 20 (by decide)
        clear hd ha
        simp only [Lf, dstAt, Act.put, List.getElem?_toArray, List.getElem?_cons_zero, List.getElem?_cons_succ, Option.bind_some, List.setIfInBounds_toArray, List.set_cons_zero, List.set_cons_succ]
        simp only [e9, e14, e20]
        clear e9 e14 e20
        go_wp2
        exact ⟨rfl, Ext.refl _, rfl⟩
       ·intro vals w1 hx hd ha
        have e6 : vals 6 = .bool false := hd 6 (by decide)
        have e9 : vals 9 = .bool false := hd 9 (by decide)
        have e21 : vals 21 = undef := hd 21 (by decide)
        clear hd ha
        simp only [Lf, dstAt, Act.put, List.getElem?_toArray, List.getElem?_cons_zero, List.getElem?_cons_succ, Option.bind_some, List.setIfInBounds_toArray, List.set_cons_zero, List.set_cons_succ]
        simp only [e6, e9, e21]
        clear e6 e9 e21
        go_wp2
        exact ⟨rfl, Ext.refl _, rfl⟩
       ·intro vals w1 hx hd ha
        have e6 : vals 6 = .bool false := hd 6 (by decide)
        have e22 : vals 22 = .bool false := hd 22 (by decide)
        clear hd ha
        simp only [Lf, dstAt, Act.put, List.getElem?_toArray, List.getElem?_cons_zero, List.getElem?_cons_succ, Option.bind_some, List.setIfInBounds_toArray, List.set_cons_zero, List.set_cons_succ]
        simp only [e6, e22]
        clear e6 e22
        go_wp2
        exact ⟨rfl, Ext.refl _, rfl⟩
      intro vals w5 hx hf
      have e23 : vals 23 = .bool false := hf 23 (by omega)
      clear hf
      have hx := hx.undrew
      have hB5 := bl_then hB hx
      refine tail0 (by kernel_rfl) ?_
      simp only [Lf, dstAt, Act.put, List.getElem?_toArray, List.getElem?_cons_zero, List.getElem?_cons_succ, Option.bind_some, List.setIfInBounds_toArray, List.set_cons_zero, List.set_cons_succ]
      rw [e23]
      clear e23
      go_wp2
      go_roundw
      case rel => exact ⟨k + 1, by omega, by go_num, Lib.hid (by rw [HS.out, HP.out]; rfl), hB5⟩
      case measure => simp [intOf]; omega
     ·have hk1 : (0 : Int) < (k : Int) := by omega
      obtain ⟨b', o', hz', hA', hbl', hc'⟩ := RA.at_ stn_len (HR.out.below hB) (k := k - 1) (by omega)
      obtain ⟨rfl, rfl⟩ : b' = b ∧ o' = o := by injection hA' with hA'; injection hA' with h1 h2; exact ⟨h1.symm, h2.symm⟩
      have hpv : prevAt l k = some l[k - 1] := by unfold prevAt; rw [if_neg hk0, List.getElem?_eq_getElem hz']
      generalize l[k - 1] = y at hpv hc'
      have d0 : wr.cell? ⟨b', o' + (k - 1) * 6, none⟩ = some (.int .i64 y.id) := hc' 0 (by omega)
      have HP := Lib.hid hpv
      have hk0h := Lib.hid hk0
      clear hpv hc' hA' hbl' hk0
      have hki : IntKind.i64.wrap ((k : Int) - 1) = (k : Int) - 1 := IntWalk.i64_in _ (by omega)
      have hkn : ((k : Int) - 1).toNat = k - 1 := by omega
      have hkd : decide (0 < k) = true := by simp; omega
      refine wp_region_obl 24 (fun ix vals v w1 => match ix with | 0 => v = .slice (some ⟨b', o', none⟩) n c | 1 => v = .int .i64 (k : Int) | 2 => v = .pointer (some ⟨b', o' + k * 6, none⟩) | 3 => v = .agg X | 4 => v = .bool true | 5 => v = .bool false | 6 => v = .bool false | 7 => v = .int .i64 (k : Int) | 8 => v = .bool true | 9 => v = .bool true | 10 => v = .slice (some ⟨b', o', none⟩) n c | 11 => v = .int .i64 (k : Int) | 12 => v = .pointer (some ⟨b', o' + k * 6, none⟩) | 13 => v = .pointer (some ⟨b', o' + k * 6, none⟩) | 14 => v = .int .i64 x.id | 15 => v = .slice (some ⟨b', o', none⟩) n c | 16 => v = .int .i64 (k : Int) | 17 => v = .int .i64 ((k : Int) - 1) | 18 => v = .pointer (some ⟨b', o' + (k - 1) * 6, none⟩) | 19 => v = .pointer (some ⟨b', o' + (k - 1) * 6, none⟩) | 20 => v = .int .i64 y.id | 21 => v = .bool (decide (x.id ≤ y.id)) | 22 => v = .bool (decide (x.id ≤ y.id)) | _ => v = .bool (decide (x.id ≤ y.id))) (by kernel_rfl) (by kernel_rfl) ?_ ?_ ?_ ?_
      ·intro ix vals v w1 w2 hi hr hx
       match ix, hr with
       | 0, hr => exact hr
       | 1, hr => exact hr
       | 2, hr => exact hr
       | 3, hr => exact hr
       | 4, hr => exact hr
       | 5, hr => exact hr
       | 6, hr => exact hr
       | 7, hr => exact hr
       | 8, hr => exact hr
       | 9, hr => exact hr
       | 10, hr => exact hr
       | 11, hr => exact hr
       | 12, hr => exact hr
       | 13, hr => exact hr
       | 14, hr => exact hr
       | 15, hr => exact hr
       | 16, hr => exact hr
       | 17, hr => exact hr
       | 18, hr => exact hr
       | 19, hr => exact hr
       | 20, hr => exact hr
       | 21, hr => exact hr
       | 22, hr => exact hr
       | (kx + 23), hr => exact hr
      ·intro ix vals vals_ v w1 hi hv hr
       exact hr
      ·refine ⟨?_, ?_, ?_, ?_, ?_, ?_, ?_, ?_, ?_, ?_, ?_, ?_, ?_, ?_, ?_, ?_, ?_, ?_, ?_, ?_, ?_, ?_, ?_, ?_, trivial⟩
       ·intro vals w1 hx hd ha
        clear hd ha
        simp only [Lf]
        go_wp2
        exact ⟨rfl, Ext.refl _, rfl⟩
       ·intro vals w1 hx hd ha
        clear hd ha
        simp only [Lf, dstAt, Act.put, List.getElem?_toArray, List.getElem?_cons_zero, Option.bind_some, List.setIfInBounds_toArray, List.set_cons_zero, List.set_cons_succ]
        go_wp2
        exact ⟨rfl, Ext.refl _, rfl⟩
       ·intro vals w1 hx hd ha
        have e0 : vals 0 = .slice (some ⟨b', o', none⟩) n c := hd 0 (by decide)
        have e1 : vals 1 = .int .i64 (k : Int) := hd 1 (by decide)
        clear hd ha
        simp only [Lf, dstAt, Act.put, List.getElem?_toArray, List.getElem?_cons_zero, List.getElem?_cons_succ, Option.bind_some, List.setIfInBounds_toArray, List.set_cons_zero, List.set_cons_succ]
        simp only [e0, e1]
        clear e0 e1
        go_wp2
        exact ⟨rfl, Ext.refl _, rfl⟩
       ·intro vals w1 hx hd ha
        have e2 : vals 2 = .pointer (some ⟨b', o' + k * 6, none⟩) := hd 2 (by decide)
        clear hd ha
        simp only [Lf, dstAt, Act.put, List.getElem?_toArray, List.getElem?_cons_zero, List.getElem?_cons_succ, Option.bind_some, List.setIfInBounds_toArray, List.set_cons_zero, List.set_cons_succ]
        simp only [e2]
        clear e2
        refine wpList_load_st rfl _ _ rfl b' (o' + k * 6) rfl X (stnCells x) HXX.out _ (RA.range2 HC.out hx.undrew) Try.underlying122 rfl stn_size ?_
        go_wp2
        exact ⟨rfl, Ext.refl _, rfl⟩
       ·intro vals w1 hx hd ha
        have e3 : vals 3 = .agg X := hd 3 (by decide)
        clear hd ha
        simp only [Lf, dstAt, Act.put, List.getElem?_toArray, List.getElem?_cons_zero, List.getElem?_cons_succ, Option.bind_some, List.setIfInBounds_toArray, List.set_cons_zero, List.set_cons_succ]
        simp only [e3]
        clear e3
        go_wp2_with fail
        refine (HV.out _).mono ?_
        rintro e w2 ⟨rfl, hb2⟩
        go_wp2
        exact ⟨rfl, hb2, rfl⟩
       ·intro vals w1 hx hd ha
        have e4 : vals 4 = .bool true := hd 4 (by decide)
        clear hd ha
        simp only [Lf, dstAt, Act.put, List.getElem?_toArray, List.getElem?_cons_zero, List.getElem?_cons_succ, Option.bind_some, List.setIfInBounds_toArray, List.set_cons_zero, List.set_cons_succ]
        simp only [e4]
        clear e4
        go_wp2
        exact ⟨rfl, Ext.refl _, rfl⟩
       ·intro vals w1 hx hd ha
        have e4 : vals 4 = .bool true := hd 4 (by decide)
        have e5 : vals 5 = .bool false := hd 5 (by decide)
        clear hd ha
        simp only [Lf, dstAt, Act.put, List.getElem?_toArray, List.getElem?_cons_zero, List.getElem?_cons_succ, Option.bind_some, List.setIfInBounds_toArray, List.set_cons_zero, List.set_cons_succ]
        simp only [e4, e5]
        clear e4 e5
        go_wp2
        exact ⟨rfl, Ext.refl _, rfl⟩
       ·intro vals w1 hx hd ha
        have e6 : vals 6 = .bool false := hd 6 (by decide)
        clear hd ha
        simp only [Lf, dstAt, Act.put, List.getElem?_toArray, List.getElem?_cons_zero, List.getElem?_cons_succ, Option.bind_some, List.setIfInBounds_toArray, List.set_cons_zero, List.set_cons_succ]
        simp only [e6]
        clear e6
        go_wp2
        exact ⟨rfl, Ext.refl _, rfl⟩
       ·intro vals w1 hx hd ha
        have e6 : vals 6 = .bool false := hd 6 (by decide)
        have e7 : vals 7 = .int .i64 (k : Int) := hd 7 (by decide)
        clear hd ha
        simp only [Lf, dstAt, Act.put, List.getElem?_toArray, List.getElem?_cons_zero, List.getElem?_cons_succ, Option.bind_some, List.setIfInBounds_toArray, List.set_cons_zero, List.set_cons_succ]
        simp only [e6, e7]
        clear e6 e7
        go_wp2
        exact ⟨rfl, Ext.refl _, rfl⟩
       ·intro vals w1 hx hd ha
        have e6 : vals 6 = .bool false := hd 6 (by decide)
        have e8 : vals 8 = .bool true := hd 8 (by decide)
        clear hd ha
        simp only [Lf, dstAt, Act.put, List.getElem?_toArray, List.getElem?_cons_zero, List.getElem?_cons_succ, Option.bind_some, List.setIfInBounds_toArray, List.set_cons_zero, List.set_cons_succ]
        simp only [e6, e8]
        clear e6 e8
        go_wp2
        exact ⟨rfl, Ext.refl _, rfl⟩
       ·intro vals w1 hx hd ha
        have e9 : vals 9 = .bool true := hd 9 (by decide)
        clear hd ha
        simp only [Lf, dstAt, Act.put, List.getElem?_toArray, List.getElem?_cons_zero, List.getElem?_cons_succ, Option.bind_some, List.setIfInBounds_toArray, List.set_cons_zero, List.set_cons_succ]
        simp only [e9]
        clear e9
        go_wp2
        exact ⟨rfl, Ext.refl _, rfl⟩
       ·intro vals w1 hx hd ha
        have e9 : vals 9 = .bool true := hd 9 (by decide)
        clear hd ha
        simp only [Lf, dstAt, Act.put, List.getElem?_toArray, List.getElem?_cons_zero, List.getElem?_cons_succ, Option.bind_some, List.setIfInBounds_toArray, List.set_cons_zero, List.set_cons_succ]
        simp only [e9]
        clear e9
        go_wp2
        exact ⟨rfl, Ext.refl _, rfl⟩
       ·intro vals w1 hx hd ha
        have e9 : vals 9 = .bool true := hd 9 (by decide)
        have e10 : vals 10 = .slice (some ⟨b', o', none⟩) n c := hd 10 (by decide)
        have e11 : vals 11 = .int .i64 (k : Int) := hd 11 (by decide)
        clear hd ha
        simp only [Lf, dstAt, Act.put, List.getElem?_toArray, List.getElem?_cons_zero, List.getElem?_cons_succ, Option.bind_some, List.setIfInBounds_toArray, List.set_cons_zero, List.set_cons_succ]
        simp only [e9, e10, e11]
        clear e9 e10 e11
        go_wp2
        exact ⟨rfl, Ext.refl _, rfl⟩
       ·intro vals w1 hx hd ha
        have e9 : vals 9 = .bool true := hd 9 (by decide)
        have e12 : vals 12 = .pointer (some ⟨b', o' + k * 6, none⟩) := hd 12 (by decide)
        clear hd ha
        simp only [Lf, dstAt, Act.put, List.getElem?_toArray, List.getElem?_cons_zero, List.getElem?_cons_succ, Option.bind_some, List.setIfInBounds_toArray, List.set_cons_zero, List.set_cons_succ]
        simp only [e9, e12]
        clear e9 e12
        go_wp2
        exact ⟨rfl, Ext.refl _, rfl⟩
       ·intro vals w1 hx hd ha
        have e9 : vals 9 = .bool true := hd 9 (by decide)
        have e13 : vals 13 = .pointer (some ⟨b', o' + k * 6, none⟩) := hd 13 (by decide)
        clear hd ha
        simp only [Lf, dstAt, Act.put, List.getElem?_toArray, List.getElem?_cons_zero, List.getElem?_cons_succ, Option.bind_some, List.setIfInBounds_toArray, List.set_cons_zero, List.set_cons_succ]
        simp only [e9, e13]
        clear e9 e13
        have g0 := ext_cell hx g0
        go_wp2
        exact ⟨rfl, Ext.refl _, rfl⟩
       ·intro vals w1 hx hd ha
        have e9 : vals 9 = .bool true := hd 9 (by decide)
        clear hd ha
        simp only [Lf, dstAt, Act.put, List.getElem?_toArray, List.getElem?_cons_zero, List.getElem?_cons_succ, Option.bind_some, List.setIfInBounds_toArray, List.set_cons_zero, List.set_cons_succ]
        simp only [e9]
        clear e9
        go_wp2
        exact ⟨rfl, Ext.refl _, rfl⟩
       ·intro vals w1 hx hd ha
        have e9 : vals 9 = .bool true := hd 9 (by decide)
        clear hd ha
        simp only [Lf, dstAt, Act.put, List.getElem?_toArray, List.getElem?_cons_zero, List.getElem?_cons_succ, Option.bind_some, List.setIfInBounds_toArray, List.set_cons_zero, List.set_cons_succ]
        simp only [e9]
        clear e9
        go_wp2
        exact ⟨rfl, Ext.refl _, rfl⟩
       ·intro vals w1 hx hd ha
        have e9 : vals 9 = .bool true := hd 9 (by decide)
        have e16 : vals 16 = .int .i64 (k : Int) := hd 16 (by decide)
        clear hd ha
        simp only [Lf, dstAt, Act.put, List.getElem?_toArray, List.getElem?_cons_zero, List.getElem?_cons_succ, Option.bind_some, List.setIfInBounds_toArray, List.set_cons_zero, List.set_cons_succ]
        simp only [e9, e16]
        clear e9 e16
        go_wp2
        exact ⟨rfl, Ext.refl _, rfl⟩
       ·intro vals w1 hx hd ha
        have e9 : vals 9 = .bool true := hd 9 (by decide)
        have e15 : vals 15 = .slice (some ⟨b', o', none⟩) n c := hd 15 (by decide)
        have e17 : vals 17 = .int .i64 ((k : Int) - 1) := hd 17 (by decide)
        clear hd ha
        simp only [Lf, dstAt, Act.put, List.getElem?_toArray, List.getElem?_cons_zero, List.getElem?_cons_succ, Option.bind_some, List.setIfInBounds_toArray, List.set_cons_zero, List.set_cons_succ]
        simp only [e9, e15, e17]
        clear e9 e15 e17
        go_wp2
        exact ⟨rfl, Ext.refl _, rfl⟩
       ·intro vals w1 hx hd ha
        have e9 : vals 9 = .bool true := hd 9 (by decide)
        have e18 : vals 18 = .pointer (some ⟨b', o' + (k - 1) * 6, none⟩) := hd 18 (by decide)
        clear hd ha
        simp only [Lf, dstAt, Act.put, List.getElem?_toArray, List.getElem?_cons_zero, List.getElem?_cons_succ, Option.bind_some, List.setIfInBounds_toArray, List.set_cons_zero, List.set_cons_succ]
        simp only [e9, e18]
        clear e9 e18
        go_wp2
        exact ⟨rfl, Ext.refl _, rfl⟩
       ·intro vals w1 hx hd ha
        have e9 : vals 9 = .bool true := hd 9 (by decide)
        have e19 : vals 19 = .pointer (some ⟨b', o' + (k - 1) * 6, none⟩) := hd 19 (by decide)
        clear hd ha
        simp only [Lf, dstAt, Act.put, List.getElem?_toArray, List.getElem?_cons_zero, List.getElem?_cons_succ, Option.bind_some, List.setIfInBounds_toArray, List.set_cons_zero, List.set_cons_succ]
        simp only [e9, e19]
        clear e9 e19
        have d0 := ext_cell hx d0
        go_wp2
        exact ⟨rfl, Ext.refl _, rfl⟩
       ·intro vals w1 hx hd ha
        have e9 : vals 9 = .bool true := hd 9 (by decide)
        have e14 : vals 14 = .int .i64 x.id := hd 14 (by decide)
        have e20 : vals 20 = .int .i64 y.id := hd 20 (by decide)
        clear hd ha
        simp only [Lf, dstAt, Act.put, List.getElem?_toArray, List.getElem?_cons_zero, List.getElem?_cons_succ, Option.bind_some, List.setIfInBounds_toArray, List.set_cons_zero, List.set_cons_succ]
        simp only [e9, e14, e20]
        clear e9 e14 e20
        go_wp2
        exact ⟨rfl, Ext.refl _, rfl⟩
       ·intro vals w1 hx hd ha
        have e6 : vals 6 = .bool false := hd 6 (by decide)
        have e9 : vals 9 = .bool true := hd 9 (by decide)
        have e21 : vals 21 = .bool (decide (x.id ≤ y.id)) := hd 21 (by decide)
        clear hd ha
        simp only [Lf, dstAt, Act.put, List.getElem?_toArray, List.getElem?_cons_zero, List.getElem?_cons_succ, Option.bind_some, List.setIfInBounds_toArray, List.set_cons_zero, List.set_cons_succ]
        simp only [e6, e9, e21]
        clear e6 e9 e21
        go_wp2
        exact ⟨rfl, Ext.refl _, rfl⟩
       ·intro vals w1 hx hd ha
        have e6 : vals 6 = .bool false := hd 6 (by decide)
        have e22 : vals 22 = .bool (decide (x.id ≤ y.id)) := hd 22 (by decide)
        clear hd ha
        simp only [Lf, dstAt, Act.put, List.getElem?_toArray, List.getElem?_cons_zero, List.getElem?_cons_succ, Option.bind_some, List.setIfInBounds_toArray, List.set_cons_zero, List.set_cons_succ]
        simp only [e6, e22]
        clear e6 e22
        go_wp2
        exact ⟨rfl, Ext.refl _, rfl⟩
      intro vals w5 hx hf
      have e23 : vals 23 = .bool (decide (x.id ≤ y.id)) := hf 23 (by omega)
      clear hf
      have hx := hx.undrew
      have hB5 := bl_then hB hx
      refine tail0 (by kernel_rfl) ?_
      simp only [Lf, dstAt, Act.put, List.getElem?_toArray, List.getElem?_cons_zero, List.getElem?_cons_succ, Option.bind_some, List.setIfInBounds_toArray, List.set_cons_zero, List.set_cons_succ]
      rw [e23]
      clear e23
      by_cases hid : x.id ≤ y.id
      ·have hid2 : decide (y.id < x.id) = false := by simp; omega
       have HI := Lib.hid hid2
       clear hid2
       go_wp2
       go_ret
       exact ⟨by rw [HS.out, HP.out]; simp [HI.out], hB5⟩
      ·have hid2 : decide (y.id < x.id) = true := by simp; omega
       have HI := Lib.hid hid2
       clear hid2
       go_wp2
       go_roundw
       case rel => exact ⟨k + 1, by omega, by go_num, Lib.hid (by rw [HS.out, HP.out]; simp [HI.out]), hB5⟩
       case measure => simp [intOf]; omega
   ·go_wp2
    go_ret
    exact ⟨by rw [HK.out, List.drop_of_length_le (by rw [HL.out]; omega)]; rfl, hB⟩
 ·have hd : decide (n ≤ 12) = false := by simpa using hm
  rw [hd, Bool.false_and]
  clear hd
  go_enter Try.func44, Try.ntmps44
  go_wp2
  go_ret
  exact ⟨rfl, (by repeat (first | exact Below.refl _ _ | assumption | refine Below.drew ?_ | refine below_drewN ?_ _ | refine bl_alloc ?_ _ | refine Below.setCell ?_ (by first | (simp; done) | omega | (simp; omega)) _ | refine bl_then ?_ (by assumption)))⟩
end Go.Proofs.Ytmlabgmigakcbaa
namespace Go.Proofs.Ytmlabgmigakcbaa
open Go.RowKit
structure Evt where
 at_ : Int
 im : Int
def evtCells (x : Evt) : List Value := [.int .i64 2, .int .i64 x.at_, .int .i64 x.im, .slice none 0 0, .int .i64 0, .int .i64 0, .bool false]
theorem evt_len (x : Evt) : (evtCells x).length = 7 := rfl
theorem evt_size : (Try.prog.info? 59).map (·.size) = some 7 := by kernel_rfl
theorem info_evt : (Try.prog.info? 59).map (fun i => (i.zero, i.size, i.bytes)) = some (some (.agg #[.int .i64 0, .int .i64 0, .int .i64 0, .slice none 0 0, .int .i64 0, .int .i64 0, .bool false]), 7, 72) := by kernel_rfl
def cmpEvt (a b : Evt) : Int := orL [cmpI a.at_ b.at_, cmpI a.im b.im]
set_option maxRecDepth 100000 in
set_option maxHeartbeats 4000000 in
theorem cmpEvt_any (a b : Evt) (w : World) : Calls Try.prog 55 #[.agg (evtCells a).toArray, .agg (evtCells b).toArray] w fun e w' => e = .returned (.int .i64 (cmpEvt a b)) ∧ Below w.heap.size w w' := by
 obtain ⟨at_, ai⟩ := a
 obtain ⟨bt, bi⟩ := b
 unfold cmpEvt
 dsimp only
 generalize h0 : cmpI at_ bt = c0
 generalize h1 : cmpI ai bi = c1
 have HC0 := Lib.hid h0
 have HC1 := Lib.hid h1
 clear h0 h1
 show Calls Try.prog 55 #[.agg #[.int .i64 2, .int .i64 at_, .int .i64 ai, .slice none 0 0, .int .i64 0, .int .i64 0, .bool false], .agg #[.int .i64 2, .int .i64 bt, .int .i64 bi, .slice none 0 0, .int .i64 0, .int .i64 0, .bool false]] w _
 go_enter Try.func55, Try.ntmps55
 go_wp2_with fail
 have K1 : Blk ((w.alloc (.cells #[.int .i64 2, .int .i64 at_, .int .i64 ai, .slice none 0 0, .int .i64 0, .int .i64 0, .bool false] 59)).alloc (.cells #[.int .i64 2, .int .i64 bt, .int .i64 bi, .slice none 0 0, .int .i64 0, .int .i64 0, .bool false] 59)) w.heap.size 59 #[.int .i64 2, .int .i64 at_, .int .i64 ai, .slice none 0 0, .int .i64 0, .int .i64 0, .bool false] := (Blk.new _ _ _).alloc _
 have K2 : Blk ((w.alloc (.cells #[.int .i64 2, .int .i64 at_, .int .i64 ai, .slice none 0 0, .int .i64 0, .int .i64 0, .bool false] 59)).alloc (.cells #[.int .i64 2, .int .i64 bt, .int .i64 bi, .slice none 0 0, .int .i64 0, .int .i64 0, .bool false] 59)) (w.heap.size + 1) 59 #[.int .i64 2, .int .i64 bt, .int .i64 bi, .slice none 0 0, .int .i64 0, .int .i64 0, .bool false] := Blk.new_at _ _ _ (by simp)
 have hB : Below w.heap.size w ((w.alloc (.cells #[.int .i64 2, .int .i64 at_, .int .i64 ai, .slice none 0 0, .int .i64 0, .int .i64 0, .bool false] 59)).alloc (.cells #[.int .i64 2, .int .i64 bt, .int .i64 bi, .slice none 0 0, .int .i64 0, .int .i64 0, .bool false] 59)) := (by repeat (first | exact Below.refl _ _ | assumption | refine Below.drew ?_ | refine below_drewN ?_ _ | refine bl_alloc ?_ _ | refine Below.setCell ?_ (by first | (simp; done) | omega | (simp; omega)) _ | refine bl_then ?_ (by assumption)))
 generalize (w.alloc (.cells #[.int .i64 2, .int .i64 at_, .int .i64 ai, .slice none 0 0, .int .i64 0, .int .i64 0, .bool false] 59)).alloc (.cells #[.int .i64 2, .int .i64 bt, .int .i64 bi, .slice none 0 0, .int .i64 0, .int .i64 0, .bool false] 59) = W at K1 K2 hB ⊢
 have g1 : W.cell? ⟨w.heap.size, 1, none⟩ = some (.int .i64 at_) := K1.cell 1
 have g2 : W.cell? ⟨w.heap.size, 2, none⟩ = some (.int .i64 ai) := K1.cell 2
 have k1 : W.cell? ⟨w.heap.size + 1, 1, none⟩ = some (.int .i64 bt) := K2.cell 1
 have k2 : W.cell? ⟨w.heap.size + 1, 2, none⟩ = some (.int .i64 bi) := K2.cell 2
 refine wp_region_obl 12 (fun ix vals v w1 => match ix with | 0 => v = .pointer (some ⟨w.heap.size, 1, none⟩) | 1 => v = .int .i64 at_ | 2 => v = .pointer (some ⟨w.heap.size + 1, 1, none⟩) | 3 => v = .int .i64 bt | 4 => v = .int .i64 c0 | 5 => v = .pointer (some ⟨w.heap.size, 2, none⟩) | 6 => v = .int .i64 ai | 7 => v = .pointer (some ⟨w.heap.size + 1, 2, none⟩) | 8 => v = .int .i64 bi | 9 => v = .int .i64 c1 | 10 => ∃ g, v = .slice (some ⟨g, 0, none⟩) 2 2 ∧ Blk w1 g 3 #[.int .i64 c0, .int .i64 c1] | _ => v = .int .i64 (orL [c0, c1])) (by kernel_rfl) (by kernel_rfl) ?_ ?_ ?_ ?_
 ·intro ix vals v w1 w2 hi hr hx
  match ix, hr with
  | 0, hr => exact hr
  | 1, hr => exact hr
  | 2, hr => exact hr
  | 3, hr => exact hr
  | 4, hr => exact hr
  | 5, hr => exact hr
  | 6, hr => exact hr
  | 7, hr => exact hr
  | 8, hr => exact hr
  | 9, hr => exact hr
  | 10, hr => obtain ⟨g, h1, h2⟩ := hr; exact ⟨g, h1, h2.ext hx⟩
  | (kx + 11), hr => exact hr
 ·intro ix vals vals_ v w1 hi hv hr
  exact hr
 ·refine ⟨?_, ?_, ?_, ?_, ?_, ?_, ?_, ?_, ?_, ?_, ?_, ?_, trivial⟩
  ·intro vals w1 hx hd ha
   clear hd ha
   simp only [Lf]
   go_wp2
   exact ⟨rfl, Ext.refl _, rfl⟩
  ·intro vals w1 hx hd ha
   have e0 : vals 0 = .pointer (some ⟨w.heap.size, 1, none⟩) := hd 0 (by decide)
   clear hd ha
   simp only [Lf, dstAt, Act.put, List.getElem?_toArray, List.getElem?_cons_zero, Option.bind_some, List.setIfInBounds_toArray, List.set_cons_zero, List.set_cons_succ]
   simp only [e0]
   clear e0
   have g1 := ext_cell hx g1
   go_wp2
   exact ⟨rfl, Ext.refl _, rfl⟩
  ·intro vals w1 hx hd ha
   clear hd ha
   simp only [Lf, dstAt, Act.put, List.getElem?_toArray, List.getElem?_cons_zero, List.getElem?_cons_succ, Option.bind_some, List.setIfInBounds_toArray, List.set_cons_zero, List.set_cons_succ]
   go_wp2
   exact ⟨rfl, Ext.refl _, rfl⟩
  ·intro vals w1 hx hd ha
   have e2 : vals 2 = .pointer (some ⟨w.heap.size + 1, 1, none⟩) := hd 2 (by decide)
   clear hd ha
   simp only [Lf, dstAt, Act.put, List.getElem?_toArray, List.getElem?_cons_zero, List.getElem?_cons_succ, Option.bind_some, List.setIfInBounds_toArray, List.set_cons_zero, List.set_cons_succ]
   simp only [e2]
   clear e2
   have k1 := ext_cell hx k1
   go_wp2
   exact ⟨rfl, Ext.refl _, rfl⟩
  ·intro vals w1 hx hd ha
   have e1 : vals 1 = .int .i64 at_ := hd 1 (by decide)
   have e3 : vals 3 = .int .i64 bt := hd 3 (by decide)
   clear hd ha
   simp only [Lf, dstAt, Act.put, List.getElem?_toArray, List.getElem?_cons_zero, List.getElem?_cons_succ, Option.bind_some, List.setIfInBounds_toArray, List.set_cons_zero, List.set_cons_succ]
   simp only [e1]
   simp only [e3]
   clear e1 e3
   go_wp2_with fail
   refine (cmp_any at_ bt _).mono ?_
   rintro e w2 ⟨rfl, rfl⟩
   rw [HC0.out]
   go_wp2
   exact ⟨rfl, Ext.refl _, rfl⟩
  ·intro vals w1 hx hd ha
   clear hd ha
   simp only [Lf, dstAt, Act.put, List.getElem?_toArray, List.getElem?_cons_zero, List.getElem?_cons_succ, Option.bind_some, List.setIfInBounds_toArray, List.set_cons_zero, List.set_cons_succ]
   go_wp2
   exact ⟨rfl, Ext.refl _, rfl⟩
  ·intro vals w1 hx hd ha
   have e5 : vals 5 = .pointer (some ⟨w.heap.size, 2, none⟩) := hd 5 (by decide)
   clear hd ha
   simp only [Lf, dstAt, Act.put, List.getElem?_toArray, List.getElem?_cons_zero, List.getElem?_cons_succ, Option.bind_some, List.setIfInBounds_toArray, List.set_cons_zero, List.set_cons_succ]
   simp only [e5]
   clear e5
   have g2 := ext_cell hx g2
   go_wp2
   exact ⟨rfl, Ext.refl _, rfl⟩
  ·intro vals w1 hx hd ha
   clear hd ha
   simp only [Lf, dstAt, Act.put, List.getElem?_toArray, List.getElem?_cons_zero, List.getElem?_cons_succ, Option.bind_some, List.setIfInBounds_toArray, List.set_cons_zero, List.set_cons_succ]
   go_wp2
   exact ⟨rfl, Ext.refl _, rfl⟩
  ·intro vals w1 hx hd ha
   have e7 : vals 7 = .pointer (some ⟨w.heap.size + 1, 2, none⟩) := hd 7 (by decide)
   clear hd ha
   simp only [Lf, dstAt, Act.put, List.getElem?_toArray, List.getElem?_cons_zero, List.getElem?_cons_succ, Option.bind_some, List.setIfInBounds_toArray, List.set_cons_zero, List.set_cons_succ]
   simp only [e7]
   clear e7
   have k2 := ext_cell hx k2
   go_wp2
   exact ⟨rfl, Ext.refl _, rfl⟩
  ·intro vals w1 hx hd ha
   have e4 : vals 4 = .int .i64 c0 := hd 4 (by decide)
   have e6 : vals 6 = .int .i64 ai := hd 6 (by decide)
   have e8 : vals 8 = .int .i64 bi := hd 8 (by decide)
   clear hd ha
   simp only [Lf, dstAt, Act.put, List.getElem?_toArray, List.getElem?_cons_zero, List.getElem?_cons_succ, Option.bind_some, List.setIfInBounds_toArray, List.set_cons_zero, List.set_cons_succ]
   simp only [e4]
   simp only [e6]
   simp only [e8]
   clear e4 e6 e8
   go_wp2_with fail
   refine (cmp_any ai bi _).mono ?_
   rintro e w2 ⟨rfl, rfl⟩
   rw [HC1.out]
   go_wp2
   exact ⟨rfl, Ext.refl _, rfl⟩
  ·intro vals w1 hx hd ha
   have e4 : vals 4 = .int .i64 c0 := hd 4 (by decide)
   have e9 : vals 9 = .int .i64 c1 := hd 9 (by decide)
   clear hd ha
   simp only [Lf, dstAt, Act.put, List.getElem?_toArray, List.getElem?_cons_zero, List.getElem?_cons_succ, Option.bind_some, List.setIfInBounds_toArray, List.set_cons_zero, List.set_cons_succ]
   simp only [e4]
   simp only [e9]
   clear e4 e9
   go_wp2
   exact ⟨rfl, (by repeat (first | exact Below.refl _ _ | assumption | refine Below.drew ?_ | refine below_drewN ?_ _ | refine bl_alloc ?_ _ | refine Below.setCell ?_ (by first | (simp; done) | omega | (simp; omega)) _ | refine bl_then ?_ (by assumption))), _, rfl, Blk.new _ _ _⟩
  ·intro vals w1 hx hd ha
   have e9 : vals 9 = .int .i64 c1 := hd 9 (by decide)
   have r10 : (fun v w1 => ∃ g, v = .slice (some ⟨g, 0, none⟩) 2 2 ∧ Blk w1 g 3 #[.int .i64 c0, .int .i64 c1]) (vals 10) w1 := hd 10 (by decide)
   dsimp only at r10
   clear hd ha
   simp only [Lf, dstAt, Act.put, List.getElem?_toArray, List.getElem?_cons_zero, List.getElem?_cons_succ, Option.bind_some, List.setIfInBounds_toArray, List.set_cons_zero, List.set_cons_succ]
   obtain ⟨g, h1, h2⟩ := r10
   simp only [h1]
   go_wp2_with fail
   refine (or_any [c0, c1] g 2 2 _ rfl (by omega) (h2.ints rfl)).mono ?_
   rintro e w2 ⟨rfl, rfl⟩
   go_wp2
   exact ⟨rfl, Ext.refl _, rfl⟩
 intro vals w5 hx hf
 have e11 : vals 11 = .int .i64 (orL [c0, c1]) := hf 11 (by omega)
 clear hf
 have hB5 : Below w.heap.size w w5 := bl_then hB hx.undrew
 refine tail1 12 _ (by kernel_rfl) (by kernel_rfl) rfl ?_
 simp only [Lf, dstAt, Act.put, List.getElem?_toArray, List.getElem?_cons_zero, List.getElem?_cons_succ, Option.bind_some, List.setIfInBounds_toArray, List.set_cons_zero, List.set_cons_succ]
 rw [e11]
 go_wp2
 go_ret
 exact ⟨rfl, hB5⟩
end Go.Proofs.Ytmlabgmigakcbaa
