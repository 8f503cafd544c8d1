/- Stations that are valid (from contact's texts). -/
import Derived.Test.YtmlabgmigakcbaaP01
import Derived.Test.YtmlabgmigakcbaaP02
namespace Go.Proofs.Ytmlabgmigakcbaa
open Go.RowKit
theorem idStn (id x y re an sk : Int) (w : World) :
  Calls Try.prog 77 #[.agg #[.int .i64 id, .int .i64 x, .int .i64 y, .int .i64 re, .int .i64 an, .int .i64 sk]] w fun e w' => e = .returned (.int .i64 id) ∧ Below w.heap.size w w' := by
 go_enter Try.func77, Try.ntmps77
 go_wp2
 go_ret
 exact ⟨rfl, (by repeat (first | exact Below.refl _ _ | assumption | refine Below.drew ?_ | refine below_drewN ?_ _ | refine bl_alloc ?_ _ | refine Below.setCell ?_ (by first | (simp; done) | omega | (simp; omega)) _ | refine bl_then ?_ (by assumption)))⟩
set_option maxHeartbeats 4000000 in
theorem isListStn (l : List Stn) (A : Option Addr) (n c : Nat) (w : World) (h : RA stnCells 6 w w.heap.size A n c l) :
  Calls Try.prog 75 #[.slice A n c, .int .i64 12, .func (.func 76) #[] #[], .func (.func 77) #[] #[]] w fun e w' => e = .returned (.bool (stnsOK l)) ∧ Below w.heap.size w w' := by
 have HR := Lib.hid h
 have hle := h.le
 have hlen := h.len
 have HL := Lib.hid hlen
 have hs : stnsOK l = (decide (n ≤ 12) && listOK stnOK (·.id) none l) := by rw [stnsOK, hlen]
 rw [hs]
 clear h hs hlen
 by_cases hm : n ≤ 12
 ·have hd : decide (n ≤ 12) = true := by simpa using hm
  rw [hd, Bool.true_and]
  clear hd
  have hrl : listOK stnOK (·.id) none l = listOK stnOK (·.id) (prevAt l 0) (l.drop 0) := by simp [prevAt]
  have HQ := Lib.hid hrl
  clear hrl
  go_enter Try.func75, Try.ntmps75
  go_wp2
  go_loopw [17] (fun i wr => ∃ k : Nat, k ≤ n ∧ i = .int .i64 k ∧ Hid (listOK stnOK (·.id) none l = listOK stnOK (·.id) (prevAt l k) (l.drop k)) ∧ Below w.heap.size w wr) (fun i _ => n - (intOf i).toNat)
  case atStart => exact ⟨0, Nat.zero_le _, rfl, HQ, Below.refl _ _⟩
  case round =>
   clear HQ
   obtain ⟨k, hk, rfl, HK, hB⟩ := hrel
   by_cases hlt : k < n
   ·obtain ⟨b, o, hz, hA, hbl, hc⟩ := RA.at_ stn_len (HR.out.below hB) hlt
    have hst := listOK_step stnOK (fun x => x.id) l k hz
    rw [← HK.out] at hst
    generalize hx : l[k] = x at hst hc
    obtain ⟨id, ⟨x, y⟩, re, an, sk⟩ := x
    have c0 : wr.cell? ⟨b, o + k * 6, none⟩ = some (.int .i64 id) := hc 0 (by omega)
    have c1 : wr.cell? ⟨b, o + k * 6 + 1, none⟩ = some (.int .i64 x) := hc 1 (by omega)
    have c2 : wr.cell? ⟨b, o + k * 6 + 2, none⟩ = some (.int .i64 y) := hc 2 (by omega)
    have c3 : wr.cell? ⟨b, o + k * 6 + 3, none⟩ = some (.int .i64 re) := hc 3 (by omega)
    have c4 : wr.cell? ⟨b, o + k * 6 + 4, none⟩ = some (.int .i64 an) := hc 4 (by omega)
    have c5 : wr.cell? ⟨b, o + k * 6 + 5, none⟩ = some (.int .i64 sk) := hc 5 (by omega)
    have HV := Lib.hid (station_valid id x y re an sk)
    generalize stnOK ⟨id, ⟨x, y⟩, re, an, sk⟩ = q at hst HV
    dsimp only at hst
    have HS := Lib.hid hst
    clear hst hc HK
    subst hA
    have hblt : b < w.heap.size := hbl
    go_wp2_with fail
    have K := Blk.new wr 122 #[.int .i64 id, .int .i64 x, .int .i64 y, .int .i64 re, .int .i64 an, .int .i64 sk]
    have hB1 : Below w.heap.size w (wr.alloc (.cells #[.int .i64 id, .int .i64 x, .int .i64 y, .int .i64 re, .int .i64 an, .int .i64 sk] 122)) := bl_alloc hB _
    have hg1 : w.heap.size ≤ wr.heap.size := hB.size
    have hx1 : Ext wr (wr.alloc (.cells #[.int .i64 id, .int .i64 x, .int .i64 y, .int .i64 re, .int .i64 an, .int .i64 sk] 122)) := bl_alloc (Below.refl _ _) _
    generalize wr.alloc (.cells #[.int .i64 id, .int .i64 x, .int .i64 y, .int .i64 re, .int .i64 an, .int .i64 sk] 122) = W at K hB1 hx1 ⊢
    have HX1 := Lib.hid hx1
    clear hx1
    have g0 : W.cell? ⟨wr.heap.size, 0, none⟩ = some (.int .i64 id) := K.cell 0
    have g1 : W.cell? ⟨wr.heap.size, 1, none⟩ = some (.int .i64 x) := K.cell 1
    have g2 : W.cell? ⟨wr.heap.size, 2, none⟩ = some (.int .i64 y) := K.cell 2
    have g3 : W.cell? ⟨wr.heap.size, 3, none⟩ = some (.int .i64 re) := K.cell 3
    have g4 : W.cell? ⟨wr.heap.size, 4, none⟩ = some (.int .i64 an) := K.cell 4
    have g5 : W.cell? ⟨wr.heap.size, 5, none⟩ = some (.int .i64 sk) := K.cell 5
    cases q
    ·skip
     refine wp_region_obl 21 (fun ix vals v w1 => match ix with | 0 => v = .func (.func 76) #[] #[] | 1 => v = .agg #[.int .i64 id, .int .i64 x, .int .i64 y, .int .i64 re, .int .i64 an, .int .i64 sk] | 2 => v = .bool false | 3 => v = .bool true | 4 => v = .bool true | 5 => v = undef | 6 => v = undef | 7 => v = undef | 8 => v = undef | 9 => v = undef | 10 => v = undef | 11 => v = undef | 12 => v = undef | 13 => v = undef | 14 => v = undef | 15 => v = undef | 16 => v = undef | 17 => v = undef | 18 => v = undef | 19 => v = undef | _ => v = .bool true) (by kernel_rfl) (by kernel_rfl) ?_ ?_ ?_ ?_
     ·intro ix vals v w1 w2 hi hr hx
      match ix, hr with
      | 0, hr => exact hr
      | 1, hr => exact hr
      | 2, hr => exact hr
      | 3, hr => exact hr
      | 4, hr => exact hr
      | 5, hr => exact hr
      | 6, hr => exact hr
      | 7, hr => exact hr
      | 8, hr => exact hr
      | 9, hr => exact hr
      | 10, hr => exact hr
      | 11, hr => exact hr
      | 12, hr => exact hr
      | 13, hr => exact hr
      | 14, hr => exact hr
      | 15, hr => exact hr
      | 16, hr => exact hr
      | 17, hr => exact hr
      | 18, hr => exact hr
      | 19, hr => exact hr
      | (kx + 20), hr => exact hr
     ·intro ix vals vals_ v w1 hi hv hr
      exact hr
     ·refine ⟨?_, ?_, ?_, ?_, ?_, ?_, ?_, ?_, ?_, ?_, ?_, ?_, ?_, ?_, ?_, ?_, ?_, ?_, ?_, ?_, ?_, trivial⟩
      ·intro vals w1 hx hd ha
       clear hd ha
       simp only [Lf]
       go_wp2
       exact ⟨rfl, Ext.refl _, rfl⟩
      ·intro vals w1 hx hd ha
       clear hd ha
       simp only [Lf, dstAt, Act.put, List.getElem?_toArray, List.getElem?_cons_zero, Option.bind_some, List.setIfInBounds_toArray, List.set_cons_zero, List.set_cons_succ]
       have g0 := ext_cell hx g0
       have g1 := ext_cell hx g1
       have g2 := ext_cell hx g2
       have g3 := ext_cell hx g3
       have g4 := ext_cell hx g4
       have g5 := ext_cell hx g5
       go_wp2
       exact ⟨rfl, Ext.refl _, rfl⟩
      ·intro vals w1 hx hd ha
       have e0 : vals 0 = .func (.func 76) #[] #[] := hd 0 (by decide)
       have e1 : vals 1 = .agg #[.int .i64 id, .int .i64 x, .int .i64 y, .int .i64 re, .int .i64 an, .int .i64 sk] := hd 1 (by decide)
       clear hd ha
       simp only [Lf, dstAt, Act.put, List.getElem?_toArray, List.getElem?_cons_zero, List.getElem?_cons_succ, Option.bind_some, List.setIfInBounds_toArray, List.set_cons_zero, List.set_cons_succ]
       simp only [e0]
       simp only [e1]
       clear e0 e1
       go_wp2_with fail
       refine (HV.out _).mono ?_
       rintro e w2 ⟨rfl, hb2⟩
       go_wp2
       exact ⟨rfl, hb2, rfl⟩
      ·intro vals w1 hx hd ha
       have e2 : vals 2 = .bool false := hd 2 (by decide)
       clear hd ha
       simp only [Lf, dstAt, Act.put, List.getElem?_toArray, List.getElem?_cons_zero, List.getElem?_cons_succ, Option.bind_some, List.setIfInBounds_toArray, List.set_cons_zero, List.set_cons_succ]
       simp only [e2]
       clear e2
       go_wp2
       exact ⟨rfl, Ext.refl _, rfl⟩
      ·intro vals w1 hx hd ha
       have e2 : vals 2 = .bool false := hd 2 (by decide)
       have e3 : vals 3 = .bool true := hd 3 (by decide)
       clear hd ha
       simp only [Lf, dstAt, Act.put, List.getElem?_toArray, List.getElem?_cons_zero, List.getElem?_cons_succ, Option.bind_some, List.setIfInBounds_toArray, List.set_cons_zero, List.set_cons_succ]
       simp only [e2, e3]
       clear e2 e3
       go_wp2
       exact ⟨rfl, Ext.refl _, rfl⟩
      ·intro vals w1 hx hd ha
       have e4 : vals 4 = .bool true := hd 4 (by decide)
       clear hd ha
       simp only [Lf, dstAt, Act.put, List.getElem?_toArray, List.getElem?_cons_zero, List.getElem?_cons_succ, Option.bind_some, List.setIfInBounds_toArray, List.set_cons_zero, List.set_cons_succ]
       simp only [e4]
       clear e4
       go_wp2
       exact ⟨rfl, Ext.refl _, rfl⟩
      ·intro vals w1 hx hd ha
       have e4 : vals 4 = .bool true := hd 4 (by decide)
       have e5 : vals 5 = undef := hd 5 (by decide)
       clear hd ha
       simp only [Lf, dstAt, Act.put, List.getElem?_toArray, List.getElem?_cons_zero, List.getElem?_cons_succ, Option.bind_some, List.setIfInBounds_toArray, List.set_cons_zero, List.set_cons_succ]
       simp only [e4, e5]
       clear e4 e5
       go_wp2
       exact ⟨rfl, Ext.refl _, rfl⟩
      ·intro vals w1 hx hd ha
       have e4 : vals 4 = .bool true := hd 4 (by decide)
       have e6 : vals 6 = undef := hd 6 (by decide)
       clear hd ha
       simp only [Lf, dstAt, Act.put, List.getElem?_toArray, List.getElem?_cons_zero, List.getElem?_cons_succ, Option.bind_some, List.setIfInBounds_toArray, List.set_cons_zero, List.set_cons_succ]
       simp only [e4, e6]
       clear e4 e6
       go_wp2
       exact ⟨rfl, Ext.refl _, rfl⟩
      ·intro vals w1 hx hd ha
       have e7 : vals 7 = undef := hd 7 (by decide)
       clear hd ha
       simp only [Lf, dstAt, Act.put, List.getElem?_toArray, List.getElem?_cons_zero, List.getElem?_cons_succ, Option.bind_some, List.setIfInBounds_toArray, List.set_cons_zero, List.set_cons_succ]
       simp only [e7]
       clear e7
       go_wp2
       exact ⟨rfl, Ext.refl _, rfl⟩
      ·intro vals w1 hx hd ha
       have e7 : vals 7 = undef := hd 7 (by decide)
       clear hd ha
       simp only [Lf, dstAt, Act.put, List.getElem?_toArray, List.getElem?_cons_zero, List.getElem?_cons_succ, Option.bind_some, List.setIfInBounds_toArray, List.set_cons_zero, List.set_cons_succ]
       simp only [e7]
       clear e7
       go_wp2
       exact ⟨rfl, Ext.refl _, rfl⟩
      ·intro vals w1 hx hd ha
       have e7 : vals 7 = undef := hd 7 (by decide)
       have e8 : vals 8 = undef := hd 8 (by decide)
       have e9 : vals 9 = undef := hd 9 (by decide)
       clear hd ha
       simp only [Lf, dstAt, Act.put, List.getElem?_toArray, List.getElem?_cons_zero, List.getElem?_cons_succ, Option.bind_some, List.setIfInBounds_toArray, List.set_cons_zero, List.set_cons_succ]
       simp only [e7, e8, e9]
       clear e7 e8 e9
       go_wp2
       exact ⟨rfl, Ext.refl _, rfl⟩
      ·intro vals w1 hx hd ha
       have e7 : vals 7 = undef := hd 7 (by decide)
       clear hd ha
       simp only [Lf, dstAt, Act.put, List.getElem?_toArray, List.getElem?_cons_zero, List.getElem?_cons_succ, Option.bind_some, List.setIfInBounds_toArray, List.set_cons_zero, List.set_cons_succ]
       simp only [e7]
       clear e7
       go_wp2
       exact ⟨rfl, Ext.refl _, rfl⟩
      ·intro vals w1 hx hd ha
       have e7 : vals 7 = undef := hd 7 (by decide)
       clear hd ha
       simp only [Lf, dstAt, Act.put, List.getElem?_toArray, List.getElem?_cons_zero, List.getElem?_cons_succ, Option.bind_some, List.setIfInBounds_toArray, List.set_cons_zero, List.set_cons_succ]
       simp only [e7]
       clear e7
       go_wp2
       exact ⟨rfl, Ext.refl _, rfl⟩
      ·intro vals w1 hx hd ha
       have e7 : vals 7 = undef := hd 7 (by decide)
       clear hd ha
       simp only [Lf, dstAt, Act.put, List.getElem?_toArray, List.getElem?_cons_zero, List.getElem?_cons_succ, Option.bind_some, List.setIfInBounds_toArray, List.set_cons_zero, List.set_cons_succ]
       simp only [e7]
       clear e7
       go_wp2
       exact ⟨rfl, Ext.refl _, rfl⟩
      ·intro vals w1 hx hd ha
       have e7 : vals 7 = undef := hd 7 (by decide)
       have e13 : vals 13 = undef := hd 13 (by decide)
       clear hd ha
       simp only [Lf, dstAt, Act.put, List.getElem?_toArray, List.getElem?_cons_zero, List.getElem?_cons_succ, Option.bind_some, List.setIfInBounds_toArray, List.set_cons_zero, List.set_cons_succ]
       simp only [e7, e13]
       clear e7 e13
       go_wp2
       exact ⟨rfl, Ext.refl _, rfl⟩
      ·intro vals w1 hx hd ha
       have e7 : vals 7 = undef := hd 7 (by decide)
       have e12 : vals 12 = undef := hd 12 (by decide)
       have e14 : vals 14 = undef := hd 14 (by decide)
       clear hd ha
       simp only [Lf, dstAt, Act.put, List.getElem?_toArray, List.getElem?_cons_zero, List.getElem?_cons_succ, Option.bind_some, List.setIfInBounds_toArray, List.set_cons_zero, List.set_cons_succ]
       simp only [e7, e12, e14]
       clear e7 e12 e14
       go_wp2
       exact ⟨rfl, Ext.refl _, rfl⟩
      ·intro vals w1 hx hd ha
       have e7 : vals 7 = undef := hd 7 (by decide)
       have e15 : vals 15 = undef := hd 15 (by decide)
       clear hd ha
       simp only [Lf, dstAt, Act.put, List.getElem?_toArray, List.getElem?_cons_zero, List.getElem?_cons_succ, Option.bind_some, List.setIfInBounds_toArray, List.set_cons_zero, List.set_cons_succ]
       simp only [e7, e15]
       clear e7 e15
       go_wp2
       exact ⟨rfl, Ext.refl _, rfl⟩
      ·intro vals w1 hx hd ha
       have e7 : vals 7 = undef := hd 7 (by decide)
       have e10 : vals 10 = undef := hd 10 (by decide)
       have e11 : vals 11 = undef := hd 11 (by decide)
       have e16 : vals 16 = undef := hd 16 (by decide)
       clear hd ha
       simp only [Lf, dstAt, Act.put, List.getElem?_toArray, List.getElem?_cons_zero, List.getElem?_cons_succ, Option.bind_some, List.setIfInBounds_toArray, List.set_cons_zero, List.set_cons_succ]
       simp only [e7, e10, e11, e16]
       clear e7 e10 e11 e16
       go_wp2
       exact ⟨rfl, Ext.refl _, rfl⟩
      ·intro vals w1 hx hd ha
       have e7 : vals 7 = undef := hd 7 (by decide)
       have e10 : vals 10 = undef := hd 10 (by decide)
       have e17 : vals 17 = undef := hd 17 (by decide)
       clear hd ha
       simp only [Lf, dstAt, Act.put, List.getElem?_toArray, List.getElem?_cons_zero, List.getElem?_cons_succ, Option.bind_some, List.setIfInBounds_toArray, List.set_cons_zero, List.set_cons_succ]
       simp only [e7, e10, e17]
       clear e7 e10 e17
       go_wp2
       exact ⟨rfl, Ext.refl _, rfl⟩
      ·intro vals w1 hx hd ha
       have e4 : vals 4 = .bool true := hd 4 (by decide)
       have e7 : vals 7 = undef := hd 7 (by decide)
       have e18 : vals 18 = undef := hd 18 (by decide)
       clear hd ha
       simp only [Lf, dstAt, Act.put, List.getElem?_toArray, List.getElem?_cons_zero, List.getElem?_cons_succ, Option.bind_some, List.setIfInBounds_toArray, List.set_cons_zero, List.set_cons_succ]
       simp only [e4, e7, e18]
       clear e4 e7 e18
       go_wp2
       exact ⟨rfl, Ext.refl _, rfl⟩
      ·intro vals w1 hx hd ha
       have e4 : vals 4 = .bool true := hd 4 (by decide)
       have e19 : vals 19 = undef := hd 19 (by decide)
       clear hd ha
       simp only [Lf, dstAt, Act.put, List.getElem?_toArray, List.getElem?_cons_zero, List.getElem?_cons_succ, Option.bind_some, List.setIfInBounds_toArray, List.set_cons_zero, List.set_cons_succ]
       simp only [e4, e19]
       clear e4 e19
       go_wp2
       exact ⟨rfl, Ext.refl _, rfl⟩
     intro vals w5 hx hf
     have e20 : vals 20 = .bool true := hf 20 (by omega)
     clear hf
     have hx := hx.undrew
     have hB5 := bl_then hB1 hx
     refine tail0 (by kernel_rfl) ?_
     simp only [Lf, dstAt, Act.put, List.getElem?_toArray, List.getElem?_cons_zero, List.getElem?_cons_succ, Option.bind_some, List.setIfInBounds_toArray, List.set_cons_zero, List.set_cons_succ]
     rw [e20]
     clear e20 g0 g1 g2 g3 g4 g5
     go_wp2
     go_ret
     exact ⟨by rw [HS.out]; rfl, hB5⟩
    ·by_cases hk0 : k = 0
     ·have hk0' : (k : Int) ≤ 0 := by omega
      have hpv : prevAt l k = none := by simp [prevAt, hk0]
      have HP := Lib.hid hpv
      have hk0h := Lib.hid hk0
      have hkd : decide (0 < k) = false := by simp; omega
      clear hpv hk0
      refine wp_region_obl 21 (fun ix vals v w1 => match ix with | 0 => v = .func (.func 76) #[] #[] | 1 => v = .agg #[.int .i64 id, .int .i64 x, .int .i64 y, .int .i64 re, .int .i64 an, .int .i64 sk] | 2 => v = .bool true | 3 => v = .bool false | 4 => v = .bool false | 5 => v = .int .i64 (k : Int) | 6 => v = .bool false | 7 => v = .bool false | 8 => v = undef | 9 => v = undef | 10 => v = undef | 11 => v = undef | 12 => v = undef | 13 => v = undef | 14 => v = undef | 15 => v = undef | 16 => v = undef | 17 => v = undef | 18 => v = undef | 19 => v = .bool false | _ => v = .bool false) (by kernel_rfl) (by kernel_rfl) ?_ ?_ ?_ ?_
      ·intro ix vals v w1 w2 hi hr hx
       match ix, hr with
       | 0, hr => exact hr
       | 1, hr => exact hr
       | 2, hr => exact hr
       | 3, hr => exact hr
       | 4, hr => exact hr
       | 5, hr => exact hr
       | 6, hr => exact hr
       | 7, hr => exact hr
       | 8, hr => exact hr
       | 9, hr => exact hr
       | 10, hr => exact hr
       | 11, hr => exact hr
       | 12, hr => exact hr
       | 13, hr => exact hr
       | 14, hr => exact hr
       | 15, hr => exact hr
       | 16, hr => exact hr
       | 17, hr => exact hr
       | 18, hr => exact hr
       | 19, hr => exact hr
       | (kx + 20), hr => exact hr
      ·intro ix vals vals_ v w1 hi hv hr
       exact hr
      ·refine ⟨?_, ?_, ?_, ?_, ?_, ?_, ?_, ?_, ?_, ?_, ?_, ?_, ?_, ?_, ?_, ?_, ?_, ?_, ?_, ?_, ?_, trivial⟩
       ·intro vals w1 hx hd ha
        clear hd ha
        simp only [Lf]
        go_wp2
        exact ⟨rfl, Ext.refl _, rfl⟩
       ·intro vals w1 hx hd ha
        clear hd ha
        simp only [Lf, dstAt, Act.put, List.getElem?_toArray, List.getElem?_cons_zero, Option.bind_some, List.setIfInBounds_toArray, List.set_cons_zero, List.set_cons_succ]
        have g0 := ext_cell hx g0
        have g1 := ext_cell hx g1
        have g2 := ext_cell hx g2
        have g3 := ext_cell hx g3
        have g4 := ext_cell hx g4
        have g5 := ext_cell hx g5
        go_wp2
        exact ⟨rfl, Ext.refl _, rfl⟩
       ·intro vals w1 hx hd ha
        have e0 : vals 0 = .func (.func 76) #[] #[] := hd 0 (by decide)
        have e1 : vals 1 = .agg #[.int .i64 id, .int .i64 x, .int .i64 y, .int .i64 re, .int .i64 an, .int .i64 sk] := hd 1 (by decide)
        clear hd ha
        simp only [Lf, dstAt, Act.put, List.getElem?_toArray, List.getElem?_cons_zero, List.getElem?_cons_succ, Option.bind_some, List.setIfInBounds_toArray, List.set_cons_zero, List.set_cons_succ]
        simp only [e0]
        simp only [e1]
        clear e0 e1
        go_wp2_with fail
        refine (HV.out _).mono ?_
        rintro e w2 ⟨rfl, hb2⟩
        go_wp2
        exact ⟨rfl, hb2, rfl⟩
       ·intro vals w1 hx hd ha
        have e2 : vals 2 = .bool true := hd 2 (by decide)
        clear hd ha
        simp only [Lf, dstAt, Act.put, List.getElem?_toArray, List.getElem?_cons_zero, List.getElem?_cons_succ, Option.bind_some, List.setIfInBounds_toArray, List.set_cons_zero, List.set_cons_succ]
        simp only [e2]
        clear e2
        go_wp2
        exact ⟨rfl, Ext.refl _, rfl⟩
       ·intro vals w1 hx hd ha
        have e2 : vals 2 = .bool true := hd 2 (by decide)
        have e3 : vals 3 = .bool false := hd 3 (by decide)
        clear hd ha
        simp only [Lf, dstAt, Act.put, List.getElem?_toArray, List.getElem?_cons_zero, List.getElem?_cons_succ, Option.bind_some, List.setIfInBounds_toArray, List.set_cons_zero, List.set_cons_succ]
        simp only [e2, e3]
        clear e2 e3
        go_wp2
        exact ⟨rfl, Ext.refl _, rfl⟩
       ·intro vals w1 hx hd ha
        have e4 : vals 4 = .bool false := hd 4 (by decide)
        clear hd ha
        simp only [Lf, dstAt, Act.put, List.getElem?_toArray, List.getElem?_cons_zero, List.getElem?_cons_succ, Option.bind_some, List.setIfInBounds_toArray, List.set_cons_zero, List.set_cons_succ]
        simp only [e4]
        clear e4
        go_wp2
        exact ⟨rfl, Ext.refl _, rfl⟩
       ·intro vals w1 hx hd ha
        have e4 : vals 4 = .bool false := hd 4 (by decide)
        have e5 : vals 5 = .int .i64 (k : Int) := hd 5 (by decide)
        clear hd ha
        simp only [Lf, dstAt, Act.put, List.getElem?_toArray, List.getElem?_cons_zero, List.getElem?_cons_succ, Option.bind_some, List.setIfInBounds_toArray, List.set_cons_zero, List.set_cons_succ]
        simp only [e4, e5]
        clear e4 e5
        go_wp2
        exact ⟨rfl, Ext.refl _, rfl⟩
       ·intro vals w1 hx hd ha
        have e4 : vals 4 = .bool false := hd 4 (by decide)
        have e6 : vals 6 = .bool false := hd 6 (by decide)
        clear hd ha
        simp only [Lf, dstAt, Act.put, List.getElem?_toArray, List.getElem?_cons_zero, List.getElem?_cons_succ, Option.bind_some, List.setIfInBounds_toArray, List.set_cons_zero, List.set_cons_succ]
        simp only [e4, e6]
        clear e4 e6
        go_wp2
        exact ⟨rfl, Ext.refl _, rfl⟩
       ·intro vals w1 hx hd ha
        have e7 : vals 7 = .bool false := hd 7 (by decide)
        clear hd ha
        simp only [Lf, dstAt, Act.put, List.getElem?_toArray, List.getElem?_cons_zero, List.getElem?_cons_succ, Option.bind_some, List.setIfInBounds_toArray, List.set_cons_zero, List.set_cons_succ]
        simp only [e7]
        clear e7
        go_wp2
        exact ⟨rfl, Ext.refl _, rfl⟩
       ·intro vals w1 hx hd ha
        have e7 : vals 7 = .bool false := hd 7 (by decide)
        clear hd ha
        simp only [Lf, dstAt, Act.put, List.getElem?_toArray, List.getElem?_cons_zero, List.getElem?_cons_succ, Option.bind_some, List.setIfInBounds_toArray, List.set_cons_zero, List.set_cons_succ]
        simp only [e7]
        clear e7
        go_wp2
        exact ⟨rfl, Ext.refl _, rfl⟩
       ·intro vals w1 hx hd ha
        have e7 : vals 7 = .bool false := hd 7 (by decide)
        have e8 : vals 8 = undef := hd 8 (by decide)
        have e9 : vals 9 = undef := hd 9 (by decide)
        clear hd ha
        simp only [Lf, dstAt, Act.put, List.getElem?_toArray, List.getElem?_cons_zero, List.getElem?_cons_succ, Option.bind_some, List.setIfInBounds_toArray, List.set_cons_zero, List.set_cons_succ]
        simp only [e7, e8, e9]
        clear e7 e8 e9
        go_wp2
        exact ⟨rfl, Ext.refl _, rfl⟩
       ·intro vals w1 hx hd ha
        have e7 : vals 7 = .bool false := hd 7 (by decide)
        clear hd ha
        simp only [Lf, dstAt, Act.put, List.getElem?_toArray, List.getElem?_cons_zero, List.getElem?_cons_succ, Option.bind_some, List.setIfInBounds_toArray, List.set_cons_zero, List.set_cons_succ]
        simp only [e7]
        clear e7
        go_wp2
        exact ⟨rfl, Ext.refl _, rfl⟩
       ·intro vals w1 hx hd ha
        have e7 : vals 7 = .bool false := hd 7 (by decide)
        clear hd ha
        simp only [Lf, dstAt, Act.put, List.getElem?_toArray, List.getElem?_cons_zero, List.getElem?_cons_succ, Option.bind_some, List.setIfInBounds_toArray, List.set_cons_zero, List.set_cons_succ]
        simp only [e7]
        clear e7
        go_wp2
        exact ⟨rfl, Ext.refl _, rfl⟩
       ·intro vals w1 hx hd ha
        have e7 : vals 7 = .bool false := hd 7 (by decide)
        clear hd ha
        simp only [Lf, dstAt, Act.put, List.getElem?_toArray, List.getElem?_cons_zero, List.getElem?_cons_succ, Option.bind_some, List.setIfInBounds_toArray, List.set_cons_zero, List.set_cons_succ]
        simp only [e7]
        clear e7
        go_wp2
        exact ⟨rfl, Ext.refl _, rfl⟩
       ·intro vals w1 hx hd ha
        have e7 : vals 7 = .bool false := hd 7 (by decide)
        have e13 : vals 13 = undef := hd 13 (by decide)
        clear hd ha
        simp only [Lf, dstAt, Act.put, List.getElem?_toArray, List.getElem?_cons_zero, List.getElem?_cons_succ, Option.bind_some, List.setIfInBounds_toArray, List.set_cons_zero, List.set_cons_succ]
        simp only [e7, e13]
        clear e7 e13
        go_wp2
        exact ⟨rfl, Ext.refl _, rfl⟩
       ·intro vals w1 hx hd ha
        have e7 : vals 7 = .bool false := hd 7 (by decide)
        have e12 : vals 12 = undef := hd 12 (by decide)
        have e14 : vals 14 = undef := hd 14 (by decide)
        clear hd ha
        simp only [Lf, dstAt, Act.put, List.getElem?_toArray, List.getElem?_cons_zero, List.getElem?_cons_succ, Option.bind_some, List.setIfInBounds_toArray, List.set_cons_zero, List.set_cons_succ]
        simp only [e7, e12, e14]
        clear e7 e12 e14
        go_wp2
        exact ⟨rfl, Ext.refl _, rfl⟩
       ·intro vals w1 hx hd ha
        have e7 : vals 7 = .bool false := hd 7 (by decide)
        have e15 : vals 15 = undef := hd 15 (by decide)
        clear hd ha
        simp only [Lf, dstAt, Act.put, List.getElem?_toArray, List.getElem?_cons_zero, List.getElem?_cons_succ, Option.bind_some, List.setIfInBounds_toArray, List.set_cons_zero, List.set_cons_succ]
        simp only [e7, e15]
        clear e7 e15
        go_wp2
        exact ⟨rfl, Ext.refl _, rfl⟩
       ·intro vals w1 hx hd ha
        have e7 : vals 7 = .bool false := hd 7 (by decide)
        have e10 : vals 10 = undef := hd 10 (by decide)
        have e11 : vals 11 = undef := hd 11 (by decide)
        have e16 : vals 16 = undef := hd 16 (by decide)
        clear hd ha
        simp only [Lf, dstAt, Act.put, List.getElem?_toArray, List.getElem?_cons_zero, List.getElem?_cons_succ, Option.bind_some, List.setIfInBounds_toArray, List.set_cons_zero, List.set_cons_succ]
        simp only [e7, e10, e11, e16]
        clear e7 e10 e11 e16
        go_wp2
        exact ⟨rfl, Ext.refl _, rfl⟩
       ·intro vals w1 hx hd ha
        have e7 : vals 7 = .bool false := hd 7 (by decide)
        have e10 : vals 10 = undef := hd 10 (by decide)
        have e17 : vals 17 = undef := hd 17 (by decide)
        clear hd ha
        simp only [Lf, dstAt, Act.put, List.getElem?_toArray, List.getElem?_cons_zero, List.getElem?_cons_succ, Option.bind_some, List.setIfInBounds_toArray, List.set_cons_zero, List.set_cons_succ]
        simp only [e7, e10, e17]
        clear e7 e10 e17
        go_wp2
        exact ⟨rfl, Ext.refl _, rfl⟩
       ·intro vals w1 hx hd ha
        have e4 : vals 4 = .bool false := hd 4 (by decide)
        have e7 : vals 7 = .bool false := hd 7 (by decide)
        have e18 : vals 18 = undef := hd 18 (by decide)
        clear hd ha
        simp only [Lf, dstAt, Act.put, List.getElem?_toArray, List.getElem?_cons_zero, List.getElem?_cons_succ, Option.bind_some, List.setIfInBounds_toArray, List.set_cons_zero, List.set_cons_succ]
        simp only [e4, e7, e18]
        clear e4 e7 e18
        go_wp2
        exact ⟨rfl, Ext.refl _, rfl⟩
       ·intro vals w1 hx hd ha
        have e4 : vals 4 = .bool false := hd 4 (by decide)
        have e19 : vals 19 = .bool false := hd 19 (by decide)
        clear hd ha
        simp only [Lf, dstAt, Act.put, List.getElem?_toArray, List.getElem?_cons_zero, List.getElem?_cons_succ, Option.bind_some, List.setIfInBounds_toArray, List.set_cons_zero, List.set_cons_succ]
        simp only [e4, e19]
        clear e4 e19
        go_wp2
        exact ⟨rfl, Ext.refl _, rfl⟩
      intro vals w5 hx hf
      have e20 : vals 20 = .bool false := hf 20 (by omega)
      clear hf
      have hx := hx.undrew
      have hB5 := bl_then hB1 hx
      refine tail0 (by kernel_rfl) ?_
      simp only [Lf, dstAt, Act.put, List.getElem?_toArray, List.getElem?_cons_zero, List.getElem?_cons_succ, Option.bind_some, List.setIfInBounds_toArray, List.set_cons_zero, List.set_cons_succ]
      rw [e20]
      clear e20 g0 g1 g2 g3 g4 g5
      go_wp2
      go_roundw
      case rel => exact ⟨k + 1, by omega, by go_num, Lib.hid (by rw [HS.out, HP.out]; rfl), hB5⟩
      case measure => simp [intOf]; omega
     ·have hk1 : (0 : Int) < (k : Int) := by omega
      obtain ⟨b', o', hz', hA', hbl', hc'⟩ := RA.at_ stn_len (HR.out.below hB) (k := k - 1) (by omega)
      obtain ⟨rfl, rfl⟩ : b' = b ∧ o' = o := by injection hA' with hA'; injection hA' with h1 h2; exact ⟨h1.symm, h2.symm⟩
      have hpv : prevAt l k = some l[k - 1] := by unfold prevAt; rw [if_neg hk0, List.getElem?_eq_getElem hz']
      generalize l[k - 1] = y at hpv hc'
      obtain ⟨y_id, ⟨y_x, y_y⟩, y_re, y_an, y_sk⟩ := y
      have d0 : wr.cell? ⟨b', o' + (k - 1) * 6, none⟩ = some (.int .i64 y_id) := hc' 0 (by omega)
      have d1 : wr.cell? ⟨b', o' + (k - 1) * 6 + 1, none⟩ = some (.int .i64 y_x) := hc' 1 (by omega)
      have d2 : wr.cell? ⟨b', o' + (k - 1) * 6 + 2, none⟩ = some (.int .i64 y_y) := hc' 2 (by omega)
      have d3 : wr.cell? ⟨b', o' + (k - 1) * 6 + 3, none⟩ = some (.int .i64 y_re) := hc' 3 (by omega)
      have d4 : wr.cell? ⟨b', o' + (k - 1) * 6 + 4, none⟩ = some (.int .i64 y_an) := hc' 4 (by omega)
      have d5 : wr.cell? ⟨b', o' + (k - 1) * 6 + 5, none⟩ = some (.int .i64 y_sk) := hc' 5 (by omega)
      have HP := Lib.hid hpv
      have hk0h := Lib.hid hk0
      clear hpv hc' hA' hbl' hk0
      have hki : IntKind.i64.wrap ((k : Int) - 1) = (k : Int) - 1 := IntWalk.i64_in _ (by omega)
      have hkn : ((k : Int) - 1).toNat = k - 1 := by omega
      have hkd : decide (0 < k) = true := by simp; omega
      have d0 := ext_cell HX1.out d0
      have d1 := ext_cell HX1.out d1
      have d2 := ext_cell HX1.out d2
      have d3 := ext_cell HX1.out d3
      have d4 := ext_cell HX1.out d4
      have d5 := ext_cell HX1.out d5
      refine wp_region_obl 21 (fun ix vals v w1 => match ix with | 0 => v = .func (.func 76) #[] #[] | 1 => v = .agg #[.int .i64 id, .int .i64 x, .int .i64 y, .int .i64 re, .int .i64 an, .int .i64 sk] | 2 => v = .bool true | 3 => v = .bool false | 4 => v = .bool false | 5 => v = .int .i64 (k : Int) | 6 => v = .bool true | 7 => v = .bool true | 8 => v = .func (.func 77) #[] #[] | 9 => v = .agg #[.int .i64 id, .int .i64 x, .int .i64 y, .int .i64 re, .int .i64 an, .int .i64 sk] | 10 => v = .int .i64 id | 11 => v = .func (.func 77) #[] #[] | 12 => v = .slice (some ⟨b', o', none⟩) n c | 13 => v = .int .i64 (k : Int) | 14 => v = .int .i64 ((k : Int) - 1) | 15 => v = .pointer (some ⟨b', o' + (k - 1) * 6, none⟩) | 16 => v = .agg #[.int .i64 y_id, .int .i64 y_x, .int .i64 y_y, .int .i64 y_re, .int .i64 y_an, .int .i64 y_sk] | 17 => v = .int .i64 y_id | 18 => v = .bool (decide (id ≤ y_id)) | 19 => v = .bool (decide (id ≤ y_id)) | _ => v = .bool (decide (id ≤ y_id))) (by kernel_rfl) (by kernel_rfl) ?_ ?_ ?_ ?_
      ·intro ix vals v w1 w2 hi hr hx
       match ix, hr with
       | 0, hr => exact hr
       | 1, hr => exact hr
       | 2, hr => exact hr
       | 3, hr => exact hr
       | 4, hr => exact hr
       | 5, hr => exact hr
       | 6, hr => exact hr
       | 7, hr => exact hr
       | 8, hr => exact hr
       | 9, hr => exact hr
       | 10, hr => exact hr
       | 11, hr => exact hr
       | 12, hr => exact hr
       | 13, hr => exact hr
       | 14, hr => exact hr
       | 15, hr => exact hr
       | 16, hr => exact hr
       | 17, hr => exact hr
       | 18, hr => exact hr
       | 19, hr => exact hr
       | (kx + 20), hr => exact hr
      ·intro ix vals vals_ v w1 hi hv hr
       exact hr
      ·refine ⟨?_, ?_, ?_, ?_, ?_, ?_, ?_, ?_, ?_, ?_, ?_, ?_, ?_, ?_, ?_, ?_, ?_, ?_, ?_, ?_, ?_, trivial⟩
       ·intro vals w1 hx hd ha
        clear hd ha
        simp only [Lf]
        go_wp2
        exact ⟨rfl, Ext.refl _, rfl⟩
       ·intro vals w1 hx hd ha
        clear hd ha
        simp only [Lf, dstAt, Act.put, List.getElem?_toArray, List.getElem?_cons_zero, Option.bind_some, List.setIfInBounds_toArray, List.set_cons_zero, List.set_cons_succ]
        have g0 := ext_cell hx g0
        have g1 := ext_cell hx g1
        have g2 := ext_cell hx g2
        have g3 := ext_cell hx g3
        have g4 := ext_cell hx g4
        have g5 := ext_cell hx g5
        go_wp2
        exact ⟨rfl, Ext.refl _, rfl⟩
       ·intro vals w1 hx hd ha
        have e0 : vals 0 = .func (.func 76) #[] #[] := hd 0 (by decide)
        have e1 : vals 1 = .agg #[.int .i64 id, .int .i64 x, .int .i64 y, .int .i64 re, .int .i64 an, .int .i64 sk] := hd 1 (by decide)
        clear hd ha
        simp only [Lf, dstAt, Act.put, List.getElem?_toArray, List.getElem?_cons_zero, List.getElem?_cons_succ, Option.bind_some, List.setIfInBounds_toArray, List.set_cons_zero, List.set_cons_succ]
        simp only [e0]
        simp only [e1]
        clear e0 e1
        go_wp2_with fail
        refine (HV.out _).mono ?_
        rintro e w2 ⟨rfl, hb2⟩
        go_wp2
        exact ⟨rfl, hb2, rfl⟩
       ·intro vals w1 hx hd ha
        have e2 : vals 2 = .bool true := hd 2 (by decide)
        clear hd ha
        simp only [Lf, dstAt, Act.put, List.getElem?_toArray, List.getElem?_cons_zero, List.getElem?_cons_succ, Option.bind_some, List.setIfInBounds_toArray, List.set_cons_zero, List.set_cons_succ]
        simp only [e2]
        clear e2
        go_wp2
        exact ⟨rfl, Ext.refl _, rfl⟩
       ·intro vals w1 hx hd ha
        have e2 : vals 2 = .bool true := hd 2 (by decide)
        have e3 : vals 3 = .bool false := hd 3 (by decide)
        clear hd ha
        simp only [Lf, dstAt, Act.put, List.getElem?_toArray, List.getElem?_cons_zero, List.getElem?_cons_succ, Option.bind_some, List.setIfInBounds_toArray, List.set_cons_zero, List.set_cons_succ]
        simp only [e2, e3]
        clear e2 e3
        go_wp2
        exact ⟨rfl, Ext.refl _, rfl⟩
       ·intro vals w1 hx hd ha
        have e4 : vals 4 = .bool false := hd 4 (by decide)
        clear hd ha
        simp only [Lf, dstAt, Act.put, List.getElem?_toArray, List.getElem?_cons_zero, List.getElem?_cons_succ, Option.bind_some, List.setIfInBounds_toArray, List.set_cons_zero, List.set_cons_succ]
        simp only [e4]
        clear e4
        go_wp2
        exact ⟨rfl, Ext.refl _, rfl⟩
       ·intro vals w1 hx hd ha
        have e4 : vals 4 = .bool false := hd 4 (by decide)
        have e5 : vals 5 = .int .i64 (k : Int) := hd 5 (by decide)
        clear hd ha
        simp only [Lf, dstAt, Act.put, List.getElem?_toArray, List.getElem?_cons_zero, List.getElem?_cons_succ, Option.bind_some, List.setIfInBounds_toArray, List.set_cons_zero, List.set_cons_succ]
        simp only [e4, e5]
        clear e4 e5
        go_wp2
        exact ⟨rfl, Ext.refl _, rfl⟩
       ·intro vals w1 hx hd ha
        have e4 : vals 4 = .bool false := hd 4 (by decide)
        have e6 : vals 6 = .bool true := hd 6 (by decide)
        clear hd ha
        simp only [Lf, dstAt, Act.put, List.getElem?_toArray, List.getElem?_cons_zero, List.getElem?_cons_succ, Option.bind_some, List.setIfInBounds_toArray, List.set_cons_zero, List.set_cons_succ]
        simp only [e4, e6]
        clear e4 e6
        go_wp2
        exact ⟨rfl, Ext.refl _, rfl⟩
       ·intro vals w1 hx hd ha
        have e7 : vals 7 = .bool true := hd 7 (by decide)
        clear hd ha
        simp only [Lf, dstAt, Act.put, List.getElem?_toArray, List.getElem?_cons_zero, List.getElem?_cons_succ, Option.bind_some, List.setIfInBounds_toArray, List.set_cons_zero, List.set_cons_succ]
        simp only [e7]
        clear e7
        go_wp2
        exact ⟨rfl, Ext.refl _, rfl⟩
       ·intro vals w1 hx hd ha
        have e7 : vals 7 = .bool true := hd 7 (by decide)
        clear hd ha
        simp only [Lf, dstAt, Act.put, List.getElem?_toArray, List.getElem?_cons_zero, List.getElem?_cons_succ, Option.bind_some, List.setIfInBounds_toArray, List.set_cons_zero, List.set_cons_succ]
        simp only [e7]
        clear e7
        have g0 := ext_cell hx g0
        have g1 := ext_cell hx g1
        have g2 := ext_cell hx g2
        have g3 := ext_cell hx g3
        have g4 := ext_cell hx g4
        have g5 := ext_cell hx g5
        go_wp2
        exact ⟨rfl, Ext.refl _, rfl⟩
       ·intro vals w1 hx hd ha
        have e7 : vals 7 = .bool true := hd 7 (by decide)
        have e8 : vals 8 = .func (.func 77) #[] #[] := hd 8 (by decide)
        have e9 : vals 9 = .agg #[.int .i64 id, .int .i64 x, .int .i64 y, .int .i64 re, .int .i64 an, .int .i64 sk] := hd 9 (by decide)
        clear hd ha
        simp only [Lf, dstAt, Act.put, List.getElem?_toArray, List.getElem?_cons_zero, List.getElem?_cons_succ, Option.bind_some, List.setIfInBounds_toArray, List.set_cons_zero, List.set_cons_succ]
        simp only [e7]
        simp only [e8]
        simp only [e9]
        clear e7 e8 e9
        go_wp2_with fail
        refine (idStn id x y re an sk _).mono ?_
        rintro e w2 ⟨rfl, hb2⟩
        go_wp2
        exact ⟨rfl, hb2, rfl⟩
       ·intro vals w1 hx hd ha
        have e7 : vals 7 = .bool true := hd 7 (by decide)
        clear hd ha
        simp only [Lf, dstAt, Act.put, List.getElem?_toArray, List.getElem?_cons_zero, List.getElem?_cons_succ, Option.bind_some, List.setIfInBounds_toArray, List.set_cons_zero, List.set_cons_succ]
        simp only [e7]
        clear e7
        go_wp2
        exact ⟨rfl, Ext.refl _, rfl⟩
       ·intro vals w1 hx hd ha
        have e7 : vals 7 = .bool true := hd 7 (by decide)
        clear hd ha
        simp only [Lf, dstAt, Act.put, List.getElem?_toArray, List.getElem?_cons_zero, List.getElem?_cons_succ, Option.bind_some, List.setIfInBounds_toArray, List.set_cons_zero, List.set_cons_succ]
        simp only [e7]
        clear e7
        go_wp2
        exact ⟨rfl, Ext.refl _, rfl⟩
       ·intro vals w1 hx hd ha
        have e7 : vals 7 = .bool true := hd 7 (by decide)
        clear hd ha
        simp only [Lf, dstAt, Act.put, List.getElem?_toArray, List.getElem?_cons_zero, List.getElem?_cons_succ, Option.bind_some, List.setIfInBounds_toArray, List.set_cons_zero, List.set_cons_succ]
        simp only [e7]
        clear e7
        go_wp2
        exact ⟨rfl, Ext.refl _, rfl⟩
       ·intro vals w1 hx hd ha
        have e7 : vals 7 = .bool true := hd 7 (by decide)
        have e13 : vals 13 = .int .i64 (k : Int) := hd 13 (by decide)
        clear hd ha
        simp only [Lf, dstAt, Act.put, List.getElem?_toArray, List.getElem?_cons_zero, List.getElem?_cons_succ, Option.bind_some, List.setIfInBounds_toArray, List.set_cons_zero, List.set_cons_succ]
        simp only [e7, e13]
        clear e7 e13
        go_wp2
        exact ⟨rfl, Ext.refl _, rfl⟩
       ·intro vals w1 hx hd ha
        have e7 : vals 7 = .bool true := hd 7 (by decide)
        have e12 : vals 12 = .slice (some ⟨b', o', none⟩) n c := hd 12 (by decide)
        have e14 : vals 14 = .int .i64 ((k : Int) - 1) := hd 14 (by decide)
        clear hd ha
        simp only [Lf, dstAt, Act.put, List.getElem?_toArray, List.getElem?_cons_zero, List.getElem?_cons_succ, Option.bind_some, List.setIfInBounds_toArray, List.set_cons_zero, List.set_cons_succ]
        simp only [e7, e12, e14]
        clear e7 e12 e14
        go_wp2
        exact ⟨rfl, Ext.refl _, rfl⟩
       ·intro vals w1 hx hd ha
        have e7 : vals 7 = .bool true := hd 7 (by decide)
        have e15 : vals 15 = .pointer (some ⟨b', o' + (k - 1) * 6, none⟩) := hd 15 (by decide)
        clear hd ha
        simp only [Lf, dstAt, Act.put, List.getElem?_toArray, List.getElem?_cons_zero, List.getElem?_cons_succ, Option.bind_some, List.setIfInBounds_toArray, List.set_cons_zero, List.set_cons_succ]
        simp only [e7, e15]
        clear e7 e15
        have d0 := ext_cell hx d0
        have d1 := ext_cell hx d1
        have d2 := ext_cell hx d2
        have d3 := ext_cell hx d3
        have d4 := ext_cell hx d4
        have d5 := ext_cell hx d5
        go_wp2
        exact ⟨rfl, Ext.refl _, rfl⟩
       ·intro vals w1 hx hd ha
        have e7 : vals 7 = .bool true := hd 7 (by decide)
        have e10 : vals 10 = .int .i64 id := hd 10 (by decide)
        have e11 : vals 11 = .func (.func 77) #[] #[] := hd 11 (by decide)
        have e16 : vals 16 = .agg #[.int .i64 y_id, .int .i64 y_x, .int .i64 y_y, .int .i64 y_re, .int .i64 y_an, .int .i64 y_sk] := hd 16 (by decide)
        clear hd ha
        simp only [Lf, dstAt, Act.put, List.getElem?_toArray, List.getElem?_cons_zero, List.getElem?_cons_succ, Option.bind_some, List.setIfInBounds_toArray, List.set_cons_zero, List.set_cons_succ]
        simp only [e7]
        simp only [e10]
        simp only [e11]
        simp only [e16]
        clear e7 e10 e11 e16
        go_wp2_with fail
        refine (idStn y_id y_x y_y y_re y_an y_sk _).mono ?_
        rintro e w2 ⟨rfl, hb2⟩
        go_wp2
        exact ⟨rfl, hb2, rfl⟩
       ·intro vals w1 hx hd ha
        have e7 : vals 7 = .bool true := hd 7 (by decide)
        have e10 : vals 10 = .int .i64 id := hd 10 (by decide)
        have e17 : vals 17 = .int .i64 y_id := hd 17 (by decide)
        clear hd ha
        simp only [Lf, dstAt, Act.put, List.getElem?_toArray, List.getElem?_cons_zero, List.getElem?_cons_succ, Option.bind_some, List.setIfInBounds_toArray, List.set_cons_zero, List.set_cons_succ]
        simp only [e7, e10, e17]
        clear e7 e10 e17
        go_wp2
        exact ⟨rfl, Ext.refl _, rfl⟩
       ·intro vals w1 hx hd ha
        have e4 : vals 4 = .bool false := hd 4 (by decide)
        have e7 : vals 7 = .bool true := hd 7 (by decide)
        have e18 : vals 18 = .bool (decide (id ≤ y_id)) := hd 18 (by decide)
        clear hd ha
        simp only [Lf, dstAt, Act.put, List.getElem?_toArray, List.getElem?_cons_zero, List.getElem?_cons_succ, Option.bind_some, List.setIfInBounds_toArray, List.set_cons_zero, List.set_cons_succ]
        simp only [e4, e7, e18]
        clear e4 e7 e18
        go_wp2
        exact ⟨rfl, Ext.refl _, rfl⟩
       ·intro vals w1 hx hd ha
        have e4 : vals 4 = .bool false := hd 4 (by decide)
        have e19 : vals 19 = .bool (decide (id ≤ y_id)) := hd 19 (by decide)
        clear hd ha
        simp only [Lf, dstAt, Act.put, List.getElem?_toArray, List.getElem?_cons_zero, List.getElem?_cons_succ, Option.bind_some, List.setIfInBounds_toArray, List.set_cons_zero, List.set_cons_succ]
        simp only [e4, e19]
        clear e4 e19
        go_wp2
        exact ⟨rfl, Ext.refl _, rfl⟩
      intro vals w5 hx hf
      have e20 : vals 20 = .bool (decide (id ≤ y_id)) := hf 20 (by omega)
      clear hf
      have hx := hx.undrew
      have hB5 := bl_then hB1 hx
      refine tail0 (by kernel_rfl) ?_
      simp only [Lf, dstAt, Act.put, List.getElem?_toArray, List.getElem?_cons_zero, List.getElem?_cons_succ, Option.bind_some, List.setIfInBounds_toArray, List.set_cons_zero, List.set_cons_succ]
      rw [e20]
      clear e20 g0 g1 g2 g3 g4 g5 d0 d1 d2 d3 d4 d5
      by_cases hid : id ≤ y_id
      ·have hid2 : decide (y_id < id) = false := by simp; omega
       have HI := Lib.hid hid2
       clear hid2
       go_wp2
       go_ret
       exact ⟨by rw [HS.out, HP.out]; simp [HI.out], hB5⟩
      ·have hid2 : decide (y_id < id) = true := by simp; omega
       have HI := Lib.hid hid2
       clear hid2
       go_wp2
       go_roundw
       case rel => exact ⟨k + 1, by omega, by go_num, Lib.hid (by rw [HS.out, HP.out]; simp [HI.out]), hB5⟩
       case measure => simp [intOf]; omega
   ·go_wp2
    go_ret
    exact ⟨by rw [HK.out, List.drop_of_length_le (by rw [HL.out]; omega)]; rfl, hB⟩
 ·have hd : decide (n ≤ 12) = false := by simpa using hm
  rw [hd, Bool.false_and]
  clear hd
  go_enter Try.func75, Try.ntmps75
  go_wp2
  go_ret
  exact ⟨rfl, (by repeat (first | exact Below.refl _ _ | assumption | refine Below.drew ?_ | refine below_drewN ?_ _ | refine bl_alloc ?_ _ | refine Below.setCell ?_ (by first | (simp; done) | omega | (simp; omega)) _ | refine bl_then ?_ (by assumption)))⟩
theorem validStns_any (l : List Stn) (A : Option Addr) (n c : Nat) (w : World) (h : RA stnCells 6 w w.heap.size A n c l) :
  Calls Try.prog 40 #[.slice A n c] w fun e w' => e = .returned (.bool (stnsOK l)) ∧ Below w.heap.size w w' := by
 have hc := isListStn l A n c w h
 generalize stnsOK l = r at hc ⊢
 have HC := Lib.hid hc
 clear hc h
 go_enter Try.func40, Try.ntmps40
 go_wp2_with fail
 refine HC.out.mono ?_
 rintro e w' ⟨rfl, hb⟩
 go_wp2
 go_ret
 exact ⟨rfl, hb⟩
end Go.Proofs.Ytmlabgmigakcbaa
