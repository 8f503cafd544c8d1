/- The reference: lists of satellites, of stations; equal lists (printed by contact_c3.py). -/
import Derived.Test.YtlmpmhfbjblhnaaC2
namespace Go.Proofs.Ytlmpmhfbjblhnaa
open Go.RowKit

theorem take_succ_eq {α : Type} {xs ys : List α} {k : Nat} (h : xs.take k = ys.take k) (hx : k < xs.length) (hy : k < ys.length) (he : xs[k] = ys[k]) : xs.take (k + 1) = ys.take (k + 1) := by
  rw [List.take_succ_eq_append_getElem hx, List.take_succ_eq_append_getElem hy, h, he]
theorem ne_of_get {α : Type} {xs ys : List α} {k : Nat} (hx : k < xs.length) (hy : k < ys.length) (he : ¬ xs[k] = ys[k]) : ¬ xs = ys := by
  rintro rfl
  exact he rfl
theorem stn_size : (Try.prog.info? 31).map (·.size) = some 6 := by kernel_rfl
theorem neq_spl (a b : Spl) (w : World) : (binOp .neq 34 (.agg #[.int .i64 a.fr, .int .i64 a.tt]) (.agg #[.int .i64 b.fr, .int .i64 b.tt])).run Try.prog w = .ok (.bool (!decide (a = b))) w := by
  have u3 := Try.underlying3
  have hS : Try.prog.underlying 34 = some (.struct (Try.prog.fieldsOf 34)) := by kernel_rfl
  have hp : Try.prog.stoodInHeld 34 = false := by kernel_rfl
  have he : decide (a = b) = (a.fr == b.fr && (a.tt == b.tt)) := by
    obtain ⟨a1, a2⟩ := a
    obtain ⟨b1, b2⟩ := b
    rw [Bool.eq_iff_iff]
    simp
  rw [he, run_neq_struct, show (10000 : Nat) = 9999 + 1 from rfl, run_equalIn_agg w 9999 34 _ _ hS hp]
  simp only [Program.fieldsOf, Try.underlying34]
  go_simp
  by_cases h0 : a.fr = b.fr <;> by_cases h1 : a.tt = b.tt <;> simp [h0, h1]
set_option maxHeartbeats 1000000 in
theorem sameSpl_any (A1 A2 : Option Addr) (n1 n2 c1 c2 : Nat) (xs ys : List Spl) (w : World) (h1 : RA splCells 2 w w.heap.size A1 n1 c1 xs) (h2 : RA splCells 2 w w.heap.size A2 n2 c2 ys) :
    Calls Try.prog 30 #[.slice A1 n1 c1, .slice A2 n2 c2] w fun e w' => e = .returned (.bool (decide (xs = ys))) ∧ Below w.heap.size w w' := by
  have hn1 : n1 ≤ 9223372036854775807 := h1.le
  have hn2 : n2 ≤ 9223372036854775807 := h2.le
  have L1 : Hid (xs.length = n1) := h1.len
  have L2 : Hid (ys.length = n2) := h2.len
  have H1 := Lib.hid h1
  have H2 := Lib.hid h2
  clear h1 h2
  by_cases hne : n1 = n2
  · subst hne
    have hd : ((n1 : Int) != (n1 : Int)) = false := by simp
    go_enter Try.func30, Try.ntmps30
    go_wp2
    go_loopw [5] (fun i wr => ∃ k : Nat, k ≤ n1 ∧ i = .int .i64 k ∧ Hid (xs.take k = ys.take k) ∧ Below w.heap.size w wr) (fun i _ => n1 - (intOf i).toNat)
    case atStart => exact ⟨0, Nat.zero_le _, rfl, rfl, Below.refl _ _⟩
    case round =>
      obtain ⟨k, hk, rfl, H, hB⟩ := hrel
      by_cases hlt : k < n1
      · obtain ⟨b, o, hz, hA, hb, hc⟩ := (H1.out.below hB).at_ spl_len hlt
        obtain ⟨b', o', hz', hA', hb', hc'⟩ := (H2.out.below hB).at_ spl_len hlt
        subst hA hA'
        have hstep := take_succ_eq (k := k) H.out hz hz'
        have hstop := ne_of_get (k := k) hz hz'
        generalize xs[k] = x at hc hstep hstop
        generalize ys[k] = y at hc' hstep hstop
        have c0 : wr.cell? ⟨b, o + k * 2, none⟩ = some (.int .i64 x.fr) := hc 0 (by omega)
        have c1 : wr.cell? ⟨b, o + k * 2 + 1, none⟩ = some (.int .i64 x.tt) := hc 1 (by omega)
        have d0 : wr.cell? ⟨b', o' + k * 2, none⟩ = some (.int .i64 y.fr) := hc' 0 (by omega)
        have d1 : wr.cell? ⟨b', o' + k * 2 + 1, none⟩ = some (.int .i64 y.tt) := hc' 1 (by omega)
        clear hc hc'
        by_cases hxy : x = y
        · have HS := Lib.hid (hstep hxy)
          clear hstep hstop
          subst hxy
          have he : (!decide (x = x)) = false := by simp
          have hnq := neq_spl
          go_wp2
          go_quiet (fail)
          go_wp2
          go_roundw
          case rel => exact ⟨k + 1, by omega, by go_num, HS.out, (by repeat (first | exact Below.refl _ _ | assumption | refine Below.drew ?_ | refine below_drewN ?_ _ | refine bl_alloc ?_ _ | refine Below.setCell ?_ (by first | (simp; done) | omega | (simp; omega)) _ | refine bl_then ?_ (by assumption)))⟩
          case measure => simp [intOf]; omega
        · have he : (!decide (x = y)) = true := by simp [hxy]
          have HX := Lib.hid (hstop hxy)
          clear hxy hstep hstop
          have hnq := neq_spl
          go_wp2
          go_quiet (fail)
          go_wp2
          go_ret
          exact ⟨by rw [decide_eq_false HX.out]; rfl, (by repeat (first | exact Below.refl _ _ | assumption | refine Below.drew ?_ | refine below_drewN ?_ _ | refine bl_alloc ?_ _ | refine Below.setCell ?_ (by first | (simp; done) | omega | (simp; omega)) _ | refine bl_then ?_ (by assumption)))⟩
      · go_wp2
        go_ret
        refine ⟨?_, (by repeat (first | exact Below.refl _ _ | assumption | refine Below.drew ?_ | refine below_drewN ?_ _ | refine bl_alloc ?_ _ | refine Below.setCell ?_ (by first | (simp; done) | omega | (simp; omega)) _ | refine bl_then ?_ (by assumption)))⟩
        have hxy : xs = ys := by
          have := H.out
          rwa [List.take_of_length_le (by rw [L1.out]; omega), List.take_of_length_le (by rw [L2.out]; omega)] at this
        rw [decide_eq_true hxy]
        rfl
  · have hd : ((n1 : Int) != (n2 : Int)) = true := by simp; omega
    have hxy : ¬ xs = ys := by
      rintro rfl
      exact hne (L1.out.symm.trans L2.out)
    rw [decide_eq_false hxy]
    clear hxy
    go_enter Try.func30, Try.ntmps30
    go_wp2
    go_ret
    exact ⟨rfl, Below.refl _ _⟩
theorem eqIn_spl (a b c d : Int) (w : World) : (Op.equalIn 9999 34 (.agg #[.int .i64 a, .int .i64 b]) (.agg #[.int .i64 c, .int .i64 d])).run Try.prog w = .ok (a == c && b == d) w := by
  have u3 := Try.underlying3
  have hS : Try.prog.underlying 34 = some (.struct (Try.prog.fieldsOf 34)) := by kernel_rfl
  have hp : Try.prog.stoodInHeld 34 = false := by kernel_rfl
  rw [show (9999 : Nat) = 9998 + 1 from rfl, run_equalIn_agg w 9998 34 _ _ hS hp]
  clear hS hp
  simp only [Program.fieldsOf, Try.underlying34]
  go_simp
  by_cases h0 : a = c <;> by_cases h1 : b = d <;> simp [h0, h1]
theorem neq_pas (a b : Pas) (w : World) : (binOp .neq 47 (.agg #[.int .i64 a.sat, .int .i64 a.station, .int .i64 a.sure.fr, .int .i64 a.sure.tt, .int .i64 a.can.fr, .int .i64 a.can.tt]) (.agg #[.int .i64 b.sat, .int .i64 b.station, .int .i64 b.sure.fr, .int .i64 b.sure.tt, .int .i64 b.can.fr, .int .i64 b.can.tt])).run Try.prog w = .ok (.bool (!decide (a = b))) w := by
  have u3 := Try.underlying3
  have hS : Try.prog.underlying 47 = some (.struct (Try.prog.fieldsOf 47)) := by kernel_rfl
  have hp : Try.prog.stoodInHeld 47 = false := by kernel_rfl
  rw [run_neq_struct, show (10000 : Nat) = 9999 + 1 from rfl, run_equalIn_agg w 9999 47 _ _ hS hp]
  have e2 := eqIn_spl
  clear hS hp
  simp only [Program.fieldsOf, Try.underlying47]
  go_simp
  obtain ⟨a1, a2, ⟨a3, a4⟩, ⟨a5, a6⟩⟩ := a
  obtain ⟨b1, b2, ⟨b3, b4⟩, ⟨b5, b6⟩⟩ := b
  by_cases h0 : a1 = b1 <;> by_cases h1 : a2 = b2 <;> by_cases h2 : a3 = b3 <;> by_cases h3 : a4 = b4 <;> by_cases h4 : a5 = b5 <;> by_cases h5 : a6 = b6 <;> simp [h0, h1, h2, h3, h4, h5]
set_option maxHeartbeats 1000000 in
theorem samePas_any (A1 A2 : Option Addr) (n1 n2 c1 c2 : Nat) (xs ys : List Pas) (w : World) (h1 : RA pasCells 6 w w.heap.size A1 n1 c1 xs) (h2 : RA pasCells 6 w w.heap.size A2 n2 c2 ys) :
    Calls Try.prog 33 #[.slice A1 n1 c1, .slice A2 n2 c2] w fun e w' => e = .returned (.bool (decide (xs = ys))) ∧ Below w.heap.size w w' := by
  have hn1 : n1 ≤ 9223372036854775807 := h1.le
  have hn2 : n2 ≤ 9223372036854775807 := h2.le
  have L1 : Hid (xs.length = n1) := h1.len
  have L2 : Hid (ys.length = n2) := h2.len
  have H1 := Lib.hid h1
  have H2 := Lib.hid h2
  clear h1 h2
  by_cases hne : n1 = n2
  · subst hne
    have hd : ((n1 : Int) != (n1 : Int)) = false := by simp
    go_enter Try.func33, Try.ntmps33
    go_wp2
    go_loopw [5] (fun i wr => ∃ k : Nat, k ≤ n1 ∧ i = .int .i64 k ∧ Hid (xs.take k = ys.take k) ∧ Below w.heap.size w wr) (fun i _ => n1 - (intOf i).toNat)
    case atStart => exact ⟨0, Nat.zero_le _, rfl, rfl, Below.refl _ _⟩
    case round =>
      obtain ⟨k, hk, rfl, H, hB⟩ := hrel
      by_cases hlt : k < n1
      · obtain ⟨b, o, hz, hA, hb, hc⟩ := (H1.out.below hB).at_ pas_len hlt
        obtain ⟨b', o', hz', hA', hb', hc'⟩ := (H2.out.below hB).at_ pas_len hlt
        subst hA hA'
        have hstep := take_succ_eq (k := k) H.out hz hz'
        have hstop := ne_of_get (k := k) hz hz'
        generalize xs[k] = x at hc hstep hstop
        generalize ys[k] = y at hc' hstep hstop
        have c0 : wr.cell? ⟨b, o + k * 6, none⟩ = some (.int .i64 x.sat) := hc 0 (by omega)
        have c1 : wr.cell? ⟨b, o + k * 6 + 1, none⟩ = some (.int .i64 x.station) := hc 1 (by omega)
        have c2 : wr.cell? ⟨b, o + k * 6 + 2, none⟩ = some (.int .i64 x.sure.fr) := hc 2 (by omega)
        have c3 : wr.cell? ⟨b, o + k * 6 + 3, none⟩ = some (.int .i64 x.sure.tt) := hc 3 (by omega)
        have c4 : wr.cell? ⟨b, o + k * 6 + 4, none⟩ = some (.int .i64 x.can.fr) := hc 4 (by omega)
        have c5 : wr.cell? ⟨b, o + k * 6 + 5, none⟩ = some (.int .i64 x.can.tt) := hc 5 (by omega)
        have d0 : wr.cell? ⟨b', o' + k * 6, none⟩ = some (.int .i64 y.sat) := hc' 0 (by omega)
        have d1 : wr.cell? ⟨b', o' + k * 6 + 1, none⟩ = some (.int .i64 y.station) := hc' 1 (by omega)
        have d2 : wr.cell? ⟨b', o' + k * 6 + 2, none⟩ = some (.int .i64 y.sure.fr) := hc' 2 (by omega)
        have d3 : wr.cell? ⟨b', o' + k * 6 + 3, none⟩ = some (.int .i64 y.sure.tt) := hc' 3 (by omega)
        have d4 : wr.cell? ⟨b', o' + k * 6 + 4, none⟩ = some (.int .i64 y.can.fr) := hc' 4 (by omega)
        have d5 : wr.cell? ⟨b', o' + k * 6 + 5, none⟩ = some (.int .i64 y.can.tt) := hc' 5 (by omega)
        clear hc hc'
        by_cases hxy : x = y
        · have HS := Lib.hid (hstep hxy)
          clear hstep hstop
          subst hxy
          have he : (!decide (x = x)) = false := by simp
          have hnq := neq_pas
          go_wp2
          go_quiet (fail)
          go_wp2
          go_roundw
          case rel => exact ⟨k + 1, by omega, by go_num, HS.out, (by repeat (first | exact Below.refl _ _ | assumption | refine Below.drew ?_ | refine below_drewN ?_ _ | refine bl_alloc ?_ _ | refine Below.setCell ?_ (by first | (simp; done) | omega | (simp; omega)) _ | refine bl_then ?_ (by assumption)))⟩
          case measure => simp [intOf]; omega
        · have he : (!decide (x = y)) = true := by simp [hxy]
          have HX := Lib.hid (hstop hxy)
          clear hxy hstep hstop
          have hnq := neq_pas
          go_wp2
          go_quiet (fail)
          go_wp2
          go_ret
          exact ⟨by rw [decide_eq_false HX.out]; rfl, (by repeat (first | exact Below.refl _ _ | assumption | refine Below.drew ?_ | refine below_drewN ?_ _ | refine bl_alloc ?_ _ | refine Below.setCell ?_ (by first | (simp; done) | omega | (simp; omega)) _ | refine bl_then ?_ (by assumption)))⟩
      · go_wp2
        go_ret
        refine ⟨?_, (by repeat (first | exact Below.refl _ _ | assumption | refine Below.drew ?_ | refine below_drewN ?_ _ | refine bl_alloc ?_ _ | refine Below.setCell ?_ (by first | (simp; done) | omega | (simp; omega)) _ | refine bl_then ?_ (by assumption)))⟩
        have hxy : xs = ys := by
          have := H.out
          rwa [List.take_of_length_le (by rw [L1.out]; omega), List.take_of_length_le (by rw [L2.out]; omega)] at this
        rw [decide_eq_true hxy]
        rfl
  · have hd : ((n1 : Int) != (n2 : Int)) = true := by simp; omega
    have hxy : ¬ xs = ys := by
      rintro rfl
      exact hne (L1.out.symm.trans L2.out)
    rw [decide_eq_false hxy]
    clear hxy
    go_enter Try.func33, Try.ntmps33
    go_wp2
    go_ret
    exact ⟨rfl, Below.refl _ _⟩
theorem rstn_valid_x (x : Stn) (w : World) : Calls Try.prog 25 #[.agg (stnCells x).toArray] w fun e w' => e = .returned (.bool (stnOK x)) ∧ Below w.heap.size w w' := by
  obtain ⟨id, ⟨x, y⟩, re, an, sk⟩ := x
  exact rstn_valid id x y re an sk w
set_option maxRecDepth 100000 in
set_option maxHeartbeats 2000000 in
theorem rvalidStns_any (l : List Stn) (A : Option Addr) (n c : Nat) (w : World) (h : RA stnCells 6 w w.heap.size A n c l) :
    Calls Try.prog 17 #[.slice A n c] w fun e w' => e = .returned (.bool (stnsOK l)) ∧ Below w.heap.size w w' := by
  have HR := Lib.hid h
  have hle := h.le
  have hlen := h.len
  have HL := Lib.hid hlen
  have hs : stnsOK l = (decide (n ≤ 12) && listOK stnOK (·.id) none l) := by rw [stnsOK, hlen]
  rw [hs]
  clear h hs hlen
  by_cases hm : n ≤ 12
  · have hd : decide (n ≤ 12) = true := by simpa using hm
    rw [hd, Bool.true_and]
    clear hd
    have hrl : listOK stnOK (·.id) none l = listOK stnOK (·.id) (prevAt l 0) (l.drop 0) := by simp [prevAt]
    have HQ := Lib.hid hrl
    clear hrl
    go_enter Try.func17, Try.ntmps17
    go_wp2
    go_loopw [3] (fun i wr => ∃ k : Nat, k ≤ n ∧ i = .int .i64 k ∧ Hid (listOK stnOK (·.id) none l = listOK stnOK (·.id) (prevAt l k) (l.drop k)) ∧ Below w.heap.size w wr) (fun i _ => n - (intOf i).toNat)
    case atStart => exact ⟨0, Nat.zero_le _, rfl, HQ, Below.refl _ _⟩
    case round =>
      clear HQ
      obtain ⟨k, hk, rfl, HK, hB⟩ := hrel
      by_cases hlt : k < n
      · obtain ⟨b, o, hz, hA, hbl, hc⟩ := RA.range stn_len (HR.out.below hB) hlt
        have hst := listOK_step stnOK (fun x => x.id) l k hz
        rw [← HK.out] at hst
        generalize l[k] = x at hst hc
        have hv := rstn_valid_x x
        have HC := Lib.hid hc
        have g0 : wr.cell? ⟨b, o + k * 6, none⟩ = some (.int .i64 x.id) := hc 0 _ rfl
        obtain ⟨X, hX⟩ : ∃ X, (stnCells x).toArray = X := ⟨_, rfl⟩
        rw [hX] at hv
        have HV := Lib.hid hv
        have HXX := Lib.hid hX
        generalize stnOK x = q at hst HV
        have HS := Lib.hid hst
        clear hst hc HK hX hv
        subst hA
        have hblt : b < w.heap.size := hbl
        go_wp2
        cases q
        · skip
          refine wp_region_obl 24 (fun ix vals v w1 => match ix with | 0 => v = .slice (some ⟨b, o, none⟩) n c | 1 => v = .int .i64 (k : Int) | 2 => v = .pointer (some ⟨b, o + k * 6, none⟩) | 3 => v = .agg X | 4 => v = .bool false | 5 => v = .bool true | 6 => v = .bool true | 7 => v = undef | 8 => v = undef | 9 => v = undef | 10 => v = undef | 11 => v = undef | 12 => v = undef | 13 => v = undef | 14 => v = undef | 15 => v = undef | 16 => v = undef | 17 => v = undef | 18 => v = undef | 19 => v = undef | 20 => v = undef | 21 => v = undef | 22 => v = undef | _ => v = .bool true) (by kernel_rfl) (by kernel_rfl) ?_ ?_ ?_ ?_
          · intro ix vals v w1 w2 hi hr hx
            match ix, hr with
            | 0, hr => exact hr
            | 1, hr => exact hr
            | 2, hr => exact hr
            | 3, hr => exact hr
            | 4, hr => exact hr
            | 5, hr => exact hr
            | 6, hr => exact hr
            | 7, hr => exact hr
            | 8, hr => exact hr
            | 9, hr => exact hr
            | 10, hr => exact hr
            | 11, hr => exact hr
            | 12, hr => exact hr
            | 13, hr => exact hr
            | 14, hr => exact hr
            | 15, hr => exact hr
            | 16, hr => exact hr
            | 17, hr => exact hr
            | 18, hr => exact hr
            | 19, hr => exact hr
            | 20, hr => exact hr
            | 21, hr => exact hr
            | 22, hr => exact hr
            | (kx + 23), hr => exact hr
          · intro ix vals vals_ v w1 hi hv hr
            exact hr
          · refine ⟨?_, ?_, ?_, ?_, ?_, ?_, ?_, ?_, ?_, ?_, ?_, ?_, ?_, ?_, ?_, ?_, ?_, ?_, ?_, ?_, ?_, ?_, ?_, ?_, trivial⟩
            · intro vals w1 hx hd ha
              clear hd ha
              simp only [Lf]
              go_wp2
              exact ⟨rfl, Ext.refl _, rfl⟩
            · intro vals w1 hx hd ha
              clear hd ha
              simp only [Lf, dstAt, Act.put, List.getElem?_toArray, List.getElem?_cons_zero, Option.bind_some, List.setIfInBounds_toArray, List.set_cons_zero, List.set_cons_succ]
              go_wp2
              exact ⟨rfl, Ext.refl _, rfl⟩
            · intro vals w1 hx hd ha
              have e0 : vals 0 = .slice (some ⟨b, o, none⟩) n c := hd 0 (by decide)
              have e1 : vals 1 = .int .i64 (k : Int) := hd 1 (by decide)
              clear hd ha
              simp only [Lf, dstAt, Act.put, List.getElem?_toArray, List.getElem?_cons_zero, List.getElem?_cons_succ, Option.bind_some, List.setIfInBounds_toArray, List.set_cons_zero, List.set_cons_succ]
              simp only [e0, e1]
              clear e0 e1
              go_wp2
              exact ⟨rfl, Ext.refl _, rfl⟩
            · intro vals w1 hx hd ha
              have e2 : vals 2 = .pointer (some ⟨b, o + k * 6, none⟩) := hd 2 (by decide)
              clear hd ha
              simp only [Lf, dstAt, Act.put, List.getElem?_toArray, List.getElem?_cons_zero, List.getElem?_cons_succ, Option.bind_some, List.setIfInBounds_toArray, List.set_cons_zero, List.set_cons_succ]
              simp only [e2]
              clear e2
              refine wpList_load_st rfl _ _ rfl b (o + k * 6) rfl X (stnCells x) HXX.out _ (RA.range2 HC.out hx.undrew) Try.underlying31 rfl stn_size ?_
              go_wp2
              exact ⟨rfl, Ext.refl _, rfl⟩
            · intro vals w1 hx hd ha
              have e3 : vals 3 = .agg X := hd 3 (by decide)
              clear hd ha
              simp only [Lf, dstAt, Act.put, List.getElem?_toArray, List.getElem?_cons_zero, List.getElem?_cons_succ, Option.bind_some, List.setIfInBounds_toArray, List.set_cons_zero, List.set_cons_succ]
              simp only [e3]
              clear e3
              go_wp2_with fail
              refine (HV.out _).mono ?_
              rintro e w2 ⟨rfl, hb2⟩
              go_wp2
              exact ⟨rfl, hb2, rfl⟩
            · intro vals w1 hx hd ha
              have e4 : vals 4 = .bool false := hd 4 (by decide)
              clear hd ha
              simp only [Lf, dstAt, Act.put, List.getElem?_toArray, List.getElem?_cons_zero, List.getElem?_cons_succ, Option.bind_some, List.setIfInBounds_toArray, List.set_cons_zero, List.set_cons_succ]
              simp only [e4]
              clear e4
              go_wp2
              exact ⟨rfl, Ext.refl _, rfl⟩
            · intro vals w1 hx hd ha
              have e4 : vals 4 = .bool false := hd 4 (by decide)
              have e5 : vals 5 = .bool true := hd 5 (by decide)
              clear hd ha
              simp only [Lf, dstAt, Act.put, List.getElem?_toArray, List.getElem?_cons_zero, List.getElem?_cons_succ, Option.bind_some, List.setIfInBounds_toArray, List.set_cons_zero, List.set_cons_succ]
              simp only [e4, e5]
              clear e4 e5
              go_wp2
              exact ⟨rfl, Ext.refl _, rfl⟩
            · intro vals w1 hx hd ha
              have e6 : vals 6 = .bool true := hd 6 (by decide)
              clear hd ha
              simp only [Lf, dstAt, Act.put, List.getElem?_toArray, List.getElem?_cons_zero, List.getElem?_cons_succ, Option.bind_some, List.setIfInBounds_toArray, List.set_cons_zero, List.set_cons_succ]
              simp only [e6]
              clear e6
              go_wp2
              exact ⟨rfl, Ext.refl _, rfl⟩
            · intro vals w1 hx hd ha
              have e6 : vals 6 = .bool true := hd 6 (by decide)
              have e7 : vals 7 = undef := hd 7 (by decide)
              clear hd ha
              simp only [Lf, dstAt, Act.put, List.getElem?_toArray, List.getElem?_cons_zero, List.getElem?_cons_succ, Option.bind_some, List.setIfInBounds_toArray, List.set_cons_zero, List.set_cons_succ]
              simp only [e6, e7]
              clear e6 e7
              go_wp2
              exact ⟨rfl, Ext.refl _, rfl⟩
            · intro vals w1 hx hd ha
              have e6 : vals 6 = .bool true := hd 6 (by decide)
              have e8 : vals 8 = undef := hd 8 (by decide)
              clear hd ha
              simp only [Lf, dstAt, Act.put, List.getElem?_toArray, List.getElem?_cons_zero, List.getElem?_cons_succ, Option.bind_some, List.setIfInBounds_toArray, List.set_cons_zero, List.set_cons_succ]
              simp only [e6, e8]
              clear e6 e8
              go_wp2
              exact ⟨rfl, Ext.refl _, rfl⟩
            · intro vals w1 hx hd ha
              have e9 : vals 9 = undef := hd 9 (by decide)
              clear hd ha
              simp only [Lf, dstAt, Act.put, List.getElem?_toArray, List.getElem?_cons_zero, List.getElem?_cons_succ, Option.bind_some, List.setIfInBounds_toArray, List.set_cons_zero, List.set_cons_succ]
              simp only [e9]
              clear e9
              go_wp2
              exact ⟨rfl, Ext.refl _, rfl⟩
            · intro vals w1 hx hd ha
              have e9 : vals 9 = undef := hd 9 (by decide)
              clear hd ha
              simp only [Lf, dstAt, Act.put, List.getElem?_toArray, List.getElem?_cons_zero, List.getElem?_cons_succ, Option.bind_some, List.setIfInBounds_toArray, List.set_cons_zero, List.set_cons_succ]
              simp only [e9]
              clear e9
              go_wp2
              exact ⟨rfl, Ext.refl _, rfl⟩
            · intro vals w1 hx hd ha
              have e9 : vals 9 = undef := hd 9 (by decide)
              have e10 : vals 10 = undef := hd 10 (by decide)
              have e11 : vals 11 = undef := hd 11 (by decide)
              clear hd ha
              simp only [Lf, dstAt, Act.put, List.getElem?_toArray, List.getElem?_cons_zero, List.getElem?_cons_succ, Option.bind_some, List.setIfInBounds_toArray, List.set_cons_zero, List.set_cons_succ]
              simp only [e9, e10, e11]
              clear e9 e10 e11
              go_wp2
              exact ⟨rfl, Ext.refl _, rfl⟩
            · intro vals w1 hx hd ha
              have e9 : vals 9 = undef := hd 9 (by decide)
              have e12 : vals 12 = undef := hd 12 (by decide)
              clear hd ha
              simp only [Lf, dstAt, Act.put, List.getElem?_toArray, List.getElem?_cons_zero, List.getElem?_cons_succ, Option.bind_some, List.setIfInBounds_toArray, List.set_cons_zero, List.set_cons_succ]
              simp only [e9, e12]
              clear e9 e12
              go_wp2
              exact ⟨rfl, Ext.refl _, rfl⟩
            · intro vals w1 hx hd ha
              have e9 : vals 9 = undef := hd 9 (by decide)
              have e13 : vals 13 = undef := hd 13 (by decide)
              clear hd ha
              simp only [Lf, dstAt, Act.put, List.getElem?_toArray, List.getElem?_cons_zero, List.getElem?_cons_succ, Option.bind_some, List.setIfInBounds_toArray, List.set_cons_zero, List.set_cons_succ]
              simp only [e9, e13]
              clear e9 e13
              go_wp2
              exact ⟨rfl, Ext.refl _, rfl⟩
            · intro vals w1 hx hd ha
              have e9 : vals 9 = undef := hd 9 (by decide)
              clear hd ha
              simp only [Lf, dstAt, Act.put, List.getElem?_toArray, List.getElem?_cons_zero, List.getElem?_cons_succ, Option.bind_some, List.setIfInBounds_toArray, List.set_cons_zero, List.set_cons_succ]
              simp only [e9]
              clear e9
              go_wp2
              exact ⟨rfl, Ext.refl _, rfl⟩
            · intro vals w1 hx hd ha
              have e9 : vals 9 = undef := hd 9 (by decide)
              clear hd ha
              simp only [Lf, dstAt, Act.put, List.getElem?_toArray, List.getElem?_cons_zero, List.getElem?_cons_succ, Option.bind_some, List.setIfInBounds_toArray, List.set_cons_zero, List.set_cons_succ]
              simp only [e9]
              clear e9
              go_wp2
              exact ⟨rfl, Ext.refl _, rfl⟩
            · intro vals w1 hx hd ha
              have e9 : vals 9 = undef := hd 9 (by decide)
              have e16 : vals 16 = undef := hd 16 (by decide)
              clear hd ha
              simp only [Lf, dstAt, Act.put, List.getElem?_toArray, List.getElem?_cons_zero, List.getElem?_cons_succ, Option.bind_some, List.setIfInBounds_toArray, List.set_cons_zero, List.set_cons_succ]
              simp only [e9, e16]
              clear e9 e16
              go_wp2
              exact ⟨rfl, Ext.refl _, rfl⟩
            · intro vals w1 hx hd ha
              have e9 : vals 9 = undef := hd 9 (by decide)
              have e15 : vals 15 = undef := hd 15 (by decide)
              have e17 : vals 17 = undef := hd 17 (by decide)
              clear hd ha
              simp only [Lf, dstAt, Act.put, List.getElem?_toArray, List.getElem?_cons_zero, List.getElem?_cons_succ, Option.bind_some, List.setIfInBounds_toArray, List.set_cons_zero, List.set_cons_succ]
              simp only [e9, e15, e17]
              clear e9 e15 e17
              go_wp2
              exact ⟨rfl, Ext.refl _, rfl⟩
            · intro vals w1 hx hd ha
              have e9 : vals 9 = undef := hd 9 (by decide)
              have e18 : vals 18 = undef := hd 18 (by decide)
              clear hd ha
              simp only [Lf, dstAt, Act.put, List.getElem?_toArray, List.getElem?_cons_zero, List.getElem?_cons_succ, Option.bind_some, List.setIfInBounds_toArray, List.set_cons_zero, List.set_cons_succ]
              simp only [e9, e18]
              clear e9 e18
              go_wp2
              exact ⟨rfl, Ext.refl _, rfl⟩
            · intro vals w1 hx hd ha
              have e9 : vals 9 = undef := hd 9 (by decide)
              have e19 : vals 19 = undef := hd 19 (by decide)
              clear hd ha
              simp only [Lf, dstAt, Act.put, List.getElem?_toArray, List.getElem?_cons_zero, List.getElem?_cons_succ, Option.bind_some, List.setIfInBounds_toArray, List.set_cons_zero, List.set_cons_succ]
              simp only [e9, e19]
              clear e9 e19
              go_wp2
              exact ⟨rfl, Ext.refl _, rfl⟩
            · intro vals w1 hx hd ha
              have e9 : vals 9 = undef := hd 9 (by decide)
              have e14 : vals 14 = undef := hd 14 (by decide)
              have e20 : vals 20 = undef := hd 20 (by decide)
              clear hd ha
              simp only [Lf, dstAt, Act.put, List.getElem?_toArray, List.getElem?_cons_zero, List.getElem?_cons_succ, Option.bind_some, List.setIfInBounds_toArray, List.set_cons_zero, List.set_cons_succ]
              simp only [e9, e14, e20]
              clear e9 e14 e20
              go_wp2
              exact ⟨rfl, Ext.refl _, rfl⟩
            · intro vals w1 hx hd ha
              have e6 : vals 6 = .bool true := hd 6 (by decide)
              have e9 : vals 9 = undef := hd 9 (by decide)
              have e21 : vals 21 = undef := hd 21 (by decide)
              clear hd ha
              simp only [Lf, dstAt, Act.put, List.getElem?_toArray, List.getElem?_cons_zero, List.getElem?_cons_succ, Option.bind_some, List.setIfInBounds_toArray, List.set_cons_zero, List.set_cons_succ]
              simp only [e6, e9, e21]
              clear e6 e9 e21
              go_wp2
              exact ⟨rfl, Ext.refl _, rfl⟩
            · intro vals w1 hx hd ha
              have e6 : vals 6 = .bool true := hd 6 (by decide)
              have e22 : vals 22 = undef := hd 22 (by decide)
              clear hd ha
              simp only [Lf, dstAt, Act.put, List.getElem?_toArray, List.getElem?_cons_zero, List.getElem?_cons_succ, Option.bind_some, List.setIfInBounds_toArray, List.set_cons_zero, List.set_cons_succ]
              simp only [e6, e22]
              clear e6 e22
              go_wp2
              exact ⟨rfl, Ext.refl _, rfl⟩
          intro vals w5 hx hf
          have e23 : vals 23 = .bool true := hf 23 (by omega)
          clear hf
          have hx := hx.undrew
          have hB5 := bl_then hB hx
          refine tail0 (by kernel_rfl) ?_
          simp only [Lf, dstAt, Act.put, List.getElem?_toArray, List.getElem?_cons_zero, List.getElem?_cons_succ, Option.bind_some, List.setIfInBounds_toArray, List.set_cons_zero, List.set_cons_succ]
          rw [e23]
          clear e23
          go_wp2
          go_ret
          exact ⟨by rw [HS.out]; rfl, hB5⟩
        · by_cases hk0 : k = 0
          · have hk0' : (k : Int) ≤ 0 := by omega
            have hpv : prevAt l k = none := by simp [prevAt, hk0]
            have HP := Lib.hid hpv
            have hk0h := Lib.hid hk0
            have hkd : decide (0 < k) = false := by simp; omega
            clear hpv hk0
            refine wp_region_obl 24 (fun ix vals v w1 => match ix with | 0 => v = .slice (some ⟨b, o, none⟩) n c | 1 => v = .int .i64 (k : Int) | 2 => v = .pointer (some ⟨b, o + k * 6, none⟩) | 3 => v = .agg X | 4 => v = .bool true | 5 => v = .bool false | 6 => v = .bool false | 7 => v = .int .i64 (k : Int) | 8 => v = .bool false | 9 => v = .bool false | 10 => v = undef | 11 => v = undef | 12 => v = undef | 13 => v = undef | 14 => v = undef | 15 => v = undef | 16 => v = undef | 17 => v = undef | 18 => v = undef | 19 => v = undef | 20 => v = undef | 21 => v = undef | 22 => v = .bool false | _ => v = .bool false) (by kernel_rfl) (by kernel_rfl) ?_ ?_ ?_ ?_
            · intro ix vals v w1 w2 hi hr hx
              match ix, hr with
              | 0, hr => exact hr
              | 1, hr => exact hr
              | 2, hr => exact hr
              | 3, hr => exact hr
              | 4, hr => exact hr
              | 5, hr => exact hr
              | 6, hr => exact hr
              | 7, hr => exact hr
              | 8, hr => exact hr
              | 9, hr => exact hr
              | 10, hr => exact hr
              | 11, hr => exact hr
              | 12, hr => exact hr
              | 13, hr => exact hr
              | 14, hr => exact hr
              | 15, hr => exact hr
              | 16, hr => exact hr
              | 17, hr => exact hr
              | 18, hr => exact hr
              | 19, hr => exact hr
              | 20, hr => exact hr
              | 21, hr => exact hr
              | 22, hr => exact hr
              | (kx + 23), hr => exact hr
            · intro ix vals vals_ v w1 hi hv hr
              exact hr
            · refine ⟨?_, ?_, ?_, ?_, ?_, ?_, ?_, ?_, ?_, ?_, ?_, ?_, ?_, ?_, ?_, ?_, ?_, ?_, ?_, ?_, ?_, ?_, ?_, ?_, trivial⟩
              · intro vals w1 hx hd ha
                clear hd ha
                simp only [Lf]
                go_wp2
                exact ⟨rfl, Ext.refl _, rfl⟩
              · intro vals w1 hx hd ha
                clear hd ha
                simp only [Lf, dstAt, Act.put, List.getElem?_toArray, List.getElem?_cons_zero, Option.bind_some, List.setIfInBounds_toArray, List.set_cons_zero, List.set_cons_succ]
                go_wp2
                exact ⟨rfl, Ext.refl _, rfl⟩
              · intro vals w1 hx hd ha
                have e0 : vals 0 = .slice (some ⟨b, o, none⟩) n c := hd 0 (by decide)
                have e1 : vals 1 = .int .i64 (k : Int) := hd 1 (by decide)
                clear hd ha
                simp only [Lf, dstAt, Act.put, List.getElem?_toArray, List.getElem?_cons_zero, List.getElem?_cons_succ, Option.bind_some, List.setIfInBounds_toArray, List.set_cons_zero, List.set_cons_succ]
                simp only [e0, e1]
                clear e0 e1
                go_wp2
                exact ⟨rfl, Ext.refl _, rfl⟩
              · intro vals w1 hx hd ha
                have e2 : vals 2 = .pointer (some ⟨b, o + k * 6, none⟩) := hd 2 (by decide)
                clear hd ha
                simp only [Lf, dstAt, Act.put, List.getElem?_toArray, List.getElem?_cons_zero, List.getElem?_cons_succ, Option.bind_some, List.setIfInBounds_toArray, List.set_cons_zero, List.set_cons_succ]
                simp only [e2]
                clear e2
                refine wpList_load_st rfl _ _ rfl b (o + k * 6) rfl X (stnCells x) HXX.out _ (RA.range2 HC.out hx.undrew) Try.underlying31 rfl stn_size ?_
                go_wp2
                exact ⟨rfl, Ext.refl _, rfl⟩
              · intro vals w1 hx hd ha
                have e3 : vals 3 = .agg X := hd 3 (by decide)
                clear hd ha
                simp only [Lf, dstAt, Act.put, List.getElem?_toArray, List.getElem?_cons_zero, List.getElem?_cons_succ, Option.bind_some, List.setIfInBounds_toArray, List.set_cons_zero, List.set_cons_succ]
                simp only [e3]
                clear e3
                go_wp2_with fail
                refine (HV.out _).mono ?_
                rintro e w2 ⟨rfl, hb2⟩
                go_wp2
                exact ⟨rfl, hb2, rfl⟩
              · intro vals w1 hx hd ha
                have e4 : vals 4 = .bool true := hd 4 (by decide)
                clear hd ha
                simp only [Lf, dstAt, Act.put, List.getElem?_toArray, List.getElem?_cons_zero, List.getElem?_cons_succ, Option.bind_some, List.setIfInBounds_toArray, List.set_cons_zero, List.set_cons_succ]
                simp only [e4]
                clear e4
                go_wp2
                exact ⟨rfl, Ext.refl _, rfl⟩
              · intro vals w1 hx hd ha
                have e4 : vals 4 = .bool true := hd 4 (by decide)
                have e5 : vals 5 = .bool false := hd 5 (by decide)
                clear hd ha
                simp only [Lf, dstAt, Act.put, List.getElem?_toArray, List.getElem?_cons_zero, List.getElem?_cons_succ, Option.bind_some, List.setIfInBounds_toArray, List.set_cons_zero, List.set_cons_succ]
                simp only [e4, e5]
                clear e4 e5
                go_wp2
                exact ⟨rfl, Ext.refl _, rfl⟩
              · intro vals w1 hx hd ha
                have e6 : vals 6 = .bool false := hd 6 (by decide)
                clear hd ha
                simp only [Lf, dstAt, Act.put, List.getElem?_toArray, List.getElem?_cons_zero, List.getElem?_cons_succ, Option.bind_some, List.setIfInBounds_toArray, List.set_cons_zero, List.set_cons_succ]
                simp only [e6]
                clear e6
                go_wp2
                exact ⟨rfl, Ext.refl _, rfl⟩
              · intro vals w1 hx hd ha
                have e6 : vals 6 = .bool false := hd 6 (by decide)
                have e7 : vals 7 = .int .i64 (k : Int) := hd 7 (by decide)
                clear hd ha
                simp only [Lf, dstAt, Act.put, List.getElem?_toArray, List.getElem?_cons_zero, List.getElem?_cons_succ, Option.bind_some, List.setIfInBounds_toArray, List.set_cons_zero, List.set_cons_succ]
                simp only [e6, e7]
                clear e6 e7
                go_wp2
                exact ⟨rfl, Ext.refl _, rfl⟩
              · intro vals w1 hx hd ha
                have e6 : vals 6 = .bool false := hd 6 (by decide)
                have e8 : vals 8 = .bool false := hd 8 (by decide)
                clear hd ha
                simp only [Lf, dstAt, Act.put, List.getElem?_toArray, List.getElem?_cons_zero, List.getElem?_cons_succ, Option.bind_some, List.setIfInBounds_toArray, List.set_cons_zero, List.set_cons_succ]
                simp only [e6, e8]
                clear e6 e8
                go_wp2
                exact ⟨rfl, Ext.refl _, rfl⟩
              · intro vals w1 hx hd ha
                have e9 : vals 9 = .bool false := hd 9 (by decide)
                clear hd ha
                simp only [Lf, dstAt, Act.put, List.getElem?_toArray, List.getElem?_cons_zero, List.getElem?_cons_succ, Option.bind_some, List.setIfInBounds_toArray, List.set_cons_zero, List.set_cons_succ]
                simp only [e9]
                clear e9
                go_wp2
                exact ⟨rfl, Ext.refl _, rfl⟩
              · intro vals w1 hx hd ha
                have e9 : vals 9 = .bool false := hd 9 (by decide)
                clear hd ha
                simp only [Lf, dstAt, Act.put, List.getElem?_toArray, List.getElem?_cons_zero, List.getElem?_cons_succ, Option.bind_some, List.setIfInBounds_toArray, List.set_cons_zero, List.set_cons_succ]
                simp only [e9]
                clear e9
                go_wp2
                exact ⟨rfl, Ext.refl _, rfl⟩
              · intro vals w1 hx hd ha
                have e9 : vals 9 = .bool false := hd 9 (by decide)
                have e10 : vals 10 = undef := hd 10 (by decide)
                have e11 : vals 11 = undef := hd 11 (by decide)
                clear hd ha
                simp only [Lf, dstAt, Act.put, List.getElem?_toArray, List.getElem?_cons_zero, List.getElem?_cons_succ, Option.bind_some, List.setIfInBounds_toArray, List.set_cons_zero, List.set_cons_succ]
                simp only [e9, e10, e11]
                clear e9 e10 e11
                go_wp2
                exact ⟨rfl, Ext.refl _, rfl⟩
              · intro vals w1 hx hd ha
                have e9 : vals 9 = .bool false := hd 9 (by decide)
                have e12 : vals 12 = undef := hd 12 (by decide)
                clear hd ha
                simp only [Lf, dstAt, Act.put, List.getElem?_toArray, List.getElem?_cons_zero, List.getElem?_cons_succ, Option.bind_some, List.setIfInBounds_toArray, List.set_cons_zero, List.set_cons_succ]
                simp only [e9, e12]
                clear e9 e12
                go_wp2
                exact ⟨rfl, Ext.refl _, rfl⟩
              · intro vals w1 hx hd ha
                have e9 : vals 9 = .bool false := hd 9 (by decide)
                have e13 : vals 13 = undef := hd 13 (by decide)
                clear hd ha
                simp only [Lf, dstAt, Act.put, List.getElem?_toArray, List.getElem?_cons_zero, List.getElem?_cons_succ, Option.bind_some, List.setIfInBounds_toArray, List.set_cons_zero, List.set_cons_succ]
                simp only [e9, e13]
                clear e9 e13
                have g0 := ext_cell hx g0
                go_wp2
                exact ⟨rfl, Ext.refl _, rfl⟩
              · intro vals w1 hx hd ha
                have e9 : vals 9 = .bool false := hd 9 (by decide)
                clear hd ha
                simp only [Lf, dstAt, Act.put, List.getElem?_toArray, List.getElem?_cons_zero, List.getElem?_cons_succ, Option.bind_some, List.setIfInBounds_toArray, List.set_cons_zero, List.set_cons_succ]
                simp only [e9]
                clear e9
                go_wp2
                exact ⟨rfl, Ext.refl _, rfl⟩
              · intro vals w1 hx hd ha
                have e9 : vals 9 = .bool false := hd 9 (by decide)
                clear hd ha
                simp only [Lf, dstAt, Act.put, List.getElem?_toArray, List.getElem?_cons_zero, List.getElem?_cons_succ, Option.bind_some, List.setIfInBounds_toArray, List.set_cons_zero, List.set_cons_succ]
                simp only [e9]
                clear e9
                go_wp2
                exact ⟨rfl, Ext.refl _, rfl⟩
              · intro vals w1 hx hd ha
                have e9 : vals 9 = .bool false := hd 9 (by decide)
                have e16 : vals 16 = undef := hd 16 (by decide)
                clear hd ha
                simp only [Lf, dstAt, Act.put, List.getElem?_toArray, List.getElem?_cons_zero, List.getElem?_cons_succ, Option.bind_some, List.setIfInBounds_toArray, List.set_cons_zero, List.set_cons_succ]
                simp only [e9, e16]
                clear e9 e16
                go_wp2
                exact ⟨rfl, Ext.refl _, rfl⟩
              · intro vals w1 hx hd ha
                have e9 : vals 9 = .bool false := hd 9 (by decide)
                have e15 : vals 15 = undef := hd 15 (by decide)
                have e17 : vals 17 = undef := hd 17 (by decide)
                clear hd ha
                simp only [Lf, dstAt, Act.put, List.getElem?_toArray, List.getElem?_cons_zero, List.getElem?_cons_succ, Option.bind_some, List.setIfInBounds_toArray, List.set_cons_zero, List.set_cons_succ]
                simp only [e9, e15, e17]
                clear e9 e15 e17
                go_wp2
                exact ⟨rfl, Ext.refl _, rfl⟩
              · intro vals w1 hx hd ha
                have e9 : vals 9 = .bool false := hd 9 (by decide)
                have e18 : vals 18 = undef := hd 18 (by decide)
                clear hd ha
                simp only [Lf, dstAt, Act.put, List.getElem?_toArray, List.getElem?_cons_zero, List.getElem?_cons_succ, Option.bind_some, List.setIfInBounds_toArray, List.set_cons_zero, List.set_cons_succ]
                simp only [e9, e18]
                clear e9 e18
                go_wp2
                exact ⟨rfl, Ext.refl _, rfl⟩
              · intro vals w1 hx hd ha
                have e9 : vals 9 = .bool false := hd 9 (by decide)
                have e19 : vals 19 = undef := hd 19 (by decide)
                clear hd ha
                simp only [Lf, dstAt, Act.put, List.getElem?_toArray, List.getElem?_cons_zero, List.getElem?_cons_succ, Option.bind_some, List.setIfInBounds_toArray, List.set_cons_zero, List.set_cons_succ]
                simp only [e9, e19]
                clear e9 e19
                go_wp2
                exact ⟨rfl, Ext.refl _, rfl⟩
              · intro vals w1 hx hd ha
                have e9 : vals 9 = .bool false := hd 9 (by decide)
                have e14 : vals 14 = undef := hd 14 (by decide)
                have e20 : vals 20 = undef := hd 20 (by decide)
                clear hd ha
                simp only [Lf, dstAt, Act.put, List.getElem?_toArray, List.getElem?_cons_zero, List.getElem?_cons_succ, Option.bind_some, List.setIfInBounds_toArray, List.set_cons_zero, List.set_cons_succ]
                simp only [e9, e14, e20]
                clear e9 e14 e20
                go_wp2
                exact ⟨rfl, Ext.refl _, rfl⟩
              · intro vals w1 hx hd ha
                have e6 : vals 6 = .bool false := hd 6 (by decide)
                have e9 : vals 9 = .bool false := hd 9 (by decide)
                have e21 : vals 21 = undef := hd 21 (by decide)
                clear hd ha
                simp only [Lf, dstAt, Act.put, List.getElem?_toArray, List.getElem?_cons_zero, List.getElem?_cons_succ, Option.bind_some, List.setIfInBounds_toArray, List.set_cons_zero, List.set_cons_succ]
                simp only [e6, e9, e21]
                clear e6 e9 e21
                go_wp2
                exact ⟨rfl, Ext.refl _, rfl⟩
              · intro vals w1 hx hd ha
                have e6 : vals 6 = .bool false := hd 6 (by decide)
                have e22 : vals 22 = .bool false := hd 22 (by decide)
                clear hd ha
                simp only [Lf, dstAt, Act.put, List.getElem?_toArray, List.getElem?_cons_zero, List.getElem?_cons_succ, Option.bind_some, List.setIfInBounds_toArray, List.set_cons_zero, List.set_cons_succ]
                simp only [e6, e22]
                clear e6 e22
                go_wp2
                exact ⟨rfl, Ext.refl _, rfl⟩
            intro vals w5 hx hf
            have e23 : vals 23 = .bool false := hf 23 (by omega)
            clear hf
            have hx := hx.undrew
            have hB5 := bl_then hB hx
            refine tail0 (by kernel_rfl) ?_
            simp only [Lf, dstAt, Act.put, List.getElem?_toArray, List.getElem?_cons_zero, List.getElem?_cons_succ, Option.bind_some, List.setIfInBounds_toArray, List.set_cons_zero, List.set_cons_succ]
            rw [e23]
            clear e23
            go_wp2
            go_roundw
            case rel => exact ⟨k + 1, by omega, by go_num, Lib.hid (by rw [HS.out, HP.out]; rfl), hB5⟩
            case measure => simp [intOf]; omega
          · have hk1 : (0 : Int) < (k : Int) := by omega
            obtain ⟨b', o', hz', hA', hbl', hc'⟩ := RA.at_ stn_len (HR.out.below hB) (k := k - 1) (by omega)
            obtain ⟨rfl, rfl⟩ : b' = b ∧ o' = o := by injection hA' with hA'; injection hA' with h1 h2; exact ⟨h1.symm, h2.symm⟩
            have hpv : prevAt l k = some l[k - 1] := by unfold prevAt; rw [if_neg hk0, List.getElem?_eq_getElem hz']
            generalize l[k - 1] = y at hpv hc'
            have d0 : wr.cell? ⟨b', o' + (k - 1) * 6, none⟩ = some (.int .i64 y.id) := hc' 0 (by omega)
            have HP := Lib.hid hpv
            have hk0h := Lib.hid hk0
            clear hpv hc' hA' hbl' hk0
            have hki : IntKind.i64.wrap ((k : Int) - 1) = (k : Int) - 1 := IntWalk.i64_in _ (by omega)
            have hkn : ((k : Int) - 1).toNat = k - 1 := by omega
            have hkd : decide (0 < k) = true := by simp; omega
            refine wp_region_obl 24 (fun ix vals v w1 => match ix with | 0 => v = .slice (some ⟨b', o', none⟩) n c | 1 => v = .int .i64 (k : Int) | 2 => v = .pointer (some ⟨b', o' + k * 6, none⟩) | 3 => v = .agg X | 4 => v = .bool true | 5 => v = .bool false | 6 => v = .bool false | 7 => v = .int .i64 (k : Int) | 8 => v = .bool true | 9 => v = .bool true | 10 => v = .slice (some ⟨b', o', none⟩) n c | 11 => v = .int .i64 (k : Int) | 12 => v = .pointer (some ⟨b', o' + k * 6, none⟩) | 13 => v = .pointer (some ⟨b', o' + k * 6, none⟩) | 14 => v = .int .i64 x.id | 15 => v = .slice (some ⟨b', o', none⟩) n c | 16 => v = .int .i64 (k : Int) | 17 => v = .int .i64 ((k : Int) - 1) | 18 => v = .pointer (some ⟨b', o' + (k - 1) * 6, none⟩) | 19 => v = .pointer (some ⟨b', o' + (k - 1) * 6, none⟩) | 20 => v = .int .i64 y.id | 21 => v = .bool (decide (x.id ≤ y.id)) | 22 => v = .bool (decide (x.id ≤ y.id)) | _ => v = .bool (decide (x.id ≤ y.id))) (by kernel_rfl) (by kernel_rfl) ?_ ?_ ?_ ?_
            · intro ix vals v w1 w2 hi hr hx
              match ix, hr with
              | 0, hr => exact hr
              | 1, hr => exact hr
              | 2, hr => exact hr
              | 3, hr => exact hr
              | 4, hr => exact hr
              | 5, hr => exact hr
              | 6, hr => exact hr
              | 7, hr => exact hr
              | 8, hr => exact hr
              | 9, hr => exact hr
              | 10, hr => exact hr
              | 11, hr => exact hr
              | 12, hr => exact hr
              | 13, hr => exact hr
              | 14, hr => exact hr
              | 15, hr => exact hr
              | 16, hr => exact hr
              | 17, hr => exact hr
              | 18, hr => exact hr
              | 19, hr => exact hr
              | 20, hr => exact hr
              | 21, hr => exact hr
              | 22, hr => exact hr
              | (kx + 23), hr => exact hr
            · intro ix vals vals_ v w1 hi hv hr
              exact hr
            · refine ⟨?_, ?_, ?_, ?_, ?_, ?_, ?_, ?_, ?_, ?_, ?_, ?_, ?_, ?_, ?_, ?_, ?_, ?_, ?_, ?_, ?_, ?_, ?_, ?_, trivial⟩
              · intro vals w1 hx hd ha
                clear hd ha
                simp only [Lf]
                go_wp2
                exact ⟨rfl, Ext.refl _, rfl⟩
              · intro vals w1 hx hd ha
                clear hd ha
                simp only [Lf, dstAt, Act.put, List.getElem?_toArray, List.getElem?_cons_zero, Option.bind_some, List.setIfInBounds_toArray, List.set_cons_zero, List.set_cons_succ]
                go_wp2
                exact ⟨rfl, Ext.refl _, rfl⟩
              · intro vals w1 hx hd ha
                have e0 : vals 0 = .slice (some ⟨b', o', none⟩) n c := hd 0 (by decide)
                have e1 : vals 1 = .int .i64 (k : Int) := hd 1 (by decide)
                clear hd ha
                simp only [Lf, dstAt, Act.put, List.getElem?_toArray, List.getElem?_cons_zero, List.getElem?_cons_succ, Option.bind_some, List.setIfInBounds_toArray, List.set_cons_zero, List.set_cons_succ]
                simp only [e0, e1]
                clear e0 e1
                go_wp2
                exact ⟨rfl, Ext.refl _, rfl⟩
              · intro vals w1 hx hd ha
                have e2 : vals 2 = .pointer (some ⟨b', o' + k * 6, none⟩) := hd 2 (by decide)
                clear hd ha
                simp only [Lf, dstAt, Act.put, List.getElem?_toArray, List.getElem?_cons_zero, List.getElem?_cons_succ, Option.bind_some, List.setIfInBounds_toArray, List.set_cons_zero, List.set_cons_succ]
                simp only [e2]
                clear e2
                refine wpList_load_st rfl _ _ rfl b' (o' + k * 6) rfl X (stnCells x) HXX.out _ (RA.range2 HC.out hx.undrew) Try.underlying31 rfl stn_size ?_
                go_wp2
                exact ⟨rfl, Ext.refl _, rfl⟩
              · intro vals w1 hx hd ha
                have e3 : vals 3 = .agg X := hd 3 (by decide)
                clear hd ha
                simp only [Lf, dstAt, Act.put, List.getElem?_toArray, List.getElem?_cons_zero, List.getElem?_cons_succ, Option.bind_some, List.setIfInBounds_toArray, List.set_cons_zero, List.set_cons_succ]
                simp only [e3]
                clear e3
                go_wp2_with fail
                refine (HV.out _).mono ?_
                rintro e w2 ⟨rfl, hb2⟩
                go_wp2
                exact ⟨rfl, hb2, rfl⟩
              · intro vals w1 hx hd ha
                have e4 : vals 4 = .bool true := hd 4 (by decide)
                clear hd ha
                simp only [Lf, dstAt, Act.put, List.getElem?_toArray, List.getElem?_cons_zero, List.getElem?_cons_succ, Option.bind_some, List.setIfInBounds_toArray, List.set_cons_zero, List.set_cons_succ]
                simp only [e4]
                clear e4
                go_wp2
                exact ⟨rfl, Ext.refl _, rfl⟩
              · intro vals w1 hx hd ha
                have e4 : vals 4 = .bool true := hd 4 (by decide)
                have e5 : vals 5 = .bool false := hd 5 (by decide)
                clear hd ha
                simp only [Lf, dstAt, Act.put, List.getElem?_toArray, List.getElem?_cons_zero, List.getElem?_cons_succ, Option.bind_some, List.setIfInBounds_toArray, List.set_cons_zero, List.set_cons_succ]
                simp only [e4, e5]
                clear e4 e5
                go_wp2
                exact ⟨rfl, Ext.refl _, rfl⟩
              · intro vals w1 hx hd ha
                have e6 : vals 6 = .bool false := hd 6 (by decide)
                clear hd ha
                simp only [Lf, dstAt, Act.put, List.getElem?_toArray, List.getElem?_cons_zero, List.getElem?_cons_succ, Option.bind_some, List.setIfInBounds_toArray, List.set_cons_zero, List.set_cons_succ]
                simp only [e6]
                clear e6
                go_wp2
                exact ⟨rfl, Ext.refl _, rfl⟩
              · intro vals w1 hx hd ha
                have e6 : vals 6 = .bool false := hd 6 (by decide)
                have e7 : vals 7 = .int .i64 (k : Int) := hd 7 (by decide)
                clear hd ha
                simp only [Lf, dstAt, Act.put, List.getElem?_toArray, List.getElem?_cons_zero, List.getElem?_cons_succ, Option.bind_some, List.setIfInBounds_toArray, List.set_cons_zero, List.set_cons_succ]
                simp only [e6, e7]
                clear e6 e7
                go_wp2
                exact ⟨rfl, Ext.refl _, rfl⟩
              · intro vals w1 hx hd ha
                have e6 : vals 6 = .bool false := hd 6 (by decide)
                have e8 : vals 8 = .bool true := hd 8 (by decide)
                clear hd ha
                simp only [Lf, dstAt, Act.put, List.getElem?_toArray, List.getElem?_cons_zero, List.getElem?_cons_succ, Option.bind_some, List.setIfInBounds_toArray, List.set_cons_zero, List.set_cons_succ]
                simp only [e6, e8]
                clear e6 e8
                go_wp2
                exact ⟨rfl, Ext.refl _, rfl⟩
              · intro vals w1 hx hd ha
                have e9 : vals 9 = .bool true := hd 9 (by decide)
                clear hd ha
                simp only [Lf, dstAt, Act.put, List.getElem?_toArray, List.getElem?_cons_zero, List.getElem?_cons_succ, Option.bind_some, List.setIfInBounds_toArray, List.set_cons_zero, List.set_cons_succ]
                simp only [e9]
                clear e9
                go_wp2
                exact ⟨rfl, Ext.refl _, rfl⟩
              · intro vals w1 hx hd ha
                have e9 : vals 9 = .bool true := hd 9 (by decide)
                clear hd ha
                simp only [Lf, dstAt, Act.put, List.getElem?_toArray, List.getElem?_cons_zero, List.getElem?_cons_succ, Option.bind_some, List.setIfInBounds_toArray, List.set_cons_zero, List.set_cons_succ]
                simp only [e9]
                clear e9
                go_wp2
                exact ⟨rfl, Ext.refl _, rfl⟩
              · intro vals w1 hx hd ha
                have e9 : vals 9 = .bool true := hd 9 (by decide)
                have e10 : vals 10 = .slice (some ⟨b', o', none⟩) n c := hd 10 (by decide)
                have e11 : vals 11 = .int .i64 (k : Int) := hd 11 (by decide)
                clear hd ha
                simp only [Lf, dstAt, Act.put, List.getElem?_toArray, List.getElem?_cons_zero, List.getElem?_cons_succ, Option.bind_some, List.setIfInBounds_toArray, List.set_cons_zero, List.set_cons_succ]
                simp only [e9, e10, e11]
                clear e9 e10 e11
                go_wp2
                exact ⟨rfl, Ext.refl _, rfl⟩
              · intro vals w1 hx hd ha
                have e9 : vals 9 = .bool true := hd 9 (by decide)
                have e12 : vals 12 = .pointer (some ⟨b', o' + k * 6, none⟩) := hd 12 (by decide)
                clear hd ha
                simp only [Lf, dstAt, Act.put, List.getElem?_toArray, List.getElem?_cons_zero, List.getElem?_cons_succ, Option.bind_some, List.setIfInBounds_toArray, List.set_cons_zero, List.set_cons_succ]
                simp only [e9, e12]
                clear e9 e12
                go_wp2
                exact ⟨rfl, Ext.refl _, rfl⟩
              · intro vals w1 hx hd ha
                have e9 : vals 9 = .bool true := hd 9 (by decide)
                have e13 : vals 13 = .pointer (some ⟨b', o' + k * 6, none⟩) := hd 13 (by decide)
                clear hd ha
                simp only [Lf, dstAt, Act.put, List.getElem?_toArray, List.getElem?_cons_zero, List.getElem?_cons_succ, Option.bind_some, List.setIfInBounds_toArray, List.set_cons_zero, List.set_cons_succ]
                simp only [e9, e13]
                clear e9 e13
                have g0 := ext_cell hx g0
                go_wp2
                exact ⟨rfl, Ext.refl _, rfl⟩
              · intro vals w1 hx hd ha
                have e9 : vals 9 = .bool true := hd 9 (by decide)
                clear hd ha
                simp only [Lf, dstAt, Act.put, List.getElem?_toArray, List.getElem?_cons_zero, List.getElem?_cons_succ, Option.bind_some, List.setIfInBounds_toArray, List.set_cons_zero, List.set_cons_succ]
                simp only [e9]
                clear e9
                go_wp2
                exact ⟨rfl, Ext.refl _, rfl⟩
              · intro vals w1 hx hd ha
                have e9 : vals 9 = .bool true := hd 9 (by decide)
                clear hd ha
                simp only [Lf, dstAt, Act.put, List.getElem?_toArray, List.getElem?_cons_zero, List.getElem?_cons_succ, Option.bind_some, List.setIfInBounds_toArray, List.set_cons_zero, List.set_cons_succ]
                simp only [e9]
                clear e9
                go_wp2
                exact ⟨rfl, Ext.refl _, rfl⟩
              · intro vals w1 hx hd ha
                have e9 : vals 9 = .bool true := hd 9 (by decide)
                have e16 : vals 16 = .int .i64 (k : Int) := hd 16 (by decide)
                clear hd ha
                simp only [Lf, dstAt, Act.put, List.getElem?_toArray, List.getElem?_cons_zero, List.getElem?_cons_succ, Option.bind_some, List.setIfInBounds_toArray, List.set_cons_zero, List.set_cons_succ]
                simp only [e9, e16]
                clear e9 e16
                go_wp2
                exact ⟨rfl, Ext.refl _, rfl⟩
              · intro vals w1 hx hd ha
                have e9 : vals 9 = .bool true := hd 9 (by decide)
                have e15 : vals 15 = .slice (some ⟨b', o', none⟩) n c := hd 15 (by decide)
                have e17 : vals 17 = .int .i64 ((k : Int) - 1) := hd 17 (by decide)
                clear hd ha
                simp only [Lf, dstAt, Act.put, List.getElem?_toArray, List.getElem?_cons_zero, List.getElem?_cons_succ, Option.bind_some, List.setIfInBounds_toArray, List.set_cons_zero, List.set_cons_succ]
                simp only [e9, e15, e17]
                clear e9 e15 e17
                go_wp2
                exact ⟨rfl, Ext.refl _, rfl⟩
              · intro vals w1 hx hd ha
                have e9 : vals 9 = .bool true := hd 9 (by decide)
                have e18 : vals 18 = .pointer (some ⟨b', o' + (k - 1) * 6, none⟩) := hd 18 (by decide)
                clear hd ha
                simp only [Lf, dstAt, Act.put, List.getElem?_toArray, List.getElem?_cons_zero, List.getElem?_cons_succ, Option.bind_some, List.setIfInBounds_toArray, List.set_cons_zero, List.set_cons_succ]
                simp only [e9, e18]
                clear e9 e18
                go_wp2
                exact ⟨rfl, Ext.refl _, rfl⟩
              · intro vals w1 hx hd ha
                have e9 : vals 9 = .bool true := hd 9 (by decide)
                have e19 : vals 19 = .pointer (some ⟨b', o' + (k - 1) * 6, none⟩) := hd 19 (by decide)
                clear hd ha
                simp only [Lf, dstAt, Act.put, List.getElem?_toArray, List.getElem?_cons_zero, List.getElem?_cons_succ, Option.bind_some, List.setIfInBounds_toArray, List.set_cons_zero, List.set_cons_succ]
                simp only [e9, e19]
                clear e9 e19
                have d0 := ext_cell hx d0
                go_wp2
                exact ⟨rfl, Ext.refl _, rfl⟩
              · intro vals w1 hx hd ha
                have e9 : vals 9 = .bool true := hd 9 (by decide)
                have e14 : vals 14 = .int .i64 x.id := hd 14 (by decide)
                have e20 : vals 20 = .int .i64 y.id := hd 20 (by decide)
                clear hd ha
                simp only [Lf, dstAt, Act.put, List.getElem?_toArray, List.getElem?_cons_zero, List.getElem?_cons_succ, Option.bind_some, List.setIfInBounds_toArray, List.set_cons_zero, List.set_cons_succ]
                simp only [e9, e14, e20]
                clear e9 e14 e20
                go_wp2
                exact ⟨rfl, Ext.refl _, rfl⟩
              · intro vals w1 hx hd ha
                have e6 : vals 6 = .bool false := hd 6 (by decide)
                have e9 : vals 9 = .bool true := hd 9 (by decide)
                have e21 : vals 21 = .bool (decide (x.id ≤ y.id)) := hd 21 (by decide)
                clear hd ha
                simp only [Lf, dstAt, Act.put, List.getElem?_toArray, List.getElem?_cons_zero, List.getElem?_cons_succ, Option.bind_some, List.setIfInBounds_toArray, List.set_cons_zero, List.set_cons_succ]
                simp only [e6, e9, e21]
                clear e6 e9 e21
                go_wp2
                exact ⟨rfl, Ext.refl _, rfl⟩
              · intro vals w1 hx hd ha
                have e6 : vals 6 = .bool false := hd 6 (by decide)
                have e22 : vals 22 = .bool (decide (x.id ≤ y.id)) := hd 22 (by decide)
                clear hd ha
                simp only [Lf, dstAt, Act.put, List.getElem?_toArray, List.getElem?_cons_zero, List.getElem?_cons_succ, Option.bind_some, List.setIfInBounds_toArray, List.set_cons_zero, List.set_cons_succ]
                simp only [e6, e22]
                clear e6 e22
                go_wp2
                exact ⟨rfl, Ext.refl _, rfl⟩
            intro vals w5 hx hf
            have e23 : vals 23 = .bool (decide (x.id ≤ y.id)) := hf 23 (by omega)
            clear hf
            have hx := hx.undrew
            have hB5 := bl_then hB hx
            refine tail0 (by kernel_rfl) ?_
            simp only [Lf, dstAt, Act.put, List.getElem?_toArray, List.getElem?_cons_zero, List.getElem?_cons_succ, Option.bind_some, List.setIfInBounds_toArray, List.set_cons_zero, List.set_cons_succ]
            rw [e23]
            clear e23
            by_cases hid : x.id ≤ y.id
            · have hid2 : decide (y.id < x.id) = false := by simp; omega
              have HI := Lib.hid hid2
              clear hid2
              go_wp2
              go_ret
              exact ⟨by rw [HS.out, HP.out]; simp [HI.out], hB5⟩
            · have hid2 : decide (y.id < x.id) = true := by simp; omega
              have HI := Lib.hid hid2
              clear hid2
              go_wp2
              go_roundw
              case rel => exact ⟨k + 1, by omega, by go_num, Lib.hid (by rw [HS.out, HP.out]; simp [HI.out]), hB5⟩
              case measure => simp [intOf]; omega
      · go_wp2
        go_ret
        exact ⟨by rw [HK.out, List.drop_of_length_le (by rw [HL.out]; omega)]; rfl, hB⟩
  · have hd : decide (n ≤ 12) = false := by simpa using hm
    rw [hd, Bool.false_and]
    clear hd
    go_enter Try.func17, Try.ntmps17
    go_wp2
    go_ret
    exact ⟨rfl, (by repeat (first | exact Below.refl _ _ | assumption | refine Below.drew ?_ | refine below_drewN ?_ _ | refine bl_alloc ?_ _ | refine Below.setCell ?_ (by first | (simp; done) | omega | (simp; omega)) _ | refine bl_then ?_ (by assumption)))⟩

theorem rsat_valid_x (x : St) (w : World) : Calls Try.prog 21 #[.agg (satCells x).toArray] w fun e w' => e = .returned (.bool (satOK x)) ∧ Below w.heap.size w w' := by
  obtain ⟨id, ow, ⟨p, f, lo, hi, no, tu, sl⟩, wi, st, ch, su, idl, sh, se, wa, co, ho, sw, ra⟩ := x
  exact rsat_valid id ow p f lo hi no tu sl wi st ch su idl sh se wa co ho sw ra w
set_option maxRecDepth 100000 in
set_option maxHeartbeats 2000000 in
theorem rvalidSats_any (l : List St) (A : Option Addr) (n c : Nat) (w : World) (h : RA satCells 21 w w.heap.size A n c l) :
    Calls Try.prog 15 #[.slice A n c] w fun e w' => e = .returned (.bool (satsOK l)) ∧ Below w.heap.size w w' := by
  have HR := Lib.hid h
  have hle := h.le
  have hlen := h.len
  have HL := Lib.hid hlen
  have hs : satsOK l = (decide (n ≤ 24) && listOK satOK (·.id) none l) := by rw [satsOK, hlen]
  rw [hs]
  clear h hs hlen
  by_cases hm : n ≤ 24
  · have hd : decide (n ≤ 24) = true := by simpa using hm
    rw [hd, Bool.true_and]
    clear hd
    have hrl : listOK satOK (·.id) none l = listOK satOK (·.id) (prevAt l 0) (l.drop 0) := by simp [prevAt]
    have HQ := Lib.hid hrl
    clear hrl
    go_enter Try.func15, Try.ntmps15
    go_wp2
    go_loopw [3] (fun i wr => ∃ k : Nat, k ≤ n ∧ i = .int .i64 k ∧ Hid (listOK satOK (·.id) none l = listOK satOK (·.id) (prevAt l k) (l.drop k)) ∧ Below w.heap.size w wr) (fun i _ => n - (intOf i).toNat)
    case atStart => exact ⟨0, Nat.zero_le _, rfl, HQ, Below.refl _ _⟩
    case round =>
      clear HQ
      obtain ⟨k, hk, rfl, HK, hB⟩ := hrel
      by_cases hlt : k < n
      · obtain ⟨b, o, hz, hA, hbl, hc⟩ := RA.range sat_len (HR.out.below hB) hlt
        have hst := listOK_step satOK (fun x => x.id) l k hz
        rw [← HK.out] at hst
        generalize l[k] = x at hst hc
        have hv := rsat_valid_x x
        have HC := Lib.hid hc
        have g0 : wr.cell? ⟨b, o + k * 21, none⟩ = some (.int .i64 x.id) := hc 0 _ rfl
        obtain ⟨X, hX⟩ : ∃ X, (satCells x).toArray = X := ⟨_, rfl⟩
        rw [hX] at hv
        have HV := Lib.hid hv
        have HXX := Lib.hid hX
        generalize satOK x = q at hst HV
        have HS := Lib.hid hst
        clear hst hc HK hX hv
        subst hA
        have hblt : b < w.heap.size := hbl
        go_wp2
        cases q
        · skip
          refine wp_region_obl 24 (fun ix vals v w1 => match ix with | 0 => v = .slice (some ⟨b, o, none⟩) n c | 1 => v = .int .i64 (k : Int) | 2 => v = .pointer (some ⟨b, o + k * 21, none⟩) | 3 => v = .agg X | 4 => v = .bool false | 5 => v = .bool true | 6 => v = .bool true | 7 => v = undef | 8 => v = undef | 9 => v = undef | 10 => v = undef | 11 => v = undef | 12 => v = undef | 13 => v = undef | 14 => v = undef | 15 => v = undef | 16 => v = undef | 17 => v = undef | 18 => v = undef | 19 => v = undef | 20 => v = undef | 21 => v = undef | 22 => v = undef | _ => v = .bool true) (by kernel_rfl) (by kernel_rfl) ?_ ?_ ?_ ?_
          · intro ix vals v w1 w2 hi hr hx
            match ix, hr with
            | 0, hr => exact hr
            | 1, hr => exact hr
            | 2, hr => exact hr
            | 3, hr => exact hr
            | 4, hr => exact hr
            | 5, hr => exact hr
            | 6, hr => exact hr
            | 7, hr => exact hr
            | 8, hr => exact hr
            | 9, hr => exact hr
            | 10, hr => exact hr
            | 11, hr => exact hr
            | 12, hr => exact hr
            | 13, hr => exact hr
            | 14, hr => exact hr
            | 15, hr => exact hr
            | 16, hr => exact hr
            | 17, hr => exact hr
            | 18, hr => exact hr
            | 19, hr => exact hr
            | 20, hr => exact hr
            | 21, hr => exact hr
            | 22, hr => exact hr
            | (kx + 23), hr => exact hr
          · intro ix vals vals_ v w1 hi hv hr
            exact hr
          · refine ⟨?_, ?_, ?_, ?_, ?_, ?_, ?_, ?_, ?_, ?_, ?_, ?_, ?_, ?_, ?_, ?_, ?_, ?_, ?_, ?_, ?_, ?_, ?_, ?_, trivial⟩
            · intro vals w1 hx hd ha
              clear hd ha
              simp only [Lf]
              go_wp2
              exact ⟨rfl, Ext.refl _, rfl⟩
            · intro vals w1 hx hd ha
              clear hd ha
              simp only [Lf, dstAt, Act.put, List.getElem?_toArray, List.getElem?_cons_zero, Option.bind_some, List.setIfInBounds_toArray, List.set_cons_zero, List.set_cons_succ]
              go_wp2
              exact ⟨rfl, Ext.refl _, rfl⟩
            · intro vals w1 hx hd ha
              have e0 : vals 0 = .slice (some ⟨b, o, none⟩) n c := hd 0 (by decide)
              have e1 : vals 1 = .int .i64 (k : Int) := hd 1 (by decide)
              clear hd ha
              simp only [Lf, dstAt, Act.put, List.getElem?_toArray, List.getElem?_cons_zero, List.getElem?_cons_succ, Option.bind_some, List.setIfInBounds_toArray, List.set_cons_zero, List.set_cons_succ]
              simp only [e0, e1]
              clear e0 e1
              go_wp2
              exact ⟨rfl, Ext.refl _, rfl⟩
            · intro vals w1 hx hd ha
              have e2 : vals 2 = .pointer (some ⟨b, o + k * 21, none⟩) := hd 2 (by decide)
              clear hd ha
              simp only [Lf, dstAt, Act.put, List.getElem?_toArray, List.getElem?_cons_zero, List.getElem?_cons_succ, Option.bind_some, List.setIfInBounds_toArray, List.set_cons_zero, List.set_cons_succ]
              simp only [e2]
              clear e2
              refine wpList_load_st rfl _ _ rfl b (o + k * 21) rfl X (satCells x) HXX.out _ (RA.range2 HC.out hx.undrew) Try.underlying27 rfl sat_size ?_
              go_wp2
              exact ⟨rfl, Ext.refl _, rfl⟩
            · intro vals w1 hx hd ha
              have e3 : vals 3 = .agg X := hd 3 (by decide)
              clear hd ha
              simp only [Lf, dstAt, Act.put, List.getElem?_toArray, List.getElem?_cons_zero, List.getElem?_cons_succ, Option.bind_some, List.setIfInBounds_toArray, List.set_cons_zero, List.set_cons_succ]
              simp only [e3]
              clear e3
              go_wp2_with fail
              refine (HV.out _).mono ?_
              rintro e w2 ⟨rfl, hb2⟩
              go_wp2
              exact ⟨rfl, hb2, rfl⟩
            · intro vals w1 hx hd ha
              have e4 : vals 4 = .bool false := hd 4 (by decide)
              clear hd ha
              simp only [Lf, dstAt, Act.put, List.getElem?_toArray, List.getElem?_cons_zero, List.getElem?_cons_succ, Option.bind_some, List.setIfInBounds_toArray, List.set_cons_zero, List.set_cons_succ]
              simp only [e4]
              clear e4
              go_wp2
              exact ⟨rfl, Ext.refl _, rfl⟩
            · intro vals w1 hx hd ha
              have e4 : vals 4 = .bool false := hd 4 (by decide)
              have e5 : vals 5 = .bool true := hd 5 (by decide)
              clear hd ha
              simp only [Lf, dstAt, Act.put, List.getElem?_toArray, List.getElem?_cons_zero, List.getElem?_cons_succ, Option.bind_some, List.setIfInBounds_toArray, List.set_cons_zero, List.set_cons_succ]
              simp only [e4, e5]
              clear e4 e5
              go_wp2
              exact ⟨rfl, Ext.refl _, rfl⟩
            · intro vals w1 hx hd ha
              have e6 : vals 6 = .bool true := hd 6 (by decide)
              clear hd ha
              simp only [Lf, dstAt, Act.put, List.getElem?_toArray, List.getElem?_cons_zero, List.getElem?_cons_succ, Option.bind_some, List.setIfInBounds_toArray, List.set_cons_zero, List.set_cons_succ]
              simp only [e6]
              clear e6
              go_wp2
              exact ⟨rfl, Ext.refl _, rfl⟩
            · intro vals w1 hx hd ha
              have e6 : vals 6 = .bool true := hd 6 (by decide)
              have e7 : vals 7 = undef := hd 7 (by decide)
              clear hd ha
              simp only [Lf, dstAt, Act.put, List.getElem?_toArray, List.getElem?_cons_zero, List.getElem?_cons_succ, Option.bind_some, List.setIfInBounds_toArray, List.set_cons_zero, List.set_cons_succ]
              simp only [e6, e7]
              clear e6 e7
              go_wp2
              exact ⟨rfl, Ext.refl _, rfl⟩
            · intro vals w1 hx hd ha
              have e6 : vals 6 = .bool true := hd 6 (by decide)
              have e8 : vals 8 = undef := hd 8 (by decide)
              clear hd ha
              simp only [Lf, dstAt, Act.put, List.getElem?_toArray, List.getElem?_cons_zero, List.getElem?_cons_succ, Option.bind_some, List.setIfInBounds_toArray, List.set_cons_zero, List.set_cons_succ]
              simp only [e6, e8]
              clear e6 e8
              go_wp2
              exact ⟨rfl, Ext.refl _, rfl⟩
            · intro vals w1 hx hd ha
              have e9 : vals 9 = undef := hd 9 (by decide)
              clear hd ha
              simp only [Lf, dstAt, Act.put, List.getElem?_toArray, List.getElem?_cons_zero, List.getElem?_cons_succ, Option.bind_some, List.setIfInBounds_toArray, List.set_cons_zero, List.set_cons_succ]
              simp only [e9]
              clear e9
              go_wp2
              exact ⟨rfl, Ext.refl _, rfl⟩
            · intro vals w1 hx hd ha
              have e9 : vals 9 = undef := hd 9 (by decide)
              clear hd ha
              simp only [Lf, dstAt, Act.put, List.getElem?_toArray, List.getElem?_cons_zero, List.getElem?_cons_succ, Option.bind_some, List.setIfInBounds_toArray, List.set_cons_zero, List.set_cons_succ]
              simp only [e9]
              clear e9
              go_wp2
              exact ⟨rfl, Ext.refl _, rfl⟩
            · intro vals w1 hx hd ha
              have e9 : vals 9 = undef := hd 9 (by decide)
              have e10 : vals 10 = undef := hd 10 (by decide)
              have e11 : vals 11 = undef := hd 11 (by decide)
              clear hd ha
              simp only [Lf, dstAt, Act.put, List.getElem?_toArray, List.getElem?_cons_zero, List.getElem?_cons_succ, Option.bind_some, List.setIfInBounds_toArray, List.set_cons_zero, List.set_cons_succ]
              simp only [e9, e10, e11]
              clear e9 e10 e11
              go_wp2
              exact ⟨rfl, Ext.refl _, rfl⟩
            · intro vals w1 hx hd ha
              have e9 : vals 9 = undef := hd 9 (by decide)
              have e12 : vals 12 = undef := hd 12 (by decide)
              clear hd ha
              simp only [Lf, dstAt, Act.put, List.getElem?_toArray, List.getElem?_cons_zero, List.getElem?_cons_succ, Option.bind_some, List.setIfInBounds_toArray, List.set_cons_zero, List.set_cons_succ]
              simp only [e9, e12]
              clear e9 e12
              go_wp2
              exact ⟨rfl, Ext.refl _, rfl⟩
            · intro vals w1 hx hd ha
              have e9 : vals 9 = undef := hd 9 (by decide)
              have e13 : vals 13 = undef := hd 13 (by decide)
              clear hd ha
              simp only [Lf, dstAt, Act.put, List.getElem?_toArray, List.getElem?_cons_zero, List.getElem?_cons_succ, Option.bind_some, List.setIfInBounds_toArray, List.set_cons_zero, List.set_cons_succ]
              simp only [e9, e13]
              clear e9 e13
              go_wp2
              exact ⟨rfl, Ext.refl _, rfl⟩
            · intro vals w1 hx hd ha
              have e9 : vals 9 = undef := hd 9 (by decide)
              clear hd ha
              simp only [Lf, dstAt, Act.put, List.getElem?_toArray, List.getElem?_cons_zero, List.getElem?_cons_succ, Option.bind_some, List.setIfInBounds_toArray, List.set_cons_zero, List.set_cons_succ]
              simp only [e9]
              clear e9
              go_wp2
              exact ⟨rfl, Ext.refl _, rfl⟩
            · intro vals w1 hx hd ha
              have e9 : vals 9 = undef := hd 9 (by decide)
              clear hd ha
              simp only [Lf, dstAt, Act.put, List.getElem?_toArray, List.getElem?_cons_zero, List.getElem?_cons_succ, Option.bind_some, List.setIfInBounds_toArray, List.set_cons_zero, List.set_cons_succ]
              simp only [e9]
              clear e9
              go_wp2
              exact ⟨rfl, Ext.refl _, rfl⟩
            · intro vals w1 hx hd ha
              have e9 : vals 9 = undef := hd 9 (by decide)
              have e16 : vals 16 = undef := hd 16 (by decide)
              clear hd ha
              simp only [Lf, dstAt, Act.put, List.getElem?_toArray, List.getElem?_cons_zero, List.getElem?_cons_succ, Option.bind_some, List.setIfInBounds_toArray, List.set_cons_zero, List.set_cons_succ]
              simp only [e9, e16]
              clear e9 e16
              go_wp2
              exact ⟨rfl, Ext.refl _, rfl⟩
            · intro vals w1 hx hd ha
              have e9 : vals 9 = undef := hd 9 (by decide)
              have e15 : vals 15 = undef := hd 15 (by decide)
              have e17 : vals 17 = undef := hd 17 (by decide)
              clear hd ha
              simp only [Lf, dstAt, Act.put, List.getElem?_toArray, List.getElem?_cons_zero, List.getElem?_cons_succ, Option.bind_some, List.setIfInBounds_toArray, List.set_cons_zero, List.set_cons_succ]
              simp only [e9, e15, e17]
              clear e9 e15 e17
              go_wp2
              exact ⟨rfl, Ext.refl _, rfl⟩
            · intro vals w1 hx hd ha
              have e9 : vals 9 = undef := hd 9 (by decide)
              have e18 : vals 18 = undef := hd 18 (by decide)
              clear hd ha
              simp only [Lf, dstAt, Act.put, List.getElem?_toArray, List.getElem?_cons_zero, List.getElem?_cons_succ, Option.bind_some, List.setIfInBounds_toArray, List.set_cons_zero, List.set_cons_succ]
              simp only [e9, e18]
              clear e9 e18
              go_wp2
              exact ⟨rfl, Ext.refl _, rfl⟩
            · intro vals w1 hx hd ha
              have e9 : vals 9 = undef := hd 9 (by decide)
              have e19 : vals 19 = undef := hd 19 (by decide)
              clear hd ha
              simp only [Lf, dstAt, Act.put, List.getElem?_toArray, List.getElem?_cons_zero, List.getElem?_cons_succ, Option.bind_some, List.setIfInBounds_toArray, List.set_cons_zero, List.set_cons_succ]
              simp only [e9, e19]
              clear e9 e19
              go_wp2
              exact ⟨rfl, Ext.refl _, rfl⟩
            · intro vals w1 hx hd ha
              have e9 : vals 9 = undef := hd 9 (by decide)
              have e14 : vals 14 = undef := hd 14 (by decide)
              have e20 : vals 20 = undef := hd 20 (by decide)
              clear hd ha
              simp only [Lf, dstAt, Act.put, List.getElem?_toArray, List.getElem?_cons_zero, List.getElem?_cons_succ, Option.bind_some, List.setIfInBounds_toArray, List.set_cons_zero, List.set_cons_succ]
              simp only [e9, e14, e20]
              clear e9 e14 e20
              go_wp2
              exact ⟨rfl, Ext.refl _, rfl⟩
            · intro vals w1 hx hd ha
              have e6 : vals 6 = .bool true := hd 6 (by decide)
              have e9 : vals 9 = undef := hd 9 (by decide)
              have e21 : vals 21 = undef := hd 21 (by decide)
              clear hd ha
              simp only [Lf, dstAt, Act.put, List.getElem?_toArray, List.getElem?_cons_zero, List.getElem?_cons_succ, Option.bind_some, List.setIfInBounds_toArray, List.set_cons_zero, List.set_cons_succ]
              simp only [e6, e9, e21]
              clear e6 e9 e21
              go_wp2
              exact ⟨rfl, Ext.refl _, rfl⟩
            · intro vals w1 hx hd ha
              have e6 : vals 6 = .bool true := hd 6 (by decide)
              have e22 : vals 22 = undef := hd 22 (by decide)
              clear hd ha
              simp only [Lf, dstAt, Act.put, List.getElem?_toArray, List.getElem?_cons_zero, List.getElem?_cons_succ, Option.bind_some, List.setIfInBounds_toArray, List.set_cons_zero, List.set_cons_succ]
              simp only [e6, e22]
              clear e6 e22
              go_wp2
              exact ⟨rfl, Ext.refl _, rfl⟩
          intro vals w5 hx hf
          have e23 : vals 23 = .bool true := hf 23 (by omega)
          clear hf
          have hx := hx.undrew
          have hB5 := bl_then hB hx
          refine tail0 (by kernel_rfl) ?_
          simp only [Lf, dstAt, Act.put, List.getElem?_toArray, List.getElem?_cons_zero, List.getElem?_cons_succ, Option.bind_some, List.setIfInBounds_toArray, List.set_cons_zero, List.set_cons_succ]
          rw [e23]
          clear e23
          go_wp2
          go_ret
          exact ⟨by rw [HS.out]; rfl, hB5⟩
        · by_cases hk0 : k = 0
          · have hk0' : (k : Int) ≤ 0 := by omega
            have hpv : prevAt l k = none := by simp [prevAt, hk0]
            have HP := Lib.hid hpv
            have hk0h := Lib.hid hk0
            have hkd : decide (0 < k) = false := by simp; omega
            clear hpv hk0
            refine wp_region_obl 24 (fun ix vals v w1 => match ix with | 0 => v = .slice (some ⟨b, o, none⟩) n c | 1 => v = .int .i64 (k : Int) | 2 => v = .pointer (some ⟨b, o + k * 21, none⟩) | 3 => v = .agg X | 4 => v = .bool true | 5 => v = .bool false | 6 => v = .bool false | 7 => v = .int .i64 (k : Int) | 8 => v = .bool false | 9 => v = .bool false | 10 => v = undef | 11 => v = undef | 12 => v = undef | 13 => v = undef | 14 => v = undef | 15 => v = undef | 16 => v = undef | 17 => v = undef | 18 => v = undef | 19 => v = undef | 20 => v = undef | 21 => v = undef | 22 => v = .bool false | _ => v = .bool false) (by kernel_rfl) (by kernel_rfl) ?_ ?_ ?_ ?_
            · intro ix vals v w1 w2 hi hr hx
              match ix, hr with
              | 0, hr => exact hr
              | 1, hr => exact hr
              | 2, hr => exact hr
              | 3, hr => exact hr
              | 4, hr => exact hr
              | 5, hr => exact hr
              | 6, hr => exact hr
              | 7, hr => exact hr
              | 8, hr => exact hr
              | 9, hr => exact hr
              | 10, hr => exact hr
              | 11, hr => exact hr
              | 12, hr => exact hr
              | 13, hr => exact hr
              | 14, hr => exact hr
              | 15, hr => exact hr
              | 16, hr => exact hr
              | 17, hr => exact hr
              | 18, hr => exact hr
              | 19, hr => exact hr
              | 20, hr => exact hr
              | 21, hr => exact hr
              | 22, hr => exact hr
              | (kx + 23), hr => exact hr
            · intro ix vals vals_ v w1 hi hv hr
              exact hr
            · refine ⟨?_, ?_, ?_, ?_, ?_, ?_, ?_, ?_, ?_, ?_, ?_, ?_, ?_, ?_, ?_, ?_, ?_, ?_, ?_, ?_, ?_, ?_, ?_, ?_, trivial⟩
              · intro vals w1 hx hd ha
                clear hd ha
                simp only [Lf]
                go_wp2
                exact ⟨rfl, Ext.refl _, rfl⟩
              · intro vals w1 hx hd ha
                clear hd ha
                simp only [Lf, dstAt, Act.put, List.getElem?_toArray, List.getElem?_cons_zero, Option.bind_some, List.setIfInBounds_toArray, List.set_cons_zero, List.set_cons_succ]
                go_wp2
                exact ⟨rfl, Ext.refl _, rfl⟩
              · intro vals w1 hx hd ha
                have e0 : vals 0 = .slice (some ⟨b, o, none⟩) n c := hd 0 (by decide)
                have e1 : vals 1 = .int .i64 (k : Int) := hd 1 (by decide)
                clear hd ha
                simp only [Lf, dstAt, Act.put, List.getElem?_toArray, List.getElem?_cons_zero, List.getElem?_cons_succ, Option.bind_some, List.setIfInBounds_toArray, List.set_cons_zero, List.set_cons_succ]
                simp only [e0, e1]
                clear e0 e1
                go_wp2
                exact ⟨rfl, Ext.refl _, rfl⟩
              · intro vals w1 hx hd ha
                have e2 : vals 2 = .pointer (some ⟨b, o + k * 21, none⟩) := hd 2 (by decide)
                clear hd ha
                simp only [Lf, dstAt, Act.put, List.getElem?_toArray, List.getElem?_cons_zero, List.getElem?_cons_succ, Option.bind_some, List.setIfInBounds_toArray, List.set_cons_zero, List.set_cons_succ]
                simp only [e2]
                clear e2
                refine wpList_load_st rfl _ _ rfl b (o + k * 21) rfl X (satCells x) HXX.out _ (RA.range2 HC.out hx.undrew) Try.underlying27 rfl sat_size ?_
                go_wp2
                exact ⟨rfl, Ext.refl _, rfl⟩
              · intro vals w1 hx hd ha
                have e3 : vals 3 = .agg X := hd 3 (by decide)
                clear hd ha
                simp only [Lf, dstAt, Act.put, List.getElem?_toArray, List.getElem?_cons_zero, List.getElem?_cons_succ, Option.bind_some, List.setIfInBounds_toArray, List.set_cons_zero, List.set_cons_succ]
                simp only [e3]
                clear e3
                go_wp2_with fail
                refine (HV.out _).mono ?_
                rintro e w2 ⟨rfl, hb2⟩
                go_wp2
                exact ⟨rfl, hb2, rfl⟩
              · intro vals w1 hx hd ha
                have e4 : vals 4 = .bool true := hd 4 (by decide)
                clear hd ha
                simp only [Lf, dstAt, Act.put, List.getElem?_toArray, List.getElem?_cons_zero, List.getElem?_cons_succ, Option.bind_some, List.setIfInBounds_toArray, List.set_cons_zero, List.set_cons_succ]
                simp only [e4]
                clear e4
                go_wp2
                exact ⟨rfl, Ext.refl _, rfl⟩
              · intro vals w1 hx hd ha
                have e4 : vals 4 = .bool true := hd 4 (by decide)
                have e5 : vals 5 = .bool false := hd 5 (by decide)
                clear hd ha
                simp only [Lf, dstAt, Act.put, List.getElem?_toArray, List.getElem?_cons_zero, List.getElem?_cons_succ, Option.bind_some, List.setIfInBounds_toArray, List.set_cons_zero, List.set_cons_succ]
                simp only [e4, e5]
                clear e4 e5
                go_wp2
                exact ⟨rfl, Ext.refl _, rfl⟩
              · intro vals w1 hx hd ha
                have e6 : vals 6 = .bool false := hd 6 (by decide)
                clear hd ha
                simp only [Lf, dstAt, Act.put, List.getElem?_toArray, List.getElem?_cons_zero, List.getElem?_cons_succ, Option.bind_some, List.setIfInBounds_toArray, List.set_cons_zero, List.set_cons_succ]
                simp only [e6]
                clear e6
                go_wp2
                exact ⟨rfl, Ext.refl _, rfl⟩
              · intro vals w1 hx hd ha
                have e6 : vals 6 = .bool false := hd 6 (by decide)
                have e7 : vals 7 = .int .i64 (k : Int) := hd 7 (by decide)
                clear hd ha
                simp only [Lf, dstAt, Act.put, List.getElem?_toArray, List.getElem?_cons_zero, List.getElem?_cons_succ, Option.bind_some, List.setIfInBounds_toArray, List.set_cons_zero, List.set_cons_succ]
                simp only [e6, e7]
                clear e6 e7
                go_wp2
                exact ⟨rfl, Ext.refl _, rfl⟩
              · intro vals w1 hx hd ha
                have e6 : vals 6 = .bool false := hd 6 (by decide)
                have e8 : vals 8 = .bool false := hd 8 (by decide)
                clear hd ha
                simp only [Lf, dstAt, Act.put, List.getElem?_toArray, List.getElem?_cons_zero, List.getElem?_cons_succ, Option.bind_some, List.setIfInBounds_toArray, List.set_cons_zero, List.set_cons_succ]
                simp only [e6, e8]
                clear e6 e8
                go_wp2
                exact ⟨rfl, Ext.refl _, rfl⟩
              · intro vals w1 hx hd ha
                have e9 : vals 9 = .bool false := hd 9 (by decide)
                clear hd ha
                simp only [Lf, dstAt, Act.put, List.getElem?_toArray, List.getElem?_cons_zero, List.getElem?_cons_succ, Option.bind_some, List.setIfInBounds_toArray, List.set_cons_zero, List.set_cons_succ]
                simp only [e9]
                clear e9
                go_wp2
                exact ⟨rfl, Ext.refl _, rfl⟩
              · intro vals w1 hx hd ha
                have e9 : vals 9 = .bool false := hd 9 (by decide)
                clear hd ha
                simp only [Lf, dstAt, Act.put, List.getElem?_toArray, List.getElem?_cons_zero, List.getElem?_cons_succ, Option.bind_some, List.setIfInBounds_toArray, List.set_cons_zero, List.set_cons_succ]
                simp only [e9]
                clear e9
                go_wp2
                exact ⟨rfl, Ext.refl _, rfl⟩
              · intro vals w1 hx hd ha
                have e9 : vals 9 = .bool false := hd 9 (by decide)
                have e10 : vals 10 = undef := hd 10 (by decide)
                have e11 : vals 11 = undef := hd 11 (by decide)
                clear hd ha
                simp only [Lf, dstAt, Act.put, List.getElem?_toArray, List.getElem?_cons_zero, List.getElem?_cons_succ, Option.bind_some, List.setIfInBounds_toArray, List.set_cons_zero, List.set_cons_succ]
                simp only [e9, e10, e11]
                clear e9 e10 e11
                go_wp2
                exact ⟨rfl, Ext.refl _, rfl⟩
              · intro vals w1 hx hd ha
                have e9 : vals 9 = .bool false := hd 9 (by decide)
                have e12 : vals 12 = undef := hd 12 (by decide)
                clear hd ha
                simp only [Lf, dstAt, Act.put, List.getElem?_toArray, List.getElem?_cons_zero, List.getElem?_cons_succ, Option.bind_some, List.setIfInBounds_toArray, List.set_cons_zero, List.set_cons_succ]
                simp only [e9, e12]
                clear e9 e12
                go_wp2
                exact ⟨rfl, Ext.refl _, rfl⟩
              · intro vals w1 hx hd ha
                have e9 : vals 9 = .bool false := hd 9 (by decide)
                have e13 : vals 13 = undef := hd 13 (by decide)
                clear hd ha
                simp only [Lf, dstAt, Act.put, List.getElem?_toArray, List.getElem?_cons_zero, List.getElem?_cons_succ, Option.bind_some, List.setIfInBounds_toArray, List.set_cons_zero, List.set_cons_succ]
                simp only [e9, e13]
                clear e9 e13
                have g0 := ext_cell hx g0
                go_wp2
                exact ⟨rfl, Ext.refl _, rfl⟩
              · intro vals w1 hx hd ha
                have e9 : vals 9 = .bool false := hd 9 (by decide)
                clear hd ha
                simp only [Lf, dstAt, Act.put, List.getElem?_toArray, List.getElem?_cons_zero, List.getElem?_cons_succ, Option.bind_some, List.setIfInBounds_toArray, List.set_cons_zero, List.set_cons_succ]
                simp only [e9]
                clear e9
                go_wp2
                exact ⟨rfl, Ext.refl _, rfl⟩
              · intro vals w1 hx hd ha
                have e9 : vals 9 = .bool false := hd 9 (by decide)
                clear hd ha
                simp only [Lf, dstAt, Act.put, List.getElem?_toArray, List.getElem?_cons_zero, List.getElem?_cons_succ, Option.bind_some, List.setIfInBounds_toArray, List.set_cons_zero, List.set_cons_succ]
                simp only [e9]
                clear e9
                go_wp2
                exact ⟨rfl, Ext.refl _, rfl⟩
              · intro vals w1 hx hd ha
                have e9 : vals 9 = .bool false := hd 9 (by decide)
                have e16 : vals 16 = undef := hd 16 (by decide)
                clear hd ha
                simp only [Lf, dstAt, Act.put, List.getElem?_toArray, List.getElem?_cons_zero, List.getElem?_cons_succ, Option.bind_some, List.setIfInBounds_toArray, List.set_cons_zero, List.set_cons_succ]
                simp only [e9, e16]
                clear e9 e16
                go_wp2
                exact ⟨rfl, Ext.refl _, rfl⟩
              · intro vals w1 hx hd ha
                have e9 : vals 9 = .bool false := hd 9 (by decide)
                have e15 : vals 15 = undef := hd 15 (by decide)
                have e17 : vals 17 = undef := hd 17 (by decide)
                clear hd ha
                simp only [Lf, dstAt, Act.put, List.getElem?_toArray, List.getElem?_cons_zero, List.getElem?_cons_succ, Option.bind_some, List.setIfInBounds_toArray, List.set_cons_zero, List.set_cons_succ]
                simp only [e9, e15, e17]
                clear e9 e15 e17
                go_wp2
                exact ⟨rfl, Ext.refl _, rfl⟩
              · intro vals w1 hx hd ha
                have e9 : vals 9 = .bool false := hd 9 (by decide)
                have e18 : vals 18 = undef := hd 18 (by decide)
                clear hd ha
                simp only [Lf, dstAt, Act.put, List.getElem?_toArray, List.getElem?_cons_zero, List.getElem?_cons_succ, Option.bind_some, List.setIfInBounds_toArray, List.set_cons_zero, List.set_cons_succ]
                simp only [e9, e18]
                clear e9 e18
                go_wp2
                exact ⟨rfl, Ext.refl _, rfl⟩
              · intro vals w1 hx hd ha
                have e9 : vals 9 = .bool false := hd 9 (by decide)
                have e19 : vals 19 = undef := hd 19 (by decide)
                clear hd ha
                simp only [Lf, dstAt, Act.put, List.getElem?_toArray, List.getElem?_cons_zero, List.getElem?_cons_succ, Option.bind_some, List.setIfInBounds_toArray, List.set_cons_zero, List.set_cons_succ]
                simp only [e9, e19]
                clear e9 e19
                go_wp2
                exact ⟨rfl, Ext.refl _, rfl⟩
              · intro vals w1 hx hd ha
                have e9 : vals 9 = .bool false := hd 9 (by decide)
                have e14 : vals 14 = undef := hd 14 (by decide)
                have e20 : vals 20 = undef := hd 20 (by decide)
                clear hd ha
                simp only [Lf, dstAt, Act.put, List.getElem?_toArray, List.getElem?_cons_zero, List.getElem?_cons_succ, Option.bind_some, List.setIfInBounds_toArray, List.set_cons_zero, List.set_cons_succ]
                simp only [e9, e14, e20]
                clear e9 e14 e20
                go_wp2
                exact ⟨rfl, Ext.refl _, rfl⟩
              · intro vals w1 hx hd ha
                have e6 : vals 6 = .bool false := hd 6 (by decide)
                have e9 : vals 9 = .bool false := hd 9 (by decide)
                have e21 : vals 21 = undef := hd 21 (by decide)
                clear hd ha
                simp only [Lf, dstAt, Act.put, List.getElem?_toArray, List.getElem?_cons_zero, List.getElem?_cons_succ, Option.bind_some, List.setIfInBounds_toArray, List.set_cons_zero, List.set_cons_succ]
                simp only [e6, e9, e21]
                clear e6 e9 e21
                go_wp2
                exact ⟨rfl, Ext.refl _, rfl⟩
              · intro vals w1 hx hd ha
                have e6 : vals 6 = .bool false := hd 6 (by decide)
                have e22 : vals 22 = .bool false := hd 22 (by decide)
                clear hd ha
                simp only [Lf, dstAt, Act.put, List.getElem?_toArray, List.getElem?_cons_zero, List.getElem?_cons_succ, Option.bind_some, List.setIfInBounds_toArray, List.set_cons_zero, List.set_cons_succ]
                simp only [e6, e22]
                clear e6 e22
                go_wp2
                exact ⟨rfl, Ext.refl _, rfl⟩
            intro vals w5 hx hf
            have e23 : vals 23 = .bool false := hf 23 (by omega)
            clear hf
            have hx := hx.undrew
            have hB5 := bl_then hB hx
            refine tail0 (by kernel_rfl) ?_
            simp only [Lf, dstAt, Act.put, List.getElem?_toArray, List.getElem?_cons_zero, List.getElem?_cons_succ, Option.bind_some, List.setIfInBounds_toArray, List.set_cons_zero, List.set_cons_succ]
            rw [e23]
            clear e23
            go_wp2
            go_roundw
            case rel => exact ⟨k + 1, by omega, by go_num, Lib.hid (by rw [HS.out, HP.out]; rfl), hB5⟩
            case measure => simp [intOf]; omega
          · have hk1 : (0 : Int) < (k : Int) := by omega
            obtain ⟨b', o', hz', hA', hbl', hc'⟩ := RA.at_ sat_len (HR.out.below hB) (k := k - 1) (by omega)
            obtain ⟨rfl, rfl⟩ : b' = b ∧ o' = o := by injection hA' with hA'; injection hA' with h1 h2; exact ⟨h1.symm, h2.symm⟩
            have hpv : prevAt l k = some l[k - 1] := by unfold prevAt; rw [if_neg hk0, List.getElem?_eq_getElem hz']
            generalize l[k - 1] = y at hpv hc'
            have d0 : wr.cell? ⟨b', o' + (k - 1) * 21, none⟩ = some (.int .i64 y.id) := hc' 0 (by omega)
            have HP := Lib.hid hpv
            have hk0h := Lib.hid hk0
            clear hpv hc' hA' hbl' hk0
            have hki : IntKind.i64.wrap ((k : Int) - 1) = (k : Int) - 1 := IntWalk.i64_in _ (by omega)
            have hkn : ((k : Int) - 1).toNat = k - 1 := by omega
            have hkd : decide (0 < k) = true := by simp; omega
            refine wp_region_obl 24 (fun ix vals v w1 => match ix with | 0 => v = .slice (some ⟨b', o', none⟩) n c | 1 => v = .int .i64 (k : Int) | 2 => v = .pointer (some ⟨b', o' + k * 21, none⟩) | 3 => v = .agg X | 4 => v = .bool true | 5 => v = .bool false | 6 => v = .bool false | 7 => v = .int .i64 (k : Int) | 8 => v = .bool true | 9 => v = .bool true | 10 => v = .slice (some ⟨b', o', none⟩) n c | 11 => v = .int .i64 (k : Int) | 12 => v = .pointer (some ⟨b', o' + k * 21, none⟩) | 13 => v = .pointer (some ⟨b', o' + k * 21, none⟩) | 14 => v = .int .i64 x.id | 15 => v = .slice (some ⟨b', o', none⟩) n c | 16 => v = .int .i64 (k : Int) | 17 => v = .int .i64 ((k : Int) - 1) | 18 => v = .pointer (some ⟨b', o' + (k - 1) * 21, none⟩) | 19 => v = .pointer (some ⟨b', o' + (k - 1) * 21, none⟩) | 20 => v = .int .i64 y.id | 21 => v = .bool (decide (x.id ≤ y.id)) | 22 => v = .bool (decide (x.id ≤ y.id)) | _ => v = .bool (decide (x.id ≤ y.id))) (by kernel_rfl) (by kernel_rfl) ?_ ?_ ?_ ?_
            · intro ix vals v w1 w2 hi hr hx
              match ix, hr with
              | 0, hr => exact hr
              | 1, hr => exact hr
              | 2, hr => exact hr
              | 3, hr => exact hr
              | 4, hr => exact hr
              | 5, hr => exact hr
              | 6, hr => exact hr
              | 7, hr => exact hr
              | 8, hr => exact hr
              | 9, hr => exact hr
              | 10, hr => exact hr
              | 11, hr => exact hr
              | 12, hr => exact hr
              | 13, hr => exact hr
              | 14, hr => exact hr
              | 15, hr => exact hr
              | 16, hr => exact hr
              | 17, hr => exact hr
              | 18, hr => exact hr
              | 19, hr => exact hr
              | 20, hr => exact hr
              | 21, hr => exact hr
              | 22, hr => exact hr
              | (kx + 23), hr => exact hr
            · intro ix vals vals_ v w1 hi hv hr
              exact hr
            · refine ⟨?_, ?_, ?_, ?_, ?_, ?_, ?_, ?_, ?_, ?_, ?_, ?_, ?_, ?_, ?_, ?_, ?_, ?_, ?_, ?_, ?_, ?_, ?_, ?_, trivial⟩
              · intro vals w1 hx hd ha
                clear hd ha
                simp only [Lf]
                go_wp2
                exact ⟨rfl, Ext.refl _, rfl⟩
              · intro vals w1 hx hd ha
                clear hd ha
                simp only [Lf, dstAt, Act.put, List.getElem?_toArray, List.getElem?_cons_zero, Option.bind_some, List.setIfInBounds_toArray, List.set_cons_zero, List.set_cons_succ]
                go_wp2
                exact ⟨rfl, Ext.refl _, rfl⟩
              · intro vals w1 hx hd ha
                have e0 : vals 0 = .slice (some ⟨b', o', none⟩) n c := hd 0 (by decide)
                have e1 : vals 1 = .int .i64 (k : Int) := hd 1 (by decide)
                clear hd ha
                simp only [Lf, dstAt, Act.put, List.getElem?_toArray, List.getElem?_cons_zero, List.getElem?_cons_succ, Option.bind_some, List.setIfInBounds_toArray, List.set_cons_zero, List.set_cons_succ]
                simp only [e0, e1]
                clear e0 e1
                go_wp2
                exact ⟨rfl, Ext.refl _, rfl⟩
              · intro vals w1 hx hd ha
                have e2 : vals 2 = .pointer (some ⟨b', o' + k * 21, none⟩) := hd 2 (by decide)
                clear hd ha
                simp only [Lf, dstAt, Act.put, List.getElem?_toArray, List.getElem?_cons_zero, List.getElem?_cons_succ, Option.bind_some, List.setIfInBounds_toArray, List.set_cons_zero, List.set_cons_succ]
                simp only [e2]
                clear e2
                refine wpList_load_st rfl _ _ rfl b' (o' + k * 21) rfl X (satCells x) HXX.out _ (RA.range2 HC.out hx.undrew) Try.underlying27 rfl sat_size ?_
                go_wp2
                exact ⟨rfl, Ext.refl _, rfl⟩
              · intro vals w1 hx hd ha
                have e3 : vals 3 = .agg X := hd 3 (by decide)
                clear hd ha
                simp only [Lf, dstAt, Act.put, List.getElem?_toArray, List.getElem?_cons_zero, List.getElem?_cons_succ, Option.bind_some, List.setIfInBounds_toArray, List.set_cons_zero, List.set_cons_succ]
                simp only [e3]
                clear e3
                go_wp2_with fail
                refine (HV.out _).mono ?_
                rintro e w2 ⟨rfl, hb2⟩
                go_wp2
                exact ⟨rfl, hb2, rfl⟩
              · intro vals w1 hx hd ha
                have e4 : vals 4 = .bool true := hd 4 (by decide)
                clear hd ha
                simp only [Lf, dstAt, Act.put, List.getElem?_toArray, List.getElem?_cons_zero, List.getElem?_cons_succ, Option.bind_some, List.setIfInBounds_toArray, List.set_cons_zero, List.set_cons_succ]
                simp only [e4]
                clear e4
                go_wp2
                exact ⟨rfl, Ext.refl _, rfl⟩
              · intro vals w1 hx hd ha
                have e4 : vals 4 = .bool true := hd 4 (by decide)
                have e5 : vals 5 = .bool false := hd 5 (by decide)
                clear hd ha
                simp only [Lf, dstAt, Act.put, List.getElem?_toArray, List.getElem?_cons_zero, List.getElem?_cons_succ, Option.bind_some, List.setIfInBounds_toArray, List.set_cons_zero, List.set_cons_succ]
                simp only [e4, e5]
                clear e4 e5
                go_wp2
                exact ⟨rfl, Ext.refl _, rfl⟩
              · intro vals w1 hx hd ha
                have e6 : vals 6 = .bool false := hd 6 (by decide)
                clear hd ha
                simp only [Lf, dstAt, Act.put, List.getElem?_toArray, List.getElem?_cons_zero, List.getElem?_cons_succ, Option.bind_some, List.setIfInBounds_toArray, List.set_cons_zero, List.set_cons_succ]
                simp only [e6]
                clear e6
                go_wp2
                exact ⟨rfl, Ext.refl _, rfl⟩
              · intro vals w1 hx hd ha
                have e6 : vals 6 = .bool false := hd 6 (by decide)
                have e7 : vals 7 = .int .i64 (k : Int) := hd 7 (by decide)
                clear hd ha
                simp only [Lf, dstAt, Act.put, List.getElem?_toArray, List.getElem?_cons_zero, List.getElem?_cons_succ, Option.bind_some, List.setIfInBounds_toArray, List.set_cons_zero, List.set_cons_succ]
                simp only [e6, e7]
                clear e6 e7
                go_wp2
                exact ⟨rfl, Ext.refl _, rfl⟩
              · intro vals w1 hx hd ha
                have e6 : vals 6 = .bool false := hd 6 (by decide)
                have e8 : vals 8 = .bool true := hd 8 (by decide)
                clear hd ha
                simp only [Lf, dstAt, Act.put, List.getElem?_toArray, List.getElem?_cons_zero, List.getElem?_cons_succ, Option.bind_some, List.setIfInBounds_toArray, List.set_cons_zero, List.set_cons_succ]
                simp only [e6, e8]
                clear e6 e8
                go_wp2
                exact ⟨rfl, Ext.refl _, rfl⟩
              · intro vals w1 hx hd ha
                have e9 : vals 9 = .bool true := hd 9 (by decide)
                clear hd ha
                simp only [Lf, dstAt, Act.put, List.getElem?_toArray, List.getElem?_cons_zero, List.getElem?_cons_succ, Option.bind_some, List.setIfInBounds_toArray, List.set_cons_zero, List.set_cons_succ]
                simp only [e9]
                clear e9
                go_wp2
                exact ⟨rfl, Ext.refl _, rfl⟩
              · intro vals w1 hx hd ha
                have e9 : vals 9 = .bool true := hd 9 (by decide)
                clear hd ha
                simp only [Lf, dstAt, Act.put, List.getElem?_toArray, List.getElem?_cons_zero, List.getElem?_cons_succ, Option.bind_some, List.setIfInBounds_toArray, List.set_cons_zero, List.set_cons_succ]
                simp only [e9]
                clear e9
                go_wp2
                exact ⟨rfl, Ext.refl _, rfl⟩
              · intro vals w1 hx hd ha
                have e9 : vals 9 = .bool true := hd 9 (by decide)
                have e10 : vals 10 = .slice (some ⟨b', o', none⟩) n c := hd 10 (by decide)
                have e11 : vals 11 = .int .i64 (k : Int) := hd 11 (by decide)
                clear hd ha
                simp only [Lf, dstAt, Act.put, List.getElem?_toArray, List.getElem?_cons_zero, List.getElem?_cons_succ, Option.bind_some, List.setIfInBounds_toArray, List.set_cons_zero, List.set_cons_succ]
                simp only [e9, e10, e11]
                clear e9 e10 e11
                go_wp2
                exact ⟨rfl, Ext.refl _, rfl⟩
              · intro vals w1 hx hd ha
                have e9 : vals 9 = .bool true := hd 9 (by decide)
                have e12 : vals 12 = .pointer (some ⟨b', o' + k * 21, none⟩) := hd 12 (by decide)
                clear hd ha
                simp only [Lf, dstAt, Act.put, List.getElem?_toArray, List.getElem?_cons_zero, List.getElem?_cons_succ, Option.bind_some, List.setIfInBounds_toArray, List.set_cons_zero, List.set_cons_succ]
                simp only [e9, e12]
                clear e9 e12
                go_wp2
                exact ⟨rfl, Ext.refl _, rfl⟩
              · intro vals w1 hx hd ha
                have e9 : vals 9 = .bool true := hd 9 (by decide)
                have e13 : vals 13 = .pointer (some ⟨b', o' + k * 21, none⟩) := hd 13 (by decide)
                clear hd ha
                simp only [Lf, dstAt, Act.put, List.getElem?_toArray, List.getElem?_cons_zero, List.getElem?_cons_succ, Option.bind_some, List.setIfInBounds_toArray, List.set_cons_zero, List.set_cons_succ]
                simp only [e9, e13]
                clear e9 e13
                have g0 := ext_cell hx g0
                go_wp2
                exact ⟨rfl, Ext.refl _, rfl⟩
              · intro vals w1 hx hd ha
                have e9 : vals 9 = .bool true := hd 9 (by decide)
                clear hd ha
                simp only [Lf, dstAt, Act.put, List.getElem?_toArray, List.getElem?_cons_zero, List.getElem?_cons_succ, Option.bind_some, List.setIfInBounds_toArray, List.set_cons_zero, List.set_cons_succ]
                simp only [e9]
                clear e9
                go_wp2
                exact ⟨rfl, Ext.refl _, rfl⟩
              · intro vals w1 hx hd ha
                have e9 : vals 9 = .bool true := hd 9 (by decide)
                clear hd ha
                simp only [Lf, dstAt, Act.put, List.getElem?_toArray, List.getElem?_cons_zero, List.getElem?_cons_succ, Option.bind_some, List.setIfInBounds_toArray, List.set_cons_zero, List.set_cons_succ]
                simp only [e9]
                clear e9
                go_wp2
                exact ⟨rfl, Ext.refl _, rfl⟩
              · intro vals w1 hx hd ha
                have e9 : vals 9 = .bool true := hd 9 (by decide)
                have e16 : vals 16 = .int .i64 (k : Int) := hd 16 (by decide)
                clear hd ha
                simp only [Lf, dstAt, Act.put, List.getElem?_toArray, List.getElem?_cons_zero, List.getElem?_cons_succ, Option.bind_some, List.setIfInBounds_toArray, List.set_cons_zero, List.set_cons_succ]
                simp only [e9, e16]
                clear e9 e16
                go_wp2
                exact ⟨rfl, Ext.refl _, rfl⟩
              · intro vals w1 hx hd ha
                have e9 : vals 9 = .bool true := hd 9 (by decide)
                have e15 : vals 15 = .slice (some ⟨b', o', none⟩) n c := hd 15 (by decide)
                have e17 : vals 17 = .int .i64 ((k : Int) - 1) := hd 17 (by decide)
                clear hd ha
                simp only [Lf, dstAt, Act.put, List.getElem?_toArray, List.getElem?_cons_zero, List.getElem?_cons_succ, Option.bind_some, List.setIfInBounds_toArray, List.set_cons_zero, List.set_cons_succ]
                simp only [e9, e15, e17]
                clear e9 e15 e17
                go_wp2
                exact ⟨rfl, Ext.refl _, rfl⟩
              · intro vals w1 hx hd ha
                have e9 : vals 9 = .bool true := hd 9 (by decide)
                have e18 : vals 18 = .pointer (some ⟨b', o' + (k - 1) * 21, none⟩) := hd 18 (by decide)
                clear hd ha
                simp only [Lf, dstAt, Act.put, List.getElem?_toArray, List.getElem?_cons_zero, List.getElem?_cons_succ, Option.bind_some, List.setIfInBounds_toArray, List.set_cons_zero, List.set_cons_succ]
                simp only [e9, e18]
                clear e9 e18
                go_wp2
                exact ⟨rfl, Ext.refl _, rfl⟩
              · intro vals w1 hx hd ha
                have e9 : vals 9 = .bool true := hd 9 (by decide)
                have e19 : vals 19 = .pointer (some ⟨b', o' + (k - 1) * 21, none⟩) := hd 19 (by decide)
                clear hd ha
                simp only [Lf, dstAt, Act.put, List.getElem?_toArray, List.getElem?_cons_zero, List.getElem?_cons_succ, Option.bind_some, List.setIfInBounds_toArray, List.set_cons_zero, List.set_cons_succ]
                simp only [e9, e19]
                clear e9 e19
                have d0 := ext_cell hx d0
                go_wp2
                exact ⟨rfl, Ext.refl _, rfl⟩
              · intro vals w1 hx hd ha
                have e9 : vals 9 = .bool true := hd 9 (by decide)
                have e14 : vals 14 = .int .i64 x.id := hd 14 (by decide)
                have e20 : vals 20 = .int .i64 y.id := hd 20 (by decide)
                clear hd ha
                simp only [Lf, dstAt, Act.put, List.getElem?_toArray, List.getElem?_cons_zero, List.getElem?_cons_succ, Option.bind_some, List.setIfInBounds_toArray, List.set_cons_zero, List.set_cons_succ]
                simp only [e9, e14, e20]
                clear e9 e14 e20
                go_wp2
                exact ⟨rfl, Ext.refl _, rfl⟩
              · intro vals w1 hx hd ha
                have e6 : vals 6 = .bool false := hd 6 (by decide)
                have e9 : vals 9 = .bool true := hd 9 (by decide)
                have e21 : vals 21 = .bool (decide (x.id ≤ y.id)) := hd 21 (by decide)
                clear hd ha
                simp only [Lf, dstAt, Act.put, List.getElem?_toArray, List.getElem?_cons_zero, List.getElem?_cons_succ, Option.bind_some, List.setIfInBounds_toArray, List.set_cons_zero, List.set_cons_succ]
                simp only [e6, e9, e21]
                clear e6 e9 e21
                go_wp2
                exact ⟨rfl, Ext.refl _, rfl⟩
              · intro vals w1 hx hd ha
                have e6 : vals 6 = .bool false := hd 6 (by decide)
                have e22 : vals 22 = .bool (decide (x.id ≤ y.id)) := hd 22 (by decide)
                clear hd ha
                simp only [Lf, dstAt, Act.put, List.getElem?_toArray, List.getElem?_cons_zero, List.getElem?_cons_succ, Option.bind_some, List.setIfInBounds_toArray, List.set_cons_zero, List.set_cons_succ]
                simp only [e6, e22]
                clear e6 e22
                go_wp2
                exact ⟨rfl, Ext.refl _, rfl⟩
            intro vals w5 hx hf
            have e23 : vals 23 = .bool (decide (x.id ≤ y.id)) := hf 23 (by omega)
            clear hf
            have hx := hx.undrew
            have hB5 := bl_then hB hx
            refine tail0 (by kernel_rfl) ?_
            simp only [Lf, dstAt, Act.put, List.getElem?_toArray, List.getElem?_cons_zero, List.getElem?_cons_succ, Option.bind_some, List.setIfInBounds_toArray, List.set_cons_zero, List.set_cons_succ]
            rw [e23]
            clear e23
            by_cases hid : x.id ≤ y.id
            · have hid2 : decide (y.id < x.id) = false := by simp; omega
              have HI := Lib.hid hid2
              clear hid2
              go_wp2
              go_ret
              exact ⟨by rw [HS.out, HP.out]; simp [HI.out], hB5⟩
            · have hid2 : decide (y.id < x.id) = true := by simp; omega
              have HI := Lib.hid hid2
              clear hid2
              go_wp2
              go_roundw
              case rel => exact ⟨k + 1, by omega, by go_num, Lib.hid (by rw [HS.out, HP.out]; simp [HI.out]), hB5⟩
              case measure => simp [intOf]; omega
      · go_wp2
        go_ret
        exact ⟨by rw [HK.out, List.drop_of_length_le (by rw [HL.out]; omega)]; rfl, hB⟩
  · have hd : decide (n ≤ 24) = false := by simpa using hm
    rw [hd, Bool.false_and]
    clear hd
    go_enter Try.func15, Try.ntmps15
    go_wp2
    go_ret
    exact ⟨rfl, (by repeat (first | exact Below.refl _ _ | assumption | refine Below.drew ?_ | refine below_drewN ?_ _ | refine bl_alloc ?_ _ | refine Below.setCell ?_ (by first | (simp; done) | omega | (simp; omega)) _ | refine bl_then ?_ (by assumption)))⟩

end Go.Proofs.Ytlmpmhfbjblhnaa
