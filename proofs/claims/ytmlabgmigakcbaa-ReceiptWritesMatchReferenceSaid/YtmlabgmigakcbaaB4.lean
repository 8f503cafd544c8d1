/- Passes that are proper (from contact's texts). -/
import Derived.Test.YtmlabgmigakcbaaB3
import Derived.BigGuardPart
namespace Go.Proofs.Ytmlabgmigakcbaa
open Go.RowKit

theorem BndR.of_blk2 {w : World} {b : Nat} {t : TypeId} {b0 b1 : Bnd} (h : Blk w b t (bndCells b0 ++ bndCells b1).toArray) : BndR w b [b0, b1] := fun k hk => by
  have hk : k < 2 := hk
  match k, hk with
  | 0, _ => exact ⟨h.cell 0, h.cell 1, h.cell 2⟩
  | 1, _ => exact ⟨h.cell 3, h.cell 4, h.cell 5⟩

set_option maxHeartbeats 4000000 in
theorem isPass_any (sa sn a b c d : Int) (w : World) :
    Calls Try.prog 72 #[.agg #[.int .i64 sa, .int .i64 sn, .int .i64 a, .int .i64 b, .int .i64 c, .int .i64 d]] w fun e w' => e = .returned (.bool (pasOK ⟨sa, sn, ⟨a, b⟩, ⟨c, d⟩⟩)) ∧ Below w.heap.size w w' := by
  have hs : pasOK ⟨sa, sn, ⟨a, b⟩, ⟨c, d⟩⟩ = (([⟨sa, 0, 23⟩, ⟨sn, 0, 11⟩] : List Bnd).all (fun b => inB b.n b.lo b.hi) && decide (0 ≤ c ∧ c < d ∧ d ≤ 1000001) && (decide (a = 0 ∧ b = 0) || decide (c ≤ a ∧ a < b ∧ b ≤ d))) := by
    simp only [pasOK, List.all_cons, List.all_nil, Bool.and_true, splIn, Spl.mk.injEq]
  rw [hs]
  clear hs
  generalize ha : ([⟨sa, 0, 23⟩, ⟨sn, 0, 11⟩] : List Bnd).all (fun b => inB b.n b.lo b.hi) = q
  have HA := Lib.hid ha
  clear ha
  go_enter Try.func72, Try.ntmps72
  go_wp2_with fail
  have K : Blk ((w.alloc (.cells #[.int .i64 sa, .int .i64 sn, .int .i64 a, .int .i64 b, .int .i64 c, .int .i64 d] 98)).alloc (.cells #[.int .i64 sa, .int .i64 0, .int .i64 23, .int .i64 sn, .int .i64 0, .int .i64 11] 149)) w.heap.size 98 #[.int .i64 sa, .int .i64 sn, .int .i64 a, .int .i64 b, .int .i64 c, .int .i64 d] := (Blk.new _ _ _).alloc _
  have K2 : Blk ((w.alloc (.cells #[.int .i64 sa, .int .i64 sn, .int .i64 a, .int .i64 b, .int .i64 c, .int .i64 d] 98)).alloc (.cells #[.int .i64 sa, .int .i64 0, .int .i64 23, .int .i64 sn, .int .i64 0, .int .i64 11] 149)) (w.heap.size + 1) 149 #[.int .i64 sa, .int .i64 0, .int .i64 23, .int .i64 sn, .int .i64 0, .int .i64 11] := Blk.new_at _ _ _ (by simp)
  have hb : Below w.heap.size w ((w.alloc (.cells #[.int .i64 sa, .int .i64 sn, .int .i64 a, .int .i64 b, .int .i64 c, .int .i64 d] 98)).alloc (.cells #[.int .i64 sa, .int .i64 0, .int .i64 23, .int .i64 sn, .int .i64 0, .int .i64 11] 149)) := (by repeat (first | exact Below.refl _ _ | assumption | refine Below.drew ?_ | refine below_drewN ?_ _ | refine bl_alloc ?_ _ | refine Below.setCell ?_ (by first | (simp; done) | omega | (simp; omega)) _ | refine bl_then ?_ (by assumption)))
  generalize (w.alloc (.cells #[.int .i64 sa, .int .i64 sn, .int .i64 a, .int .i64 b, .int .i64 c, .int .i64 d] 98)).alloc (.cells #[.int .i64 sa, .int .i64 0, .int .i64 23, .int .i64 sn, .int .i64 0, .int .i64 11] 149) = W at K K2 hb ⊢
  refine (areIn_any [⟨sa, 0, 23⟩, ⟨sn, 0, 11⟩] (w.heap.size + 1) 2 2 W rfl (BndR.of_blk2 K2) K2.lt (by omega)).mono ?_
  rintro e W2 ⟨rfl, hb2⟩
  have K := K.below hb2 (by have := K.lt; omega)
  have hB2 : Below w.heap.size w W2 := hb.trans (Below.mono hb2 hb.size)
  clear K2 hb hb2
  have g2 : W2.cell? ⟨w.heap.size, 2, none⟩ = some (.int .i64 a) := K.cell 2
  have g3 : W2.cell? ⟨w.heap.size, 3, none⟩ = some (.int .i64 b) := K.cell 3
  have g4 : W2.cell? ⟨w.heap.size, 4, none⟩ = some (.int .i64 c) := K.cell 4
  have g5 : W2.cell? ⟨w.heap.size, 5, none⟩ = some (.int .i64 d) := K.cell 5
  rw [HA.out]
  clear HA K
  go_upto_region 4 with (fail)
  all_goals cases q
  all_goals
    go_wp2
  all_goals
    go_ret
    exact ⟨by first | (simp [*]; done) | (simp [*]; omega), hB2⟩

theorem pas_size : (Try.prog.info? 98).map (·.size) = some 6 := by kernel_rfl
theorem isPass_x (x : Pas) (w : World) : Calls Try.prog 72 #[.agg (pasCells x).toArray] w fun e w' => e = .returned (.bool (pasOK x)) ∧ Below w.heap.size w w' := by
  obtain ⟨sa, sn, ⟨a, b⟩, ⟨c, d⟩⟩ := x
  exact isPass_any sa sn a b c d w
theorem compare_x (x y : Pas) (w : World) : Calls Try.prog 74 #[.agg (pasCells x).toArray, .agg (pasCells y).toArray] w fun e w' => e = .returned (.int .i64 (cmpPas x y)) ∧ Below w.heap.size w w' := by
  obtain ⟨sa, sn, ⟨a, b⟩, ⟨c, d⟩⟩ := x
  obtain ⟨sa', sn', ⟨a', b'⟩, ⟨c', d'⟩⟩ := y
  exact compare_any sa sn a b c d sa' sn' a' b' c' d' w
theorem proper1_any (x : Pas) (w : World) : Calls Try.prog 71 #[.agg (pasCells x).toArray] w fun e w' => e = .returned (.bool (!pasOK x)) ∧ Below w.heap.size w w' := by
  have hv := isPass_x x
  generalize pasOK x = q at hv ⊢
  obtain ⟨sa, sn, ⟨a, b⟩, ⟨c, d⟩⟩ := x
  have HV := Lib.hid hv
  clear hv
  show Calls Try.prog 71 #[.agg #[.int .i64 sa, .int .i64 sn, .int .i64 a, .int .i64 b, .int .i64 c, .int .i64 d]] w _
  go_enter Try.func71, Try.ntmps71
  go_wp2_with fail
  refine (HV.out _).mono ?_
  rintro e w2 ⟨rfl, hb⟩
  have hB : Below w.heap.size w w2 := bl_then (by repeat (first | exact Below.refl _ _ | assumption | refine Below.drew ?_ | refine below_drewN ?_ _ | refine bl_alloc ?_ _ | refine Below.setCell ?_ (by first | (simp; done) | omega | (simp; omega)) _ | refine bl_then ?_ (by assumption))) hb
  go_wp2
  go_ret
  exact ⟨rfl, hB⟩

def idxA {α : Type} (p : α → Bool) : List α → Int → Int
  | [], _ => -1
  | x :: r, k => if p x then k else idxA p r (k + 1)
theorem idxA_any {α : Type} (p : α → Bool) (l : List α) (k : Int) (hk : 0 ≤ k) : (0 ≤ idxA p l k) = (l.any p = true) := by
  induction l generalizing k with
  | nil => simp [idxA]
  | cons x r ih =>
    unfold idxA
    cases hx : p x
    · simp [hx, ih (k + 1) (by omega)]
    · simp [hx, hk]
theorem idxA_drop {α : Type} (p : α → Bool) (l : List α) (k : Nat) (h : k < l.length) : idxA p (l.drop k) k = if p l[k] then (k : Int) else idxA p (l.drop (k + 1)) (k + 1 : Nat) := by
  rw [List.drop_eq_getElem_cons h, idxA]
  split <;> simp

theorem indexPas (l : List Pas) (A : Option Addr) (n c : Nat) (w : World) (h : RA pasCells 6 w w.heap.size A n c l) :
    Calls Try.prog 90 #[.slice A n c, .func (.func 71) #[] #[]] w
      fun e w' => e = .returned (.int .i64 (idxA (fun x => !pasOK x) l 0)) ∧ Below w.heap.size w w' := by
  have HR := Lib.hid h
  have hle := h.le
  have HL := Lib.hid h.len
  clear h
  go_enter Try.func90, Try.ntmps90
  go_wp2
  go_loopw [8] (fun i wr => ∃ k : Nat, k ≤ n ∧ i = .int .i64 k ∧ Hid (idxA (fun x => !pasOK x) l 0 = idxA (fun x => !pasOK x) (l.drop k) k) ∧ Below w.heap.size w wr) (fun i _ => n - (intOf i).toNat)
  case atStart => exact ⟨0, Nat.zero_le _, rfl, rfl, Below.refl _ _⟩
  case round =>
    obtain ⟨k, hk, rfl, H, hB⟩ := hrel
    by_cases hlt : k < n
    · obtain ⟨b, o, hz, hA, hbl, hc⟩ := RA.range pas_len (HR.out.below hB) hlt
      have hst := idxA_drop (fun x => !pasOK x) l k hz
      rw [← H.out] at hst
      generalize l[k] = x at hst hc
      have hv := proper1_any x
      obtain ⟨X, hX⟩ : ∃ X, (pasCells x).toArray = X := ⟨_, rfl⟩
      rw [hX] at hv
      generalize (!pasOK x) = q at hst hv
      have HX := Lib.hid hX
      have HV := Lib.hid hv
      have HS := Lib.hid hst
      have HCC := Lib.hid hc
      clear hX hv hst hc
      subst hA
      go_wp2_with (refine wpList_load_st rfl _ _ rfl b (o + k * 6) rfl X (pasCells x) HX.out _ HCC.out Try.underlying98 rfl pas_size ?_)
      refine (HV.out _).mono ?_
      rintro e w2 ⟨rfl, hb2⟩
      have hB2 : Below w.heap.size w w2 := bl_then hB hb2
      cases q
      · go_wp2
        go_roundw
        case rel => exact ⟨k + 1, by omega, by go_num, HS.out.trans (by simp), hB2⟩
        case measure => simp [intOf]; omega
      · go_wp2
        go_ret
        exact ⟨by rw [HS.out]; simp, hB2⟩
    · go_wp2
      go_ret
      exact ⟨by rw [H.out, List.drop_of_length_le (by rw [HL.out]; omega)]; rfl, hB⟩
theorem containsPas (l : List Pas) (A : Option Addr) (n c : Nat) (w : World) (h : RA pasCells 6 w w.heap.size A n c l) :
    Calls Try.prog 70 #[.slice A n c, .func (.func 71) #[] #[]] w
      fun e w' => e = .returned (.bool (!l.all pasOK)) ∧ Below w.heap.size w w' := by
  have hf := indexPas l A n c w h
  have hbb : (!l.all pasOK) = decide (0 ≤ idxA (fun x => !pasOK x) l 0) := by
    rw [Bool.eq_iff_iff, decide_eq_true_iff, idxA_any _ _ 0 (by omega)]
    simp
  rw [hbb]
  generalize idxA (fun x => !pasOK x) l 0 = r at hf
  have HF := Lib.hid hf
  clear hf hbb h
  go_enter Try.func70, Try.ntmps70
  go_wp2_with (go_at_call 90; refine HF.out.mono ?_; rintro e w' ⟨rfl, hb'⟩)
  go_ret
  exact ⟨rfl, (by repeat (first | exact Below.refl _ _ | assumption | refine Below.drew ?_ | refine below_drewN ?_ _ | refine bl_alloc ?_ _ | refine Below.setCell ?_ (by first | (simp; done) | omega | (simp; omega)) _ | refine bl_then ?_ (by assumption)))⟩

def sortedP : List Pas → Bool
  | [] => true
  | [_] => true
  | x :: y :: r => !decide (cmpPas y x < 0) && sortedP (y :: r)
theorem sortedP_end (l : List Pas) (k : Nat) (h : l.length ≤ k + 1) : sortedP (l.drop k) = true := by
  match hl : l.drop k with
  | [] => rfl
  | [_] => rfl
  | x :: y :: r =>
    have := congrArg List.length hl
    simp at this
    omega
theorem sortedP_step (l : List Pas) (k : Nat) (h0 : 0 < k) (h : k < l.length) : sortedP (l.drop (k - 1)) = (!decide (cmpPas l[k] (l[k - 1]'(by omega)) < 0) && sortedP (l.drop k)) := by
  obtain ⟨k, rfl⟩ : ∃ j, k = j + 1 := ⟨k - 1, by omega⟩
  simp only [Nat.add_sub_cancel]
  rw [List.drop_eq_getElem_cons (by omega : k < l.length), List.drop_eq_getElem_cons h, sortedP]
theorem sortedP_false (l : List Pas) (k : Nat) (h : sortedP (l.drop k) = false) : sortedP l = false := by
  induction k generalizing l with
  | zero => simpa using h
  | succ k ih =>
    match l with
    | [] => simpa using h
    | [x] => simp [sortedP] at h
    | x :: y :: r =>
      have := ih (y :: r) (by simpa using h)
      rw [sortedP, this, Bool.and_false]
theorem sortedPas (l : List Pas) (A : Option Addr) (n c : Nat) (w : World) (h : RA pasCells 6 w w.heap.size A n c l) :
    Calls Try.prog 73 #[.slice A n c, .func (.func 74) #[] #[]] w
      fun e w' => e = .returned (.bool (sortedP l)) ∧ Below w.heap.size w w' := by
  have HR := Lib.hid h
  have hle := h.le
  have HL := Lib.hid h.len
  have h0 : sortedP (l.drop (n - 1)) = true := sortedP_end l _ (by rw [h.len]; omega)
  have H0 := Lib.hid h0
  clear h h0
  go_enter Try.func73, Try.ntmps73
  go_wp2
  go_loopw [5] (fun i wr => ∃ k : Int, -1 ≤ k ∧ k < n ∧ i = .int .i64 k ∧ Hid (sortedP (l.drop k.toNat) = true) ∧ Below w.heap.size w wr) (fun i _ => (intOf i).toNat)
  case atStart => exact ⟨(n : Int) - 1, by omega, by omega, rfl, by rw [show ((n : Int) - 1).toNat = n - 1 by omega]; exact H0, Below.refl _ _⟩
  case round =>
    clear H0
    obtain ⟨i, hi1, hi2, rfl, H, hB⟩ := hrel
    by_cases hpos : 0 < i
    · obtain ⟨k, rfl⟩ : ∃ k : Nat, i = k := ⟨i.toNat, by omega⟩
      have hkn : k < n := by omega
      have hk0 : 0 < k := by omega
      rw [Int.toNat_natCast] at H
      obtain ⟨b, o, hz, hA, hbl, hx_⟩ := RA.range pas_len (HR.out.below hB) hkn
      obtain ⟨b', o', hz', hA', hbl', hy_⟩ := RA.range pas_len (HR.out.below hB) (k := k - 1) (by omega)
      have hst := sortedP_step l k hk0 hz
      rw [H.out, Bool.and_true] at hst
      generalize l[k] = x at hst hx_
      generalize l[k - 1] = y at hst hy_
      obtain ⟨hb1, ho1⟩ : b' = b ∧ o' = o := by rw [hA] at hA'; injection hA' with hA'; injection hA' with h1 h2; exact ⟨h1.symm, h2.symm⟩
      rw [hb1, ho1] at hy_
      have hv := compare_x x y
      obtain ⟨X, hX⟩ : ∃ X, (pasCells x).toArray = X := ⟨_, rfl⟩
      obtain ⟨Y, hY⟩ : ∃ Y, (pasCells y).toArray = Y := ⟨_, rfl⟩
      rw [hX, hY] at hv
      generalize cmpPas x y = cv at hst hv
      have HX := Lib.hid hX
      have HY := Lib.hid hY
      have HC := Lib.hid hv
      have HS := Lib.hid hst
      clear hX hY hv hst hA' hbl' hb1 ho1 b' o'
      subst hA
      have hki : IntKind.i64.wrap ((k : Int) - 1) = (k : Int) - 1 := IntWalk.i64_in _ (by omega)
      have hkt : ((k : Int) - 1).toNat = k - 1 := by omega
      have HKT := Lib.hid hkt
      go_wp2_with fail
      refine wp_region_obl 12 (fun ix vals v w1 => match ix with | 0 => v = .func (.func 74) #[] #[] | 1 => v = .slice (some ⟨b, o, none⟩) n c | 2 => v = .int .i64 (k : Int) | 3 => v = .pointer (some ⟨b, o + k * 6, none⟩) | 4 => v = .agg X | 5 => v = .slice (some ⟨b, o, none⟩) n c | 6 => v = .int .i64 (k : Int) | 7 => v = .int .i64 ((k : Int) - 1) | 8 => v = .pointer (some ⟨b, o + (k - 1) * 6, none⟩) | 9 => v = .agg Y | 10 => v = .int .i64 cv | _ => v = .bool (decide (cv < 0))) (by kernel_rfl) (by kernel_rfl) ?_ ?_ ?_ ?_
      · intro ix vals v w1 w2 hi hr hx
        match ix, hr with
        | 0, hr => exact hr
        | 1, hr => exact hr
        | 2, hr => exact hr
        | 3, hr => exact hr
        | 4, hr => exact hr
        | 5, hr => exact hr
        | 6, hr => exact hr
        | 7, hr => exact hr
        | 8, hr => exact hr
        | 9, hr => exact hr
        | 10, hr => exact hr
        | (kx + 11), hr => exact hr
      · intro ix vals vals_ v w1 hi hv hr
        exact hr
      · refine ⟨?_, ?_, ?_, ?_, ?_, ?_, ?_, ?_, ?_, ?_, ?_, ?_, trivial⟩
        · intro vals w1 hx hd ha
          clear hd ha
          simp only [Lf]
          go_wp2
          exact ⟨rfl, Ext.refl _, rfl⟩
        · intro vals w1 hx hd ha
          clear hd ha
          simp only [Lf, dstAt, Act.put, List.getElem?_toArray, List.getElem?_cons_zero, Option.bind_some, List.setIfInBounds_toArray, List.set_cons_zero, List.set_cons_succ]
          go_wp2
          exact ⟨rfl, Ext.refl _, rfl⟩
        · intro vals w1 hx hd ha
          clear hd ha
          simp only [Lf, dstAt, Act.put, List.getElem?_toArray, List.getElem?_cons_zero, List.getElem?_cons_succ, Option.bind_some, List.setIfInBounds_toArray, List.set_cons_zero, List.set_cons_succ]
          go_wp2
          exact ⟨rfl, Ext.refl _, rfl⟩
        · intro vals w1 hx hd ha
          have e1 : vals 1 = .slice (some ⟨b, o, none⟩) n c := hd 1 (by decide)
          have e2 : vals 2 = .int .i64 (k : Int) := hd 2 (by decide)
          clear hd ha
          simp only [Lf, dstAt, Act.put, List.getElem?_toArray, List.getElem?_cons_zero, List.getElem?_cons_succ, Option.bind_some, List.setIfInBounds_toArray, List.set_cons_zero, List.set_cons_succ]
          simp only [e1, e2]
          clear e1 e2
          go_wp2
          exact ⟨rfl, Ext.refl _, rfl⟩
        · intro vals w1 hx hd ha
          have e3 : vals 3 = .pointer (some ⟨b, o + k * 6, none⟩) := hd 3 (by decide)
          clear hd ha
          simp only [Lf, dstAt, Act.put, List.getElem?_toArray, List.getElem?_cons_zero, List.getElem?_cons_succ, Option.bind_some, List.setIfInBounds_toArray, List.set_cons_zero, List.set_cons_succ]
          simp only [e3]
          clear e3
          refine wpList_load_st rfl _ _ rfl b (o + k * 6) rfl X (pasCells x) HX.out _ (RA.range2 hx_ hx.undrew) Try.underlying98 rfl pas_size ?_
          go_wp2
          exact ⟨rfl, Ext.refl _, rfl⟩
        · intro vals w1 hx hd ha
          clear hd ha
          simp only [Lf, dstAt, Act.put, List.getElem?_toArray, List.getElem?_cons_zero, List.getElem?_cons_succ, Option.bind_some, List.setIfInBounds_toArray, List.set_cons_zero, List.set_cons_succ]
          go_wp2
          exact ⟨rfl, Ext.refl _, rfl⟩
        · intro vals w1 hx hd ha
          clear hd ha
          simp only [Lf, dstAt, Act.put, List.getElem?_toArray, List.getElem?_cons_zero, List.getElem?_cons_succ, Option.bind_some, List.setIfInBounds_toArray, List.set_cons_zero, List.set_cons_succ]
          go_wp2
          exact ⟨rfl, Ext.refl _, rfl⟩
        · intro vals w1 hx hd ha
          have e6 : vals 6 = .int .i64 (k : Int) := hd 6 (by decide)
          clear hd ha
          simp only [Lf, dstAt, Act.put, List.getElem?_toArray, List.getElem?_cons_zero, List.getElem?_cons_succ, Option.bind_some, List.setIfInBounds_toArray, List.set_cons_zero, List.set_cons_succ]
          simp only [e6]
          clear e6
          go_wp2
          exact ⟨rfl, Ext.refl _, rfl⟩
        · intro vals w1 hx hd ha
          have e5 : vals 5 = .slice (some ⟨b, o, none⟩) n c := hd 5 (by decide)
          have e7 : vals 7 = .int .i64 ((k : Int) - 1) := hd 7 (by decide)
          clear hd ha
          simp only [Lf, dstAt, Act.put, List.getElem?_toArray, List.getElem?_cons_zero, List.getElem?_cons_succ, Option.bind_some, List.setIfInBounds_toArray, List.set_cons_zero, List.set_cons_succ]
          simp only [e5, e7]
          clear e5 e7
          go_wp2
          exact ⟨rfl, Ext.refl _, rfl⟩
        · intro vals w1 hx hd ha
          have e8 : vals 8 = .pointer (some ⟨b, o + (k - 1) * 6, none⟩) := hd 8 (by decide)
          clear hd ha
          simp only [Lf, dstAt, Act.put, List.getElem?_toArray, List.getElem?_cons_zero, List.getElem?_cons_succ, Option.bind_some, List.setIfInBounds_toArray, List.set_cons_zero, List.set_cons_succ]
          simp only [e8]
          clear e8
          refine wpList_load_st rfl _ _ rfl b (o + (k - 1) * 6) rfl Y (pasCells y) HY.out _ (RA.range2 hy_ hx.undrew) Try.underlying98 rfl pas_size ?_
          go_wp2
          exact ⟨rfl, Ext.refl _, rfl⟩
        · intro vals w1 hx hd ha
          have e0 : vals 0 = .func (.func 74) #[] #[] := hd 0 (by decide)
          have e4 : vals 4 = .agg X := hd 4 (by decide)
          have e9 : vals 9 = .agg Y := hd 9 (by decide)
          clear hd ha
          simp only [Lf, dstAt, Act.put, List.getElem?_toArray, List.getElem?_cons_zero, List.getElem?_cons_succ, Option.bind_some, List.setIfInBounds_toArray, List.set_cons_zero, List.set_cons_succ]
          simp only [e0]
          simp only [e4]
          simp only [e9]
          clear e0 e4 e9
          go_wp2_with fail
          refine (HC.out _).mono ?_
          rintro e w2 ⟨rfl, hb2⟩
          go_wp2
          exact ⟨rfl, hb2, rfl⟩
        · intro vals w1 hx hd ha
          have e10 : vals 10 = .int .i64 cv := hd 10 (by decide)
          clear hd ha
          simp only [Lf, dstAt, Act.put, List.getElem?_toArray, List.getElem?_cons_zero, List.getElem?_cons_succ, Option.bind_some, List.setIfInBounds_toArray, List.set_cons_zero, List.set_cons_succ]
          simp only [e10]
          clear e10
          go_wp2
          exact ⟨rfl, Ext.refl _, rfl⟩
      intro vals w5 hxx hf
      have e11 : vals 11 = .bool (decide (cv < 0)) := hf 11 (by omega)
      clear hf
      have hB5 := bl_then hB hxx.undrew
      refine tail0 (by kernel_rfl) ?_
      simp only [Lf, dstAt, Act.put, List.getElem?_toArray, List.getElem?_cons_zero, List.getElem?_cons_succ, Option.bind_some, List.setIfInBounds_toArray, List.set_cons_zero, List.set_cons_succ]
      rw [e11]
      clear e11 hki hkt
      by_cases hcv : cv < 0
      · have hd : decide (cv < 0) = true := by simpa using hcv
        have HD := Lib.hid hd
        clear hd
        go_wp2
        go_ret
        have h := sortedP_false l _ (show sortedP (l.drop (k - 1)) = false by rw [HS.out, HD.out]; rfl)
        rw [h]
        exact ⟨rfl, hB5⟩
      · have hd : decide (cv < 0) = false := by simpa using hcv
        have HD := Lib.hid hd
        clear hd
        go_wp2
        go_roundw
        case rel => exact ⟨(k : Int) - 1, by omega, by omega, rfl, Lib.hid (by rw [HKT.out, HS.out, HD.out]; rfl), hB5⟩
        case measure => simp [intOf]; omega
    · go_wp2
      go_ret
      have h := H.out
      rw [show i.toNat = 0 by omega, List.drop_zero] at h
      rw [h]
      exact ⟨rfl, hB⟩

def properP (l : List Pas) : Bool := decide (l.length ≤ 64) && l.all pasOK && sortedP l
theorem proper_any (l : List Pas) (A : Option Addr) (n c : Nat) (w : World) (h : RA pasCells 6 w w.heap.size A n c l) :
    Calls Try.prog 39 #[.slice A n c] w fun e w' => e = .returned (.bool (properP l)) ∧ Below w.heap.size w w' := by
  have HR := Lib.hid h
  have hle := h.le
  have hpp : properP l = (decide (n ≤ 64) && l.all pasOK && sortedP l) := by rw [properP, h.len]
  rw [hpp]
  clear hpp h
  have h1 := fun w h => containsPas l A n c w h
  have h2 := fun w h => sortedPas l A n c w h
  generalize l.all pasOK = q1 at h1 ⊢
  generalize sortedP l = q2 at h2 ⊢
  have H1 := Lib.hid h1
  have H2 := Lib.hid h2
  clear h1 h2
  by_cases hn : n ≤ 64
  · have hd : decide (n ≤ 64) = true := by simpa using hn
    have hn2 : (n : Int) ≤ 64 := by omega
    rw [hd]
    clear hd
    go_enter Try.func39, Try.ntmps39
    go_wp2_with fail
    refine (H1.out _ HR.out).mono ?_
    rintro e w2 ⟨rfl, hb⟩
    cases q1
    · go_wp2
      go_ret
      exact ⟨by simp, hb⟩
    · go_wp2_with fail
      refine (H2.out _ ((HR.out.below hb).more hb.size)).mono ?_
      rintro e w3 ⟨rfl, hb3⟩
      go_wp2
      go_ret
      exact ⟨by simp, bl_then hb hb3⟩
  · have hd : decide (n ≤ 64) = false := by simpa using hn
    have hn2 : ¬ (n : Int) ≤ 64 := by omega
    rw [hd]
    clear hd
    go_enter Try.func39, Try.ntmps39
    go_wp2
    go_ret
    exact ⟨by simp, (by repeat (first | exact Below.refl _ _ | assumption | refine Below.drew ?_ | refine below_drewN ?_ _ | refine bl_alloc ?_ _ | refine Below.setCell ?_ (by first | (simp; done) | omega | (simp; omega)) _ | refine bl_then ?_ (by assumption)))⟩

theorem pas_bd {x : Pas} (h : pasOK x = true) : 0 ≤ x.sure.fr ∧ x.sure.fr ≤ 1000001 ∧ 0 ≤ x.sure.tt ∧ x.sure.tt ≤ 1000001 := by
  simp only [pasOK, Bool.and_eq_true, Bool.or_eq_true, decide_eq_true_eq, splIn] at h
  obtain ⟨⟨_, h1⟩, h2⟩ := h
  rcases h2 with h2 | h2
  · rw [h2]; simp
  · omega
end Go.Proofs.Ytmlabgmigakcbaa
