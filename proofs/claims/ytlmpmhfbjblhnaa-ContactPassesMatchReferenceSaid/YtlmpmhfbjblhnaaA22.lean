/- Passes that are proper; what can be sent (printed by contact_a22.py). -/
import Derived.Test.YtlmpmhfbjblhnaaA21
namespace Go.Proofs.Ytlmpmhfbjblhnaa
open Go.RowKit

theorem pas_size : (Try.prog.info? 47).map (·.size) = some 6 := by kernel_rfl
theorem isPass_x (x : Pas) (w : World) : Calls Try.prog 44 #[.agg (pasCells x).toArray] w fun e w' => e = .returned (.bool (pasOK x)) ∧ Below w.heap.size w w' := by
  obtain ⟨sa, sn, ⟨a, b⟩, ⟨c, d⟩⟩ := x
  exact isPass_any sa sn a b c d w
theorem compare_x (x y : Pas) (w : World) : Calls Try.prog 46 #[.agg (pasCells x).toArray, .agg (pasCells y).toArray] w fun e w' => e = .returned (.int .i64 (cmpPas x y)) ∧ Below w.heap.size w w' := by
  obtain ⟨sa, sn, ⟨a, b⟩, ⟨c, d⟩⟩ := x
  obtain ⟨sa', sn', ⟨a', b'⟩, ⟨c', d'⟩⟩ := y
  exact compare_any sa sn a b c d sa' sn' a' b' c' d' w
theorem proper1_any (x : Pas) (w : World) : Calls Try.prog 43 #[.agg (pasCells x).toArray] w fun e w' => e = .returned (.bool (!pasOK x)) ∧ Below w.heap.size w w' := by
  have hv := isPass_x x
  generalize pasOK x = q at hv ⊢
  obtain ⟨sa, sn, ⟨a, b⟩, ⟨c, d⟩⟩ := x
  have HV := Lib.hid hv
  clear hv
  show Calls Try.prog 43 #[.agg #[.int .i64 sa, .int .i64 sn, .int .i64 a, .int .i64 b, .int .i64 c, .int .i64 d]] w _
  go_enter Try.func43, Try.ntmps43
  go_wp2_with fail
  refine (HV.out _).mono ?_
  rintro e w2 ⟨rfl, hb⟩
  have hB : Below w.heap.size w w2 := bl_then (by repeat (first | exact Below.refl _ _ | assumption | refine Below.drew ?_ | refine below_drewN ?_ _ | refine bl_alloc ?_ _ | refine Below.setCell ?_ (by first | (simp; done) | omega | (simp; omega)) _ | refine bl_then ?_ (by assumption))) hb
  go_wp2
  go_ret
  exact ⟨rfl, hB⟩

def idxA {α : Type} (p : α → Bool) : List α → Int → Int
  | [], _ => -1
  | x :: r, k => if p x then k else idxA p r (k + 1)
theorem idxA_any {α : Type} (p : α → Bool) (l : List α) (k : Int) (hk : 0 ≤ k) : (0 ≤ idxA p l k) = (l.any p = true) := by
  induction l generalizing k with
  | nil => simp [idxA]
  | cons x r ih =>
    unfold idxA
    cases hx : p x
    · simp [hx, ih (k + 1) (by omega)]
    · simp [hx, hk]
theorem idxA_drop {α : Type} (p : α → Bool) (l : List α) (k : Nat) (h : k < l.length) : idxA p (l.drop k) k = if p l[k] then (k : Int) else idxA p (l.drop (k + 1)) (k + 1 : Nat) := by
  rw [List.drop_eq_getElem_cons h, idxA]
  split <;> simp

theorem indexPas (l : List Pas) (A : Option Addr) (n c : Nat) (w : World) (h : RA pasCells 6 w w.heap.size A n c l) :
    Calls Try.prog 70 #[.slice A n c, .func (.func 43) #[] #[]] w
      fun e w' => e = .returned (.int .i64 (idxA (fun x => !pasOK x) l 0)) ∧ Below w.heap.size w w' := by
  have HR := Lib.hid h
  have hle := h.le
  have HL := Lib.hid h.len
  clear h
  go_enter Try.func70, Try.ntmps70
  go_wp2
  go_loopw [8] (fun i wr => ∃ k : Nat, k ≤ n ∧ i = .int .i64 k ∧ Hid (idxA (fun x => !pasOK x) l 0 = idxA (fun x => !pasOK x) (l.drop k) k) ∧ Below w.heap.size w wr) (fun i _ => n - (intOf i).toNat)
  case atStart => exact ⟨0, Nat.zero_le _, rfl, rfl, Below.refl _ _⟩
  case round =>
    obtain ⟨k, hk, rfl, H, hB⟩ := hrel
    by_cases hlt : k < n
    · obtain ⟨b, o, hz, hA, hbl, hc⟩ := RA.range pas_len (HR.out.below hB) hlt
      have hst := idxA_drop (fun x => !pasOK x) l k hz
      rw [← H.out] at hst
      generalize l[k] = x at hst hc
      have hv := proper1_any x
      obtain ⟨X, hX⟩ : ∃ X, (pasCells x).toArray = X := ⟨_, rfl⟩
      rw [hX] at hv
      generalize (!pasOK x) = q at hst hv
      have HX := Lib.hid hX
      have HV := Lib.hid hv
      have HS := Lib.hid hst
      have HCC := Lib.hid hc
      clear hX hv hst hc
      subst hA
      go_wp2_with (refine wpList_load_st rfl _ _ rfl b (o + k * 6) rfl X (pasCells x) HX.out _ HCC.out Try.underlying47 rfl pas_size ?_)
      refine (HV.out _).mono ?_
      rintro e w2 ⟨rfl, hb2⟩
      have hB2 : Below w.heap.size w w2 := bl_then hB hb2
      cases q
      · go_wp2
        go_roundw
        case rel => exact ⟨k + 1, by omega, by go_num, HS.out.trans (by simp), hB2⟩
        case measure => simp [intOf]; omega
      · go_wp2
        go_ret
        exact ⟨by rw [HS.out]; simp, hB2⟩
    · go_wp2
      go_ret
      exact ⟨by rw [H.out, List.drop_of_length_le (by rw [HL.out]; omega)]; rfl, hB⟩
theorem containsPas (l : List Pas) (A : Option Addr) (n c : Nat) (w : World) (h : RA pasCells 6 w w.heap.size A n c l) :
    Calls Try.prog 42 #[.slice A n c, .func (.func 43) #[] #[]] w
      fun e w' => e = .returned (.bool (!l.all pasOK)) ∧ Below w.heap.size w w' := by
  have hf := indexPas l A n c w h
  have hbb : (!l.all pasOK) = decide (0 ≤ idxA (fun x => !pasOK x) l 0) := by
    rw [Bool.eq_iff_iff, decide_eq_true_iff, idxA_any _ _ 0 (by omega)]
    simp
  rw [hbb]
  generalize idxA (fun x => !pasOK x) l 0 = r at hf
  have HF := Lib.hid hf
  clear hf hbb h
  go_enter Try.func42, Try.ntmps42
  go_wp2_with (go_at_call 70; refine HF.out.mono ?_; rintro e w' ⟨rfl, hb'⟩)
  go_ret
  exact ⟨rfl, (by repeat (first | exact Below.refl _ _ | assumption | refine Below.drew ?_ | refine below_drewN ?_ _ | refine bl_alloc ?_ _ | refine Below.setCell ?_ (by first | (simp; done) | omega | (simp; omega)) _ | refine bl_then ?_ (by assumption)))⟩

def sortedP : List Pas → Bool
  | [] => true
  | [_] => true
  | x :: y :: r => !decide (cmpPas y x < 0) && sortedP (y :: r)
theorem sortedP_end (l : List Pas) (k : Nat) (h : l.length ≤ k + 1) : sortedP (l.drop k) = true := by
  match hl : l.drop k with
  | [] => rfl
  | [_] => rfl
  | x :: y :: r =>
    have := congrArg List.length hl
    simp at this
    omega
theorem sortedP_step (l : List Pas) (k : Nat) (h0 : 0 < k) (h : k < l.length) : sortedP (l.drop (k - 1)) = (!decide (cmpPas l[k] (l[k - 1]'(by omega)) < 0) && sortedP (l.drop k)) := by
  obtain ⟨k, rfl⟩ : ∃ j, k = j + 1 := ⟨k - 1, by omega⟩
  simp only [Nat.add_sub_cancel]
  rw [List.drop_eq_getElem_cons (by omega : k < l.length), List.drop_eq_getElem_cons h, sortedP]
theorem sortedP_false (l : List Pas) (k : Nat) (h : sortedP (l.drop k) = false) : sortedP l = false := by
  induction k generalizing l with
  | zero => simpa using h
  | succ k ih =>
    match l with
    | [] => simpa using h
    | [x] => simp [sortedP] at h
    | x :: y :: r =>
      have := ih (y :: r) (by simpa using h)
      rw [sortedP, this, Bool.and_false]
theorem sortedPas (l : List Pas) (A : Option Addr) (n c : Nat) (w : World) (h : RA pasCells 6 w w.heap.size A n c l) :
    Calls Try.prog 45 #[.slice A n c, .func (.func 46) #[] #[]] w
      fun e w' => e = .returned (.bool (sortedP l)) ∧ Below w.heap.size w w' := by
  have HR := Lib.hid h
  have hle := h.le
  have HL := Lib.hid h.len
  have h0 : sortedP (l.drop (n - 1)) = true := sortedP_end l _ (by rw [h.len]; omega)
  have H0 := Lib.hid h0
  clear h h0
  go_enter Try.func45, Try.ntmps45
  go_wp2
  go_loopw [5] (fun i wr => ∃ k : Int, -1 ≤ k ∧ k < n ∧ i = .int .i64 k ∧ Hid (sortedP (l.drop k.toNat) = true) ∧ Below w.heap.size w wr) (fun i _ => (intOf i).toNat)
  case atStart => exact ⟨(n : Int) - 1, by omega, by omega, rfl, by rw [show ((n : Int) - 1).toNat = n - 1 by omega]; exact H0, Below.refl _ _⟩
  case round =>
    clear H0
    obtain ⟨i, hi1, hi2, rfl, H, hB⟩ := hrel
    by_cases hpos : 0 < i
    · obtain ⟨k, rfl⟩ : ∃ k : Nat, i = k := ⟨i.toNat, by omega⟩
      have hkn : k < n := by omega
      have hk0 : 0 < k := by omega
      rw [Int.toNat_natCast] at H
      obtain ⟨b, o, hz, hA, hbl, hx_⟩ := RA.range pas_len (HR.out.below hB) hkn
      obtain ⟨b', o', hz', hA', hbl', hy_⟩ := RA.range pas_len (HR.out.below hB) (k := k - 1) (by omega)
      have hst := sortedP_step l k hk0 hz
      rw [H.out, Bool.and_true] at hst
      generalize l[k] = x at hst hx_
      generalize l[k - 1] = y at hst hy_
      obtain ⟨hb1, ho1⟩ : b' = b ∧ o' = o := by rw [hA] at hA'; injection hA' with hA'; injection hA' with h1 h2; exact ⟨h1.symm, h2.symm⟩
      rw [hb1, ho1] at hy_
      have hv := compare_x x y
      obtain ⟨X, hX⟩ : ∃ X, (pasCells x).toArray = X := ⟨_, rfl⟩
      obtain ⟨Y, hY⟩ : ∃ Y, (pasCells y).toArray = Y := ⟨_, rfl⟩
      rw [hX, hY] at hv
      generalize cmpPas x y = cv at hst hv
      have HX := Lib.hid hX
      have HY := Lib.hid hY
      have HC := Lib.hid hv
      have HS := Lib.hid hst
      clear hX hY hv hst hA' hbl' hb1 ho1 b' o'
      subst hA
      have hki : IntKind.i64.wrap ((k : Int) - 1) = (k : Int) - 1 := IntWalk.i64_in _ (by omega)
      have hkt : ((k : Int) - 1).toNat = k - 1 := by omega
      have HKT := Lib.hid hkt
      go_wp2_with fail
      refine wp_region_obl 12 (fun ix vals v w1 => match ix with | 0 => v = .func (.func 46) #[] #[] | 1 => v = .slice (some ⟨b, o, none⟩) n c | 2 => v = .int .i64 (k : Int) | 3 => v = .pointer (some ⟨b, o + k * 6, none⟩) | 4 => v = .agg X | 5 => v = .slice (some ⟨b, o, none⟩) n c | 6 => v = .int .i64 (k : Int) | 7 => v = .int .i64 ((k : Int) - 1) | 8 => v = .pointer (some ⟨b, o + (k - 1) * 6, none⟩) | 9 => v = .agg Y | 10 => v = .int .i64 cv | _ => v = .bool (decide (cv < 0))) (by kernel_rfl) (by kernel_rfl) ?_ ?_ ?_ ?_
      · intro ix vals v w1 w2 hi hr hx
        match ix, hr with
        | 0, hr => exact hr
        | 1, hr => exact hr
        | 2, hr => exact hr
        | 3, hr => exact hr
        | 4, hr => exact hr
        | 5, hr => exact hr
        | 6, hr => exact hr
        | 7, hr => exact hr
        | 8, hr => exact hr
        | 9, hr => exact hr
        | 10, hr => exact hr
        | (kx + 11), hr => exact hr
      · intro ix vals vals_ v w1 hi hv hr
        exact hr
      · refine ⟨?_, ?_, ?_, ?_, ?_, ?_, ?_, ?_, ?_, ?_, ?_, ?_, trivial⟩
        · intro vals w1 hx hd ha
          clear hd ha
          simp only [Lf]
          go_wp2
          exact ⟨rfl, Ext.refl _, rfl⟩
        · intro vals w1 hx hd ha
          clear hd ha
          simp only [Lf, dstAt, Act.put, List.getElem?_toArray, List.getElem?_cons_zero, Option.bind_some, List.setIfInBounds_toArray, List.set_cons_zero, List.set_cons_succ]
          go_wp2
          exact ⟨rfl, Ext.refl _, rfl⟩
        · intro vals w1 hx hd ha
          clear hd ha
          simp only [Lf, dstAt, Act.put, List.getElem?_toArray, List.getElem?_cons_zero, List.getElem?_cons_succ, Option.bind_some, List.setIfInBounds_toArray, List.set_cons_zero, List.set_cons_succ]
          go_wp2
          exact ⟨rfl, Ext.refl _, rfl⟩
        · intro vals w1 hx hd ha
          have e1 : vals 1 = .slice (some ⟨b, o, none⟩) n c := hd 1 (by decide)
          have e2 : vals 2 = .int .i64 (k : Int) := hd 2 (by decide)
          clear hd ha
          simp only [Lf, dstAt, Act.put, List.getElem?_toArray, List.getElem?_cons_zero, List.getElem?_cons_succ, Option.bind_some, List.setIfInBounds_toArray, List.set_cons_zero, List.set_cons_succ]
          simp only [e1, e2]
          clear e1 e2
          go_wp2
          exact ⟨rfl, Ext.refl _, rfl⟩
        · intro vals w1 hx hd ha
          have e3 : vals 3 = .pointer (some ⟨b, o + k * 6, none⟩) := hd 3 (by decide)
          clear hd ha
          simp only [Lf, dstAt, Act.put, List.getElem?_toArray, List.getElem?_cons_zero, List.getElem?_cons_succ, Option.bind_some, List.setIfInBounds_toArray, List.set_cons_zero, List.set_cons_succ]
          simp only [e3]
          clear e3
          refine wpList_load_st rfl _ _ rfl b (o + k * 6) rfl X (pasCells x) HX.out _ (RA.range2 hx_ hx.undrew) Try.underlying47 rfl pas_size ?_
          go_wp2
          exact ⟨rfl, Ext.refl _, rfl⟩
        · intro vals w1 hx hd ha
          clear hd ha
          simp only [Lf, dstAt, Act.put, List.getElem?_toArray, List.getElem?_cons_zero, List.getElem?_cons_succ, Option.bind_some, List.setIfInBounds_toArray, List.set_cons_zero, List.set_cons_succ]
          go_wp2
          exact ⟨rfl, Ext.refl _, rfl⟩
        · intro vals w1 hx hd ha
          clear hd ha
          simp only [Lf, dstAt, Act.put, List.getElem?_toArray, List.getElem?_cons_zero, List.getElem?_cons_succ, Option.bind_some, List.setIfInBounds_toArray, List.set_cons_zero, List.set_cons_succ]
          go_wp2
          exact ⟨rfl, Ext.refl _, rfl⟩
        · intro vals w1 hx hd ha
          have e6 : vals 6 = .int .i64 (k : Int) := hd 6 (by decide)
          clear hd ha
          simp only [Lf, dstAt, Act.put, List.getElem?_toArray, List.getElem?_cons_zero, List.getElem?_cons_succ, Option.bind_some, List.setIfInBounds_toArray, List.set_cons_zero, List.set_cons_succ]
          simp only [e6]
          clear e6
          go_wp2
          exact ⟨rfl, Ext.refl _, rfl⟩
        · intro vals w1 hx hd ha
          have e5 : vals 5 = .slice (some ⟨b, o, none⟩) n c := hd 5 (by decide)
          have e7 : vals 7 = .int .i64 ((k : Int) - 1) := hd 7 (by decide)
          clear hd ha
          simp only [Lf, dstAt, Act.put, List.getElem?_toArray, List.getElem?_cons_zero, List.getElem?_cons_succ, Option.bind_some, List.setIfInBounds_toArray, List.set_cons_zero, List.set_cons_succ]
          simp only [e5, e7]
          clear e5 e7
          go_wp2
          exact ⟨rfl, Ext.refl _, rfl⟩
        · intro vals w1 hx hd ha
          have e8 : vals 8 = .pointer (some ⟨b, o + (k - 1) * 6, none⟩) := hd 8 (by decide)
          clear hd ha
          simp only [Lf, dstAt, Act.put, List.getElem?_toArray, List.getElem?_cons_zero, List.getElem?_cons_succ, Option.bind_some, List.setIfInBounds_toArray, List.set_cons_zero, List.set_cons_succ]
          simp only [e8]
          clear e8
          refine wpList_load_st rfl _ _ rfl b (o + (k - 1) * 6) rfl Y (pasCells y) HY.out _ (RA.range2 hy_ hx.undrew) Try.underlying47 rfl pas_size ?_
          go_wp2
          exact ⟨rfl, Ext.refl _, rfl⟩
        · intro vals w1 hx hd ha
          have e0 : vals 0 = .func (.func 46) #[] #[] := hd 0 (by decide)
          have e4 : vals 4 = .agg X := hd 4 (by decide)
          have e9 : vals 9 = .agg Y := hd 9 (by decide)
          clear hd ha
          simp only [Lf, dstAt, Act.put, List.getElem?_toArray, List.getElem?_cons_zero, List.getElem?_cons_succ, Option.bind_some, List.setIfInBounds_toArray, List.set_cons_zero, List.set_cons_succ]
          simp only [e0]
          simp only [e4]
          simp only [e9]
          clear e0 e4 e9
          go_wp2_with fail
          refine (HC.out _).mono ?_
          rintro e w2 ⟨rfl, hb2⟩
          go_wp2
          exact ⟨rfl, hb2, rfl⟩
        · intro vals w1 hx hd ha
          have e10 : vals 10 = .int .i64 cv := hd 10 (by decide)
          clear hd ha
          simp only [Lf, dstAt, Act.put, List.getElem?_toArray, List.getElem?_cons_zero, List.getElem?_cons_succ, Option.bind_some, List.setIfInBounds_toArray, List.set_cons_zero, List.set_cons_succ]
          simp only [e10]
          clear e10
          go_wp2
          exact ⟨rfl, Ext.refl _, rfl⟩
      intro vals w5 hxx hf
      have e11 : vals 11 = .bool (decide (cv < 0)) := hf 11 (by omega)
      clear hf
      have hB5 := bl_then hB hxx.undrew
      refine tail0 (by kernel_rfl) ?_
      simp only [Lf, dstAt, Act.put, List.getElem?_toArray, List.getElem?_cons_zero, List.getElem?_cons_succ, Option.bind_some, List.setIfInBounds_toArray, List.set_cons_zero, List.set_cons_succ]
      rw [e11]
      clear e11 hki hkt
      by_cases hcv : cv < 0
      · have hd : decide (cv < 0) = true := by simpa using hcv
        have HD := Lib.hid hd
        clear hd
        go_wp2
        go_ret
        have h := sortedP_false l _ (show sortedP (l.drop (k - 1)) = false by rw [HS.out, HD.out]; rfl)
        rw [h]
        exact ⟨rfl, hB5⟩
      · have hd : decide (cv < 0) = false := by simpa using hcv
        have HD := Lib.hid hd
        clear hd
        go_wp2
        go_roundw
        case rel => exact ⟨(k : Int) - 1, by omega, by omega, rfl, Lib.hid (by rw [HKT.out, HS.out, HD.out]; rfl), hB5⟩
        case measure => simp [intOf]; omega
    · go_wp2
      go_ret
      have h := H.out
      rw [show i.toNat = 0 by omega, List.drop_zero] at h
      rw [h]
      exact ⟨rfl, hB⟩

def properP (l : List Pas) : Bool := decide (l.length ≤ 64) && l.all pasOK && sortedP l
theorem proper_any (l : List Pas) (A : Option Addr) (n c : Nat) (w : World) (h : RA pasCells 6 w w.heap.size A n c l) :
    Calls Try.prog 18 #[.slice A n c] w fun e w' => e = .returned (.bool (properP l)) ∧ Below w.heap.size w w' := by
  have HR := Lib.hid h
  have hle := h.le
  have hpp : properP l = (decide (n ≤ 64) && l.all pasOK && sortedP l) := by rw [properP, h.len]
  rw [hpp]
  clear hpp h
  have h1 := fun w h => containsPas l A n c w h
  have h2 := fun w h => sortedPas l A n c w h
  generalize l.all pasOK = q1 at h1 ⊢
  generalize sortedP l = q2 at h2 ⊢
  have H1 := Lib.hid h1
  have H2 := Lib.hid h2
  clear h1 h2
  by_cases hn : n ≤ 64
  · have hd : decide (n ≤ 64) = true := by simpa using hn
    have hn2 : (n : Int) ≤ 64 := by omega
    rw [hd]
    clear hd
    go_enter Try.func18, Try.ntmps18
    go_wp2_with fail
    refine (H1.out _ HR.out).mono ?_
    rintro e w2 ⟨rfl, hb⟩
    cases q1
    · go_wp2
      go_ret
      exact ⟨by simp, hb⟩
    · go_wp2_with fail
      refine (H2.out _ ((HR.out.below hb).more hb.size)).mono ?_
      rintro e w3 ⟨rfl, hb3⟩
      go_wp2
      go_ret
      exact ⟨by simp, bl_then hb hb3⟩
  · have hd : decide (n ≤ 64) = false := by simpa using hn
    have hn2 : ¬ (n : Int) ≤ 64 := by omega
    rw [hd]
    clear hd
    go_enter Try.func18, Try.ntmps18
    go_wp2
    go_ret
    exact ⟨by simp, (by repeat (first | exact Below.refl _ _ | assumption | refine Below.drew ?_ | refine below_drewN ?_ _ | refine bl_alloc ?_ _ | refine Below.setCell ?_ (by first | (simp; done) | omega | (simp; omega)) _ | refine bl_then ?_ (by assumption)))⟩

theorem pas_bd {x : Pas} (h : pasOK x = true) : 0 ≤ x.sure.fr ∧ x.sure.fr ≤ 1000001 ∧ 0 ≤ x.sure.tt ∧ x.sure.tt ≤ 1000001 := by
  simp only [pasOK, Bool.and_eq_true, Bool.or_eq_true, decide_eq_true_eq, splIn] at h
  obtain ⟨⟨_, h1⟩, h2⟩ := h
  rcases h2 with h2 | h2
  · rw [h2]; simp
  · omega
theorem sat_rate {x : St} (h : satOK x = true) : 1 ≤ x.rate ∧ x.rate ≤ 1000 := by
  simp only [satOK, Bool.and_eq_true, inB_iff] at h
  omega
theorem mul_bd {a b : Int} (h : -1000001 ≤ a ∧ a ≤ 1000001) (k : 1 ≤ b ∧ b ≤ 1000) : -1000001000 ≤ a * b ∧ a * b ≤ 1000001000 := by
  have h1 : a * b ≤ 1000001 * b := Int.mul_le_mul_of_nonneg_right h.2 (by omega)
  have h2 : -1000001 * b ≤ a * b := Int.mul_le_mul_of_nonneg_right h.1 (by omega)
  omega
set_option maxHeartbeats 2000000 in
theorem sendable_any (id ow p f lo hi no tu sl wi st ch su idl sh se wa co ho sw ra sa sn a b c d : Int) (w : World) :
    Calls Try.prog 22 #[.agg #[.int .i64 id, .int .i64 ow, .int .i64 p, .int .i64 f, .int .i64 lo, .int .i64 hi, .int .i64 no, .int .i64 tu, .int .i64 sl, .int .i64 wi, .int .i64 st, .int .i64 ch, .int .i64 su, .int .i64 idl, .int .i64 sh, .int .i64 se, .int .i64 wa, .int .i64 co, .int .i64 ho, .int .i64 sw, .int .i64 ra], .agg #[.int .i64 sa, .int .i64 sn, .int .i64 a, .int .i64 b, .int .i64 c, .int .i64 d]] w fun e w' => e = .returned (.int .i64 (sendP ⟨id, ow, ⟨p, f, lo, hi, no, tu, sl⟩, wi, st, ch, su, idl, sh, se, wa, co, ho, sw, ra⟩ ⟨sa, sn, ⟨a, b⟩, ⟨c, d⟩⟩)) ∧ Below w.heap.size w w' := by
  obtain ⟨x, hx⟩ : ∃ x : St, x = ⟨id, ow, ⟨p, f, lo, hi, no, tu, sl⟩, wi, st, ch, su, idl, sh, se, wa, co, ho, sw, ra⟩ := ⟨_, rfl⟩
  obtain ⟨y, hy⟩ : ∃ y : Pas, y = ⟨sa, sn, ⟨a, b⟩, ⟨c, d⟩⟩ := ⟨_, rfl⟩
  have e1 : x.id = id := by rw [hx]
  have e2 : y.sat = sa := by rw [hy]
  have e3 : y.sure.fr = a := by rw [hy]
  have e4 : y.sure.tt = b := by rw [hy]
  have e5 : x.rate = ra := by rw [hx]
  have hp := @pas_bd y
  have hr := @sat_rate x
  have hv := satVal x
  have hw := isPass_x y
  have hX : (satCells x).toArray = #[.int .i64 id, .int .i64 ow, .int .i64 p, .int .i64 f, .int .i64 lo, .int .i64 hi, .int .i64 no, .int .i64 tu, .int .i64 sl, .int .i64 wi, .int .i64 st, .int .i64 ch, .int .i64 su, .int .i64 idl, .int .i64 sh, .int .i64 se, .int .i64 wa, .int .i64 co, .int .i64 ho, .int .i64 sw, .int .i64 ra] := by rw [hx]; rfl
  have hY : (pasCells y).toArray = #[.int .i64 sa, .int .i64 sn, .int .i64 a, .int .i64 b, .int .i64 c, .int .i64 d] := by rw [hy]; rfl
  have hs : sendP x y = if (satOK x && pasOK y && decide (id = sa)) = true then (b - a) * ra else 0 := by rw [sendP, e1, e2, e3, e4, e5]
  rw [← hx, ← hy, hs]
  rw [hX] at hv
  rw [hY] at hw
  rw [e3, e4] at hp
  rw [e5] at hr
  have HX := Lib.hid hX
  have HY := Lib.hid hY
  clear hX hY hs e1 e2 e3 e4 e5 hx hy
  generalize satOK x = q1 at hv hr ⊢
  generalize pasOK y = q2 at hw hp ⊢
  have HV := Lib.hid hv
  have HW := Lib.hid hw
  clear hv hw
  by_cases hid : id = sa
  · subst hid
    have hpb : q2 = true → -1000001 ≤ b - a ∧ b - a ≤ 1000001 := fun h => by have := hp h; omega
    have HP := Lib.hid hpb
    have HR := Lib.hid hr
    clear hp hr hpb
    go_enter Try.func22, Try.ntmps22
    go_wp2_with fail
    have K1 : Blk ((w.alloc (.cells #[.int .i64 id, .int .i64 ow, .int .i64 p, .int .i64 f, .int .i64 lo, .int .i64 hi, .int .i64 no, .int .i64 tu, .int .i64 sl, .int .i64 wi, .int .i64 st, .int .i64 ch, .int .i64 su, .int .i64 idl, .int .i64 sh, .int .i64 se, .int .i64 wa, .int .i64 co, .int .i64 ho, .int .i64 sw, .int .i64 ra] 27)).alloc (.cells #[.int .i64 id, .int .i64 sn, .int .i64 a, .int .i64 b, .int .i64 c, .int .i64 d] 47)) w.heap.size 27 #[.int .i64 id, .int .i64 ow, .int .i64 p, .int .i64 f, .int .i64 lo, .int .i64 hi, .int .i64 no, .int .i64 tu, .int .i64 sl, .int .i64 wi, .int .i64 st, .int .i64 ch, .int .i64 su, .int .i64 idl, .int .i64 sh, .int .i64 se, .int .i64 wa, .int .i64 co, .int .i64 ho, .int .i64 sw, .int .i64 ra] := (Blk.new _ _ _).alloc _
    have K2 : Blk ((w.alloc (.cells #[.int .i64 id, .int .i64 ow, .int .i64 p, .int .i64 f, .int .i64 lo, .int .i64 hi, .int .i64 no, .int .i64 tu, .int .i64 sl, .int .i64 wi, .int .i64 st, .int .i64 ch, .int .i64 su, .int .i64 idl, .int .i64 sh, .int .i64 se, .int .i64 wa, .int .i64 co, .int .i64 ho, .int .i64 sw, .int .i64 ra] 27)).alloc (.cells #[.int .i64 id, .int .i64 sn, .int .i64 a, .int .i64 b, .int .i64 c, .int .i64 d] 47)) (w.heap.size + 1) 47 #[.int .i64 id, .int .i64 sn, .int .i64 a, .int .i64 b, .int .i64 c, .int .i64 d] := Blk.new_at _ _ _ (by simp)
    have hB : Below w.heap.size w ((w.alloc (.cells #[.int .i64 id, .int .i64 ow, .int .i64 p, .int .i64 f, .int .i64 lo, .int .i64 hi, .int .i64 no, .int .i64 tu, .int .i64 sl, .int .i64 wi, .int .i64 st, .int .i64 ch, .int .i64 su, .int .i64 idl, .int .i64 sh, .int .i64 se, .int .i64 wa, .int .i64 co, .int .i64 ho, .int .i64 sw, .int .i64 ra] 27)).alloc (.cells #[.int .i64 id, .int .i64 sn, .int .i64 a, .int .i64 b, .int .i64 c, .int .i64 d] 47)) := (by repeat (first | exact Below.refl _ _ | assumption | refine Below.drew ?_ | refine below_drewN ?_ _ | refine bl_alloc ?_ _ | refine Below.setCell ?_ (by first | (simp; done) | omega | (simp; omega)) _ | refine bl_then ?_ (by assumption)))
    generalize (w.alloc (.cells #[.int .i64 id, .int .i64 ow, .int .i64 p, .int .i64 f, .int .i64 lo, .int .i64 hi, .int .i64 no, .int .i64 tu, .int .i64 sl, .int .i64 wi, .int .i64 st, .int .i64 ch, .int .i64 su, .int .i64 idl, .int .i64 sh, .int .i64 se, .int .i64 wa, .int .i64 co, .int .i64 ho, .int .i64 sw, .int .i64 ra] 27)).alloc (.cells #[.int .i64 id, .int .i64 sn, .int .i64 a, .int .i64 b, .int .i64 c, .int .i64 d] 47) = W at K1 K2 hB ⊢
    refine (HW.out _).mono ?_
    rintro e W1 ⟨rfl, hx⟩
    have K1 := K1.ext hx
    have K2 := K2.ext hx
    have hB := bl_then hB hx
    clear hx
    cases q2
    · go_wp2
      all_goals
        go_ret
        exact ⟨by simp, hB⟩
    · go_wp2_with (refine wpList_load_stg rfl 27 _ rfl w.heap.size 0 rfl _ (satCells x) rfl _ (Blk.range K1 _ (by rw [← HX.out])) Try.underlying27 rfl sat_size ?_; rw [HX.out])
      refine (HV.out _).mono ?_
      rintro e W2 ⟨rfl, hx⟩
      have K1 := K1.ext hx
      have K2 := K2.ext hx
      have hB := bl_then hB hx
      clear hx
      cases q1
      · go_wp2
        all_goals
          go_ret
          exact ⟨by simp, hB⟩
      · have h1 : -1000001 ≤ b - a ∧ b - a ≤ 1000001 := by first | exact HP.out rfl | exact HP.out trivial
        have h2 : 1 ≤ ra ∧ ra ≤ 1000 := by first | exact HR.out rfl | exact HR.out trivial
        have h3 := mul_bd h1 h2
        have hw1 : IntKind.i64.wrap (b - a) = b - a := IntWalk.i64_in _ (by omega)
        have hw2 : IntKind.i64.wrap ((b - a) * ra) = (b - a) * ra := IntWalk.i64_in _ (by omega)
        have k2 : W2.cell? ⟨w.heap.size + 1, 2, none⟩ = some (.int .i64 a) := K2.cell 2
        have k3 : W2.cell? ⟨w.heap.size + 1, 3, none⟩ = some (.int .i64 b) := K2.cell 3
        have g20 : W2.cell? ⟨w.heap.size, 20, none⟩ = some (.int .i64 ra) := K1.cell 20
        go_wp2
        go_ret
        exact ⟨by simp, hB⟩
  · have hid2 : (id == sa) = false := by simpa using hid
    have hid3 : (id != sa) = true := by simpa using hid
    have hd : decide (id = sa) = false := by simpa using hid
    rw [hd, Bool.and_false, if_neg (by simp)]
    clear hp hr hid hd
    go_enter Try.func22, Try.ntmps22
    go_wp2
    all_goals
      go_ret
      exact ⟨rfl, (by repeat (first | exact Below.refl _ _ | assumption | refine Below.drew ?_ | refine below_drewN ?_ _ | refine bl_alloc ?_ _ | refine Below.setCell ?_ (by first | (simp; done) | omega | (simp; omega)) _ | refine bl_then ?_ (by assumption)))⟩

end Go.Proofs.Ytlmpmhfbjblhnaa
