/- slices.BinarySearchFunc at loans, by order. -/
import Derived.Test.YtpddnkefggaigaaS4
import Derived.Test.YtpddnkefggaigaaReg
import Derived.Test.YtpddnkefggaigaaP2
namespace Go.Proofs.Ytpddnkefggaigaa
open Go.RowKit

theorem cmpL_neg (a b c d : Int) : cmpL a b c d < 0 ↔ a < c ∨ (a = c ∧ b < d) := by
  unfold cmpL orI cmpI
  repeat' split
  all_goals omega
theorem cmpL_zero (a b c d : Int) : cmpL a b c d = 0 ↔ a = c ∧ b = d := by
  unfold cmpL orI cmpI
  repeat' split
  all_goals omega


theorem lessB_iff (a b : Loan) : lessB a b = true ↔ a.fr < b.fr ∨ (a.fr = b.fr ∧ a.to < b.to) := by simp [lessB, cmpL_neg]

theorem posL_le (ls : List Loan) (x : Loan) : posL ls x ≤ ls.length := (List.takeWhile_sublist _).length_le
theorem posL_lt (ls : List Loan) (x : Loan) (i : Nat) (h : i < ls.length) (hs : ls.Pairwise (fun a b => lessB a b = true)) : lessB ls[i] x = decide (i < posL ls x) := by
  induction ls generalizing i with
  | nil => simp at h
  | cons y r ih =>
    have hs' := List.pairwise_cons.1 hs
    unfold posL
    cases i with
    | zero =>
      cases hy : lessB y x <;> simp [hy]
    | succ i =>
      have hi : i < r.length := by simpa using h
      have := ih i hi hs'.2
      unfold posL at this
      cases hy : lessB y x
      · have hn : lessB r[i] x = false := by
          have h1 := hs'.1 r[i] (List.getElem_mem _)
          cases hc : lessB r[i] x
          · rfl
          · rw [lessB_iff] at h1 hc
            have : ¬ lessB y x = true := by rw [hy]; simp
            rw [lessB_iff] at this
            omega
        simp [hy, hn]
      · simp [hy, this]

def BSRet (w : World) (i : Nat) (b : Bool) (e : Ending) (w' : World) : Prop := e = .returned (.tuple #[.int .i64 i, .bool b]) ∧ Below w.heap.size w w'

set_option maxHeartbeats 1000000 in
theorem bsearch_any (A : Option Addr) (n c : Nat) (ls : List Loan) (x : Loan) (w : World) (h : RL w w.heap.size ⟨A, n, c⟩ ls) (hs : ls.Pairwise (fun a b => lessB a b = true)) :
    Calls Try.prog 68 #[.slice A n c, .agg #[.int .i64 x.fr, .int .i64 x.to, .int .i64 x.units], .func (.func 39) #[] #[]] w (BSRet w (posL ls x) (foundL ls x)) := by
  have hn : n ≤ 1099511627776 := h.le
  have HL : Hid (ls.length = n) := h.len
  have HP := Lib.hid (posL_lt ls x)
  have hp := posL_le ls x
  rw [HL.out] at hp
  have HS := Lib.hid hs
  clear hs
  generalize hpos : posL ls x = p at hp ⊢
  have HE := Lib.hid hpos
  clear hpos
  go_enter Try.func68, Try.ntmps68
  go_wp2
  go_loopw [9, 10] (fun i j wr => ∃ l r : Nat, l ≤ p ∧ p ≤ r ∧ r ≤ n ∧ i = .int .i64 l ∧ j = .int .i64 r ∧ Below (w.heap.size + 1) (w.alloc (.cells #[.int .i64 x.fr, .int .i64 x.to, .int .i64 x.units] 28)) wr) (fun i j _ => (intOf j - intOf i).toNat)
  case atStart => exact ⟨0, n, Nat.zero_le _, hp, Nat.le_refl _, rfl, rfl, Below.refl _ _⟩
  case round =>
    obtain ⟨l, r, hl, hr, hrn, rfl, rfl, hB⟩ := hrel
    have hBw : Below w.heap.size w wr := ((Below.refl _ w).alloc (Nat.le_refl _) _).trans (hB.mono (by omega))
    have hsz : w.heap.size + 1 ≤ wr.heap.size := by have := hB.size; simpa using this
    have hx0 : wr.cell? ⟨w.heap.size, 0, none⟩ = some (.int .i64 x.fr) := by rw [hB.cell (p := ⟨w.heap.size, 0, none⟩) (by simp)]; go_simp
    have hx1 : wr.cell? ⟨w.heap.size, 1, none⟩ = some (.int .i64 x.to) := by rw [hB.cell (p := ⟨w.heap.size, 1, none⟩) (by simp)]; go_simp
    have hx2 : wr.cell? ⟨w.heap.size, 2, none⟩ = some (.int .i64 x.units) := by rw [hB.cell (p := ⟨w.heap.size, 2, none⟩) (by simp)]; go_simp
    by_cases hlr : l < r
    · go_wp2_with fail
      have em : ((l : Int) + (r : Int)) / 2 = (((l + r) / 2 : Nat) : Int) := by omega
      obtain ⟨m, hm⟩ : ∃ m, m = (l + r) / 2 := ⟨_, rfl⟩
      rw [← hm] at em
      have hm1 : l ≤ m := by omega
      have hm2 : m < r := by omega
      have hmn : m < n := by omega
      rw [em]
      clear em hm
      obtain ⟨b, o, hz, hA, hb, hc0, hc1, hc2⟩ := (h.below hBw).at_ hmn
      have hA : A = some ⟨b, o, none⟩ := hA
      subst hA
      have hpl := HP.out m hz HS.out
      rw [HE.out] at hpl
      generalize ls[m] = y at hc0 hc1 hc2 hpl
      have hcmp : decide (cmpL y.fr y.to x.fr x.to < 0) = decide (m < p) := by rw [← hpl]; rfl
      have HC := Lib.hid hcmp
      clear hcmp hpl
      generalize hcv : cmpL y.fr y.to x.fr x.to = cv at HC
      have HV := Lib.hid hcv
      clear hcv
      refine wp_region_obl 8 (fun ix vals v w1 => match ix with | 0 => v = .func (.func 39) #[] #[] | 1 => v = .slice (some ⟨b, o, none⟩) n c | 2 => v = .int .i64 m | 3 => v = .pointer (some ⟨b, o + m * 3, none⟩) | 4 => v = .agg #[.int .i64 y.fr, .int .i64 y.to, .int .i64 y.units] | 5 => v = .agg #[.int .i64 x.fr, .int .i64 x.to, .int .i64 x.units] | 6 => v = .int .i64 cv | _ => v = .bool (decide (cv < 0))) (by kernel_rfl) (by kernel_rfl) ?_ ?_ ?_ ?_
      · intro ix vals v w1 w2 hi hr hx
        match ix, hr with
        | 0, hr => exact hr
        | 1, hr => exact hr
        | 2, hr => exact hr
        | 3, hr => exact hr
        | 4, hr => exact hr
        | 5, hr => exact hr
        | 6, hr => exact hr
        | (kx + 7), hr => exact hr
      · intro ix vals vals_ v w1 hi hv hr
        exact hr
      · refine ⟨?_, ?_, ?_, ?_, ?_, ?_, ?_, ?_, trivial⟩
        · intro vals w1 hx hd ha
          clear hd ha
          simp only [Lf]
          have c0 := ext_cell hx hc0
          have c1 := ext_cell hx hc1
          have c2 := ext_cell hx hc2
          have d0 := ext_cell hx hx0
          have d1 := ext_cell hx hx1
          have d2 := ext_cell hx hx2
          go_wp2
          exact ⟨rfl, Ext.refl _, rfl⟩
        · intro vals w1 hx hd ha
          clear hd ha
          simp only [Lf, dstAt, Act.put, List.getElem?_toArray, List.getElem?_cons_zero, Option.bind_some, List.setIfInBounds_toArray, List.set_cons_zero, List.set_cons_succ]
          have c0 := ext_cell hx hc0
          have c1 := ext_cell hx hc1
          have c2 := ext_cell hx hc2
          have d0 := ext_cell hx hx0
          have d1 := ext_cell hx hx1
          have d2 := ext_cell hx hx2
          go_wp2
          exact ⟨rfl, Ext.refl _, rfl⟩
        · intro vals w1 hx hd ha
          clear hd ha
          simp only [Lf, dstAt, Act.put, List.getElem?_toArray, List.getElem?_cons_zero, List.getElem?_cons_succ, Option.bind_some, List.setIfInBounds_toArray, List.set_cons_zero, List.set_cons_succ]
          have c0 := ext_cell hx hc0
          have c1 := ext_cell hx hc1
          have c2 := ext_cell hx hc2
          have d0 := ext_cell hx hx0
          have d1 := ext_cell hx hx1
          have d2 := ext_cell hx hx2
          go_wp2
          exact ⟨rfl, Ext.refl _, rfl⟩
        · intro vals w1 hx hd ha
          have e1 : vals 1 = .slice (some ⟨b, o, none⟩) n c := hd 1 (by decide)
          have e2 : vals 2 = .int .i64 m := hd 2 (by decide)
          clear hd ha
          simp only [Lf, dstAt, Act.put, List.getElem?_toArray, List.getElem?_cons_zero, List.getElem?_cons_succ, Option.bind_some, List.setIfInBounds_toArray, List.set_cons_zero, List.set_cons_succ]
          simp only [e1, e2]
          clear e1 e2
          have c0 := ext_cell hx hc0
          have c1 := ext_cell hx hc1
          have c2 := ext_cell hx hc2
          have d0 := ext_cell hx hx0
          have d1 := ext_cell hx hx1
          have d2 := ext_cell hx hx2
          go_wp2
          exact ⟨rfl, Ext.refl _, rfl⟩
        · intro vals w1 hx hd ha
          have e3 : vals 3 = .pointer (some ⟨b, o + m * 3, none⟩) := hd 3 (by decide)
          clear hd ha
          simp only [Lf, dstAt, Act.put, List.getElem?_toArray, List.getElem?_cons_zero, List.getElem?_cons_succ, Option.bind_some, List.setIfInBounds_toArray, List.set_cons_zero, List.set_cons_succ]
          simp only [e3]
          clear e3
          have c0 := ext_cell hx hc0
          have c1 := ext_cell hx hc1
          have c2 := ext_cell hx hc2
          have d0 := ext_cell hx hx0
          have d1 := ext_cell hx hx1
          have d2 := ext_cell hx hx2
          go_wp2
          exact ⟨rfl, Ext.refl _, rfl⟩
        · intro vals w1 hx hd ha
          clear hd ha
          simp only [Lf, dstAt, Act.put, List.getElem?_toArray, List.getElem?_cons_zero, List.getElem?_cons_succ, Option.bind_some, List.setIfInBounds_toArray, List.set_cons_zero, List.set_cons_succ]
          have c0 := ext_cell hx hc0
          have c1 := ext_cell hx hc1
          have c2 := ext_cell hx hc2
          have d0 := ext_cell hx hx0
          have d1 := ext_cell hx hx1
          have d2 := ext_cell hx hx2
          go_wp2
          exact ⟨rfl, Ext.refl _, rfl⟩
        · intro vals w1 hx hd ha
          have e0 : vals 0 = .func (.func 39) #[] #[] := hd 0 (by decide)
          have e4 : vals 4 = .agg #[.int .i64 y.fr, .int .i64 y.to, .int .i64 y.units] := hd 4 (by decide)
          have e5 : vals 5 = .agg #[.int .i64 x.fr, .int .i64 x.to, .int .i64 x.units] := hd 5 (by decide)
          clear hd ha
          simp only [Lf, dstAt, Act.put, List.getElem?_toArray, List.getElem?_cons_zero, List.getElem?_cons_succ, Option.bind_some, List.setIfInBounds_toArray, List.set_cons_zero, List.set_cons_succ]
          have c0 := ext_cell hx hc0
          have c1 := ext_cell hx hc1
          have c2 := ext_cell hx hc2
          have d0 := ext_cell hx hx0
          have d1 := ext_cell hx hx1
          have d2 := ext_cell hx hx2
          simp only [e0]
          simp only [e4]
          simp only [e5]
          clear e0 e4 e5
          go_wp2_with fail
          refine (order_any _ _ _ _ _ _ _).mono ?_
          rintro e w2 ⟨rfl, hb2⟩
          rw [HV.out]
          go_wp2
          exact ⟨rfl, hb2, rfl⟩
        · intro vals w1 hx hd ha
          have e6 : vals 6 = .int .i64 cv := hd 6 (by decide)
          clear hd ha
          simp only [Lf, dstAt, Act.put, List.getElem?_toArray, List.getElem?_cons_zero, List.getElem?_cons_succ, Option.bind_some, List.setIfInBounds_toArray, List.set_cons_zero, List.set_cons_succ]
          simp only [e6]
          clear e6
          have c0 := ext_cell hx hc0
          have c1 := ext_cell hx hc1
          have c2 := ext_cell hx hc2
          have d0 := ext_cell hx hx0
          have d1 := ext_cell hx hx1
          have d2 := ext_cell hx hx2
          go_wp2
          exact ⟨rfl, Ext.refl _, rfl⟩
      intro vals w1 hx hf
      have e7 : vals 7 = .bool (decide (cv < 0)) := hf 7 (by omega)
      clear hf
      refine tail0 (by kernel_rfl) ?_
      simp only [Lf, dstAt, Act.put, List.getElem?_toArray, List.getElem?_cons_zero, List.getElem?_cons_succ, Option.bind_some, List.setIfInBounds_toArray, List.set_cons_zero, List.set_cons_succ]
      rw [e7, HC.out]
      clear e7
      have hB1 : Below (w.heap.size + 1) (w.alloc (.cells #[.int .i64 x.fr, .int .i64 x.to, .int .i64 x.units] 28)) w1 := hB.trans (Below.mono hx.undrew hsz)
      by_cases hmp : m < p
      · have hd : decide (m < p) = true := by simp [hmp]
        rw [hd]
        go_wp2
        go_roundw
        case rel => exact ⟨m + 1, r, by omega, hr, hrn, by go_num, rfl, hB1⟩
        case measure => simp [intOf]; omega
      · have hd : decide (m < p) = false := by simp [hmp]
        rw [hd]
        go_wp2
        go_roundw
        case rel => exact ⟨l, m, hl, by omega, by omega, rfl, rfl, hB1⟩
        case measure => simp [intOf]; omega
    · obtain rfl : l = p := by omega
      obtain rfl : r = l := by omega
      have hff : foundL ls x = (ls[r]?.map (fun y => keyB y x)).getD false := by unfold foundL; rw [HE.out]
      by_cases hln : r < n
      · obtain ⟨b, o, hz, hA, hb, hc0, hc1, hc2⟩ := (h.below hBw).at_ hln
        have hA : A = some ⟨b, o, none⟩ := hA
        subst hA
        rw [List.getElem?_eq_getElem hz] at hff
        generalize ls[r] = y at hc0 hc1 hc2 hff
        have hff : foundL ls x = (cmpL y.fr y.to x.fr x.to == 0) := by
          rw [hff, Option.map_some, Option.getD_some]
          rw [Bool.eq_iff_iff]
          simp [keyB, cmpL_zero]
        generalize hcv : cmpL y.fr y.to x.fr x.to = cv at hff
        have HV := Lib.hid hcv
        have HF := Lib.hid hff
        clear hcv hff hr hl
        go_wp2_with fail
        refine wp_region_obl 15 (fun ix vals v w1 => match ix with | 0 => v = .int .i64 r | 1 => v = .int .i64 r | 2 => v = .int .i64 n | 3 => v = .bool true | 4 => v = .bool true | 5 => v = .func (.func 39) #[] #[] | 6 => v = .slice (some ⟨b, o, none⟩) n c | 7 => v = .int .i64 r | 8 => v = .pointer (some ⟨b, o + r * 3, none⟩) | 9 => v = .agg #[.int .i64 y.fr, .int .i64 y.to, .int .i64 y.units] | 10 => v = .agg #[.int .i64 x.fr, .int .i64 x.to, .int .i64 x.units] | 11 => v = .int .i64 cv | 12 => v = .bool (cv == 0) | 13 => v = .bool (cv == 0) | _ => v = .int .i64 r) (by kernel_rfl) (by kernel_rfl) ?_ ?_ ?_ ?_
        · intro ix vals v w1 w2 hi hr hx
          match ix, hr with
          | 0, hr => exact hr
          | 1, hr => exact hr
          | 2, hr => exact hr
          | 3, hr => exact hr
          | 4, hr => exact hr
          | 5, hr => exact hr
          | 6, hr => exact hr
          | 7, hr => exact hr
          | 8, hr => exact hr
          | 9, hr => exact hr
          | 10, hr => exact hr
          | 11, hr => exact hr
          | 12, hr => exact hr
          | 13, hr => exact hr
          | (kx + 14), hr => exact hr
        · intro ix vals vals_ v w1 hi hv hr
          exact hr
        · refine ⟨?_, ?_, ?_, ?_, ?_, ?_, ?_, ?_, ?_, ?_, ?_, ?_, ?_, ?_, ?_, trivial⟩
          · intro vals w1 hx hd ha
            clear hd ha
            simp only [Lf]
            have c0 := ext_cell hx hc0
            have c1 := ext_cell hx hc1
            have c2 := ext_cell hx hc2
            have d0 := ext_cell hx hx0
            have d1 := ext_cell hx hx1
            have d2 := ext_cell hx hx2
            go_wp2
            exact ⟨rfl, Ext.refl _, rfl⟩
          · intro vals w1 hx hd ha
            clear hd ha
            simp only [Lf, dstAt, Act.put, List.getElem?_toArray, List.getElem?_cons_zero, Option.bind_some, List.setIfInBounds_toArray, List.set_cons_zero, List.set_cons_succ]
            have c0 := ext_cell hx hc0
            have c1 := ext_cell hx hc1
            have c2 := ext_cell hx hc2
            have d0 := ext_cell hx hx0
            have d1 := ext_cell hx hx1
            have d2 := ext_cell hx hx2
            go_wp2
            exact ⟨rfl, Ext.refl _, rfl⟩
          · intro vals w1 hx hd ha
            clear hd ha
            simp only [Lf, dstAt, Act.put, List.getElem?_toArray, List.getElem?_cons_zero, List.getElem?_cons_succ, Option.bind_some, List.setIfInBounds_toArray, List.set_cons_zero, List.set_cons_succ]
            have c0 := ext_cell hx hc0
            have c1 := ext_cell hx hc1
            have c2 := ext_cell hx hc2
            have d0 := ext_cell hx hx0
            have d1 := ext_cell hx hx1
            have d2 := ext_cell hx hx2
            go_wp2
            exact ⟨rfl, Ext.refl _, rfl⟩
          · intro vals w1 hx hd ha
            have e1 : vals 1 = .int .i64 r := hd 1 (by decide)
            have e2 : vals 2 = .int .i64 n := hd 2 (by decide)
            clear hd ha
            simp only [Lf, dstAt, Act.put, List.getElem?_toArray, List.getElem?_cons_zero, List.getElem?_cons_succ, Option.bind_some, List.setIfInBounds_toArray, List.set_cons_zero, List.set_cons_succ]
            simp only [e1, e2]
            clear e1 e2
            have c0 := ext_cell hx hc0
            have c1 := ext_cell hx hc1
            have c2 := ext_cell hx hc2
            have d0 := ext_cell hx hx0
            have d1 := ext_cell hx hx1
            have d2 := ext_cell hx hx2
            go_wp2
            exact ⟨rfl, Ext.refl _, rfl⟩
          · intro vals w1 hx hd ha
            have e3 : vals 3 = .bool true := hd 3 (by decide)
            clear hd ha
            simp only [Lf, dstAt, Act.put, List.getElem?_toArray, List.getElem?_cons_zero, List.getElem?_cons_succ, Option.bind_some, List.setIfInBounds_toArray, List.set_cons_zero, List.set_cons_succ]
            simp only [e3]
            clear e3
            have c0 := ext_cell hx hc0
            have c1 := ext_cell hx hc1
            have c2 := ext_cell hx hc2
            have d0 := ext_cell hx hx0
            have d1 := ext_cell hx hx1
            have d2 := ext_cell hx hx2
            go_wp2
            exact ⟨rfl, Ext.refl _, rfl⟩
          · intro vals w1 hx hd ha
            have e4 : vals 4 = .bool true := hd 4 (by decide)
            clear hd ha
            simp only [Lf, dstAt, Act.put, List.getElem?_toArray, List.getElem?_cons_zero, List.getElem?_cons_succ, Option.bind_some, List.setIfInBounds_toArray, List.set_cons_zero, List.set_cons_succ]
            simp only [e4]
            clear e4
            have c0 := ext_cell hx hc0
            have c1 := ext_cell hx hc1
            have c2 := ext_cell hx hc2
            have d0 := ext_cell hx hx0
            have d1 := ext_cell hx hx1
            have d2 := ext_cell hx hx2
            go_wp2
            exact ⟨rfl, Ext.refl _, rfl⟩
          · intro vals w1 hx hd ha
            have e4 : vals 4 = .bool true := hd 4 (by decide)
            clear hd ha
            simp only [Lf, dstAt, Act.put, List.getElem?_toArray, List.getElem?_cons_zero, List.getElem?_cons_succ, Option.bind_some, List.setIfInBounds_toArray, List.set_cons_zero, List.set_cons_succ]
            simp only [e4]
            clear e4
            have c0 := ext_cell hx hc0
            have c1 := ext_cell hx hc1
            have c2 := ext_cell hx hc2
            have d0 := ext_cell hx hx0
            have d1 := ext_cell hx hx1
            have d2 := ext_cell hx hx2
            go_wp2
            exact ⟨rfl, Ext.refl _, rfl⟩
          · intro vals w1 hx hd ha
            have e4 : vals 4 = .bool true := hd 4 (by decide)
            clear hd ha
            simp only [Lf, dstAt, Act.put, List.getElem?_toArray, List.getElem?_cons_zero, List.getElem?_cons_succ, Option.bind_some, List.setIfInBounds_toArray, List.set_cons_zero, List.set_cons_succ]
            simp only [e4]
            clear e4
            have c0 := ext_cell hx hc0
            have c1 := ext_cell hx hc1
            have c2 := ext_cell hx hc2
            have d0 := ext_cell hx hx0
            have d1 := ext_cell hx hx1
            have d2 := ext_cell hx hx2
            go_wp2
            exact ⟨rfl, Ext.refl _, rfl⟩
          · intro vals w1 hx hd ha
            have e4 : vals 4 = .bool true := hd 4 (by decide)
            have e6 : vals 6 = .slice (some ⟨b, o, none⟩) n c := hd 6 (by decide)
            have e7 : vals 7 = .int .i64 r := hd 7 (by decide)
            clear hd ha
            simp only [Lf, dstAt, Act.put, List.getElem?_toArray, List.getElem?_cons_zero, List.getElem?_cons_succ, Option.bind_some, List.setIfInBounds_toArray, List.set_cons_zero, List.set_cons_succ]
            simp only [e4, e6, e7]
            clear e4 e6 e7
            have c0 := ext_cell hx hc0
            have c1 := ext_cell hx hc1
            have c2 := ext_cell hx hc2
            have d0 := ext_cell hx hx0
            have d1 := ext_cell hx hx1
            have d2 := ext_cell hx hx2
            go_wp2
            exact ⟨rfl, Ext.refl _, rfl⟩
          · intro vals w1 hx hd ha
            have e4 : vals 4 = .bool true := hd 4 (by decide)
            have e8 : vals 8 = .pointer (some ⟨b, o + r * 3, none⟩) := hd 8 (by decide)
            clear hd ha
            simp only [Lf, dstAt, Act.put, List.getElem?_toArray, List.getElem?_cons_zero, List.getElem?_cons_succ, Option.bind_some, List.setIfInBounds_toArray, List.set_cons_zero, List.set_cons_succ]
            simp only [e4, e8]
            clear e4 e8
            have c0 := ext_cell hx hc0
            have c1 := ext_cell hx hc1
            have c2 := ext_cell hx hc2
            have d0 := ext_cell hx hx0
            have d1 := ext_cell hx hx1
            have d2 := ext_cell hx hx2
            go_wp2
            exact ⟨rfl, Ext.refl _, rfl⟩
          · intro vals w1 hx hd ha
            have e4 : vals 4 = .bool true := hd 4 (by decide)
            clear hd ha
            simp only [Lf, dstAt, Act.put, List.getElem?_toArray, List.getElem?_cons_zero, List.getElem?_cons_succ, Option.bind_some, List.setIfInBounds_toArray, List.set_cons_zero, List.set_cons_succ]
            simp only [e4]
            clear e4
            have c0 := ext_cell hx hc0
            have c1 := ext_cell hx hc1
            have c2 := ext_cell hx hc2
            have d0 := ext_cell hx hx0
            have d1 := ext_cell hx hx1
            have d2 := ext_cell hx hx2
            go_wp2
            exact ⟨rfl, Ext.refl _, rfl⟩
          · intro vals w1 hx hd ha
            have e4 : vals 4 = .bool true := hd 4 (by decide)
            have e5 : vals 5 = .func (.func 39) #[] #[] := hd 5 (by decide)
            have e9 : vals 9 = .agg #[.int .i64 y.fr, .int .i64 y.to, .int .i64 y.units] := hd 9 (by decide)
            have e10 : vals 10 = .agg #[.int .i64 x.fr, .int .i64 x.to, .int .i64 x.units] := hd 10 (by decide)
            clear hd ha
            simp only [Lf, dstAt, Act.put, List.getElem?_toArray, List.getElem?_cons_zero, List.getElem?_cons_succ, Option.bind_some, List.setIfInBounds_toArray, List.set_cons_zero, List.set_cons_succ]
            have c0 := ext_cell hx hc0
            have c1 := ext_cell hx hc1
            have c2 := ext_cell hx hc2
            have d0 := ext_cell hx hx0
            have d1 := ext_cell hx hx1
            have d2 := ext_cell hx hx2
            simp only [e4]
            simp only [e5]
            simp only [e9]
            simp only [e10]
            clear e4 e5 e9 e10
            go_wp2_with fail
            refine (order_any _ _ _ _ _ _ _).mono ?_
            rintro e w2 ⟨rfl, hb2⟩
            rw [HV.out]
            go_wp2
            exact ⟨rfl, hb2, rfl⟩
          · intro vals w1 hx hd ha
            have e4 : vals 4 = .bool true := hd 4 (by decide)
            have e11 : vals 11 = .int .i64 cv := hd 11 (by decide)
            clear hd ha
            simp only [Lf, dstAt, Act.put, List.getElem?_toArray, List.getElem?_cons_zero, List.getElem?_cons_succ, Option.bind_some, List.setIfInBounds_toArray, List.set_cons_zero, List.set_cons_succ]
            simp only [e4, e11]
            clear e4 e11
            have c0 := ext_cell hx hc0
            have c1 := ext_cell hx hc1
            have c2 := ext_cell hx hc2
            have d0 := ext_cell hx hx0
            have d1 := ext_cell hx hx1
            have d2 := ext_cell hx hx2
            go_wp2
            exact ⟨rfl, Ext.refl _, rfl⟩
          · intro vals w1 hx hd ha
            have e4 : vals 4 = .bool true := hd 4 (by decide)
            have e12 : vals 12 = .bool (cv == 0) := hd 12 (by decide)
            clear hd ha
            simp only [Lf, dstAt, Act.put, List.getElem?_toArray, List.getElem?_cons_zero, List.getElem?_cons_succ, Option.bind_some, List.setIfInBounds_toArray, List.set_cons_zero, List.set_cons_succ]
            simp only [e4, e12]
            clear e4 e12
            have c0 := ext_cell hx hc0
            have c1 := ext_cell hx hc1
            have c2 := ext_cell hx hc2
            have d0 := ext_cell hx hx0
            have d1 := ext_cell hx hx1
            have d2 := ext_cell hx hx2
            go_wp2
            exact ⟨rfl, Ext.refl _, rfl⟩
          · intro vals w1 hx hd ha
            have e0 : vals 0 = .int .i64 r := hd 0 (by decide)
            have e11 : vals 11 = .int .i64 cv := hd 11 (by decide)
            clear hd ha
            simp only [Lf, dstAt, Act.put, List.getElem?_toArray, List.getElem?_cons_zero, List.getElem?_cons_succ, Option.bind_some, List.setIfInBounds_toArray, List.set_cons_zero, List.set_cons_succ]
            simp only [e0, e11]
            clear e0 e11
            have c0 := ext_cell hx hc0
            have c1 := ext_cell hx hc1
            have c2 := ext_cell hx hc2
            have d0 := ext_cell hx hx0
            have d1 := ext_cell hx hx1
            have d2 := ext_cell hx hx2
            go_wp2
            exact ⟨rfl, Ext.refl _, rfl⟩
        intro vals w1 hx hf
        have e0 : vals 14 = .int .i64 r := hf 14 (by omega)
        have e13 : vals 13 = .bool (cv == 0) := hf 13 (by omega)
        clear hf
        have hB1 : Below w.heap.size w w1 := hBw.trans (Below.mono hx.undrew (by omega))
        refine tail1 15 _ (by kernel_rfl) (by kernel_rfl) rfl ?_
        simp only [Lf, dstAt, Act.put, List.getElem?_toArray, List.getElem?_cons_zero, List.getElem?_cons_succ, Option.bind_some, List.setIfInBounds_toArray, List.set_cons_zero, List.set_cons_succ]
        rw [e0, e13]
        go_wp2
        go_ret2
        exact ⟨by rw [HF.out]; rfl, hB1⟩
      · rw [List.getElem?_eq_none (by rw [HL.out]; omega)] at hff
        have HF := Lib.hid hff
        clear hff hr hl
        go_wp2_with fail
        refine wp_region_obl 15 (fun ix vals v w1 => match ix with | 0 => v = .int .i64 r | 1 => v = .int .i64 r | 2 => v = .int .i64 n | 3 => v = .bool false | 4 => v = .bool false | 5 => v = undef | 6 => v = undef | 7 => v = undef | 8 => v = undef | 9 => v = undef | 10 => v = undef | 11 => v = undef | 12 => v = undef | 13 => v = .bool false | _ => v = .int .i64 r) (by kernel_rfl) (by kernel_rfl) ?_ ?_ ?_ ?_
        · intro ix vals v w1 w2 hi hr hx
          match ix, hr with
          | 0, hr => exact hr
          | 1, hr => exact hr
          | 2, hr => exact hr
          | 3, hr => exact hr
          | 4, hr => exact hr
          | 5, hr => exact hr
          | 6, hr => exact hr
          | 7, hr => exact hr
          | 8, hr => exact hr
          | 9, hr => exact hr
          | 10, hr => exact hr
          | 11, hr => exact hr
          | 12, hr => exact hr
          | 13, hr => exact hr
          | (kx + 14), hr => exact hr
        · intro ix vals vals_ v w1 hi hv hr
          exact hr
        · refine ⟨?_, ?_, ?_, ?_, ?_, ?_, ?_, ?_, ?_, ?_, ?_, ?_, ?_, ?_, ?_, trivial⟩
          · intro vals w1 hx hd ha
            clear hd ha
            simp only [Lf]
            go_wp2
            exact ⟨rfl, Ext.refl _, rfl⟩
          · intro vals w1 hx hd ha
            clear hd ha
            simp only [Lf, dstAt, Act.put, List.getElem?_toArray, List.getElem?_cons_zero, Option.bind_some, List.setIfInBounds_toArray, List.set_cons_zero, List.set_cons_succ]
            go_wp2
            exact ⟨rfl, Ext.refl _, rfl⟩
          · intro vals w1 hx hd ha
            clear hd ha
            simp only [Lf, dstAt, Act.put, List.getElem?_toArray, List.getElem?_cons_zero, List.getElem?_cons_succ, Option.bind_some, List.setIfInBounds_toArray, List.set_cons_zero, List.set_cons_succ]
            go_wp2
            exact ⟨rfl, Ext.refl _, rfl⟩
          · intro vals w1 hx hd ha
            have e1 : vals 1 = .int .i64 r := hd 1 (by decide)
            have e2 : vals 2 = .int .i64 n := hd 2 (by decide)
            clear hd ha
            simp only [Lf, dstAt, Act.put, List.getElem?_toArray, List.getElem?_cons_zero, List.getElem?_cons_succ, Option.bind_some, List.setIfInBounds_toArray, List.set_cons_zero, List.set_cons_succ]
            simp only [e1, e2]
            clear e1 e2
            go_wp2
            exact ⟨rfl, Ext.refl _, rfl⟩
          · intro vals w1 hx hd ha
            have e3 : vals 3 = .bool false := hd 3 (by decide)
            clear hd ha
            simp only [Lf, dstAt, Act.put, List.getElem?_toArray, List.getElem?_cons_zero, List.getElem?_cons_succ, Option.bind_some, List.setIfInBounds_toArray, List.set_cons_zero, List.set_cons_succ]
            simp only [e3]
            clear e3
            go_wp2
            exact ⟨rfl, Ext.refl _, rfl⟩
          · intro vals w1 hx hd ha
            have e4 : vals 4 = .bool false := hd 4 (by decide)
            clear hd ha
            simp only [Lf, dstAt, Act.put, List.getElem?_toArray, List.getElem?_cons_zero, List.getElem?_cons_succ, Option.bind_some, List.setIfInBounds_toArray, List.set_cons_zero, List.set_cons_succ]
            simp only [e4]
            clear e4
            go_wp2
            exact ⟨rfl, Ext.refl _, rfl⟩
          · intro vals w1 hx hd ha
            have e4 : vals 4 = .bool false := hd 4 (by decide)
            clear hd ha
            simp only [Lf, dstAt, Act.put, List.getElem?_toArray, List.getElem?_cons_zero, List.getElem?_cons_succ, Option.bind_some, List.setIfInBounds_toArray, List.set_cons_zero, List.set_cons_succ]
            simp only [e4]
            clear e4
            go_wp2
            exact ⟨rfl, Ext.refl _, rfl⟩
          · intro vals w1 hx hd ha
            have e4 : vals 4 = .bool false := hd 4 (by decide)
            clear hd ha
            simp only [Lf, dstAt, Act.put, List.getElem?_toArray, List.getElem?_cons_zero, List.getElem?_cons_succ, Option.bind_some, List.setIfInBounds_toArray, List.set_cons_zero, List.set_cons_succ]
            simp only [e4]
            clear e4
            go_wp2
            exact ⟨rfl, Ext.refl _, rfl⟩
          · intro vals w1 hx hd ha
            have e4 : vals 4 = .bool false := hd 4 (by decide)
            have e6 : vals 6 = undef := hd 6 (by decide)
            have e7 : vals 7 = undef := hd 7 (by decide)
            clear hd ha
            simp only [Lf, dstAt, Act.put, List.getElem?_toArray, List.getElem?_cons_zero, List.getElem?_cons_succ, Option.bind_some, List.setIfInBounds_toArray, List.set_cons_zero, List.set_cons_succ]
            simp only [e4, e6, e7]
            clear e4 e6 e7
            go_wp2
            exact ⟨rfl, Ext.refl _, rfl⟩
          · intro vals w1 hx hd ha
            have e4 : vals 4 = .bool false := hd 4 (by decide)
            have e8 : vals 8 = undef := hd 8 (by decide)
            clear hd ha
            simp only [Lf, dstAt, Act.put, List.getElem?_toArray, List.getElem?_cons_zero, List.getElem?_cons_succ, Option.bind_some, List.setIfInBounds_toArray, List.set_cons_zero, List.set_cons_succ]
            simp only [e4, e8]
            clear e4 e8
            go_wp2
            exact ⟨rfl, Ext.refl _, rfl⟩
          · intro vals w1 hx hd ha
            have e4 : vals 4 = .bool false := hd 4 (by decide)
            clear hd ha
            simp only [Lf, dstAt, Act.put, List.getElem?_toArray, List.getElem?_cons_zero, List.getElem?_cons_succ, Option.bind_some, List.setIfInBounds_toArray, List.set_cons_zero, List.set_cons_succ]
            simp only [e4]
            clear e4
            go_wp2
            exact ⟨rfl, Ext.refl _, rfl⟩
          · intro vals w1 hx hd ha
            have e4 : vals 4 = .bool false := hd 4 (by decide)
            have e5 : vals 5 = undef := hd 5 (by decide)
            have e9 : vals 9 = undef := hd 9 (by decide)
            have e10 : vals 10 = undef := hd 10 (by decide)
            clear hd ha
            simp only [Lf, dstAt, Act.put, List.getElem?_toArray, List.getElem?_cons_zero, List.getElem?_cons_succ, Option.bind_some, List.setIfInBounds_toArray, List.set_cons_zero, List.set_cons_succ]
            simp only [e4, e5, e9, e10]
            clear e4 e5 e9 e10
            go_wp2
            exact ⟨rfl, Ext.refl _, rfl⟩
          · intro vals w1 hx hd ha
            have e4 : vals 4 = .bool false := hd 4 (by decide)
            have e11 : vals 11 = undef := hd 11 (by decide)
            clear hd ha
            simp only [Lf, dstAt, Act.put, List.getElem?_toArray, List.getElem?_cons_zero, List.getElem?_cons_succ, Option.bind_some, List.setIfInBounds_toArray, List.set_cons_zero, List.set_cons_succ]
            simp only [e4, e11]
            clear e4 e11
            go_wp2
            exact ⟨rfl, Ext.refl _, rfl⟩
          · intro vals w1 hx hd ha
            have e4 : vals 4 = .bool false := hd 4 (by decide)
            have e12 : vals 12 = undef := hd 12 (by decide)
            clear hd ha
            simp only [Lf, dstAt, Act.put, List.getElem?_toArray, List.getElem?_cons_zero, List.getElem?_cons_succ, Option.bind_some, List.setIfInBounds_toArray, List.set_cons_zero, List.set_cons_succ]
            simp only [e4, e12]
            clear e4 e12
            go_wp2
            exact ⟨rfl, Ext.refl _, rfl⟩
          · intro vals w1 hx hd ha
            have e0 : vals 0 = .int .i64 r := hd 0 (by decide)
            have e11 : vals 11 = undef := hd 11 (by decide)
            clear hd ha
            simp only [Lf, dstAt, Act.put, List.getElem?_toArray, List.getElem?_cons_zero, List.getElem?_cons_succ, Option.bind_some, List.setIfInBounds_toArray, List.set_cons_zero, List.set_cons_succ]
            simp only [e0, e11]
            clear e0 e11
            go_wp2
            exact ⟨rfl, Ext.refl _, rfl⟩
        intro vals w1 hx hf
        have e0 : vals 14 = .int .i64 r := hf 14 (by omega)
        have e13 : vals 13 = .bool false := hf 13 (by omega)
        clear hf
        have hB1 : Below w.heap.size w w1 := hBw.trans (Below.mono hx.undrew (by omega))
        refine tail1 15 _ (by kernel_rfl) (by kernel_rfl) rfl ?_
        simp only [Lf, dstAt, Act.put, List.getElem?_toArray, List.getElem?_cons_zero, List.getElem?_cons_succ, Option.bind_some, List.setIfInBounds_toArray, List.set_cons_zero, List.set_cons_succ]
        rw [e0, e13]
        go_wp2
        go_ret2
        exact ⟨by rw [HF.out]; rfl, hB1⟩

end Go.Proofs.Ytpddnkefggaigaa
