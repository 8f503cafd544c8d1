/- The reference: Formed, Meet, Valid. -/
import Derived.Test.YtgbfhkildbhhoaaR1
import Derived.Test.YtgbfhkildbhhoaaA5
namespace Go.Proofs.Ytgbfhkildbhhoaa
open Go.RowKit

set_option maxHeartbeats 1000000 in
theorem rformed_any (s a b : Int) (w : World) : Calls Try.prog 51 #[.agg #[.int .i64 s, .int .i64 a, .int .i64 b]] w fun e w' => e = .returned (.bool (formedP ⟨s, a, b⟩)) ∧ Below w.heap.size w w' := by
  have hb : formedP ⟨s, a, b⟩ = (decide (0 ≤ s) && decide (s ≤ 23) && decide (0 ≤ a) && decide (a < b) && decide (b ≤ 1000001)) := by unfold formedP; simp
  rw [hb]
  clear hb
  by_cases h0 : 0 ≤ s
  · by_cases h1 : s ≤ 23
    · by_cases h2 : 0 ≤ a
      · by_cases h3 : a < b
        · go_enter Try.func51, Try.ntmps51
          go_wp2
          go_ret
          exact ⟨by simp [h0, h1, h2, h3], (by repeat (first | exact Below.refl _ _ | assumption | refine Below.drew ?_ | refine below_drewN ?_ _ | refine bl_alloc ?_ _ | refine Below.setCell ?_ (by first | (simp; done) | omega | (simp; omega)) _ | refine bl_then ?_ (by assumption)))⟩
        · go_enter Try.func51, Try.ntmps51
          go_wp2
          go_ret
          exact ⟨by simp; omega, (by repeat (first | exact Below.refl _ _ | assumption | refine Below.drew ?_ | refine below_drewN ?_ _ | refine bl_alloc ?_ _ | refine Below.setCell ?_ (by first | (simp; done) | omega | (simp; omega)) _ | refine bl_then ?_ (by assumption)))⟩
      · go_enter Try.func51, Try.ntmps51
        go_wp2
        go_ret
        exact ⟨by simp; omega, (by repeat (first | exact Below.refl _ _ | assumption | refine Below.drew ?_ | refine below_drewN ?_ _ | refine bl_alloc ?_ _ | refine Below.setCell ?_ (by first | (simp; done) | omega | (simp; omega)) _ | refine bl_then ?_ (by assumption)))⟩
    · go_enter Try.func51, Try.ntmps51
      go_wp2
      go_ret
      exact ⟨by simp; omega, (by repeat (first | exact Below.refl _ _ | assumption | refine Below.drew ?_ | refine below_drewN ?_ _ | refine bl_alloc ?_ _ | refine Below.setCell ?_ (by first | (simp; done) | omega | (simp; omega)) _ | refine bl_then ?_ (by assumption)))⟩
  · go_enter Try.func51, Try.ntmps51
    go_wp2
    go_ret
    exact ⟨by simp; omega, (by repeat (first | exact Below.refl _ _ | assumption | refine Below.drew ?_ | refine below_drewN ?_ _ | refine bl_alloc ?_ _ | refine Below.setCell ?_ (by first | (simp; done) | omega | (simp; omega)) _ | refine bl_then ?_ (by assumption)))⟩
theorem rmeet_any (a b c d : Int) (hab : a < b) (hcd : c < d) (w : World) : Calls Try.prog 52 #[.agg #[.int .i64 a, .int .i64 b], .agg #[.int .i64 c, .int .i64 d]] w fun e w' => e = .returned (.bool (meetP ⟨a, b⟩ ⟨c, d⟩)) ∧ Below w.heap.size w w' := by
  obtain ⟨q, hq⟩ : ∃ q, q = meetP ⟨a, b⟩ ⟨c, d⟩ := ⟨_, rfl⟩
  rw [← hq]
  have HQ := Lib.hid hq
  clear hq
  go_enter Try.func52, Try.ntmps52
  go_wp2
  all_goals (
    go_ret
    refine ⟨?_, (by repeat (first | exact Below.refl _ _ | assumption | refine Below.drew ?_ | refine below_drewN ?_ _ | refine bl_alloc ?_ _ | refine Below.setCell ?_ (by first | (simp; done) | omega | (simp; omega)) _ | refine bl_then ?_ (by assumption)))⟩
    refine (show ∀ x : Bool, x = q → Ending.returned (.bool x) = .returned (.bool q) from fun x h => by rw [h]) _ ?_
    rw [HQ.out]
    unfold meetP
    rw [Bool.eq_iff_iff]
    simp
    omega)
theorem validR_snd (p : List Use) (u : Use) (h : addsP p u = false) (r : List Use) : validR p (u :: r) = false := by rw [validR, h]; rfl
theorem any_step (q : Use → Bool) (l : List Use) (i k : Nat) (hk : k < i) (hl : k < l.length) : ((l.take i).drop k).any q = (q l[k] || ((l.take i).drop (k + 1)).any q) := by
  have h1 : k < (l.take i).length := by rw [List.length_take]; omega
  rw [List.drop_eq_getElem_cons h1, List.any_cons]
  simp
set_option maxRecDepth 100000 in
set_option maxHeartbeats 4000000 in
theorem rvalid_any (l : List Use) (SA : Option Addr) (n c : Nat) (w : World) (hr : RA useCells 3 w w.heap.size SA n c l) :
    Calls Try.prog 19 #[.slice SA n c] w fun e w' => e = .returned (.bool (validU l)) ∧ Below w.heap.size w w' := by
  have HR := Lib.hid hr
  have HL := Lib.hid hr.len
  have hle := hr.le
  have hv : validU l = (decide (n ≤ 64) && validR [] l) := by rw [validU, hr.len]
  rw [hv]
  clear hv hr
  by_cases h64 : n ≤ 64
  · rw [decide_eq_true h64, Bool.true_and]
    obtain ⟨vr, hvr⟩ : ∃ b, b = validR [] l := ⟨_, rfl⟩
    rw [← hvr]
    have HV0 : Hid (vr = validR (l.take 0) (l.drop 0)) := Lib.hid hvr
    clear hvr
    go_enter Try.func19, Try.ntmps19
    go_wp2
    go_loopw [3] (fun y wr => ∃ i : Nat, i ≤ n ∧ y = .int .i64 i ∧ Hid (vr = validR (l.take i) (l.drop i)) ∧ Hid (∀ u ∈ l.take i, u.fr < u.tt) ∧ Ext w wr) (fun y _ => n - (intOf y).toNat)
    case atStart => exact ⟨0, Nat.zero_le _, rfl, HV0, Lib.hid (fun u hu => by simp at hu), Ext.refl _⟩
    case round =>
      clear HV0
      obtain ⟨i, hi, rfl, HV, HF, hx⟩ := hrel
      by_cases hin : i < n
      · obtain ⟨b, o, hz, hA, _, hc⟩ := (HR.out.below hx).at_ use_len hin
        have hst := validR_drop l i hz
        rw [← HV.out] at hst
        have htk : l.take (i + 1) = l.take i ++ [l[i]] := List.take_succ_eq_append_getElem hz
        have c0 : wr.cell? ⟨b, o + i * 3, none⟩ = some (.int .i64 l[i].sat) := hc 0 (by omega)
        have c1 : wr.cell? ⟨b, o + i * 3 + 1, none⟩ = some (.int .i64 l[i].fr) := hc 1 (by omega)
        have c2 : wr.cell? ⟨b, o + i * 3 + 2, none⟩ = some (.int .i64 l[i].tt) := hc 2 (by omega)
        generalize l[i] = u at hst htk c0 c1 c2
        obtain ⟨us, uf, ut⟩ := u
        dsimp only at c0 c1 c2
        have hfo := fun W => rformed_any us uf ut W
        have hff : formedP ⟨us, uf, ut⟩ = true → uf < ut := fun h => by unfold formedP at h; simp at h; omega
        have hadd : addsP (l.take i) ⟨us, uf, ut⟩ = (formedP ⟨us, uf, ut⟩ && !((l.take i).any fun v => decide (v.sat = us) && meetP v.spl ⟨uf, ut⟩)) := rfl
        rw [hadd] at hst
        generalize formedP ⟨us, uf, ut⟩ = q1 at hst hfo hff
        have HFO := Lib.hid hfo
        have HST := Lib.hid hst
        have HTK := Lib.hid htk
        subst hA
        clear hst htk hadd hfo hz HV hc
        cases q1
        · have HVF : Hid (vr = false) := Lib.hid (by rw [HST.out]; rfl)
          clear HST hff
          go_wp2_with (fail)
          refine (HFO.out _).mono ?_
          rintro e W2 ⟨rfl, hy⟩
          have hx := Ext.trans hx hy
          go_wp2
          go_ret
          exact ⟨by rw [HVF.out]; rfl, hx⟩
        · have huf : uf < ut := hff rfl
          have hs := HST.out
          rw [Bool.true_and] at hs
          obtain ⟨rest, hrest⟩ : ∃ r, r = validR (l.take (i + 1)) (l.drop (i + 1)) := ⟨_, rfl⟩
          rw [← hrest] at hs
          have HREST := Lib.hid hrest
          obtain ⟨q, hq⟩ : ∃ q : Use → Bool, q = (fun v => decide (v.sat = us) && meetP v.spl ⟨uf, ut⟩) := ⟨_, rfl⟩
          rw [← hq] at hs
          have HI0 : Hid (vr = (!(((l.take i).drop 0).any q) && rest)) := Lib.hid hs
          have HQ := Lib.hid hq
          have HF2 : Hid (∀ u ∈ l.take (i + 1), u.fr < u.tt) := Lib.hid (fun u hu => by
            rw [HTK.out] at hu
            rcases List.mem_append.1 hu with hu | hu
            · exact HF.out u hu
            · rw [List.mem_singleton.1 hu]; exact huf)
          clear hs hrest hq HST hff HTK
          go_wp2_with (fail)
          refine (HFO.out _).mono ?_
          rintro e W2 ⟨rfl, hy⟩
          have hx2 := Ext.trans hx hy
          have c0 := ext_cell hy c0
          have c1 := ext_cell hy c1
          have c2 := ext_cell hy c2
          have HC0 := Lib.hid c0
          have HC1 := Lib.hid c1
          have HC2 := Lib.hid c2
          clear hx hy HFO c0 c1 c2
          go_wp2_with (fail)
          go_loopw [4] (fun y wi => ∃ k : Nat, k ≤ i ∧ y = .int .i64 k ∧ Hid (vr = (!(((l.take i).drop k).any q) && rest)) ∧ Hid (Ext W2 wi)) (fun y _ => i - (intOf y).toNat)
          case atStart => exact ⟨0, Nat.zero_le _, rfl, HI0, Lib.hid (Ext.refl _)⟩
          case round =>
            clear HI0
            obtain ⟨k, hk, rfl, HI, hx3⟩ := hrel
            have hx := Ext.trans hx2 hx3.out
            by_cases hki : k < i
            · obtain ⟨b6, o6, hz6, hA6, _, hc6⟩ := (HR.out.below hx).at_ use_len (show k < n by omega)
              injection hA6 with hA6
              injection hA6 with e7 e8 _
              subst e7 e8
              have hmem : l[k] ∈ l.take i := by rw [List.mem_iff_getElem]; exact ⟨k, by rw [List.length_take]; omega, by simp⟩
              have hvf := HF.out _ hmem
              have hs := HI.out
              rw [any_step q l i k hki hz6, HQ.out] at hs
              rw [← HQ.out] at hs
              have d0 : wr.cell? ⟨b, o + k * 3, none⟩ = some (.int .i64 l[k].sat) := hc6 0 (by omega)
              have d1 : wr.cell? ⟨b, o + k * 3 + 1, none⟩ = some (.int .i64 l[k].fr) := hc6 1 (by omega)
              have d2 : wr.cell? ⟨b, o + k * 3 + 2, none⟩ = some (.int .i64 l[k].tt) := hc6 2 (by omega)
              have c0 := ext_cell hx3.out HC0.out
              have c1 := ext_cell hx3.out HC1.out
              have c2 := ext_cell hx3.out HC2.out
              generalize l[k] = v at hvf hs d0 d1 d2
              obtain ⟨vs, vf, vt⟩ := v
              dsimp only at hvf hs d0 d1 d2
              have hqv : q ⟨vs, vf, vt⟩ = (decide (vs = us) && meetP ⟨vf, vt⟩ ⟨uf, ut⟩) := by rw [HQ.out]; rfl
              rw [hqv] at hs
              clear hqv hc6 hz6 hmem
              have hme := fun W => rmeet_any vf vt uf ut hvf huf W
              generalize meetP ⟨vf, vt⟩ ⟨uf, ut⟩ = q3 at hs hme
              have HME := Lib.hid hme
              have HS2 := Lib.hid hs
              clear hs hme HI
              have h0k : (0 : Int) ≤ (k : Int) := by omega
              have h0i : (0 : Int) ≤ (i : Int) := by omega
              have hkn : (k : Int) < (n : Int) := by omega
              have hin2 : (i : Int) < (n : Int) := by omega
              go_upto_region 11 with (fail)
              by_cases hvu : vs = us
              · have hs := HS2.out
                rw [decide_eq_true hvu, Bool.true_and] at hs
                have HS3 := Lib.hid hs
                clear hs HS2
                refine wp_region_obl 24 (fun ix vals v w1 => match ix with | 0 => v = .slice (some ⟨b, o, none⟩) n c | 1 => v = .int .i64 k | 2 => v = .pointer (some ⟨b, o + k * 3, none⟩) | 3 => v = .pointer (some ⟨b, o + k * 3, none⟩) | 4 => v = .int .i64 vs | 5 => v = .slice (some ⟨b, o, none⟩) n c | 6 => v = .int .i64 i | 7 => v = .pointer (some ⟨b, o + i * 3, none⟩) | 8 => v = .pointer (some ⟨b, o + i * 3, none⟩) | 9 => v = .int .i64 us | 10 => v = .bool true | 11 => v = .bool true | 12 => v = .slice (some ⟨b, o, none⟩) n c | 13 => v = .int .i64 k | 14 => v = .pointer (some ⟨b, o + k * 3, none⟩) | 15 => v = .pointer (some ⟨b, o + k * 3 + 1, none⟩) | 16 => v = .agg #[.int .i64 vf, .int .i64 vt] | 17 => v = .slice (some ⟨b, o, none⟩) n c | 18 => v = .int .i64 i | 19 => v = .pointer (some ⟨b, o + i * 3, none⟩) | 20 => v = .pointer (some ⟨b, o + i * 3 + 1, none⟩) | 21 => v = .agg #[.int .i64 uf, .int .i64 ut] | 22 => v = .bool q3 | _ => v = .bool q3) (by kernel_rfl) (by kernel_rfl) ?_ ?_ ?_ ?_
                · intro ix vals v w1 w2 hi hr hx
                  match ix, hr with
                  | 0, hr => exact hr
                  | 1, hr => exact hr
                  | 2, hr => exact hr
                  | 3, hr => exact hr
                  | 4, hr => exact hr
                  | 5, hr => exact hr
                  | 6, hr => exact hr
                  | 7, hr => exact hr
                  | 8, hr => exact hr
                  | 9, hr => exact hr
                  | 10, hr => exact hr
                  | 11, hr => exact hr
                  | 12, hr => exact hr
                  | 13, hr => exact hr
                  | 14, hr => exact hr
                  | 15, hr => exact hr
                  | 16, hr => exact hr
                  | 17, hr => exact hr
                  | 18, hr => exact hr
                  | 19, hr => exact hr
                  | 20, hr => exact hr
                  | 21, hr => exact hr
                  | 22, hr => exact hr
                  | (kx + 23), hr => exact hr
                · intro ix vals vals_ v w1 hi hv hr
                  exact hr
                · refine obls_ofT [some 25, some 26, some 27, some 28, some 29, some 30, some 31, some 32, some 33, some 34, some 35, some 36, some 37, some 38, some 39, some 40, some 41, some 42, some 43, some 44, some 45, some 46, some 47, some 48] [(0, .slice (some ⟨b, o, none⟩) n c), (3, .int .i64 i), (4, .int .i64 k)] 49 (by kernel_rfl) (by kernel_rfl) ⟨by kernel_rfl, by kernel_rfl, by kernel_rfl, trivial⟩ ?_
                  refine ⟨?_, ?_, ?_, ?_, ?_, ?_, ?_, ?_, ?_, ?_, ?_, ?_, ?_, ?_, ?_, ?_, ?_, ?_, ?_, ?_, ?_, ?_, ?_, ?_, trivial⟩
                  · intro vals w1 hx hd
                    refine .run [(0, .slice (some ⟨b, o, none⟩) n c)] { dst := some 0, op := Go.Op.move (Go.Operand.const (.slice (some ⟨b, o, none⟩) n c)), type := 27, pos := "", after := #[], guard := none } 25 ⟨.out (by kernel_rfl) (by kernel_rfl), trivial⟩ (by kernel_rfl) (by kernel_rfl) (by kernel_rfl) rfl rfl rfl ?_
                    clear hd
                    go_wp2
                    exact ⟨rfl, Ext.refl _, rfl⟩
                  · intro vals w1 hx hd
                    refine .run [(4, .int .i64 k)] { dst := some 0, op := Go.Op.move (Go.Operand.const (.int .i64 k)), type := 3, pos := "", after := #[], guard := none } 26 ⟨.out (by kernel_rfl) (by kernel_rfl), trivial⟩ (by kernel_rfl) (by kernel_rfl) (by kernel_rfl) rfl rfl rfl ?_
                    clear hd
                    go_wp2
                    exact ⟨rfl, Ext.refl _, rfl⟩
                  · intro vals w1 hx hd
                    have e0 : vals 0 = .slice (some ⟨b, o, none⟩) n c := hd 0 (by decide)
                    have e1 : vals 1 = .int .i64 k := hd 1 (by decide)
                    refine .run [(25, .slice (some ⟨b, o, none⟩) n c), (26, .int .i64 k)] { dst := some 0, op := Go.Op.indexAddr 27 (Go.Operand.const (.slice (some ⟨b, o, none⟩) n c)) (Go.Operand.const (.int .i64 k)), type := 0, pos := "", after := #[], guard := none } 27 ⟨.inn 0 (by kernel_rfl) e0, .inn 1 (by kernel_rfl) e1, trivial⟩ (by kernel_rfl) (by kernel_rfl) (by kernel_rfl) rfl rfl rfl ?_
                    clear hd e0 e1
                    go_wp2
                    exact ⟨rfl, Ext.refl _, rfl⟩
                  · intro vals w1 hx hd
                    have e2 : vals 2 = .pointer (some ⟨b, o + k * 3, none⟩) := hd 2 (by decide)
                    refine .run [(27, .pointer (some ⟨b, o + k * 3, none⟩))] { dst := some 0, op := Go.Op.fieldAddr 26 (Go.Operand.const (.pointer (some ⟨b, o + k * 3, none⟩))) 0, type := 0, pos := "", after := #[], guard := none } 28 ⟨.inn 2 (by kernel_rfl) e2, trivial⟩ (by kernel_rfl) (by kernel_rfl) (by kernel_rfl) rfl rfl rfl ?_
                    clear hd e2
                    go_wp2
                    exact ⟨rfl, Ext.refl _, rfl⟩
                  · intro vals w1 hx hd
                    have e3 : vals 3 = .pointer (some ⟨b, o + k * 3, none⟩) := hd 3 (by decide)
                    refine .run [(28, .pointer (some ⟨b, o + k * 3, none⟩))] { dst := some 0, op := Go.Op.load 3 (Go.Operand.const (.pointer (some ⟨b, o + k * 3, none⟩))), type := 3, pos := "", after := #[], guard := none } 29 ⟨.inn 3 (by kernel_rfl) e3, trivial⟩ (by kernel_rfl) (by kernel_rfl) (by kernel_rfl) rfl rfl rfl ?_
                    clear hd e3
                    have d0 := ext_cell hx d0
                    go_wp2
                    exact ⟨rfl, Ext.refl _, rfl⟩
                  · intro vals w1 hx hd
                    refine .run [(0, .slice (some ⟨b, o, none⟩) n c)] { dst := some 0, op := Go.Op.move (Go.Operand.const (.slice (some ⟨b, o, none⟩) n c)), type := 27, pos := "", after := #[], guard := none } 30 ⟨.out (by kernel_rfl) (by kernel_rfl), trivial⟩ (by kernel_rfl) (by kernel_rfl) (by kernel_rfl) rfl rfl rfl ?_
                    clear hd
                    go_wp2
                    exact ⟨rfl, Ext.refl _, rfl⟩
                  · intro vals w1 hx hd
                    refine .run [(3, .int .i64 i)] { dst := some 0, op := Go.Op.move (Go.Operand.const (.int .i64 i)), type := 3, pos := "", after := #[], guard := none } 31 ⟨.out (by kernel_rfl) (by kernel_rfl), trivial⟩ (by kernel_rfl) (by kernel_rfl) (by kernel_rfl) rfl rfl rfl ?_
                    clear hd
                    go_wp2
                    exact ⟨rfl, Ext.refl _, rfl⟩
                  · intro vals w1 hx hd
                    have e5 : vals 5 = .slice (some ⟨b, o, none⟩) n c := hd 5 (by decide)
                    have e6 : vals 6 = .int .i64 i := hd 6 (by decide)
                    refine .run [(30, .slice (some ⟨b, o, none⟩) n c), (31, .int .i64 i)] { dst := some 0, op := Go.Op.indexAddr 27 (Go.Operand.const (.slice (some ⟨b, o, none⟩) n c)) (Go.Operand.const (.int .i64 i)), type := 0, pos := "", after := #[], guard := none } 32 ⟨.inn 5 (by kernel_rfl) e5, .inn 6 (by kernel_rfl) e6, trivial⟩ (by kernel_rfl) (by kernel_rfl) (by kernel_rfl) rfl rfl rfl ?_
                    clear hd e5 e6
                    go_wp2
                    exact ⟨rfl, Ext.refl _, rfl⟩
                  · intro vals w1 hx hd
                    have e7 : vals 7 = .pointer (some ⟨b, o + i * 3, none⟩) := hd 7 (by decide)
                    refine .run [(32, .pointer (some ⟨b, o + i * 3, none⟩))] { dst := some 0, op := Go.Op.fieldAddr 26 (Go.Operand.const (.pointer (some ⟨b, o + i * 3, none⟩))) 0, type := 0, pos := "", after := #[], guard := none } 33 ⟨.inn 7 (by kernel_rfl) e7, trivial⟩ (by kernel_rfl) (by kernel_rfl) (by kernel_rfl) rfl rfl rfl ?_
                    clear hd e7
                    go_wp2
                    exact ⟨rfl, Ext.refl _, rfl⟩
                  · intro vals w1 hx hd
                    have e8 : vals 8 = .pointer (some ⟨b, o + i * 3, none⟩) := hd 8 (by decide)
                    refine .run [(33, .pointer (some ⟨b, o + i * 3, none⟩))] { dst := some 0, op := Go.Op.load 3 (Go.Operand.const (.pointer (some ⟨b, o + i * 3, none⟩))), type := 3, pos := "", after := #[], guard := none } 34 ⟨.inn 8 (by kernel_rfl) e8, trivial⟩ (by kernel_rfl) (by kernel_rfl) (by kernel_rfl) rfl rfl rfl ?_
                    clear hd e8
                    have c0 := ext_cell hx c0
                    go_wp2
                    exact ⟨rfl, Ext.refl _, rfl⟩
                  · intro vals w1 hx hd
                    have e4 : vals 4 = .int .i64 vs := hd 4 (by decide)
                    have e9 : vals 9 = .int .i64 us := hd 9 (by decide)
                    refine .run [(29, .int .i64 vs), (34, .int .i64 us)] { dst := some 0, op := Go.Op.binOp Go.BinOp.eql 3 (Go.Operand.const (.int .i64 vs)) (Go.Operand.const (.int .i64 us)) 3, type := 4, pos := "", after := #[], guard := none } 35 ⟨.inn 4 (by kernel_rfl) e4, .inn 9 (by kernel_rfl) e9, trivial⟩ (by kernel_rfl) (by kernel_rfl) (by kernel_rfl) rfl rfl rfl ?_
                    clear hd e4 e9
                    go_wp2
                    exact ⟨rfl, Ext.refl _, by simp⟩
                  · intro vals w1 hx hd
                    have e10 : vals 10 = .bool true := hd 10 (by decide)
                    refine .run [(35, .bool true)] { dst := some 0, op := Go.Op.move (Go.Operand.const (.bool true)), type := 4, pos := "", after := #[], guard := none } 36 ⟨.inn 10 (by kernel_rfl) e10, trivial⟩ (by kernel_rfl) (by kernel_rfl) (by kernel_rfl) rfl rfl rfl ?_
                    clear hd e10
                    go_wp2
                    exact ⟨rfl, Ext.refl _, rfl⟩
                  · intro vals w1 hx hd
                    have e11 : vals 11 = .bool true := hd 11 (by decide)
                    refine .run [(0, .slice (some ⟨b, o, none⟩) n c), (36, .bool true)] { dst := some 0, op := Go.Op.move (Go.Operand.const (.slice (some ⟨b, o, none⟩) n c)), type := 27, pos := "", after := #[], guard := none } 37 ⟨.out (by kernel_rfl) (by kernel_rfl), .inn 11 (by kernel_rfl) e11, trivial⟩ (by kernel_rfl) (by kernel_rfl) (by kernel_rfl) rfl rfl rfl ?_
                    clear hd e11
                    go_wp2
                    exact ⟨rfl, Ext.refl _, rfl⟩
                  · intro vals w1 hx hd
                    have e11 : vals 11 = .bool true := hd 11 (by decide)
                    refine .run [(4, .int .i64 k), (36, .bool true)] { dst := some 0, op := Go.Op.move (Go.Operand.const (.int .i64 k)), type := 3, pos := "", after := #[], guard := none } 38 ⟨.out (by kernel_rfl) (by kernel_rfl), .inn 11 (by kernel_rfl) e11, trivial⟩ (by kernel_rfl) (by kernel_rfl) (by kernel_rfl) rfl rfl rfl ?_
                    clear hd e11
                    go_wp2
                    exact ⟨rfl, Ext.refl _, rfl⟩
                  · intro vals w1 hx hd
                    have e12 : vals 12 = .slice (some ⟨b, o, none⟩) n c := hd 12 (by decide)
                    have e13 : vals 13 = .int .i64 k := hd 13 (by decide)
                    have e11 : vals 11 = .bool true := hd 11 (by decide)
                    refine .run [(37, .slice (some ⟨b, o, none⟩) n c), (38, .int .i64 k), (36, .bool true)] { dst := some 0, op := Go.Op.indexAddr 27 (Go.Operand.const (.slice (some ⟨b, o, none⟩) n c)) (Go.Operand.const (.int .i64 k)), type := 0, pos := "", after := #[], guard := none } 39 ⟨.inn 12 (by kernel_rfl) e12, .inn 13 (by kernel_rfl) e13, .inn 11 (by kernel_rfl) e11, trivial⟩ (by kernel_rfl) (by kernel_rfl) (by kernel_rfl) rfl rfl rfl ?_
                    clear hd e12 e13 e11
                    go_wp2
                    exact ⟨rfl, Ext.refl _, rfl⟩
                  · intro vals w1 hx hd
                    have e14 : vals 14 = .pointer (some ⟨b, o + k * 3, none⟩) := hd 14 (by decide)
                    have e11 : vals 11 = .bool true := hd 11 (by decide)
                    refine .run [(39, .pointer (some ⟨b, o + k * 3, none⟩)), (36, .bool true)] { dst := some 0, op := Go.Op.fieldAddr 26 (Go.Operand.const (.pointer (some ⟨b, o + k * 3, none⟩))) 1, type := 0, pos := "", after := #[], guard := none } 40 ⟨.inn 14 (by kernel_rfl) e14, .inn 11 (by kernel_rfl) e11, trivial⟩ (by kernel_rfl) (by kernel_rfl) (by kernel_rfl) rfl rfl rfl ?_
                    clear hd e14 e11
                    go_wp2
                    exact ⟨rfl, Ext.refl _, rfl⟩
                  · intro vals w1 hx hd
                    have e15 : vals 15 = .pointer (some ⟨b, o + k * 3 + 1, none⟩) := hd 15 (by decide)
                    have e11 : vals 11 = .bool true := hd 11 (by decide)
                    refine .run [(40, .pointer (some ⟨b, o + k * 3 + 1, none⟩)), (36, .bool true)] { dst := some 0, op := Go.Op.load 24 (Go.Operand.const (.pointer (some ⟨b, o + k * 3 + 1, none⟩))), type := 24, pos := "", after := #[], guard := none } 41 ⟨.inn 15 (by kernel_rfl) e15, .inn 11 (by kernel_rfl) e11, trivial⟩ (by kernel_rfl) (by kernel_rfl) (by kernel_rfl) rfl rfl rfl ?_
                    clear hd e15 e11
                    have d1 := ext_cell hx d1
                    have d2 := ext_cell hx d2
                    go_wp2
                    exact ⟨rfl, Ext.refl _, rfl⟩
                  · intro vals w1 hx hd
                    have e11 : vals 11 = .bool true := hd 11 (by decide)
                    refine .run [(0, .slice (some ⟨b, o, none⟩) n c), (36, .bool true)] { dst := some 0, op := Go.Op.move (Go.Operand.const (.slice (some ⟨b, o, none⟩) n c)), type := 27, pos := "", after := #[], guard := none } 42 ⟨.out (by kernel_rfl) (by kernel_rfl), .inn 11 (by kernel_rfl) e11, trivial⟩ (by kernel_rfl) (by kernel_rfl) (by kernel_rfl) rfl rfl rfl ?_
                    clear hd e11
                    go_wp2
                    exact ⟨rfl, Ext.refl _, rfl⟩
                  · intro vals w1 hx hd
                    have e11 : vals 11 = .bool true := hd 11 (by decide)
                    refine .run [(3, .int .i64 i), (36, .bool true)] { dst := some 0, op := Go.Op.move (Go.Operand.const (.int .i64 i)), type := 3, pos := "", after := #[], guard := none } 43 ⟨.out (by kernel_rfl) (by kernel_rfl), .inn 11 (by kernel_rfl) e11, trivial⟩ (by kernel_rfl) (by kernel_rfl) (by kernel_rfl) rfl rfl rfl ?_
                    clear hd e11
                    go_wp2
                    exact ⟨rfl, Ext.refl _, rfl⟩
                  · intro vals w1 hx hd
                    have e17 : vals 17 = .slice (some ⟨b, o, none⟩) n c := hd 17 (by decide)
                    have e18 : vals 18 = .int .i64 i := hd 18 (by decide)
                    have e11 : vals 11 = .bool true := hd 11 (by decide)
                    refine .run [(42, .slice (some ⟨b, o, none⟩) n c), (43, .int .i64 i), (36, .bool true)] { dst := some 0, op := Go.Op.indexAddr 27 (Go.Operand.const (.slice (some ⟨b, o, none⟩) n c)) (Go.Operand.const (.int .i64 i)), type := 0, pos := "", after := #[], guard := none } 44 ⟨.inn 17 (by kernel_rfl) e17, .inn 18 (by kernel_rfl) e18, .inn 11 (by kernel_rfl) e11, trivial⟩ (by kernel_rfl) (by kernel_rfl) (by kernel_rfl) rfl rfl rfl ?_
                    clear hd e17 e18 e11
                    go_wp2
                    exact ⟨rfl, Ext.refl _, rfl⟩
                  · intro vals w1 hx hd
                    have e19 : vals 19 = .pointer (some ⟨b, o + i * 3, none⟩) := hd 19 (by decide)
                    have e11 : vals 11 = .bool true := hd 11 (by decide)
                    refine .run [(44, .pointer (some ⟨b, o + i * 3, none⟩)), (36, .bool true)] { dst := some 0, op := Go.Op.fieldAddr 26 (Go.Operand.const (.pointer (some ⟨b, o + i * 3, none⟩))) 1, type := 0, pos := "", after := #[], guard := none } 45 ⟨.inn 19 (by kernel_rfl) e19, .inn 11 (by kernel_rfl) e11, trivial⟩ (by kernel_rfl) (by kernel_rfl) (by kernel_rfl) rfl rfl rfl ?_
                    clear hd e19 e11
                    go_wp2
                    exact ⟨rfl, Ext.refl _, rfl⟩
                  · intro vals w1 hx hd
                    have e20 : vals 20 = .pointer (some ⟨b, o + i * 3 + 1, none⟩) := hd 20 (by decide)
                    have e11 : vals 11 = .bool true := hd 11 (by decide)
                    refine .run [(45, .pointer (some ⟨b, o + i * 3 + 1, none⟩)), (36, .bool true)] { dst := some 0, op := Go.Op.load 24 (Go.Operand.const (.pointer (some ⟨b, o + i * 3 + 1, none⟩))), type := 24, pos := "", after := #[], guard := none } 46 ⟨.inn 20 (by kernel_rfl) e20, .inn 11 (by kernel_rfl) e11, trivial⟩ (by kernel_rfl) (by kernel_rfl) (by kernel_rfl) rfl rfl rfl ?_
                    clear hd e20 e11
                    have c1 := ext_cell hx c1
                    have c2 := ext_cell hx c2
                    go_wp2
                    exact ⟨rfl, Ext.refl _, rfl⟩
                  · intro vals w1 hx hd
                    have e16 : vals 16 = .agg #[.int .i64 vf, .int .i64 vt] := hd 16 (by decide)
                    have e21 : vals 21 = .agg #[.int .i64 uf, .int .i64 ut] := hd 21 (by decide)
                    have e11 : vals 11 = .bool true := hd 11 (by decide)
                    refine .run [(41, .agg #[.int .i64 vf, .int .i64 vt]), (46, .agg #[.int .i64 uf, .int .i64 ut]), (36, .bool true)] { dst := some 0, op := Go.Op.call { callee := Go.Callee.value (Go.Operand.func 52), args := #[(Go.Operand.const (.agg #[.int .i64 vf, .int .i64 vt])), (Go.Operand.const (.agg #[.int .i64 uf, .int .i64 ut]))], argTypes := #[24, 24] }, type := 4, pos := "", after := #[], guard := none } 47 ⟨.inn 16 (by kernel_rfl) e16, .inn 21 (by kernel_rfl) e21, .inn 11 (by kernel_rfl) e11, trivial⟩ (by kernel_rfl) (by kernel_rfl) (by kernel_rfl) rfl rfl rfl ?_
                    clear hd e16 e21 e11
                    go_wp2_with (fail)
                    refine (HME.out _).mono ?_
                    rintro e w' ⟨rfl, hb2⟩
                    go_wp2
                    exact ⟨rfl, hb2, rfl⟩
                  · intro vals w1 hx hd
                    have e11 : vals 11 = .bool true := hd 11 (by decide)
                    have e22 : vals 22 = .bool q3 := hd 22 (by decide)
                    refine .run [(36, .bool true), (47, .bool q3)] { dst := some 0, op := Go.Op.pick (Go.Operand.const (.bool true)) (Go.Operand.const (.bool q3)) (Go.Operand.const (Go.Value.bool false)), type := 4, pos := "", after := #[], guard := none } 48 ⟨.inn 11 (by kernel_rfl) e11, .inn 22 (by kernel_rfl) e22, trivial⟩ (by kernel_rfl) (by kernel_rfl) (by kernel_rfl) rfl rfl rfl ?_
                    clear hd e11 e22
                    go_wp2
                    exact ⟨rfl, Ext.refl _, rfl⟩
                intro vals W5 hy hf
                have e23 : vals 23 = .bool q3 := hf 23 (by omega)
                have hy := hy.undrew
                have hx5 := Ext.trans hx3.out hy
                clear hf
                refine tail0 (by kernel_rfl) ?_
                simp only [Lf, dstAt, Act.put, List.getElem?_toArray, List.getElem?_cons_zero, List.getElem?_cons_succ, Option.bind_some, List.setIfInBounds_toArray, List.set_cons_zero, List.set_cons_succ]
                rw [e23]
                clear e23
                clear d0 d1 d2 c0 c1 c2
                cases q3
                · have HN : Hid (vr = (!(((l.take i).drop (k + 1)).any q) && rest)) := Lib.hid (by rw [HS3.out]; rfl)
                  clear HS3
                  go_wp2
                  go_roundw
                  case rel => exact ⟨k + 1, by omega, by go_num, HN, Lib.hid hx5⟩
                  case measure => simp [intOf]; omega
                · have HVF : Hid (vr = false) := Lib.hid (by rw [HS3.out]; simp)
                  clear HS3
                  have hxf := Ext.trans hx2 hx5
                  go_wp2
                  go_ret
                  exact ⟨by rw [HVF.out]; rfl, hxf⟩
              · have hs := HS2.out
                rw [decide_eq_false hvu, Bool.false_and, Bool.false_or] at hs
                have HN := Lib.hid hs
                clear hs HS2
                refine wp_region_obl 24 (fun ix vals v w1 => match ix with | 0 => v = .slice (some ⟨b, o, none⟩) n c | 1 => v = .int .i64 k | 2 => v = .pointer (some ⟨b, o + k * 3, none⟩) | 3 => v = .pointer (some ⟨b, o + k * 3, none⟩) | 4 => v = .int .i64 vs | 5 => v = .slice (some ⟨b, o, none⟩) n c | 6 => v = .int .i64 i | 7 => v = .pointer (some ⟨b, o + i * 3, none⟩) | 8 => v = .pointer (some ⟨b, o + i * 3, none⟩) | 9 => v = .int .i64 us | 10 => v = .bool false | 11 => v = .bool false | 12 => v = undef | 13 => v = undef | 14 => v = undef | 15 => v = undef | 16 => v = undef | 17 => v = undef | 18 => v = undef | 19 => v = undef | 20 => v = undef | 21 => v = undef | 22 => v = undef | _ => v = .bool false) (by kernel_rfl) (by kernel_rfl) ?_ ?_ ?_ ?_
                · intro ix vals v w1 w2 hi hr hx
                  match ix, hr with
                  | 0, hr => exact hr
                  | 1, hr => exact hr
                  | 2, hr => exact hr
                  | 3, hr => exact hr
                  | 4, hr => exact hr
                  | 5, hr => exact hr
                  | 6, hr => exact hr
                  | 7, hr => exact hr
                  | 8, hr => exact hr
                  | 9, hr => exact hr
                  | 10, hr => exact hr
                  | 11, hr => exact hr
                  | 12, hr => exact hr
                  | 13, hr => exact hr
                  | 14, hr => exact hr
                  | 15, hr => exact hr
                  | 16, hr => exact hr
                  | 17, hr => exact hr
                  | 18, hr => exact hr
                  | 19, hr => exact hr
                  | 20, hr => exact hr
                  | 21, hr => exact hr
                  | 22, hr => exact hr
                  | (kx + 23), hr => exact hr
                · intro ix vals vals_ v w1 hi hv hr
                  exact hr
                · refine obls_ofT [some 25, some 26, some 27, some 28, some 29, some 30, some 31, some 32, some 33, some 34, some 35, some 36, some 37, some 38, some 39, some 40, some 41, some 42, some 43, some 44, some 45, some 46, some 47, some 48] [(0, .slice (some ⟨b, o, none⟩) n c), (3, .int .i64 i), (4, .int .i64 k)] 49 (by kernel_rfl) (by kernel_rfl) ⟨by kernel_rfl, by kernel_rfl, by kernel_rfl, trivial⟩ ?_
                  refine ⟨?_, ?_, ?_, ?_, ?_, ?_, ?_, ?_, ?_, ?_, ?_, ?_, ?_, ?_, ?_, ?_, ?_, ?_, ?_, ?_, ?_, ?_, ?_, ?_, trivial⟩
                  · intro vals w1 hx hd
                    refine .run [(0, .slice (some ⟨b, o, none⟩) n c)] { dst := some 0, op := Go.Op.move (Go.Operand.const (.slice (some ⟨b, o, none⟩) n c)), type := 27, pos := "", after := #[], guard := none } 25 ⟨.out (by kernel_rfl) (by kernel_rfl), trivial⟩ (by kernel_rfl) (by kernel_rfl) (by kernel_rfl) rfl rfl rfl ?_
                    clear hd
                    go_wp2
                    exact ⟨rfl, Ext.refl _, rfl⟩
                  · intro vals w1 hx hd
                    refine .run [(4, .int .i64 k)] { dst := some 0, op := Go.Op.move (Go.Operand.const (.int .i64 k)), type := 3, pos := "", after := #[], guard := none } 26 ⟨.out (by kernel_rfl) (by kernel_rfl), trivial⟩ (by kernel_rfl) (by kernel_rfl) (by kernel_rfl) rfl rfl rfl ?_
                    clear hd
                    go_wp2
                    exact ⟨rfl, Ext.refl _, rfl⟩
                  · intro vals w1 hx hd
                    have e0 : vals 0 = .slice (some ⟨b, o, none⟩) n c := hd 0 (by decide)
                    have e1 : vals 1 = .int .i64 k := hd 1 (by decide)
                    refine .run [(25, .slice (some ⟨b, o, none⟩) n c), (26, .int .i64 k)] { dst := some 0, op := Go.Op.indexAddr 27 (Go.Operand.const (.slice (some ⟨b, o, none⟩) n c)) (Go.Operand.const (.int .i64 k)), type := 0, pos := "", after := #[], guard := none } 27 ⟨.inn 0 (by kernel_rfl) e0, .inn 1 (by kernel_rfl) e1, trivial⟩ (by kernel_rfl) (by kernel_rfl) (by kernel_rfl) rfl rfl rfl ?_
                    clear hd e0 e1
                    go_wp2
                    exact ⟨rfl, Ext.refl _, rfl⟩
                  · intro vals w1 hx hd
                    have e2 : vals 2 = .pointer (some ⟨b, o + k * 3, none⟩) := hd 2 (by decide)
                    refine .run [(27, .pointer (some ⟨b, o + k * 3, none⟩))] { dst := some 0, op := Go.Op.fieldAddr 26 (Go.Operand.const (.pointer (some ⟨b, o + k * 3, none⟩))) 0, type := 0, pos := "", after := #[], guard := none } 28 ⟨.inn 2 (by kernel_rfl) e2, trivial⟩ (by kernel_rfl) (by kernel_rfl) (by kernel_rfl) rfl rfl rfl ?_
                    clear hd e2
                    go_wp2
                    exact ⟨rfl, Ext.refl _, rfl⟩
                  · intro vals w1 hx hd
                    have e3 : vals 3 = .pointer (some ⟨b, o + k * 3, none⟩) := hd 3 (by decide)
                    refine .run [(28, .pointer (some ⟨b, o + k * 3, none⟩))] { dst := some 0, op := Go.Op.load 3 (Go.Operand.const (.pointer (some ⟨b, o + k * 3, none⟩))), type := 3, pos := "", after := #[], guard := none } 29 ⟨.inn 3 (by kernel_rfl) e3, trivial⟩ (by kernel_rfl) (by kernel_rfl) (by kernel_rfl) rfl rfl rfl ?_
                    clear hd e3
                    have d0 := ext_cell hx d0
                    go_wp2
                    exact ⟨rfl, Ext.refl _, rfl⟩
                  · intro vals w1 hx hd
                    refine .run [(0, .slice (some ⟨b, o, none⟩) n c)] { dst := some 0, op := Go.Op.move (Go.Operand.const (.slice (some ⟨b, o, none⟩) n c)), type := 27, pos := "", after := #[], guard := none } 30 ⟨.out (by kernel_rfl) (by kernel_rfl), trivial⟩ (by kernel_rfl) (by kernel_rfl) (by kernel_rfl) rfl rfl rfl ?_
                    clear hd
                    go_wp2
                    exact ⟨rfl, Ext.refl _, rfl⟩
                  · intro vals w1 hx hd
                    refine .run [(3, .int .i64 i)] { dst := some 0, op := Go.Op.move (Go.Operand.const (.int .i64 i)), type := 3, pos := "", after := #[], guard := none } 31 ⟨.out (by kernel_rfl) (by kernel_rfl), trivial⟩ (by kernel_rfl) (by kernel_rfl) (by kernel_rfl) rfl rfl rfl ?_
                    clear hd
                    go_wp2
                    exact ⟨rfl, Ext.refl _, rfl⟩
                  · intro vals w1 hx hd
                    have e5 : vals 5 = .slice (some ⟨b, o, none⟩) n c := hd 5 (by decide)
                    have e6 : vals 6 = .int .i64 i := hd 6 (by decide)
                    refine .run [(30, .slice (some ⟨b, o, none⟩) n c), (31, .int .i64 i)] { dst := some 0, op := Go.Op.indexAddr 27 (Go.Operand.const (.slice (some ⟨b, o, none⟩) n c)) (Go.Operand.const (.int .i64 i)), type := 0, pos := "", after := #[], guard := none } 32 ⟨.inn 5 (by kernel_rfl) e5, .inn 6 (by kernel_rfl) e6, trivial⟩ (by kernel_rfl) (by kernel_rfl) (by kernel_rfl) rfl rfl rfl ?_
                    clear hd e5 e6
                    go_wp2
                    exact ⟨rfl, Ext.refl _, rfl⟩
                  · intro vals w1 hx hd
                    have e7 : vals 7 = .pointer (some ⟨b, o + i * 3, none⟩) := hd 7 (by decide)
                    refine .run [(32, .pointer (some ⟨b, o + i * 3, none⟩))] { dst := some 0, op := Go.Op.fieldAddr 26 (Go.Operand.const (.pointer (some ⟨b, o + i * 3, none⟩))) 0, type := 0, pos := "", after := #[], guard := none } 33 ⟨.inn 7 (by kernel_rfl) e7, trivial⟩ (by kernel_rfl) (by kernel_rfl) (by kernel_rfl) rfl rfl rfl ?_
                    clear hd e7
                    go_wp2
                    exact ⟨rfl, Ext.refl _, rfl⟩
                  · intro vals w1 hx hd
                    have e8 : vals 8 = .pointer (some ⟨b, o + i * 3, none⟩) := hd 8 (by decide)
                    refine .run [(33, .pointer (some ⟨b, o + i * 3, none⟩))] { dst := some 0, op := Go.Op.load 3 (Go.Operand.const (.pointer (some ⟨b, o + i * 3, none⟩))), type := 3, pos := "", after := #[], guard := none } 34 ⟨.inn 8 (by kernel_rfl) e8, trivial⟩ (by kernel_rfl) (by kernel_rfl) (by kernel_rfl) rfl rfl rfl ?_
                    clear hd e8
                    have c0 := ext_cell hx c0
                    go_wp2
                    exact ⟨rfl, Ext.refl _, rfl⟩
                  · intro vals w1 hx hd
                    have e4 : vals 4 = .int .i64 vs := hd 4 (by decide)
                    have e9 : vals 9 = .int .i64 us := hd 9 (by decide)
                    refine .run [(29, .int .i64 vs), (34, .int .i64 us)] { dst := some 0, op := Go.Op.binOp Go.BinOp.eql 3 (Go.Operand.const (.int .i64 vs)) (Go.Operand.const (.int .i64 us)) 3, type := 4, pos := "", after := #[], guard := none } 35 ⟨.inn 4 (by kernel_rfl) e4, .inn 9 (by kernel_rfl) e9, trivial⟩ (by kernel_rfl) (by kernel_rfl) (by kernel_rfl) rfl rfl rfl ?_
                    clear hd e4 e9
                    go_wp2
                    exact ⟨rfl, Ext.refl _, by simp [hvu]⟩
                  · intro vals w1 hx hd
                    have e10 : vals 10 = .bool false := hd 10 (by decide)
                    refine .run [(35, .bool false)] { dst := some 0, op := Go.Op.move (Go.Operand.const (.bool false)), type := 4, pos := "", after := #[], guard := none } 36 ⟨.inn 10 (by kernel_rfl) e10, trivial⟩ (by kernel_rfl) (by kernel_rfl) (by kernel_rfl) rfl rfl rfl ?_
                    clear hd e10
                    go_wp2
                    exact ⟨rfl, Ext.refl _, rfl⟩
                  · intro vals w1 hx hd
                    have e11 : vals 11 = .bool false := hd 11 (by decide)
                    exact .no [(36, .bool false)] 37 ⟨.inn 11 (by kernel_rfl) e11, trivial⟩ (by kernel_rfl) rfl (by kernel_rfl) rfl
                  · intro vals w1 hx hd
                    have e11 : vals 11 = .bool false := hd 11 (by decide)
                    exact .no [(36, .bool false)] 38 ⟨.inn 11 (by kernel_rfl) e11, trivial⟩ (by kernel_rfl) rfl (by kernel_rfl) rfl
                  · intro vals w1 hx hd
                    have e11 : vals 11 = .bool false := hd 11 (by decide)
                    exact .no [(36, .bool false)] 39 ⟨.inn 11 (by kernel_rfl) e11, trivial⟩ (by kernel_rfl) rfl (by kernel_rfl) rfl
                  · intro vals w1 hx hd
                    have e11 : vals 11 = .bool false := hd 11 (by decide)
                    exact .no [(36, .bool false)] 40 ⟨.inn 11 (by kernel_rfl) e11, trivial⟩ (by kernel_rfl) rfl (by kernel_rfl) rfl
                  · intro vals w1 hx hd
                    have e11 : vals 11 = .bool false := hd 11 (by decide)
                    exact .no [(36, .bool false)] 41 ⟨.inn 11 (by kernel_rfl) e11, trivial⟩ (by kernel_rfl) rfl (by kernel_rfl) rfl
                  · intro vals w1 hx hd
                    have e11 : vals 11 = .bool false := hd 11 (by decide)
                    exact .no [(36, .bool false)] 42 ⟨.inn 11 (by kernel_rfl) e11, trivial⟩ (by kernel_rfl) rfl (by kernel_rfl) rfl
                  · intro vals w1 hx hd
                    have e11 : vals 11 = .bool false := hd 11 (by decide)
                    exact .no [(36, .bool false)] 43 ⟨.inn 11 (by kernel_rfl) e11, trivial⟩ (by kernel_rfl) rfl (by kernel_rfl) rfl
                  · intro vals w1 hx hd
                    have e11 : vals 11 = .bool false := hd 11 (by decide)
                    exact .no [(36, .bool false)] 44 ⟨.inn 11 (by kernel_rfl) e11, trivial⟩ (by kernel_rfl) rfl (by kernel_rfl) rfl
                  · intro vals w1 hx hd
                    have e11 : vals 11 = .bool false := hd 11 (by decide)
                    exact .no [(36, .bool false)] 45 ⟨.inn 11 (by kernel_rfl) e11, trivial⟩ (by kernel_rfl) rfl (by kernel_rfl) rfl
                  · intro vals w1 hx hd
                    have e11 : vals 11 = .bool false := hd 11 (by decide)
                    exact .no [(36, .bool false)] 46 ⟨.inn 11 (by kernel_rfl) e11, trivial⟩ (by kernel_rfl) rfl (by kernel_rfl) rfl
                  · intro vals w1 hx hd
                    have e11 : vals 11 = .bool false := hd 11 (by decide)
                    exact .no [(36, .bool false)] 47 ⟨.inn 11 (by kernel_rfl) e11, trivial⟩ (by kernel_rfl) rfl (by kernel_rfl) rfl
                  · intro vals w1 hx hd
                    have e11 : vals 11 = .bool false := hd 11 (by decide)
                    have e22 : vals 22 = undef := hd 22 (by decide)
                    refine .run [(36, .bool false), (47, undef)] { dst := some 0, op := Go.Op.pick (Go.Operand.const (.bool false)) (Go.Operand.const (undef)) (Go.Operand.const (Go.Value.bool false)), type := 4, pos := "", after := #[], guard := none } 48 ⟨.inn 11 (by kernel_rfl) e11, .inn 22 (by kernel_rfl) e22, trivial⟩ (by kernel_rfl) (by kernel_rfl) (by kernel_rfl) rfl rfl rfl ?_
                    clear hd e11 e22
                    go_wp2
                    exact ⟨rfl, Ext.refl _, rfl⟩
                intro vals W5 hy hf
                have e23 : vals 23 = .bool false := hf 23 (by omega)
                have hy := hy.undrew
                have hx5 := Ext.trans hx3.out hy
                clear hf
                refine tail0 (by kernel_rfl) ?_
                simp only [Lf, dstAt, Act.put, List.getElem?_toArray, List.getElem?_cons_zero, List.getElem?_cons_succ, Option.bind_some, List.setIfInBounds_toArray, List.set_cons_zero, List.set_cons_succ]
                rw [e23]
                clear e23
                clear d0 d1 d2 c0 c1 c2
                go_wp2
                go_roundw
                case rel => exact ⟨k + 1, by omega, by go_num, HN, Lib.hid hx5⟩
                case measure => simp [intOf]; omega
            · have hs := HI.out
              rw [List.drop_of_length_le (by rw [List.length_take]; omega), List.any_nil, Bool.not_false, Bool.true_and] at hs
              have HVN : Hid (vr = validR (l.take (i + 1)) (l.drop (i + 1))) := Lib.hid (by rw [hs, HREST.out])
              clear hs HI
              go_wp2
              go_roundw
              case rel => exact ⟨i + 1, by omega, by go_num, HVN, HF2, hx⟩
              case measure => simp [intOf]; omega
      · have hvt : vr = true := by rw [HV.out, List.drop_of_length_le (by rw [HL.out]; omega)]; rfl
        have HVT := Lib.hid hvt
        clear hvt HV HF
        go_wp2
        go_ret
        exact ⟨by rw [HVT.out]; rfl, hx⟩
  · rw [decide_eq_false h64, Bool.false_and]
    have h65 : (64 : Int) < (n : Int) := by omega
    go_enter Try.func19, Try.ntmps19
    go_wp2
    go_ret
    exact ⟨rfl, Ext.refl _⟩
end Go.Proofs.Ytgbfhkildbhhoaa
