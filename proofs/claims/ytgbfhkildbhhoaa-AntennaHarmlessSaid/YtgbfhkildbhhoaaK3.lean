/- fits. -/
import Derived.Test.YtgbfhkildbhhoaaK2
import Derived.Laws.EntriesVeiled
import Derived.Laws.BitsLemmas
namespace Go.Proofs.Ytgbfhkildbhhoaa
open Go.RowKit

theorem Two.out {g1 g2 : Nat} {w a b : World} (h : Two g1 g2 a b) (hx : Ext w a) (h1 : w.heap.size ≤ g1) (h2 : w.heap.size ≤ g2) : Ext w b :=
  ⟨h.os.trans hx.os, h.tape.trans hx.tape, h.output.trans hx.output, Nat.le_trans hx.size h.size, fun i hi => (h.block i (Nat.lt_of_lt_of_le hi hx.size) (by omega) (by omega)).trans (hx.block i hi)⟩
theorem size_alloc1 (w : World) (o : Obj) : (w.alloc o).heap.size = w.heap.size + 1 := by simp
theorem bit_i64 (S k : Nat) (hS : S < 131072) : bits BinOp.and IntKind.i64 ((S : Int) / 2 ^ k) 1 = if bitP S k then 1 else 0 := by
  have hc : ((S : Int) / 2 ^ k) = ((S / 2 ^ k : Nat) : Int) := by simp
  have hw : ∀ n : Int, 0 ≤ n → n < 2 ^ 62 → IntKind.i64.wrap n = n := fun n h0 h1 => IntWalk.i64_in _ (by omega)
  have hle : S / 2 ^ k ≤ S := Nat.div_le_self _ _
  have h := (bits_nat .i64 62 (by decide) hw (S / 2 ^ k) 1 (by omega) (by omega)).1
  rw [hc]
  refine h.trans ?_
  rw [Nat.and_one_is_mod]
  unfold bitP
  have h2 : S / 2 ^ k % 2 = 0 ∨ S / 2 ^ k % 2 = 1 := by omega
  rcases h2 with h2 | h2 <;> simp [h2]
theorem unt_none : unt (fun _ => false) = 64 := by decide
theorem tM_none : ∀ k, (fun _ => none : Int → Option Value) k = tM (fun _ => false) k := fun _ => rfl
theorem oM_none : ∀ k, (fun _ => none : Int → Option Value) k = oM (fun _ => none) k := fun _ => rfl

theorem fits_env (rs : List Req) (os : List Int) (LA : Option Addr) (ln lc : Nat) (NA : Option Addr) (nn nc : Nat) (w : World) (hr : Rqs w w.heap.size LA ln lc rs) (ho : RA intCells 1 w w.heap.size NA nn nc os) (hnn : nn ≤ 1000) (W : World)
    (hW : W = ((((((w.alloc (.cells #[.slice LA ln lc] 31)).alloc (.cells #[.slice NA nn nc] 28)).alloc (.map #[] 0)).alloc (.cells #[.map (some (w.heap.size + 1 + 1))] 107)).alloc
      (.cells #[.func (.func 70) #[] #[.pointer (some ⟨w.heap.size + 1, 0, none⟩), .pointer (some ⟨w.heap.size, 0, none⟩)]] 108)).alloc
      (.cells #[.func (.func 71) #[] #[.pointer (some ⟨w.heap.size + 1 + 1 + 1 + 1, 0, none⟩), .pointer (some ⟨w.heap.size + 1 + 1 + 1, 0, none⟩), .pointer (some ⟨w.heap.size + 1 + 1 + 1 + 1 + 1, 0, none⟩)]] 109))) :
    GEnv w.heap.size (w.heap.size + 1 + 1 + 1 + 1) (w.heap.size + 1 + 1 + 1) (w.heap.size + 1 + 1 + 1 + 1 + 1) w.heap.size (w.heap.size + 1) (w.heap.size + 1 + 1) LA ln lc NA nn nc rs os W ∧ MapI W (w.heap.size + 1 + 1) (oM (fun _ => none)) ∧ Ext w W := by
  subst hW
  have x1 : Ext w (w.alloc (.cells #[.slice LA ln lc] 31)) := bl_alloc (Below.refl _ _) _
  have b1 := Blk.new w 31 #[.slice LA ln lc]
  have s1 : (w.alloc (.cells #[.slice LA ln lc] 31)).heap.size = w.heap.size + 1 := by rw [size_alloc1]
  generalize w.alloc (.cells #[.slice LA ln lc] 31) = w1 at x1 b1 s1 ⊢
  have x2 : Ext w1 (w1.alloc (.cells #[.slice NA nn nc] 28)) := bl_alloc (Below.refl _ _) _
  have b2 := Blk.new w1 28 #[.slice NA nn nc]
  have s2 : (w1.alloc (.cells #[.slice NA nn nc] 28)).heap.size = w.heap.size + 1 + 1 := by rw [size_alloc1, s1]
  generalize w1.alloc (.cells #[.slice NA nn nc] 28) = w2 at x2 b2 s2 ⊢
  have x3 : Ext w2 (w2.alloc (.map #[] 0)) := bl_alloc (Below.refl _ _) _
  have b3 := MapI.new w2
  have s3 : (w2.alloc (.map #[] 0)).heap.size = w.heap.size + 1 + 1 + 1 := by rw [size_alloc1, s2]
  generalize w2.alloc (.map #[] 0) = w3 at x3 b3 s3 ⊢
  obtain ⟨c4, h4⟩ : ∃ c, c = #[Value.map (some (w.heap.size + 1 + 1))] := ⟨_, rfl⟩
  rw [← h4]
  have x4 : Ext w3 (w3.alloc (.cells c4 107)) := bl_alloc (Below.refl _ _) _
  have b4 := Blk.new w3 107 c4
  have s4 : (w3.alloc (.cells c4 107)).heap.size = w.heap.size + 1 + 1 + 1 + 1 := by rw [size_alloc1, s3]
  generalize w3.alloc (.cells c4 107) = w4 at x4 b4 s4 ⊢
  obtain ⟨c5, h5⟩ : ∃ c, c = #[Value.func (.func 70) #[] #[.pointer (some ⟨w.heap.size + 1, 0, none⟩), .pointer (some ⟨w.heap.size, 0, none⟩)]] := ⟨_, rfl⟩
  rw [← h5]
  have x5 : Ext w4 (w4.alloc (.cells c5 108)) := bl_alloc (Below.refl _ _) _
  have b5 := Blk.new w4 108 c5
  have s5 : (w4.alloc (.cells c5 108)).heap.size = w.heap.size + 1 + 1 + 1 + 1 + 1 := by rw [size_alloc1, s4]
  generalize w4.alloc (.cells c5 108) = w5 at x5 b5 s5 ⊢
  obtain ⟨c6, h6⟩ : ∃ c, c = #[Value.func (.func 71) #[] #[.pointer (some ⟨w.heap.size + 1 + 1 + 1 + 1, 0, none⟩), .pointer (some ⟨w.heap.size + 1 + 1 + 1, 0, none⟩), .pointer (some ⟨w.heap.size + 1 + 1 + 1 + 1 + 1, 0, none⟩)]] := ⟨_, rfl⟩
  rw [← h6]
  have x6 : Ext w5 (w5.alloc (.cells c6 109)) := bl_alloc (Below.refl _ _) _
  have b6 := Blk.new w5 109 c6
  generalize w5.alloc (.cells c6 109) = w6 at x6 b6 ⊢
  rw [s1] at b2
  rw [s2] at b3
  rw [s3, h4] at b4
  rw [s4, h5] at b5
  rw [s5, h6] at b6
  have y5 := x6
  have y4 := Ext.trans x5 y5
  have y3 := Ext.trans x4 y4
  have y2 := Ext.trans x3 y3
  have y1 := Ext.trans x2 y2
  have y0 := Ext.trans x1 y1
  exact ⟨⟨b5.ext y5, b4.ext y4, b6, b1.ext y1, b2.ext y2, hr.below y0, ho.below y0, Below.size y0, hnn⟩, (b3.ext y3).congr (fun _ => rfl), y0⟩

set_option maxRecDepth 100000 in
set_option maxHeartbeats 4000000 in
theorem fits_any (rs : List Req) (os : List Int) (S : Nat) (LA : Option Addr) (ln lc : Nat) (NA : Option Addr) (nn nc : Nat) (w : World) (hr : Rqs w w.heap.size LA ln lc rs) (ho : RA intCells 1 w w.heap.size NA nn nc os) (hl : ln ≤ 16) (hnn : nn ≤ 1000) (hS : S < 131072) (hps : ∀ j, j < ln → ∀ p ∈ psP rs os j, 0 ≤ p ∧ p ≤ 63) :
    Calls Try.prog 55 #[.slice LA ln lc, .int .i64 S, .slice NA nn nc] w fun e w' => e = .returned (.bool (fitsP (psP rs os) ln S)) ∧ Ext w w' := by
  have HR := Lib.hid hr
  have HO := Lib.hid ho
  have HPS := Lib.hid hps
  obtain ⟨vr, hvr⟩ : ∃ b, b = fitsP (psP rs os) ln S := ⟨_, rfl⟩
  rw [← hvr]
  have HV : Hid (vr = fitsR (psP rs os) S ((List.range ln).drop 0) (fun _ => none)) := Lib.hid (by rw [hvr]; rfl)
  have hmm : ∀ w : World, (Instr.makeMap 107 none).run Try.prog w = .ok (.map (some w.heap.size)) (w.alloc (.map #[] 0)) := fun w => by simp [Instr.makeMap]
  have hm2 : ∀ w : World, (Instr.makeMap 110 none).run Try.prog w = .ok (.map (some w.heap.size)) (w.alloc (.map #[] 0)) := fun w => by simp [Instr.makeMap]
  clear hvr hr ho hps
  go_enter Try.func55, Try.ntmps55
  go_upto_region 5 with (fail)
  obtain ⟨W, hW⟩ : ∃ W, W = ((((((w.alloc (.cells #[.slice LA ln lc] 31)).alloc (.cells #[.slice NA nn nc] 28)).alloc (.map #[] 0)).alloc (.cells #[.map (some (w.heap.size + 1 + 1))] 107)).alloc
      (.cells #[.func (.func 70) #[] #[.pointer (some ⟨w.heap.size + 1, 0, none⟩), .pointer (some ⟨w.heap.size, 0, none⟩)]] 108)).alloc
      (.cells #[.func (.func 71) #[] #[.pointer (some ⟨w.heap.size + 1 + 1 + 1 + 1, 0, none⟩), .pointer (some ⟨w.heap.size + 1 + 1 + 1, 0, none⟩), .pointer (some ⟨w.heap.size + 1 + 1 + 1 + 1 + 1, 0, none⟩)]] 109)) := ⟨_, rfl⟩
  rw [← hW]
  obtain ⟨E, hmo, hx⟩ := fits_env rs os LA ln lc NA nn nc w HR.out HO.out hnn W hW
  have hgo : w.heap.size ≤ w.heap.size + 1 + 1 := by omega
  clear hW
  generalize w.heap.size + 1 + 1 + 1 + 1 + 1 = gg at E ⊢
  generalize w.heap.size + 1 + 1 + 1 + 1 = gp at E ⊢
  generalize w.heap.size + 1 + 1 + 1 = gw at E ⊢
  generalize w.heap.size + 1 + 1 = go at E hgo hmo ⊢
  generalize w.heap.size + 1 = gn at E ⊢
  obtain ⟨gl, hgl⟩ : ∃ g, g = w.heap.size := ⟨_, rfl⟩
  have E2 : GEnv w.heap.size gp gw gg gl gn go LA ln lc NA nn nc rs os W := by rw [hgl]; exact E
  rw [← hgl]
  clear hgl E
  have HE0 := Lib.hid E2
  have HM0 := Lib.hid hmo
  have d0 : W.cell? ⟨gl, 0, none⟩ = some (.slice LA ln lc) := E2.jl.cell 0
  clear E2 hmo
  go_wp2
  go_loopw [16] (fun y wr => ∃ (k : Nat) (o : Int → Option Nat), k ≤ ln ∧ y = .int .i64 k ∧ Hid (vr = fitsR (psP rs os) S ((List.range ln).drop k) o) ∧ Hid (MapI wr go (oM o)) ∧ Hid (GEnv w.heap.size gp gw gg gl gn go LA ln lc NA nn nc rs os wr) ∧ Hid (∀ p j, o p = some j → j < ln) ∧ Ext w wr) (fun y _ => ln - (intOf y).toNat)
  case atStart => exact ⟨0, _, Nat.zero_le _, rfl, HV, HM0, HE0, Lib.hid (fun _ _ h => by cases h), hx⟩
  case round =>
    clear HV HM0 HE0 hx d0
    obtain ⟨k, o, hk, rfl, HV, HM, HE, HOB, hx⟩ := hrel
    by_cases hkn : k < ln
    · have hv := HV.out
      have hkr : k < (List.range ln).length := by simpa using hkn
      rw [List.drop_eq_getElem_cons hkr, List.getElem_range, fitsR_cons] at hv
      have HV2 := Lib.hid hv
      clear hv HV hkr
      have e2 : wr.cell? ⟨gg, 0, none⟩ = some (.func (.func 71) #[] #[.pointer (some ⟨gp, 0, none⟩), .pointer (some ⟨gw, 0, none⟩), .pointer (some ⟨gg, 0, none⟩)]) := HE.out.jg.cell 0
      have hb := bit_i64 S k hS
      generalize bitP S k = q at HV2 hb
      cases q
      · have HVN : Hid (vr = fitsR (psP rs os) S ((List.range ln).drop (k + 1)) o) := Lib.hid (by rw [HV2.out]; rfl)
        have hb2 : ¬ bits BinOp.and IntKind.i64 ((S : Int) / 2 ^ k) 1 = 1 := by rw [hb]; decide
        clear hb HV2
        go_wp2_with fail
        go_roundw
        case rel => exact ⟨k + 1, o, by omega, by go_num, HVN, HM, HE, HOB, hx⟩
        case measure => simp [intOf]; omega
      · have hb2 : bits BinOp.and IntKind.i64 ((S : Int) / 2 ^ k) 1 = 1 := by rw [hb]; rfl
        clear hb
        have hy : Ext wr (wr.alloc (.map #[] 0)) := bl_alloc (Below.refl _ _) _
        have hmt := MapI.new wr
        have hgt : w.heap.size ≤ wr.heap.size := Below.size hx
        have hne : go ≠ wr.heap.size := by have := HM.out.lt; omega
        have hcall := give_any hgo hgt hne (by omega) HPS.out 65 k o (fun _ => false) _ (HE.out.ext hy) (HM.out.ext hy) (hmt.congr tM_none) hkn HOB.out (by rw [unt_none]; omega)
        have hrng : ∀ p j, (giveF (psP rs os) 65 k o (fun _ => false)).o p = some j → j < ln := giveF_rng _ ln _ _ _ _ hkn HOB.out
        have hv : vr = if (giveF (psP rs os) 65 k o (fun _ => false)).ok then fitsR (psP rs os) S ((List.range ln).drop (k + 1)) (giveF (psP rs os) 65 k o (fun _ => false)).o else false := by rw [HV2.out]; rfl
        generalize giveF (psP rs os) 65 k o (fun _ => false) = y at hcall hrng hv
        have HCALL := Lib.hid hcall
        have HRNG := Lib.hid hrng
        have HV3 := Lib.hid hv
        have HTW : Hid (∀ W, Two go wr.heap.size (wr.alloc (.map #[] 0)) W → GEnv w.heap.size gp gw gg gl gn go LA ln lc NA nn nc rs os W ∧ Ext w W) := Lib.hid (fun W h => ⟨(HE.out.ext hy).two (HM.out.ext hy) hmt hgo hgt h, h.out (Ext.trans hx hy) hgo hgt⟩)
        clear hcall hrng hv hmt HV2 HOB HM HE hy
        go_wp2_with fail
        refine HCALL.out.mono ?_
        rintro e W2 ⟨rfl, hy2, hmo, _⟩
        obtain ⟨E3, hx3⟩ := HTW.out W2 hy2
        have HM3 := Lib.hid hmo
        have HE3 := Lib.hid E3
        clear hy2 hmo E3 HTW HCALL hx
        obtain ⟨yk, yo, yt⟩ := y
        dsimp only at HV3 HRNG HM3
        cases yk
        · have HF : Hid (vr = false) := Lib.hid (by rw [HV3.out]; rfl)
          clear HV3
          go_wp2
          go_ret
          exact ⟨by rw [HF.out]; rfl, hx3⟩
        · have HVN : Hid (vr = fitsR (psP rs os) S ((List.range ln).drop (k + 1)) yo) := Lib.hid (by rw [HV3.out]; rfl)
          clear HV3
          go_wp2
          go_roundw
          case rel => exact ⟨k + 1, yo, by omega, by go_num, HVN, HM3, HE3, HRNG, hx3⟩
          case measure => simp [intOf]; omega
    · have hv := HV.out
      rw [List.drop_of_length_le (by rw [List.length_range]; omega), fitsR] at hv
      have HF := Lib.hid hv
      clear hv HV HM HE HOB
      go_wp2
      go_ret
      exact ⟨by rw [HF.out]; rfl, hx⟩
end Go.Proofs.Ytgbfhkildbhhoaa
