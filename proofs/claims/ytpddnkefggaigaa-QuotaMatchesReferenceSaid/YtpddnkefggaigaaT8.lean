/- Made of the reference: its contract. -/
import Derived.Test.YtpddnkefggaigaaT7
import Derived.Test.YtpddnkefggaigaaReg4
namespace Go.Proofs.Ytpddnkefggaigaa
open Go.RowKit

set_option maxHeartbeats 2000000 in
theorem made_any (A : Option Addr) (n c : Nat) (has : List Int) (A2 : Option Addr) (n2 c2 : Nat) (xs : List Quad) (w : World) (h : RW_ w w.heap.size ⟨A, n, c⟩ has) (hi : okI has) (h2 : RQ w w.heap.size ⟨A2, n2, c2⟩ xs) (hq : ∀ x ∈ xs, x.ok) :
    Calls Try.prog 11 #[.slice A n c, .slice A2 n2 c2] w (MadeRet w (madeP has xs)) := by
  have hmk : ∀ w, (Instr.makeSlice 22 (.int .i64 16) (.int .i64 16)).run Try.prog w = .ok (.slice (some ⟨w.heap.size, 0, none⟩) 16 16) (w.alloc (.cells zero16 3)) := fun _ => by kernel_rfl
  have hde := deeds_any A2 n2 c2 xs
  have hn : n ≤ 9223372036854775807 := by have h1 : n ≤ c := h.2.1; have h2 : c ≤ maxLen := h.2.2; unfold maxLen at h2; omega
  have hl : has.length = n := by have := h.1.1; simpa using this
  have HL := Lib.hid hl
  have HI := Lib.hid hi
  have HD := Lib.hid hde
  have HQ := Lib.hid hq
  clear hl hi hde hq
  go_enter Try.func11, Try.ntmps11
  go_wp2_with fail
  generalize hW : w.alloc _ = W
  have hBW : Below w.heap.size w W := by subst hW; exact (by repeat (first | exact Below.refl _ _ | assumption | refine Below.drew ?_ | refine below_drewN ?_ _ | refine bl_alloc ?_ _ | refine Below.setCell ?_ (by first | (simp; done) | omega | (simp; omega)) _ | refine bl_then ?_ (by assumption)))
  have hzW : w.heap.size + 1 ≤ W.heap.size := by subst hW; simp
  have jr : Blk W w.heap.size 26 nil4 := by subst hW; exact Blk.new_at _ _ rfl
  clear hW
  refine wp_region_obl2 5 (fun ix vals v w1 => match ix with | 0 => w1.ownsRow w.heap.size 3 1 v 16 ((List.replicate 16 (0 : Int)).map I64) | 1 => w1.ownsRow w.heap.size 3 1 v 16 ((List.replicate 16 (0 : Int)).map I64) | 2 => w1.ownsRow w.heap.size 3 1 v 16 ((List.replicate 16 (0 : Int)).map I64) | 3 => v = .agg #[vals 0, vals 1, .slice none 0 0, vals 2] | _ => ∃ g, v = .pointer (some ⟨g, 0, none⟩) ∧ w.heap.size + 1 ≤ g ∧ Blk w1 g 26 nil4) (fun ix v => match ix with | 0 => v.ownBlock | 1 => v.ownBlock | 2 => v.ownBlock | _ => none) (by kernel_rfl) (by kernel_rfl) ?_ ?_ ?_ ?_ ?_
  · intro ix vals v w1 hi hr k hk
    match ix, hr, hk with
    | 0, hr, hk => exact (World.ownsRow.lt hr k hk).2
    | 1, hr, hk => exact (World.ownsRow.lt hr k hk).2
    | 2, hr, hk => exact (World.ownsRow.lt hr k hk).2
    | 3, _, hk => cases hk
    | (kx + 4), _, hk => cases hk
  · intro ix vals v w1 w2 hi hr hx
    match ix, hr with
    | 0, hr => exact own_ext hr hx
    | 1, hr => exact own_ext hr hx
    | 2, hr => exact own_ext hr hx
    | 3, hr => exact hr
    | (kx + 4), hr => obtain ⟨g, h1, h2, h3⟩ := hr; exact ⟨g, h1, h2, h3.ext hx⟩
  · intro ix vals vals_ v w1 hi hv hr
    match ix, hi, hv, hr with
    | 0, _, _, hr => exact hr
    | 1, _, _, hr => exact hr
    | 2, _, _, hr => exact hr
    | 3, _, hv, hr => have e0 := hv 0 (by kernel_rfl); have e1 := hv 1 (by kernel_rfl); have e2 := hv 2 (by kernel_rfl); rw [← e0, ← e1, ← e2]; exact hr
    | (kx + 4), _, _, hr => exact hr
  · refine ⟨?_, ?_, ?_, ?_, ?_, trivial⟩
    · intro vals w1 hx hd ha
      clear hd ha
      simp only [Lf]
      have hz := Below.size hx.undrew
      go_wp2
      exact ⟨rfl, (by repeat (first | exact Below.refl _ _ | assumption | refine Below.drew ?_ | refine below_drewN ?_ _ | refine bl_alloc ?_ _ | refine Below.setCell ?_ (by first | (simp; done) | omega | (simp; omega)) _ | refine bl_then ?_ (by assumption))), own_of_blk (zs := List.replicate 16 0) (Blk.new _ _ _) (by omega) rfl (by show 16 ≤ 1099511627776; omega), fun k hk => Nat.le_of_eq (Option.some.inj hk)⟩
    · intro vals w1 hx hd ha
      clear hd ha
      simp only [Lf, dstAt, Act.put, List.getElem?_toArray, List.getElem?_cons_zero, Option.bind_some, List.setIfInBounds_toArray, List.set_cons_zero, List.set_cons_succ]
      have hz := Below.size hx.undrew
      go_wp2
      exact ⟨rfl, (by repeat (first | exact Below.refl _ _ | assumption | refine Below.drew ?_ | refine below_drewN ?_ _ | refine bl_alloc ?_ _ | refine Below.setCell ?_ (by first | (simp; done) | omega | (simp; omega)) _ | refine bl_then ?_ (by assumption))), own_of_blk (zs := List.replicate 16 0) (Blk.new _ _ _) (by omega) rfl (by show 16 ≤ 1099511627776; omega), fun k hk => Nat.le_of_eq (Option.some.inj hk)⟩
    · intro vals w1 hx hd ha
      clear hd ha
      simp only [Lf, dstAt, Act.put, List.getElem?_toArray, List.getElem?_cons_zero, List.getElem?_cons_succ, Option.bind_some, List.setIfInBounds_toArray, List.set_cons_zero, List.set_cons_succ]
      have hz := Below.size hx.undrew
      go_wp2
      exact ⟨rfl, (by repeat (first | exact Below.refl _ _ | assumption | refine Below.drew ?_ | refine below_drewN ?_ _ | refine bl_alloc ?_ _ | refine Below.setCell ?_ (by first | (simp; done) | omega | (simp; omega)) _ | refine bl_then ?_ (by assumption))), own_of_blk (zs := List.replicate 16 0) (Blk.new _ _ _) (by omega) rfl (by show 16 ≤ 1099511627776; omega), fun k hk => Nat.le_of_eq (Option.some.inj hk)⟩
    · intro vals w1 hx hd ha
      have r0 : (fun v w1 => w1.ownsRow w.heap.size 3 1 v 16 ((List.replicate 16 (0 : Int)).map I64)) (vals 0) w1 := hd 0 (by decide)
      dsimp only at r0
      have r1 : (fun v w1 => w1.ownsRow w.heap.size 3 1 v 16 ((List.replicate 16 (0 : Int)).map I64)) (vals 1) w1 := hd 1 (by decide)
      dsimp only at r1
      have r2 : (fun v w1 => w1.ownsRow w.heap.size 3 1 v 16 ((List.replicate 16 (0 : Int)).map I64)) (vals 2) w1 := hd 2 (by decide)
      dsimp only at r2
      clear hd ha
      simp only [Lf, dstAt, Act.put, List.getElem?_toArray, List.getElem?_cons_zero, List.getElem?_cons_succ, Option.bind_some, List.setIfInBounds_toArray, List.set_cons_zero, List.set_cons_succ]
      obtain ⟨D1, d1, e1, _, _⟩ := own_slice r0
      obtain ⟨D2, d2, e2, _, _⟩ := own_slice r1
      obtain ⟨D4, d4, e4, _, _⟩ := own_slice r2
      rw [e1, e2, e4]
      go_wp2
      exact ⟨rfl, Ext.refl _, rfl, fun k hk => by cases hk⟩
    · intro vals w1 hx hd ha
      clear hd ha
      simp only [Lf, dstAt, Act.put, List.getElem?_toArray, List.getElem?_cons_zero, List.getElem?_cons_succ, Option.bind_some, List.setIfInBounds_toArray, List.set_cons_zero, List.set_cons_succ]
      have hz := Below.size hx.undrew
      go_wp2
      exact ⟨rfl, (by repeat (first | exact Below.refl _ _ | assumption | refine Below.drew ?_ | refine below_drewN ?_ _ | refine bl_alloc ?_ _ | refine Below.setCell ?_ (by first | (simp; done) | omega | (simp; omega)) _ | refine bl_then ?_ (by assumption))), ⟨_, rfl, by omega, Blk.new _ _ _⟩, fun k hk => by cases hk⟩
  intro vals w2 hx hf hap
  have o1 : w2.ownsRow w.heap.size 3 1 (vals 0) 16 ((List.replicate 16 (0 : Int)).map I64) := hf 0 (by omega)
  have o2 : w2.ownsRow w.heap.size 3 1 (vals 1) 16 ((List.replicate 16 (0 : Int)).map I64) := hf 1 (by omega)
  have o4 : w2.ownsRow w.heap.size 3 1 (vals 2) 16 ((List.replicate 16 (0 : Int)).map I64) := hf 2 (by omega)
  have a12 : ∀ k, (vals 0).ownBlock = some k → (vals 1).ownBlock ≠ some k := hap 0 1 (by omega) (by omega) (by omega)
  have a14 : ∀ k, (vals 0).ownBlock = some k → (vals 2).ownBlock ≠ some k := hap 0 2 (by omega) (by omega) (by omega)
  have a24 : ∀ k, (vals 1).ownBlock = some k → (vals 2).ownBlock ≠ some k := hap 1 2 (by omega) (by omega) (by omega)
  have e3 : vals 3 = .agg #[vals 0, vals 1, .slice none 0 0, vals 2] := hf 3 (by omega)
  obtain ⟨Bp, e4, hBp, jp⟩ : ∃ g, vals 4 = .pointer (some ⟨g, 0, none⟩) ∧ w.heap.size + 1 ≤ g ∧ Blk w2 g 26 nil4 := hf 4 (by omega)
  clear hf hap
  obtain ⟨g1, d1, e1⟩ := own16 o1
  obtain ⟨g2, d2, e2⟩ := own16 o2
  obtain ⟨g4, d4, e5⟩ := own16 o4
  rw [e1] at o1 a12 a14
  rw [e2] at o2 a12 a24
  rw [e5] at o4 a14 a24
  rw [e1, e2, e5] at e3
  clear e1 e2 e5
  have hx := hx.undrew
  have hB2 : Below w.heap.size w w2 := hBW.trans (Below.mono hx (by omega))
  have jr2 := jr.ext hx
  have hne : w.heap.size ≠ Bp := by omega
  clear jr hBW hx
  refine tail1 5 _ (by kernel_rfl) (by kernel_rfl) rfl ?_
  simp only [Lf, dstAt, Act.put, List.getElem?_toArray, List.getElem?_cons_zero, List.getElem?_cons_succ, Option.bind_some, List.setIfInBounds_toArray, List.set_cons_zero, List.set_cons_succ]
  rw [e3, e4]
  clear e3 e4
  have hc0 := jp.cell 0
  have hc1 := jp.cell 1
  have hc2 := jp.cell 2
  have hc3 := jp.cell 3
  have hf0 := jp.frozen 0
  have hf1 := jp.frozen 1
  have hf2 := jp.frozen 2
  have hf3 := jp.frozen 3
  go_wp2_with fail
  generalize hW3 : ((((w2.setCell ⟨Bp, 0, none⟩ _).setCell ⟨Bp, 1, none⟩ _).setCell ⟨Bp, 2, none⟩ _).setCell ⟨Bp, 3, none⟩ _) = W3
  have hm0 : MadeS w W3 Bp w.heap.size ⟨some ⟨g1, 0, none⟩, 16, d1⟩ ⟨some ⟨g2, 0, none⟩, 16, d2⟩ ⟨none, 0, 0⟩ ⟨some ⟨g4, 0, none⟩, 16, d4⟩ ⟨startK has 0, List.replicate 16 0, [], List.replicate 16 0⟩ := by
    subst hW3
    rw [startK_zero]
    have hpo : PoolOwnA w2 w.heap.size ⟨some ⟨g1, 0, none⟩, 16, d1⟩ ⟨some ⟨g2, 0, none⟩, 16, d2⟩ ⟨none, 0, 0⟩ ⟨some ⟨g4, 0, none⟩, 16, d4⟩ ⟨List.replicate 16 0, List.replicate 16 0, [], List.replicate 16 0⟩ :=
      ⟨⟨o1, o2, World.ownsRow_nil _ _ _ _, o4, by show 16 ≤ 1099511627776; omega, by show 16 ≤ 1099511627776; omega, Nat.zero_le _, by show 16 ≤ 1099511627776; omega⟩, g1, g2, g4, rfl, rfl, rfl, fun e => a12 g1 rfl (by rw [e]; rfl), fun e => a14 g1 rfl (by rw [e]; rfl), fun e => a24 g2 rfl (by rw [e]; rfl)⟩
    exact ⟨hpo.set4 jp _ _ _ _, jp.set4 _ _ _ _, (((jr2.far (p := ⟨Bp, 0, none⟩) hne _).far (p := ⟨Bp, 1, none⟩) hne _).far (p := ⟨Bp, 2, none⟩) hne _).far (p := ⟨Bp, 3, none⟩) hne _, below_set4 hB2 (by omega) _ _ _ _⟩
  clear hW3 o1 o2 o4 a12 a14 a24 hB2 jr2 jp hc0 hc1 hc2 hc3 hf0 hf1 hf2 hf3
  go_loopw [6] (fun i wr => ∃ k : Nat, k ≤ n ∧ k ≤ 16 ∧ i = .int .i64 k ∧ MadeS w wr Bp w.heap.size ⟨some ⟨g1, 0, none⟩, 16, d1⟩ ⟨some ⟨g2, 0, none⟩, 16, d2⟩ ⟨none, 0, 0⟩ ⟨some ⟨g4, 0, none⟩, 16, d4⟩ ⟨startK has k, List.replicate 16 0, [], List.replicate 16 0⟩) (fun i _ => 16 - (intOf i).toNat)
  case atStart => exact ⟨0, Nat.zero_le _, Nat.zero_le _, rfl, hm0⟩
  case round =>
    clear hm0
    obtain ⟨k, hk, hk16, rfl, hm⟩ := hrel
    by_cases hgo : k < n ∧ k < 16
    · · obtain ⟨hlt, h16⟩ := hgo
        obtain ⟨b, o, hz, hA, hb, hc0⟩ := reads_ints_at (h.1.below hm.below) hlt
        have hA : A = some ⟨b, o, none⟩ := hA
        subst hA
        have hok := HI.out has[k] (List.getElem_mem _)
        have hst := startK_step has k hz h16
        generalize has[k] = z at hc0 hok hst
        obtain ⟨z1, z2⟩ := hok
        have HS := Lib.hid hst
        clear hst
        have pz := pickI_bd z 40 (by omega)
        have hp0 : wr.cell? ⟨Bp, 0, none⟩ = some (.slice (some ⟨g1, 0, none⟩) 16 d1) := hm.jp.cell 0
        have hg1 := (own_cell hm.own.own.o1 h16).1
        have hgx : ∀ W', Ext wr W' → W'.frozen? ⟨g1, k, none⟩ = false := fun W' hx => (own_cell (hm.ext hx).own.own.o1 h16).2
        have HG := Lib.hid hgx
        have HM := Lib.hid hm
        clear hm hgx
        have hli : (k : Int) < 16 := by omega
        go_wp2_with fail
        refine wp_region_obl 9 (fun ix vals v w1 => match ix with | 0 => v = .pointer (some ⟨Bp, 0, none⟩) | 1 => v = .slice (some ⟨g1, 0, none⟩) 16 d1 | 2 => v = .int .i64 (k : Int) | 3 => v = .slice (some ⟨b, o, none⟩) n c | 4 => v = .int .i64 (k : Int) | 5 => v = .pointer (some ⟨b, o + k, none⟩) | 6 => v = .int .i64 z | 7 => v = .int .i64 (pickI z 40) | _ => v = .pointer (some ⟨g1, k, none⟩)) (by kernel_rfl) (by kernel_rfl) ?_ ?_ ?_ ?_
        · intro ix vals v w1 w2 hi hr hx
          match ix, hr with
          | 0, hr => exact hr
          | 1, hr => exact hr
          | 2, hr => exact hr
          | 3, hr => exact hr
          | 4, hr => exact hr
          | 5, hr => exact hr
          | 6, hr => exact hr
          | 7, hr => exact hr
          | (kx + 8), hr => exact hr
        · intro ix vals vals_ v w1 hi hv hr
          exact hr
        · refine ⟨?_, ?_, ?_, ?_, ?_, ?_, ?_, ?_, ?_, trivial⟩
          · intro vals w1 hx hd ha
            clear hd ha
            simp only [Lf]
            have hc0 := ext_cell hx hc0
            have hp0 := ext_cell hx hp0
            go_wp2
            exact ⟨rfl, Ext.refl _, rfl⟩
          · intro vals w1 hx hd ha
            have e0 : vals 0 = .pointer (some ⟨Bp, 0, none⟩) := hd 0 (by decide)
            clear hd ha
            simp only [Lf, dstAt, Act.put, List.getElem?_toArray, List.getElem?_cons_zero, Option.bind_some, List.setIfInBounds_toArray, List.set_cons_zero, List.set_cons_succ]
            simp only [e0]
            clear e0
            have hc0 := ext_cell hx hc0
            have hp0 := ext_cell hx hp0
            go_wp2
            exact ⟨rfl, Ext.refl _, rfl⟩
          · intro vals w1 hx hd ha
            clear hd ha
            simp only [Lf, dstAt, Act.put, List.getElem?_toArray, List.getElem?_cons_zero, List.getElem?_cons_succ, Option.bind_some, List.setIfInBounds_toArray, List.set_cons_zero, List.set_cons_succ]
            have hc0 := ext_cell hx hc0
            have hp0 := ext_cell hx hp0
            go_wp2
            exact ⟨rfl, Ext.refl _, rfl⟩
          · intro vals w1 hx hd ha
            clear hd ha
            simp only [Lf, dstAt, Act.put, List.getElem?_toArray, List.getElem?_cons_zero, List.getElem?_cons_succ, Option.bind_some, List.setIfInBounds_toArray, List.set_cons_zero, List.set_cons_succ]
            have hc0 := ext_cell hx hc0
            have hp0 := ext_cell hx hp0
            go_wp2
            exact ⟨rfl, Ext.refl _, rfl⟩
          · intro vals w1 hx hd ha
            clear hd ha
            simp only [Lf, dstAt, Act.put, List.getElem?_toArray, List.getElem?_cons_zero, List.getElem?_cons_succ, Option.bind_some, List.setIfInBounds_toArray, List.set_cons_zero, List.set_cons_succ]
            have hc0 := ext_cell hx hc0
            have hp0 := ext_cell hx hp0
            go_wp2
            exact ⟨rfl, Ext.refl _, rfl⟩
          · intro vals w1 hx hd ha
            have e3 : vals 3 = .slice (some ⟨b, o, none⟩) n c := hd 3 (by decide)
            have e4 : vals 4 = .int .i64 (k : Int) := hd 4 (by decide)
            clear hd ha
            simp only [Lf, dstAt, Act.put, List.getElem?_toArray, List.getElem?_cons_zero, List.getElem?_cons_succ, Option.bind_some, List.setIfInBounds_toArray, List.set_cons_zero, List.set_cons_succ]
            simp only [e3, e4]
            clear e3 e4
            have hc0 := ext_cell hx hc0
            have hp0 := ext_cell hx hp0
            go_wp2
            exact ⟨rfl, Ext.refl _, rfl⟩
          · intro vals w1 hx hd ha
            have e5 : vals 5 = .pointer (some ⟨b, o + k, none⟩) := hd 5 (by decide)
            clear hd ha
            simp only [Lf, dstAt, Act.put, List.getElem?_toArray, List.getElem?_cons_zero, List.getElem?_cons_succ, Option.bind_some, List.setIfInBounds_toArray, List.set_cons_zero, List.set_cons_succ]
            simp only [e5]
            clear e5
            have hc0 := ext_cell hx hc0
            have hp0 := ext_cell hx hp0
            go_wp2
            exact ⟨rfl, Ext.refl _, rfl⟩
          · intro vals w1 hx hd ha
            have e6 : vals 6 = .int .i64 z := hd 6 (by decide)
            clear hd ha
            simp only [Lf, dstAt, Act.put, List.getElem?_toArray, List.getElem?_cons_zero, List.getElem?_cons_succ, Option.bind_some, List.setIfInBounds_toArray, List.set_cons_zero, List.set_cons_succ]
            have hc0 := ext_cell hx hc0
            have hp0 := ext_cell hx hp0
            simp only [e6]
            clear e6
            go_wp2_with fail
            refine (rpick_any _ _ _ (by omega) (by omega) (by omega) (by omega)).mono ?_
            rintro e w2 ⟨rfl, rfl⟩
            go_wp2
            exact ⟨rfl, Ext.refl _, rfl⟩
          · intro vals w1 hx hd ha
            have e0 : vals 0 = .pointer (some ⟨Bp, 0, none⟩) := hd 0 (by decide)
            have e1 : vals 1 = .slice (some ⟨g1, 0, none⟩) 16 d1 := hd 1 (by decide)
            have e2 : vals 2 = .int .i64 (k : Int) := hd 2 (by decide)
            have e3 : vals 3 = .slice (some ⟨b, o, none⟩) n c := hd 3 (by decide)
            have e4 : vals 4 = .int .i64 (k : Int) := hd 4 (by decide)
            have e5 : vals 5 = .pointer (some ⟨b, o + k, none⟩) := hd 5 (by decide)
            have e6 : vals 6 = .int .i64 z := hd 6 (by decide)
            have e7 : vals 7 = .int .i64 (pickI z 40) := hd 7 (by decide)
            clear hd ha
            simp only [Lf, dstAt, Act.put, List.getElem?_toArray, List.getElem?_cons_zero, List.getElem?_cons_succ, Option.bind_some, List.setIfInBounds_toArray, List.set_cons_zero, List.set_cons_succ]
            simp only [e0, e1, e2, e3, e4, e5, e6, e7]
            clear e0 e1 e2 e3 e4 e5 e6 e7
            have hc0 := ext_cell hx hc0
            have hp0 := ext_cell hx hp0
            go_wp2
            exact ⟨rfl, Ext.refl _, rfl⟩
        intro vals w4 hx hf
        have e7 : vals 7 = .int .i64 (pickI z 40) := hf 7 (by omega)
        have e8 : vals 8 = .pointer (some ⟨g1, k, none⟩) := hf 8 (by omega)
        clear hf
        have hx := hx.undrew
        have hm := (HM.out.ext hx).write h16 (pickI z 40)
        have hg1 := ext_cell hx hg1
        have hg2 := HG.out _ hx
        clear hc0 hp0
        refine tail1 9 _ (by kernel_rfl) (by kernel_rfl) rfl ?_
        simp only [Lf, dstAt, Act.put, List.getElem?_toArray, List.getElem?_cons_zero, List.getElem?_cons_succ, Option.bind_some, List.setIfInBounds_toArray, List.set_cons_zero, List.set_cons_succ]
        rw [e7, e8]
        clear e7 e8
        have HM2 := Lib.hid hm
        clear hm HM HG
        go_wp2
        go_roundw
        case rel => exact ⟨k + 1, by omega, by omega, by go_num, by rw [← HS.out]; exact HM2.out⟩
        case measure => simp [intOf]; omega
    · have hm : MadeS w wr Bp w.heap.size ⟨some ⟨g1, 0, none⟩, 16, d1⟩ ⟨some ⟨g2, 0, none⟩, 16, d2⟩ ⟨none, 0, 0⟩ ⟨some ⟨g4, 0, none⟩, 16, d4⟩ (startP has) := by
        have e : startK has k = startK has 16 := by
          by_cases e16 : k = 16
          · rw [e16]
          · exact startK_end has k (by have := HL.out; omega) hk16
        rw [e] at hm
        exact hm
      have HM := Lib.hid hm
      have hlen : (deedsOf xs).length ≤ 16 := by simp [deedsOf]; omega
      have hgo2 : (k < n ∧ 16 ≤ k) ∨ (n ≤ k ∧ n ≤ k) := by omega
      clear hm hgo
      rcases hgo2 with ⟨hy1, hy2⟩ | ⟨hy1, hy2⟩
      all_goals
        go_wp2_with fail
        refine (HD.out _ ((h2.below HM.out.below).more HM.out.below.size) HQ.out).mono ?_
        rintro e w5 ⟨v, rfl, hx5, hrow⟩
        obtain ⟨A', c', hv, hc1', hc2'⟩ := own_slice hrow
        subst hv
        have hm5 := HM.out.ext hx5
        have hrow5 : DeedRow w5 w.heap.size _ _ := own_base hrow HM.out.below.size
        have HM5 := Lib.hid hm5
        have HRW := Lib.hid hrow5
        clear hm5 hrow hrow5 HM hx5 hy1 hy2 hc1' hc2'
        have hmp : madeP has xs = madeK has (deedsOf xs) := rfl
        generalize hr : madeP has xs = rr at hmp
        have HRR := Lib.hid hr
        clear hr
        generalize deedsOf xs = ds at hmp HRW hlen ⊢
        have HMP := Lib.hid hmp
        clear hmp
        obtain ⟨m, hmm⟩ : ∃ m, m = ds.length := ⟨_, rfl⟩
        rw [← hmm] at HRW hlen ⊢
        have HMM := Lib.hid hmm
        clear hmm
        go_wp2_with fail
        go_loopw [8] (fun i wr => ∃ (k : Nat) (s1 s2 s3 s4 : Sl), k ≤ m ∧ i = .int .i64 k ∧ MadeS w wr Bp w.heap.size s1 s2 s3 s4 (madeK has (ds.take k)) ∧ DeedRow wr w.heap.size (.slice A' m c') ds) (fun i _ => m - (intOf i).toNat)
        case atStart => exact ⟨0, _, _, _, _, Nat.zero_le _, rfl, HM5.out, HRW.out⟩
        case round =>
          clear HM5 HRW
          obtain ⟨k, ⟨E1, m1, f1⟩, ⟨E2, m2, f2⟩, ⟨E3, m3, f3⟩, ⟨E4, m4, f4⟩, hk, rfl, hm, hrow⟩ := hrel
          by_cases hlt : k < m
          · have hkd : k < ds.length := by have := HMM.out; omega
            obtain ⟨g, hA', hg1, hg2, hml, q0, q1, q2, q3, q4⟩ := hrow.at_ hkd
            subst hA'
            have hst := madeK_step has ds k hkd
            generalize ds[k] = d at q0 q1 q2 q3 q4 hst
            obtain ⟨kd, fr, tt, un, ce⟩ := d
            dsimp only at q0 q1 q2 q3 q4
            have hdo := rdo_any ⟨E1, m1, f1⟩ ⟨E2, m2, f2⟩ ⟨E3, m3, f3⟩ ⟨E4, m4, f4⟩ (madeK has (ds.take k)) ⟨kd, fr, tt, un, ce⟩
            rw [rdoP_eq] at hdo
            generalize madeK has (ds.take k) = pk at hm hst hdo
            generalize doP pk ⟨kd, fr, tt, un, ce⟩ = r at hst hdo
            have HDO := Lib.hid hdo
            have HST := Lib.hid hst
            have p0 : wr.cell? ⟨Bp, 0, none⟩ = some (.slice E1 m1 f1) := hm.jp.cell 0
            have p1 : wr.cell? ⟨Bp, 1, none⟩ = some (.slice E2 m2 f2) := hm.jp.cell 1
            have p2 : wr.cell? ⟨Bp, 2, none⟩ = some (.slice E3 m3 f3) := hm.jp.cell 2
            have p3 : wr.cell? ⟨Bp, 3, none⟩ = some (.slice E4 m4 f4) := hm.jp.cell 3
            have hzr := hm.below.size
            have HM := Lib.hid hm
            have HW := Lib.hid hrow
            clear hdo hst hm hrow hml
            go_wp2_with fail
            refine wp_region_late 10 8 (fun ix vals v w1 => match ix with | 0 => v = .agg #[.slice E1 m1 f1, .slice E2 m2 f2, .slice E3 m3 f3, .slice E4 m4 f4] | 1 => v = .slice (some ⟨g, 0, none⟩) m c' | 2 => v = .int .i64 (k : Int) | 3 => v = .pointer (some ⟨g, k * 5, none⟩) | 4 => v = .agg #[.int .i64 kd, .int .i64 fr, .int .i64 tt, .int .i64 un, .int .i64 ce] | 5 => PoolGotA r w.heap.size v w1 | 6 => v = vals 5 ∧ PoolGotA r w.heap.size v w1 | 7 => ∃ z, vals 6 = .tuple #[v, z] | 8 => ∃ z, vals 6 = .tuple #[z, v] | _ => ∃ g, v = .pointer (some ⟨g, 0, none⟩) ∧ wr.heap.size ≤ g ∧ Blk w1 g 26 nil4) (fun _ _ => none) (by kernel_rfl) (by kernel_rfl) (by kernel_rfl) (by kernel_rfl) _ rfl ?_ ?_ ?_ ?_ ?_
            · intro ix vals v w1 hi hr k hk
              match ix, hr, hk with
              | 0, _, hk => cases hk
              | 1, _, hk => cases hk
              | 2, _, hk => cases hk
              | 3, _, hk => cases hk
              | 4, _, hk => cases hk
              | 5, _, hk => cases hk
              | 6, _, hk => cases hk
              | 7, _, hk => cases hk
              | 8, _, hk => cases hk
              | (kx + 9), _, hk => cases hk
            · intro ix vals v w1 w2 hi hr hx
              match ix, hr with
              | 0, hr => exact hr
              | 1, hr => exact hr
              | 2, hr => exact hr
              | 3, hr => exact hr
              | 4, hr => exact hr
              | 5, hr => exact hr.ext hx
              | 6, hr => exact ⟨hr.1, hr.2.ext hx⟩
              | 7, hr => exact hr
              | 8, hr => exact hr
              | (kx + 9), hr => obtain ⟨g, h1, h2, h3⟩ := hr; exact ⟨g, h1, h2, h3.ext hx⟩
            · intro ix vals vals_ v w1 hi hv hr
              match ix, hi, hv, hr with
              | 0, _, _, hr => exact hr
              | 1, _, _, hr => exact hr
              | 2, _, _, hr => exact hr
              | 3, _, _, hr => exact hr
              | 4, _, _, hr => exact hr
              | 5, _, _, hr => exact hr
              | 6, _, hv, hr => have e5 := hv 5 (by kernel_rfl); rw [← e5]; exact hr
              | 7, _, hv, hr => have e6 := hv 6 (by kernel_rfl); rw [← e6]; exact hr
              | 8, _, hv, hr => have e6 := hv 6 (by kernel_rfl); rw [← e6]; exact hr
              | (kx + 9), _, _, hr => exact hr
            · refine ⟨?_, ?_, ?_, ?_, ?_, ?_, ?_, ?_, ?_, ?_, trivial⟩
              · intro vals w1 hx hd ha
                refine plain1 (fun _ => rfl) ?_
                clear hd ha
                simp only [Lf]
                have p0 := ext_cell hx p0
                have p1 := ext_cell hx p1
                have p2 := ext_cell hx p2
                have p3 := ext_cell hx p3
                have q0 := ext_cell hx q0
                have q1 := ext_cell hx q1
                have q2 := ext_cell hx q2
                have q3 := ext_cell hx q3
                have q4 := ext_cell hx q4
                go_wp2
                exact ⟨rfl, Ext.refl _, rfl⟩
              · intro vals w1 hx hd ha
                refine plain1 (fun _ => rfl) ?_
                clear hd ha
                simp only [Lf, dstAt, Act.put, List.getElem?_toArray, List.getElem?_cons_zero, Option.bind_some, List.setIfInBounds_toArray, List.set_cons_zero, List.set_cons_succ]
                have p0 := ext_cell hx p0
                have p1 := ext_cell hx p1
                have p2 := ext_cell hx p2
                have p3 := ext_cell hx p3
                have q0 := ext_cell hx q0
                have q1 := ext_cell hx q1
                have q2 := ext_cell hx q2
                have q3 := ext_cell hx q3
                have q4 := ext_cell hx q4
                go_wp2
                exact ⟨rfl, Ext.refl _, rfl⟩
              · intro vals w1 hx hd ha
                refine plain1 (fun _ => rfl) ?_
                clear hd ha
                simp only [Lf, dstAt, Act.put, List.getElem?_toArray, List.getElem?_cons_zero, List.getElem?_cons_succ, Option.bind_some, List.setIfInBounds_toArray, List.set_cons_zero, List.set_cons_succ]
                have p0 := ext_cell hx p0
                have p1 := ext_cell hx p1
                have p2 := ext_cell hx p2
                have p3 := ext_cell hx p3
                have q0 := ext_cell hx q0
                have q1 := ext_cell hx q1
                have q2 := ext_cell hx q2
                have q3 := ext_cell hx q3
                have q4 := ext_cell hx q4
                go_wp2
                exact ⟨rfl, Ext.refl _, rfl⟩
              · intro vals w1 hx hd ha
                have e1 : vals 1 = .slice (some ⟨g, 0, none⟩) m c' := hd 1 (by decide)
                have e2 : vals 2 = .int .i64 (k : Int) := hd 2 (by decide)
                refine plain1 (fun _ => rfl) ?_
                clear hd ha
                simp only [Lf, dstAt, Act.put, List.getElem?_toArray, List.getElem?_cons_zero, List.getElem?_cons_succ, Option.bind_some, List.setIfInBounds_toArray, List.set_cons_zero, List.set_cons_succ]
                simp only [e1, e2]
                clear e1 e2
                have p0 := ext_cell hx p0
                have p1 := ext_cell hx p1
                have p2 := ext_cell hx p2
                have p3 := ext_cell hx p3
                have q0 := ext_cell hx q0
                have q1 := ext_cell hx q1
                have q2 := ext_cell hx q2
                have q3 := ext_cell hx q3
                have q4 := ext_cell hx q4
                go_wp2
                exact ⟨rfl, Ext.refl _, rfl⟩
              · intro vals w1 hx hd ha
                have e3 : vals 3 = .pointer (some ⟨g, k * 5, none⟩) := hd 3 (by decide)
                refine plain1 (fun _ => rfl) ?_
                clear hd ha
                simp only [Lf, dstAt, Act.put, List.getElem?_toArray, List.getElem?_cons_zero, List.getElem?_cons_succ, Option.bind_some, List.setIfInBounds_toArray, List.set_cons_zero, List.set_cons_succ]
                simp only [e3]
                clear e3
                have p0 := ext_cell hx p0
                have p1 := ext_cell hx p1
                have p2 := ext_cell hx p2
                have p3 := ext_cell hx p3
                have q0 := ext_cell hx q0
                have q1 := ext_cell hx q1
                have q2 := ext_cell hx q2
                have q3 := ext_cell hx q3
                have q4 := ext_cell hx q4
                go_wp2
                exact ⟨rfl, Ext.refl _, rfl⟩
              · intro vals w1 hx hd ha
                have e0 : vals 0 = .agg #[.slice E1 m1 f1, .slice E2 m2 f2, .slice E3 m3 f3, .slice E4 m4 f4] := hd 0 (by decide)
                have e4 : vals 4 = .agg #[.int .i64 kd, .int .i64 fr, .int .i64 tt, .int .i64 un, .int .i64 ce] := hd 4 (by decide)
                refine plain1 (fun _ => rfl) ?_
                clear hd ha
                simp only [Lf, dstAt, Act.put, List.getElem?_toArray, List.getElem?_cons_zero, List.getElem?_cons_succ, Option.bind_some, List.setIfInBounds_toArray, List.set_cons_zero, List.set_cons_succ]
                have p0 := ext_cell hx p0
                have p1 := ext_cell hx p1
                have p2 := ext_cell hx p2
                have p3 := ext_cell hx p3
                have q0 := ext_cell hx q0
                have q1 := ext_cell hx q1
                have q2 := ext_cell hx q2
                have q3 := ext_cell hx q3
                have q4 := ext_cell hx q4
                simp only [e0]
                simp only [e4]
                clear e0 e4
                have hz := Below.size hx.undrew
                go_wp2_with fail
                refine (HDO.out w1 (HM.out.ext hx.undrew).own.pool).mono ?_
                rintro e w2 ⟨v, rfl, hb, hgot⟩
                go_wp2
                exact ⟨rfl, hb, hgot.down (by omega)⟩
              · intro vals w1 hx hd ha
                have r5 : (fun v w1 => PoolGotA r w.heap.size v w1) (vals 5) w1 := hd 5 (by decide)
                dsimp only at r5
                refine plain1 (fun _ => rfl) ?_
                clear hd ha
                simp only [Lf, dstAt, Act.put, List.getElem?_toArray, List.getElem?_cons_zero, List.getElem?_cons_succ, Option.bind_some, List.setIfInBounds_toArray, List.set_cons_zero, List.set_cons_succ]
                have p0 := ext_cell hx p0
                have p1 := ext_cell hx p1
                have p2 := ext_cell hx p2
                have p3 := ext_cell hx p3
                have q0 := ext_cell hx q0
                have q1 := ext_cell hx q1
                have q2 := ext_cell hx q2
                have q3 := ext_cell hx q3
                have q4 := ext_cell hx q4
                go_wp2
                exact ⟨rfl, Ext.refl _, rfl, r5⟩
              · intro vals w1 hx hd ha
                have r6 : (fun v w1 => v = vals 5 ∧ PoolGotA r w.heap.size v w1) (vals 6) w1 := hd 6 (by decide)
                dsimp only at r6
                refine plain1 (fun _ => rfl) ?_
                clear hd ha
                simp only [Lf, dstAt, Act.put, List.getElem?_toArray, List.getElem?_cons_zero, List.getElem?_cons_succ, Option.bind_some, List.setIfInBounds_toArray, List.set_cons_zero, List.set_cons_succ]
                have p0 := ext_cell hx p0
                have p1 := ext_cell hx p1
                have p2 := ext_cell hx p2
                have p3 := ext_cell hx p3
                have q0 := ext_cell hx q0
                have q1 := ext_cell hx q1
                have q2 := ext_cell hx q2
                have q3 := ext_cell hx q3
                have q4 := ext_cell hx q4
                rcases r6.2 with ⟨_, e1⟩ | ⟨q, t1, t2, t3, t4, _, e1, _⟩
                · rw [e1]; go_wp2; exact ⟨rfl, Ext.refl _, _, rfl⟩
                · rw [e1]; go_wp2; exact ⟨rfl, Ext.refl _, _, rfl⟩
              · intro vals w1 hx hd ha
                have r6 : (fun v w1 => v = vals 5 ∧ PoolGotA r w.heap.size v w1) (vals 6) w1 := hd 6 (by decide)
                dsimp only at r6
                refine plain1 (fun _ => rfl) ?_
                clear hd ha
                simp only [Lf, dstAt, Act.put, List.getElem?_toArray, List.getElem?_cons_zero, List.getElem?_cons_succ, Option.bind_some, List.setIfInBounds_toArray, List.set_cons_zero, List.set_cons_succ]
                have p0 := ext_cell hx p0
                have p1 := ext_cell hx p1
                have p2 := ext_cell hx p2
                have p3 := ext_cell hx p3
                have q0 := ext_cell hx q0
                have q1 := ext_cell hx q1
                have q2 := ext_cell hx q2
                have q3 := ext_cell hx q3
                have q4 := ext_cell hx q4
                rcases r6.2 with ⟨_, e1⟩ | ⟨q, t1, t2, t3, t4, _, e1, _⟩
                · rw [e1]; go_wp2; exact ⟨rfl, Ext.refl _, _, rfl⟩
                · rw [e1]; go_wp2; exact ⟨rfl, Ext.refl _, _, rfl⟩
              · intro vals w1 hx hd ha
                refine plain1 (fun _ => rfl) ?_
                clear hd ha
                simp only [Lf, dstAt, Act.put, List.getElem?_toArray, List.getElem?_cons_zero, List.getElem?_cons_succ, Option.bind_some, List.setIfInBounds_toArray, List.set_cons_zero, List.set_cons_succ]
                have p0 := ext_cell hx p0
                have p1 := ext_cell hx p1
                have p2 := ext_cell hx p2
                have p3 := ext_cell hx p3
                have q0 := ext_cell hx q0
                have q1 := ext_cell hx q1
                have q2 := ext_cell hx q2
                have q3 := ext_cell hx q3
                have q4 := ext_cell hx q4
                have hz := Below.size hx.undrew
                go_wp2
                exact ⟨rfl, (by repeat (first | exact Below.refl _ _ | assumption | refine Below.drew ?_ | refine below_drewN ?_ _ | refine bl_alloc ?_ _ | refine Below.setCell ?_ (by first | (simp; done) | omega | (simp; omega)) _ | refine bl_then ?_ (by assumption))), _, rfl, by omega, Blk.new _ _ _⟩
            intro vals w6 hx hf _
            have hgot : PoolGotA r w.heap.size (vals 6) w6 := (hf 6 (by omega)).2
            have h11 : ∃ z, vals 6 = .tuple #[vals 7, z] := hf 7 (by omega)
            have h12 : ∃ z, vals 6 = .tuple #[z, vals 8] := hf 8 (by omega)
            obtain ⟨gn, e9, hgn, jn⟩ : ∃ g, vals 9 = .pointer (some ⟨g, 0, none⟩) ∧ wr.heap.size ≤ g ∧ Blk w6 g 26 nil4 := hf 9 (by omega)
            clear hf q0 q1 q2 q3 q4 p0 p1 p2 p3
            have hx := hx.undrew
            have hm := HM.out.ext hx
            have hrow := HW.out.ext hx
            have hn1 : Bp ≠ gn := by have := HM.out.jp.lt; omega
            have hn2 : gn ≠ Bp := fun e => hn1 e.symm
            clear hx HM HW HDO
            simp only [Lf, dstAt, Act.put, List.getElem?_toArray, List.getElem?_cons_zero, List.getElem?_cons_succ, Option.bind_some, List.setIfInBounds_toArray, List.set_cons_zero, List.set_cons_succ]
            rw [e9]
            clear e9
            have hc0 := jn.cell 0
            have hc1 := jn.cell 1
            have hc2 := jn.cell 2
            have hc3 := jn.cell 3
            have hf0 := jn.frozen 0
            have hf1 := jn.frozen 1
            have hf2 := jn.frozen 2
            have hf3 := jn.frozen 3
            rcases hgot with ⟨hr, e10⟩ | ⟨q, ⟨D1, n1, d1⟩, ⟨D2, n2, d2⟩, ⟨D3, n3, d3⟩, ⟨D4, n4, d4⟩, hr, e10, hp⟩
            · rw [tup0 e10 h11, tup1 e10 h12]
              have HR := Lib.hid hr
              have HM := Lib.hid hm
              have HW := Lib.hid hrow
              clear hr e10 h11 h12 hm hrow
              unfold nilV
              go_wp2_with fail
              refine Qn_of ?_
              refine tail1 11 _ (by kernel_rfl) (by kernel_rfl) rfl ?_
              go_wp2
              go_roundw
              case rel => exact ⟨k + 1, ⟨E1, m1, f1⟩, ⟨E2, m2, f2⟩, ⟨E3, m3, f3⟩, ⟨E4, m4, f4⟩, by omega, by go_num, by rw [HST.out, HR.out]; exact HM.out.other jn hn1 (by omega) (by omega) _ _ _ _, HW.out.set4 jn _ _ _ _⟩
              case measure => simp [intOf]; omega
            · rw [tup0 e10 h11, tup1 e10 h12]
              have HR := Lib.hid hr
              have HM := Lib.hid hm
              have HW := Lib.hid hrow
              have HP := Lib.hid hp
              clear hr e10 h11 h12 hm hrow hp
              simp only [poolV, Sl.v]
              go_wp2_with fail
              refine Qn_of ?_
              refine tail1 11 _ (by kernel_rfl) (by kernel_rfl) rfl ?_
              generalize hW7 : ((((w6.setCell ⟨gn, 0, none⟩ _).setCell ⟨gn, 1, none⟩ _).setCell ⟨gn, 2, none⟩ _).setCell ⟨gn, 3, none⟩ _) = W7
              have hm7 : MadeS w W7 Bp w.heap.size ⟨E1, m1, f1⟩ ⟨E2, m2, f2⟩ ⟨E3, m3, f3⟩ ⟨E4, m4, f4⟩ pk := by subst hW7; exact HM.out.other jn hn1 (by omega) (by omega) _ _ _ _
              have hp7 : PoolOwnA W7 w.heap.size ⟨D1, n1, d1⟩ ⟨D2, n2, d2⟩ ⟨D3, n3, d3⟩ ⟨D4, n4, d4⟩ q := by subst hW7; exact HP.out.set4 jn _ _ _ _
              have hw7 : DeedRow W7 w.heap.size (.slice (some ⟨g, 0, none⟩) m c') ds := by subst hW7; exact HW.out.set4 jn _ _ _ _
              have j7 : Blk W7 gn 26 #[.slice D1 n1 d1, .slice D2 n2 d2, .slice D3 n3 d3, .slice D4 n4 d4] := by subst hW7; exact jn.set4 _ _ _ _
              clear hW7 hc0 hc1 hc2 hc3 hf0 hf1 hf2 hf3 HM HP HW jn
              have p0 : W7.cell? ⟨Bp, 0, none⟩ = some (.slice E1 m1 f1) := hm7.jp.cell 0
              have p1 : W7.cell? ⟨Bp, 1, none⟩ = some (.slice E2 m2 f2) := hm7.jp.cell 1
              have p2 : W7.cell? ⟨Bp, 2, none⟩ = some (.slice E3 m3 f3) := hm7.jp.cell 2
              have p3 : W7.cell? ⟨Bp, 3, none⟩ = some (.slice E4 m4 f4) := hm7.jp.cell 3
              have z0 := hm7.jp.frozen 0
              have z1 := hm7.jp.frozen 1
              have z2 := hm7.jp.frozen 2
              have z3 := hm7.jp.frozen 3
              have hc0 := j7.cell 0
              have hc1 := j7.cell 1
              have hc2 := j7.cell 2
              have hc3 := j7.cell 3
              have hm8 := hm7.store hp7 (by omega) (by omega)
              have hw8 := hw7.set4 hm7.jp (.slice D1 n1 d1) (.slice D2 n2 d2) (.slice D3 n3 d3) (.slice D4 n4 d4)
              have HM := Lib.hid hm8
              have HW := Lib.hid hw8
              clear hm7 hp7 hw7 j7 hm8 hw8
              go_wp2
              go_roundw
              case rel => exact ⟨k + 1, ⟨D1, n1, d1⟩, ⟨D2, n2, d2⟩, ⟨D3, n3, d3⟩, ⟨D4, n4, d4⟩, by omega, by go_num, by rw [HST.out, HR.out]; exact HM.out, HW.out⟩
              case measure => simp [intOf]; omega
          · have hm : MadeS w wr Bp w.heap.size ⟨E1, m1, f1⟩ ⟨E2, m2, f2⟩ ⟨E3, m3, f3⟩ ⟨E4, m4, f4⟩ rr := by
              rw [List.take_of_length_le (by have := HMM.out; omega)] at hm
              rw [HMP.out]
              exact hm
            have p0 : wr.cell? ⟨Bp, 0, none⟩ = some (.slice E1 m1 f1) := hm.jp.cell 0
            have p1 : wr.cell? ⟨Bp, 1, none⟩ = some (.slice E2 m2 f2) := hm.jp.cell 1
            have p2 : wr.cell? ⟨Bp, 2, none⟩ = some (.slice E3 m3 f3) := hm.jp.cell 2
            have p3 : wr.cell? ⟨Bp, 3, none⟩ = some (.slice E4 m4 f4) := hm.jp.cell 3
            have hc0 := hm.jr.cell 0
            have hc1 := hm.jr.cell 1
            have hc2 := hm.jr.cell 2
            have hc3 := hm.jr.cell 3
            have hf0 := hm.jr.frozen 0
            have hf1 := hm.jr.frozen 1
            have hf2 := hm.jr.frozen 2
            have hf3 := hm.jr.frozen 3
            have HM := Lib.hid hm
            clear hm hrow
            go_wp2
            generalize hW4 : ((((wr.setCell ⟨w.heap.size, 0, none⟩ _).setCell ⟨w.heap.size, 1, none⟩ _).setCell ⟨w.heap.size, 2, none⟩ _).setCell ⟨w.heap.size, 3, none⟩ _) = w4
            have j4 : Blk w4 w.heap.size 26 #[.slice E1 m1 f1, .slice E2 m2 f2, .slice E3 m3 f3, .slice E4 m4 f4] := by subst hW4; exact HM.out.jr.set4 _ _ _ _
            have hB4 : Below w.heap.size w w4 := by subst hW4; exact below_set4 HM.out.below (by omega) _ _ _ _
            have hp4 := by
              have hp4 := HM.out.own.set4 HM.out.jr (.slice E1 m1 f1) (.slice E2 m2 f2) (.slice E3 m3 f3) (.slice E4 m4 f4)
              rw [hW4] at hp4
              exact hp4
            clear hc0 hc1 hc2 hc3 p0 p1 p2 p3
            have hc0 := j4.cell 0
            have hc1 := j4.cell 1
            have hc2 := j4.cell 2
            have hc3 := j4.cell 3
            exact bodyPost_ret (v := poolV ⟨E1, m1, f1⟩ ⟨E2, m2, f2⟩ ⟨E3, m3, f3⟩ ⟨E4, m4, f4⟩) (by simp [results, Try.results11, go_sem, hc0, hc1, hc2, hc3]) rfl ⟨_, _, _, _, rfl, hB4, by rw [HRR.out]; exact hp4⟩

end Go.Proofs.Ytpddnkefggaigaa
