/- ContactMatchesReference: the walk (printed by contact_e5.py). -/
import Derived.Test.YtlmpmhfbjblhnaaE4
import Derived.Deep.CutRange
import Derived.Test.YtlmpmhfbjblhnaaReg7
namespace Go.Proofs.Ytlmpmhfbjblhnaa
open Go.RowKit

set_option maxRecDepth 100000 in
set_option maxHeartbeats 16000000 in
theorem matches_walk (AX AY AZ AP : Option Addr) (nx cx ny cy nz cz np cp : Nat) (x : List A7) (y z : List A4) (pl : List Pas) (odd : St) (stg : Stn) (t la a0 b0 : Int) (w : World) (hax : RA a7Cells 7 w w.heap.size AX nx cx x) (hay : RA a4Cells 4 w w.heap.size AY ny cy y) (haz : RA a4Cells 4 w w.heap.size AZ nz cz z) (hap : RA pasCells 6 w w.heap.size AP np cp pl) (okx : ∀ a ∈ x, a.ok) (oky : ∀ a ∈ y, a.ok) (okz : ∀ a ∈ z, a.ok) (bt : I64ok t) (bl : I64ok la) (bb : I64ok b0) :
    Calls Try.prog 3 #[.slice AX nx cx, .slice AY ny cy, .slice AZ nz cz, .agg (satCells odd).toArray, .agg (stnCells stg).toArray, .slice AP np cp, .int .i64 t, .int .i64 la, .agg #[.int .i64 a0, .int .i64 b0]] w (Tru w) := by
  have hm1 : (satsP x y).length ≤ 3 := by rw [satsP, satsK_len]; omega
  have hm2 : (stnsP z).length ≤ 3 := by rw [stnsP, stnsK_len]; omega
  have HSATS : Hid (∀ W, Ext w W → Calls Try.prog 11 #[.slice AX nx cx, .slice AY ny cy] W (ListRet satCells 21 27 (satsP x y) W)) := Lib.hid (fun W hW => sats_any AX AY nx cx ny cy x y W ((hax.below hW).more hW.size) ((hay.below hW).more hW.size) okx oky)
  have HSTNS : Hid (∀ W, Ext w W → Calls Try.prog 12 #[.slice AZ nz cz] W (ListRet stnCells 6 31 (stnsP z) W)) := Lib.hid (fun W hW => stations_any AZ nz cz z W ((haz.below hW).more hW.size) okz)
  generalize satsP x y = SL at hm1 HSATS
  generalize stnsP z = TL at hm2 HSTNS
  clear hax hay haz okx oky okz
  obtain ⟨ms, hms⟩ : ∃ n, n = SL.length := ⟨_, rfl⟩
  obtain ⟨mt, hmt⟩ : ∃ n, n = TL.length := ⟨_, rfl⟩
  rw [← hms] at hm1
  rw [← hmt] at hm2
  have HMS := Lib.hid hms
  have HMT := Lib.hid hmt
  clear hms hmt
  obtain ⟨m5, hm5⟩ : ∃ m, m = min np 5 := ⟨_, rfl⟩
  have lm1 : m5 ≤ np := by omega
  have lm2 : m5 ≤ 5 := by omega
  have hpc := hap.cut pas_len m5 lm1
  have hnp : np ≤ cp := hap.cap
  have hcp : cp ≤ 9223372036854775807 := by have h9 := hap.capM; unfold maxLen at h9; exact h9
  have HM5 := Lib.hid hm5
  clear hm5 hap
  generalize pl.take m5 = PL at hpc
  have HPC := Lib.hid hpc
  clear hpc
  have P0 := fun w => lpick_any t 999600 w bt.1 bt.2 (by omega) (by omega)
  have q0 := pickI_bd t 999600 (by omega)
  generalize pickI t 999600 = k0 at P0 q0
  obtain ⟨q0a, q0b⟩ := q0
  have HP0 := Lib.hid P0
  clear P0
  have P1 := fun w => lpick_any b0 300 w bb.1 bb.2 (by omega) (by omega)
  have q1 := pickI_bd b0 300 (by omega)
  generalize pickI b0 300 = k1 at P1 q1
  obtain ⟨q1a, q1b⟩ := q1
  have HP1 := Lib.hid P1
  clear P1
  have P2 := fun w => lpick_any la 21 w bl.1 bl.2 (by omega) (by omega)
  have q2 := pickI_bd la 21 (by omega)
  generalize pickI la 21 = k2 at P2 q2
  obtain ⟨q2a, q2b⟩ := q2
  have HP2 := Lib.hid P2
  clear P2
  obtain ⟨SX, hSX⟩ : ∃ X, (satCells odd).toArray = X := ⟨_, rfl⟩
  have HOSX : Hid (SX.all (·.oneCell') = true) := Lib.hid (by rw [← hSX]; exact sat_one _)
  have HZSX : Hid (SX.size = 21) := Lib.hid (by rw [← hSX]; rfl)
  have HLSX : Hid (SX.toList = satCells odd) := Lib.hid (by rw [← hSX])
  obtain ⟨d0, d1, d2, d3, d4, d5, d6, d7, d8, d9, d10, d11, d12, d13, d14, d15, d16, d17, d18, d19, d20, hod⟩ : ∃ d0 d1 d2 d3 d4 d5 d6 d7 d8 d9 d10 d11 d12 d13 d14 d15 d16 d17 d18 d19 d20, odd = ⟨d0, d1, ⟨d2, d3, d4, d5, d6, d7, d8⟩, d9, d10, d11, d12, d13, d14, d15, d16, d17, d18, d19, d20⟩ := ⟨_, _, _, _, _, _, _, _, _, _, _, _, _, _, _, _, _, _, _, _, _, rfl⟩
  have hXX : #[.int .i64 d0, .int .i64 d1, .int .i64 d2, .int .i64 d3, .int .i64 d4, .int .i64 d5, .int .i64 d6, .int .i64 d7, .int .i64 d8, .int .i64 d9, .int .i64 d10, .int .i64 d11, .int .i64 d12, .int .i64 d13, .int .i64 d14, .int .i64 d15, .int .i64 d16, .int .i64 d17, .int .i64 d18, .int .i64 d19, .int .i64 d20] = SX := by rw [← hSX, hod]; rfl
  rw [hSX, ← hXX]
  clear hod hSX
  obtain ⟨TX, hTX⟩ : ∃ X, (stnCells stg).toArray = X := ⟨_, rfl⟩
  have HOTX : Hid (TX.all (·.oneCell') = true) := Lib.hid (by rw [← hTX]; exact stn_one_ _)
  have HZTX : Hid (TX.size = 6) := Lib.hid (by rw [← hTX]; rfl)
  have HLTX : Hid (TX.toList = stnCells stg) := Lib.hid (by rw [← hTX])
  obtain ⟨s0, s1, s2, s3, s4, s5, hod⟩ : ∃ s0 s1 s2 s3 s4 s5, stg = ⟨s0, ⟨s1, s2⟩, s3, s4, s5⟩ := ⟨_, _, _, _, _, _, rfl⟩
  have hTT : #[.int .i64 s0, .int .i64 s1, .int .i64 s2, .int .i64 s3, .int .i64 s4, .int .i64 s5] = TX := by rw [← hTX, hod]; rfl
  rw [hTX, ← hTT]
  clear hod hTX
  obtain ⟨L, hL⟩ : ∃ l, l = SL ++ [odd] := ⟨_, rfl⟩
  have HLL := Lib.hid hL
  obtain ⟨TS, hTS⟩ : ∃ l, l = TL ++ [stg] := ⟨_, rfl⟩
  have HTS := Lib.hid hTS
  clear hL hTS
  go_enter Try.func3, Try.ntmps3
  go_upto_region 1 with (fail)
  rw [hXX, hTT]
  clear hXX hTT
  clear d0 d1 d2 d3 d4 d5 d6 d7 d8 d9 d10 d11 d12 d13 d14 d15 d16 d17 d18 d19 d20 s0 s1 s2 s3 s4 s5
  obtain ⟨g12, hg12⟩ : ∃ g, g = w.heap.size := ⟨_, rfl⟩
  obtain ⟨g13, hg13⟩ : ∃ g, g = w.heap.size + 1 := ⟨_, rfl⟩
  obtain ⟨g17, hg17⟩ : ∃ g, g = w.heap.size + 2 := ⟨_, rfl⟩
  have J12 : Blk (((w.alloc (.cells SX 27)).alloc (.cells TX 31)).alloc (.cells #[.int .i64 a0, .int .i64 b0] 34)) g12 27 SX := ((Blk.new_at _ _ _ hg12.symm).alloc _).alloc _
  have J13 : Blk (((w.alloc (.cells SX 27)).alloc (.cells TX 31)).alloc (.cells #[.int .i64 a0, .int .i64 b0] 34)) g13 31 TX := (Blk.new_at _ _ _ (by simp [hg13])).alloc _
  have J17 : Blk (((w.alloc (.cells SX 27)).alloc (.cells TX 31)).alloc (.cells #[.int .i64 a0, .int .i64 b0] 34)) g17 34 #[.int .i64 a0, .int .i64 b0] := Blk.new_at _ _ _ (by simp [hg17])
  have hB : Ext w (((w.alloc (.cells SX 27)).alloc (.cells TX 31)).alloc (.cells #[.int .i64 a0, .int .i64 b0] 34)) := bl_alloc (bl_alloc (bl_alloc (Below.refl _ _) _) _) _
  rw [← hg17, ← hg13, ← hg12]
  generalize ((w.alloc (.cells SX 27)).alloc (.cells TX 31)).alloc (.cells #[.int .i64 a0, .int .i64 b0] 34) = W0 at J12 J13 J17 hB ⊢
  clear hg12 hg13 hg17
  go_wp2_with fail
  refine (sane_any _).mono ?_
  rintro e W1 ⟨rfl, hx⟩
  have J12 := J12.ext hx
  have J13 := J13.ext hx
  have J17 := J17.ext hx
  have hB := Ext.trans hB hx
  clear hx
  go_upto_region 3 with (fail)
  refine wp_region_obl 5 (fun ix vals v w1 => match ix with | 0 => v = .slice AX nx cx | 1 => v = .slice AY ny cy | 2 => ∃ A c, v = .slice A ms c ∧ w1.ownsRow W1.heap.size 27 21 v ms (SL.flatMap satCells) | 3 => v = .agg SX | _ => ∃ gx, v = .slice (some ⟨gx, 0, none⟩) 1 1 ∧ W1.heap.size ≤ gx ∧ Blk w1 gx 27 SX) (by kernel_rfl) (by kernel_rfl) ?_ ?_ ?_ ?_
  · intro ix vals v w1 w2 hi hr hx
    match ix, hr with
    | 0, hr => exact hr
    | 1, hr => exact hr
    | 2, hr => obtain ⟨A, c, h1, h2⟩ := hr; exact ⟨A, c, h1, own_ext h2 hx⟩
    | 3, hr => exact hr
    | (kx + 4), hr => obtain ⟨gx, h1, h2, h3⟩ := hr; exact ⟨gx, h1, h2, h3.ext hx⟩
  · intro ix vals vals_ v w1 hi hv hr
    exact hr
  · refine obls_ofT [some 43, some 44, some 45, some 46, some 47, some 48, some 19] [(0, .slice AX nx cx), (1, .slice AY ny cy), (12, .pointer (some ⟨g12, 0, none⟩))] 272 (by kernel_rfl) (by kernel_rfl) ⟨by kernel_rfl, by kernel_rfl, by kernel_rfl, trivial⟩ ?_
    refine ⟨?_, ?_, ?_, ?_, ?_, trivial⟩
    · intro vals w1 hx hd
      refine .run [(0, .slice AX nx cx)] { dst := some 0, op := Go.Op.move (Go.Operand.const (.slice AX nx cx)), type := 22, pos := "", after := #[], guard := none } 43 ⟨.out (by kernel_rfl) (by kernel_rfl), trivial⟩ (by kernel_rfl) (by kernel_rfl) (by kernel_rfl) rfl rfl rfl ?_
      clear hd
      go_wp2
      exact ⟨rfl, Ext.refl _, rfl⟩
    · intro vals w1 hx hd
      refine .run [(1, .slice AY ny cy)] { dst := some 0, op := Go.Op.move (Go.Operand.const (.slice AY ny cy)), type := 23, pos := "", after := #[], guard := none } 44 ⟨.out (by kernel_rfl) (by kernel_rfl), trivial⟩ (by kernel_rfl) (by kernel_rfl) (by kernel_rfl) rfl rfl rfl ?_
      clear hd
      go_wp2
      exact ⟨rfl, Ext.refl _, rfl⟩
    · intro vals w1 hx hd
      have e0 : vals 0 = .slice AX nx cx := hd 0 (by decide)
      have e1 : vals 1 = .slice AY ny cy := hd 1 (by decide)
      refine .run [(43, .slice AX nx cx), (44, .slice AY ny cy)] { dst := some 0, op := Go.Op.call { callee := Go.Callee.value (Go.Operand.func 11), args := #[(Go.Operand.const (.slice AX nx cx)), (Go.Operand.const (.slice AY ny cy))], argTypes := #[22, 23] }, type := 36, pos := "", after := #[], guard := none } 45 ⟨.inn 0 (by kernel_rfl) e0, .inn 1 (by kernel_rfl) e1, trivial⟩ (by kernel_rfl) (by kernel_rfl) (by kernel_rfl) rfl rfl rfl ?_
      clear hd e0 e1
      have hz := Below.size hx.undrew
      go_wp2_with fail
      refine (HSATS.out w1 (Ext.trans hB hx.undrew)).mono ?_
      rintro e w2 ⟨v2, rfl, hown, hb2⟩
      obtain ⟨A, c, hv, _, _⟩ := own_slice hown
      subst hv
      rw [← HMS.out] at hown ⊢
      go_wp2
      exact ⟨rfl, hb2, A, c, rfl, own_base hown hz⟩
    · intro vals w1 hx hd
      refine .run [(12, .pointer (some ⟨g12, 0, none⟩))] { dst := some 0, op := Go.Op.load 27 (Go.Operand.const (.pointer (some ⟨g12, 0, none⟩))), type := 27, pos := "", after := #[], guard := none } 46 ⟨.out (by kernel_rfl) (by kernel_rfl), trivial⟩ (by kernel_rfl) (by kernel_rfl) (by kernel_rfl) rfl rfl rfl ?_
      clear hd
      refine wpList_load_st rfl 27 _ rfl g12 0 rfl SX SX.toList (by simp) _ (Blk.range (J12.ext hx.undrew) _ rfl) Try.underlying27 rfl (by rw [Array.length_toList, HZSX.out]; exact sat_size) ?_
      go_wp2
      exact ⟨rfl, Ext.refl _, rfl⟩
    · intro vals w1 hx hd
      have e3 : vals 3 = .agg SX := hd 3 (by decide)
      refine .run [(46, .agg SX)] { dst := some 0, op := Go.Op.buildSlice 36 1 #[(0, (Go.Operand.const (.agg SX)))], type := 36, pos := "", after := #[], guard := none } 47 ⟨.inn 3 (by kernel_rfl) e3, trivial⟩ (by kernel_rfl) (by kernel_rfl) (by kernel_rfl) rfl rfl rfl ?_
      clear hd e3
      have hz := Below.size hx.undrew
      refine wpList_buildOne rfl _ _ _ rfl SX rfl Try.underlying36 21 info_sat2 HZSX.out (by omega) (by omega) ?_
      go_wp2
      exact ⟨rfl, (by repeat (first | exact Below.refl _ _ | assumption | refine Below.drew ?_ | refine below_drewN ?_ _ | refine bl_alloc ?_ _ | refine Below.setCell ?_ (by first | (simp; done) | omega | (simp; omega)) _ | refine bl_then ?_ (by assumption))), _, rfl, by omega, Blk.new _ _ _⟩
  intro vals W2 hx hf
  obtain ⟨A_, c_, e2, hrow⟩ : ∃ A c, vals 2 = .slice A ms c ∧ W2.ownsRow W1.heap.size 27 21 (vals 2) ms (SL.flatMap satCells) := hf 2 (by omega)
  obtain ⟨gx, e4, hgx, jx⟩ : ∃ gx, vals 4 = .slice (some ⟨gx, 0, none⟩) 1 1 ∧ W1.heap.size ≤ gx ∧ Blk W2 gx 27 SX := hf 4 (by omega)
  clear hf
  rw [e2] at hrow
  have hx := hx.undrew
  have hBs := hx.size
  obtain ⟨i0, hi0, hz0, hz1, hz2⟩ := info_parts info_sat
  obtain ⟨v2, W3, hr, hrow2, hg2, -⟩ := run_append_own (P := Try.prog) W2 W1.heap.size 36 36 27 i0 _ 21 168 Try.underlying36 hi0 hz0 hz1 hz2 rfl (by omega) _ ms _ hrow ⟨gx, 0, none⟩ 1 1 SX.toList (by rw [Array.length_toList, HZSX.out]) (by intro i u hu; rw [Addr.add_lit, Nat.zero_add, jx.cell]; simpa using hu) (List.all_eq_true.1 (by rw [Array.all_toList]; exact HOSX.out)) (by unfold maxLen; omega) (by omega) (by omega)
  have hx : Ext W1 W3 := hx.grown hg2 hBs (fun q e => (World.ownsRow.lt hrow q e).1)
  have hrow3 : W3.ownsRow W1.heap.size 27 21 v2 (ms + 1) (L.flatMap satCells) := by rw [HLL.out, List.flatMap_append]; simpa [HLSX.out] using hrow2
  obtain ⟨A19, cA19, hv, _, _⟩ := own_slice hrow3
  subst hv
  have HRS := Lib.hid (RA.of_own hrow3 (by rw [HLL.out, List.length_append, ← HMS.out]; rfl) (by omega))
  have HRUN := Lib.hid hr
  clear hr hrow hrow2 hrow3 hg2 jx hBs hgx
  refine tailF 5 _ _ 1 (by kernel_rfl) rfl ?_ (fun a w q => tail1 6 _ (by kernel_rfl) (by kernel_rfl) rfl q)
  simp only [Lf, dstAt, Act.put, List.getElem?_toArray, List.getElem?_cons_zero, List.getElem?_cons_succ, Option.bind_some, List.setIfInBounds_toArray, List.set_cons_zero, List.set_cons_succ]
  rw [e2, e4]
  clear e2 e4
  refine wpList_append_run_ rfl _ _ _ rfl rfl rfl HRUN.out ?_
  clear HRUN hi0 hz0 hz1 hz2
  have J12 := J12.ext hx
  have J13 := J13.ext hx
  have J17 := J17.ext hx
  have hB := Ext.trans hB hx
  clear hx
  clear J12
  go_upto_region 4 with (fail)
  refine wp_region_obl 4 (fun ix vals v w1 => match ix with | 0 => v = .slice AZ nz cz | 1 => ∃ A c, v = .slice A mt c ∧ w1.ownsRow W3.heap.size 31 6 v mt (TL.flatMap stnCells) | 2 => v = .agg TX | _ => ∃ gx, v = .slice (some ⟨gx, 0, none⟩) 1 1 ∧ W3.heap.size ≤ gx ∧ Blk w1 gx 31 TX) (by kernel_rfl) (by kernel_rfl) ?_ ?_ ?_ ?_
  · intro ix vals v w1 w2 hi hr hx
    match ix, hr with
    | 0, hr => exact hr
    | 1, hr => obtain ⟨A, c, h1, h2⟩ := hr; exact ⟨A, c, h1, own_ext h2 hx⟩
    | 2, hr => exact hr
    | (kx + 3), hr => obtain ⟨gx, h1, h2, h3⟩ := hr; exact ⟨gx, h1, h2, h3.ext hx⟩
  · intro ix vals vals_ v w1 hi hv hr
    exact hr
  · refine obls_ofT [some 49, some 50, some 51, some 52, some 53, some 20] [(2, .slice AZ nz cz), (13, .pointer (some ⟨g13, 0, none⟩))] 272 (by kernel_rfl) (by kernel_rfl) ⟨by kernel_rfl, by kernel_rfl, trivial⟩ ?_
    refine ⟨?_, ?_, ?_, ?_, trivial⟩
    · intro vals w1 hx hd
      refine .run [(2, .slice AZ nz cz)] { dst := some 0, op := Go.Op.move (Go.Operand.const (.slice AZ nz cz)), type := 23, pos := "", after := #[], guard := none } 49 ⟨.out (by kernel_rfl) (by kernel_rfl), trivial⟩ (by kernel_rfl) (by kernel_rfl) (by kernel_rfl) rfl rfl rfl ?_
      clear hd
      go_wp2
      exact ⟨rfl, Ext.refl _, rfl⟩
    · intro vals w1 hx hd
      have e0 : vals 0 = .slice AZ nz cz := hd 0 (by decide)
      refine .run [(49, .slice AZ nz cz)] { dst := some 0, op := Go.Op.call { callee := Go.Callee.value (Go.Operand.func 12), args := #[(Go.Operand.const (.slice AZ nz cz))], argTypes := #[23] }, type := 38, pos := "", after := #[], guard := none } 50 ⟨.inn 0 (by kernel_rfl) e0, trivial⟩ (by kernel_rfl) (by kernel_rfl) (by kernel_rfl) rfl rfl rfl ?_
      clear hd e0
      have hz := Below.size hx.undrew
      go_wp2_with fail
      refine (HSTNS.out w1 (Ext.trans hB hx.undrew)).mono ?_
      rintro e w2 ⟨v2, rfl, hown, hb2⟩
      obtain ⟨A, c, hv, _, _⟩ := own_slice hown
      subst hv
      rw [← HMT.out] at hown ⊢
      go_wp2
      exact ⟨rfl, hb2, A, c, rfl, own_base hown hz⟩
    · intro vals w1 hx hd
      refine .run [(13, .pointer (some ⟨g13, 0, none⟩))] { dst := some 0, op := Go.Op.load 31 (Go.Operand.const (.pointer (some ⟨g13, 0, none⟩))), type := 31, pos := "", after := #[], guard := none } 51 ⟨.out (by kernel_rfl) (by kernel_rfl), trivial⟩ (by kernel_rfl) (by kernel_rfl) (by kernel_rfl) rfl rfl rfl ?_
      clear hd
      refine wpList_load_st rfl 31 _ rfl g13 0 rfl TX TX.toList (by simp) _ (Blk.range (J13.ext hx.undrew) _ rfl) Try.underlying31 rfl (by rw [Array.length_toList, HZTX.out]; exact stn_size_) ?_
      go_wp2
      exact ⟨rfl, Ext.refl _, rfl⟩
    · intro vals w1 hx hd
      have e2 : vals 2 = .agg TX := hd 2 (by decide)
      refine .run [(51, .agg TX)] { dst := some 0, op := Go.Op.buildSlice 38 1 #[(0, (Go.Operand.const (.agg TX)))], type := 38, pos := "", after := #[], guard := none } 52 ⟨.inn 2 (by kernel_rfl) e2, trivial⟩ (by kernel_rfl) (by kernel_rfl) (by kernel_rfl) rfl rfl rfl ?_
      clear hd e2
      have hz := Below.size hx.undrew
      refine wpList_buildOne rfl _ _ _ rfl TX rfl Try.underlying38 6 info_stn2 HZTX.out (by omega) (by omega) ?_
      go_wp2
      exact ⟨rfl, (by repeat (first | exact Below.refl _ _ | assumption | refine Below.drew ?_ | refine below_drewN ?_ _ | refine bl_alloc ?_ _ | refine Below.setCell ?_ (by first | (simp; done) | omega | (simp; omega)) _ | refine bl_then ?_ (by assumption))), _, rfl, by omega, Blk.new _ _ _⟩
  intro vals W4 hx hf
  obtain ⟨A_, c_, e2, hrow⟩ : ∃ A c, vals 1 = .slice A mt c ∧ W4.ownsRow W3.heap.size 31 6 (vals 1) mt (TL.flatMap stnCells) := hf 1 (by omega)
  obtain ⟨gx, e4, hgx, jx⟩ : ∃ gx, vals 3 = .slice (some ⟨gx, 0, none⟩) 1 1 ∧ W3.heap.size ≤ gx ∧ Blk W4 gx 31 TX := hf 3 (by omega)
  clear hf
  rw [e2] at hrow
  have hx := hx.undrew
  have hBs := hx.size
  obtain ⟨i0, hi0, hz0, hz1, hz2⟩ := info_parts info_stn
  obtain ⟨v2, W5, hr, hrow2, hg2, -⟩ := run_append_own (P := Try.prog) W4 W3.heap.size 38 38 31 i0 _ 6 48 Try.underlying38 hi0 hz0 hz1 hz2 rfl (by omega) _ mt _ hrow ⟨gx, 0, none⟩ 1 1 TX.toList (by rw [Array.length_toList, HZTX.out]) (by intro i u hu; rw [Addr.add_lit, Nat.zero_add, jx.cell]; simpa using hu) (List.all_eq_true.1 (by rw [Array.all_toList]; exact HOTX.out)) (by unfold maxLen; omega) (by omega) (by omega)
  have hx : Ext W3 W5 := hx.grown hg2 hBs (fun q e => (World.ownsRow.lt hrow q e).1)
  have hrow3 : W5.ownsRow W3.heap.size 31 6 v2 (mt + 1) (TS.flatMap stnCells) := by rw [HTS.out, List.flatMap_append]; simpa [HLTX.out] using hrow2
  obtain ⟨A20, cA20, hv, _, _⟩ := own_slice hrow3
  subst hv
  have HRT := Lib.hid (RA.of_own hrow3 (by rw [HTS.out, List.length_append, ← HMT.out]; rfl) (by omega))
  have HRUN := Lib.hid hr
  clear hr hrow hrow2 hrow3 hg2 jx hBs hgx
  refine tailF 4 _ _ 1 (by kernel_rfl) rfl ?_ (fun a w q => tail1 5 _ (by kernel_rfl) (by kernel_rfl) rfl q)
  simp only [Lf, dstAt, Act.put, List.getElem?_toArray, List.getElem?_cons_zero, List.getElem?_cons_succ, Option.bind_some, List.setIfInBounds_toArray, List.set_cons_zero, List.set_cons_succ]
  rw [e2, e4]
  clear e2 e4
  refine wpList_append_run_ rfl _ _ _ rfl rfl rfl HRUN.out ?_
  clear HRUN hi0 hz0 hz1 hz2
  have J13 := J13.ext hx
  have J17 := J17.ext hx
  have hB := Ext.trans hB hx
  have HRS := Lib.hid ((HRS.out.below hx).more hx.size)
  clear hx
  clear J13
  have HRP : Hid (RA pasCells 6 W5 W5.heap.size AP m5 cp PL) := Lib.hid ((HPC.out.below hB).more hB.size)
  clear HPC HSATS HSTNS HOSX HOTX HZSX HZTX HLSX HLTX HLL HTS HMS HMT
  go_upto_region 5 with (fail)
  go_cut [21] from 54 to 58 (fun v wc => v = .slice AP m5 cp ∧ wc = W5)
  case first =>
    rcases Nat.lt_or_ge np 5 with hm | hm
    · have e : m5 = np := by rw [HM5.out]; omega
      have hm2 : (np : Int) < 5 := by omega
      subst e
      go_wp2_with fail
      go_meet
      case rel => exact ⟨rfl, rfl⟩
    · have e : m5 = 5 := by rw [HM5.out]; omega
      have hm2 : (5 : Int) ≤ np := by omega
      subst e
      go_wp2_with fail
      all_goals
        go_meet
        case rel => exact ⟨by first | rfl | (obtain rfl : np = 5 := (by omega); rfl), rfl⟩
  obtain ⟨rfl, rfl⟩ := hcut
  clear HM5 lm1
  obtain ⟨W6, hW6⟩ : ∃ W : World, W = wc := ⟨_, rfl⟩
  rw [← hW6] at J17 hB HRS HRT HRP ⊢
  clear hW6
  have l1 : W6.cell? ⟨g17, 1, none⟩ = some (.int .i64 b0) := J17.cell 1
  go_wp2_with fail
  refine (HP0.out _).mono ?_
  rintro e w2 ⟨rfl, rfl⟩
  have w1_ : IntKind.i64.wrap (k0 + 1) = k0 + 1 := IntWalk.i64_in _ (by omega)
  have w2_ : IntKind.i64.wrap (k0 + 1 + k1) = k0 + 1 + k1 := IntWalk.i64_in _ (by omega)
  go_wp2_with fail
  refine (HP1.out _).mono ?_
  rintro e w2 ⟨rfl, rfl⟩
  go_upto_region 8 with (fail)
  obtain ⟨b2, hb2⟩ : ∃ b, b = k0 + 1 + k1 := ⟨_, rfl⟩
  rw [← hb2] at w2_ ⊢
  have J23 : Blk (W6.alloc (.cells #[.int .i64 k0, .int .i64 b2] 34)) W6.heap.size 34 #[.int .i64 k0, .int .i64 b2] := Blk.new _ _ _
  have hx : Ext W6 (W6.alloc (.cells #[.int .i64 k0, .int .i64 b2] 34)) := bl_alloc (Below.refl _ _) _
  obtain ⟨g23, hg⟩ : ∃ g, g = W6.heap.size := ⟨_, rfl⟩
  rw [← hg] at J23 ⊢
  generalize W6.alloc (.cells #[.int .i64 k0, .int .i64 b2] 34) = W7 at J23 hx ⊢
  clear l1 w1_ w2_ hb2
  clear hg
  have J17 := J17.ext hx
  have hB := Ext.trans hB hx
  have HRS := Lib.hid ((HRS.out.below hx).more hx.size)
  have HRT := Lib.hid ((HRT.out.below hx).more hx.size)
  have HRP := Lib.hid ((HRP.out.below hx).more hx.size)
  clear hx
  have l0 : W7.cell? ⟨g17, 0, none⟩ = some (.int .i64 a0) := J17.cell 0
  have l1 : W7.cell? ⟨g17, 1, none⟩ = some (.int .i64 b0) := J17.cell 1
  go_upto_region 9 with (fail)
  clear l0 l1
  have J24 : Blk (W7.alloc (.cells #[.int .i64 a0, .int .i64 b0] 34)) W7.heap.size 34 #[.int .i64 a0, .int .i64 b0] := Blk.new _ _ _
  have hx : Ext W7 (W7.alloc (.cells #[.int .i64 a0, .int .i64 b0] 34)) := bl_alloc (Below.refl _ _) _
  obtain ⟨g24, hg⟩ : ∃ g, g = W7.heap.size := ⟨_, rfl⟩
  have n1 : W7.heap.size ≤ g24 := by omega
  rw [← hg] at J24 ⊢
  generalize W7.alloc (.cells #[.int .i64 a0, .int .i64 b0] 34) = W8 at J24 hx ⊢
  clear hg
  go_cut [93] from 70 to 93 (fun c wc => (∃ q : Bool, c = .bool q) ∧ wc = W8)
  case first =>
    have t0 : W8.cell? ⟨g24, 0, none⟩ = some (.int .i64 a0) := J24.cell 0
    have t1 : W8.cell? ⟨g24, 1, none⟩ = some (.int .i64 b0) := J24.cell 1
    by_cases c1 : 0 ≤ a0
    · by_cases c2 : b0 ≤ 1000001
      · obtain ⟨df, hdf⟩ : ∃ v, IntKind.i64.wrap (b0 - a0) = v := ⟨_, rfl⟩
        by_cases c3 : 300 < df
        · go_wp2_with fail
          all_goals
            go_meet
            case rel => exact ⟨⟨_, rfl⟩, rfl⟩
        · go_wp2_with fail
          all_goals
            go_meet
            case rel => exact ⟨⟨_, rfl⟩, rfl⟩
      · go_wp2_with fail
        go_meet
        case rel => exact ⟨⟨_, rfl⟩, rfl⟩
    · go_wp2_with fail
      go_meet
      case rel => exact ⟨⟨_, rfl⟩, rfl⟩
  obtain ⟨hqc, rfl⟩ := hcut
  obtain ⟨Wz, hWz⟩ : ∃ W : World, W = wc := ⟨_, rfl⟩
  rw [← hWz] at J24 hx ⊢
  clear hWz
  go_wp2_with fail
  obtain ⟨qc, rfl⟩ := hqc
  go_cut [] from 70 to 97 (fun wc => ∃ b1 : Int, Blk wc g24 34 #[.int .i64 a0, .int .i64 b1] ∧ Ext W7 wc)
  case first =>
    have t0 : Wz.cell? ⟨g24, 0, none⟩ = some (.int .i64 a0) := J24.cell 0
    have t1 : Wz.cell? ⟨g24, 1, none⟩ = some (.int .i64 b0) := J24.cell 1
    have t2 : Wz.frozen? ⟨g24, 1, none⟩ = false := J24.frozen 1
    cases qc
    · go_wp2_with fail
      go_meet
      case rel => exact ⟨_, J24, hx⟩
    · obtain ⟨wv, hwv⟩ : ∃ v, IntKind.i64.wrap (a0 + 300) = v := ⟨_, rfl⟩
      go_wp2_with fail
      go_meet
      case rel => exact ⟨wv, J24.set_ 1 _, hx.setCell (p := ⟨g24, 1, none⟩) n1 _⟩
  clear J24 hx n1
  obtain ⟨b1, J24, hx⟩ := hcut
  have J17 := J17.ext hx
  have hB := Ext.trans hB hx
  have HRS := Lib.hid ((HRS.out.below hx).more hx.size)
  have HRT := Lib.hid ((HRT.out.below hx).more hx.size)
  have HRP := Lib.hid ((HRP.out.below hx).more hx.size)
  have J23 := J23.ext hx
  clear hx
  clear J17
  obtain ⟨u0, hu0⟩ : ∃ u, u = satsOK L := ⟨_, rfl⟩
  have HV00 : Hid (∀ W, Ext wc W → Calls Try.prog 14 #[.slice A19 (ms + 1) cA19] W fun e w' => e = .returned (.bool u0) ∧ Ext W w') := Lib.hid (fun W hW => by rw [hu0]; exact validSats_any L A19 _ cA19 W ((HRS.out.below hW).more hW.size))
  have HV01 : Hid (∀ W, Ext wc W → Calls Try.prog 15 #[.slice A19 (ms + 1) cA19] W fun e w' => e = .returned (.bool u0) ∧ Ext W w') := Lib.hid (fun W hW => by rw [hu0]; exact rvalidSats_any L A19 _ cA19 W ((HRS.out.below hW).more hW.size))
  clear hu0
  have hq0 : (u0 != u0) = false := by cases u0 <;> rfl
  obtain ⟨u1, hu1⟩ : ∃ u, u = stnsOK TS := ⟨_, rfl⟩
  have HV10 : Hid (∀ W, Ext wc W → Calls Try.prog 16 #[.slice A20 (mt + 1) cA20] W fun e w' => e = .returned (.bool u1) ∧ Ext W w') := Lib.hid (fun W hW => by rw [hu1]; exact validStns_any TS A20 _ cA20 W ((HRT.out.below hW).more hW.size))
  have HV11 : Hid (∀ W, Ext wc W → Calls Try.prog 17 #[.slice A20 (mt + 1) cA20] W fun e w' => e = .returned (.bool u1) ∧ Ext W w') := Lib.hid (fun W hW => by rw [hu1]; exact rvalidStns_any TS A20 _ cA20 W ((HRT.out.below hW).more hW.size))
  clear hu1
  have hq1 : (u1 != u1) = false := by cases u1 <;> rfl
  obtain ⟨u2, hu2⟩ : ∃ u, u = properP PL := ⟨_, rfl⟩
  have HV20 : Hid (∀ W, Ext wc W → Calls Try.prog 18 #[.slice AP m5 cp] W fun e w' => e = .returned (.bool u2) ∧ Ext W w') := Lib.hid (fun W hW => by rw [hu2]; exact proper_any PL AP _ cp W ((HRP.out.below hW).more hW.size))
  have HV21 : Hid (∀ W, Ext wc W → Calls Try.prog 19 #[.slice AP m5 cp] W fun e w' => e = .returned (.bool u2) ∧ Ext W w') := Lib.hid (fun W hW => by rw [hu2]; exact rproper_any PL AP _ cp W ((HRP.out.below hW).more hW.size))
  clear hu2
  have hq2 : (u2 != u2) = false := by cases u2 <;> rfl
  obtain ⟨Wb, hWb⟩ : ∃ W : World, W = wc := ⟨_, rfl⟩
  have hx : Ext wc Wb := by rw [hWb]; exact Ext.refl _
  rw [← hWb]
  clear hWb
  go_wp2_with fail
  refine (HV00.out _ hx).mono ?_
  rintro e Wc00 ⟨rfl, hy⟩
  have hx := Ext.trans hx hy
  clear hy
  go_wp2_with fail
  refine (HV01.out _ hx).mono ?_
  rintro e Wc01 ⟨rfl, hy⟩
  have hx := Ext.trans hx hy
  clear hy
  go_wp2_with fail
  refine (HV10.out _ hx).mono ?_
  rintro e Wc10 ⟨rfl, hy⟩
  have hx := Ext.trans hx hy
  clear hy
  go_wp2_with fail
  refine (HV11.out _ hx).mono ?_
  rintro e Wc11 ⟨rfl, hy⟩
  have hx := Ext.trans hx hy
  clear hy
  go_wp2_with fail
  refine (HV20.out _ hx).mono ?_
  rintro e Wc20 ⟨rfl, hy⟩
  have hx := Ext.trans hx hy
  clear hy
  go_wp2_with fail
  refine (HV21.out _ hx).mono ?_
  rintro e Wc21 ⟨rfl, hy⟩
  have hx := Ext.trans hx hy
  clear hy
  have hB := Ext.trans hB hx
  have HRS := Lib.hid ((HRS.out.below hx).more hx.size)
  have HRT := Lib.hid ((HRT.out.below hx).more hx.size)
  have HRP := Lib.hid ((HRP.out.below hx).more hx.size)
  have J23 := J23.ext hx
  have J24 := J24.ext hx
  clear hx
  clear HV00 HV01 HV10 HV11 HV20 HV21
  obtain ⟨Wb2, hWb⟩ : ∃ W : World, W = Wc21 := ⟨_, rfl⟩
  rw [← hWb] at J23 J24 hB HRS HRT HRP ⊢
  clear hWb
  go_wp2
  clear hq0 hq1 hq2
  go_loopw [25] (fun x wr => ∃ ka : Nat, ka ≤ ms + 1 ∧ x = .int .i64 ka ∧ Ext Wb2 wr) (fun x _ => ms + 1 - (intOf x).toNat)
  case atStart => exact ⟨0, Nat.zero_le _, rfl, Ext.refl _⟩
  case round =>
    obtain ⟨ka, hka, rfl, hka_⟩ := hrel
    by_cases hkn : ka < ms + 1
    · obtain ⟨gb, go, hz, hA, _, hr, hro⟩ := (HRS.out.below hka_).orb hkn
      generalize L[ka] = xs at hr hro
      have hka2 : (ka : Int) < (ms : Int) + 1 := by omega
      obtain ⟨X, hX⟩ : ∃ X, (satCells xs).toArray = X := ⟨_, rfl⟩
      have HZX : Hid (X.size = 21) := Lib.hid (by rw [← hX]; rfl)
      obtain ⟨OX, hOX⟩ : ∃ X, (orbCells xs.orbit).toArray = X := ⟨_, rfl⟩
      have HZOX : Hid (OX.size = 7) := Lib.hid (by rw [← hOX]; rfl)
      have HOOX : Hid (OX.all (·.oneCell') = true) := Lib.hid (by rw [← hOX]; exact orb_one _)
      have HRX : Hid (wr.rangeAt gb (go + ka * 21) X.toList) := Lib.hid (by rw [← hX]; exact hr)
      have HRO : Hid (wr.rangeAt gb (go + ka * 21 + 2) OX.toList) := Lib.hid (by rw [← hOX]; exact hro)
      obtain ⟨qs, hqs⟩ : ∃ q, q = satOK xs := ⟨_, rfl⟩
      have HCS : Hid (∀ w, Calls Try.prog 20 #[.agg X] w fun e w' => e = .returned (.bool qs) ∧ Ext w w') := Lib.hid (by rw [hqs]; rw [← hX]; exact satVal xs)
      have HCR : Hid (∀ w, Calls Try.prog 21 #[.agg X] w fun e w' => e = .returned (.bool qs) ∧ Ext w w') := Lib.hid (by rw [hqs]; rw [← hX]; exact rsat_valid_x xs)
      have HSD : Hid (∀ (y : Pas) w, Calls Try.prog 22 #[.agg X, .agg (pasCells y).toArray] w fun e w' => e = .returned (.int .i64 (sendP xs y)) ∧ Ext w w') := Lib.hid (by rw [← hX]; exact sendable_x xs)
      have HSR : Hid (∀ (y : Pas) w, Calls Try.prog 23 #[.agg X, .agg (pasCells y).toArray] w fun e w' => e = .returned (.int .i64 (sendP xs y)) ∧ Ext w w') := Lib.hid (by rw [← hX]; exact rsend_x xs)
      have HXE := Lib.hid hOX
      clear hr hro hX hOX hqs hz
      subst hA
      go_upto_region 16 with (fail)
      refine wp_region_obl 11 (fun ix vals v w1 => match ix with | 0 => v = .slice (some ⟨gb, go, none⟩) (ms + 1) cA19 | 1 => v = .int .i64 (ka : Int) | 2 => v = .pointer (some ⟨gb, go + ka * 21, none⟩) | 3 => v = .agg X | 4 => v = .bool qs | 5 => v = .slice (some ⟨gb, go, none⟩) (ms + 1) cA19 | 6 => v = .int .i64 (ka : Int) | 7 => v = .pointer (some ⟨gb, go + ka * 21, none⟩) | 8 => v = .agg X | 9 => v = .bool qs | _ => v = .bool false) (by kernel_rfl) (by kernel_rfl) ?_ ?_ ?_ ?_
      · intro ix vals v w1 w2 hi hr hx
        match ix, hr with
        | 0, hr => exact hr
        | 1, hr => exact hr
        | 2, hr => exact hr
        | 3, hr => exact hr
        | 4, hr => exact hr
        | 5, hr => exact hr
        | 6, hr => exact hr
        | 7, hr => exact hr
        | 8, hr => exact hr
        | 9, hr => exact hr
        | (kx + 10), hr => exact hr
      · intro ix vals vals_ v w1 hi hv hr
        exact hr
      · refine obls_ofT [some 123, some 124, some 125, some 126, some 127, some 128, some 129, some 130, some 131, some 132, some 133] [(19, .slice (some ⟨gb, go, none⟩) (ms + 1) cA19), (25, .int .i64 (ka : Int))] 272 (by kernel_rfl) (by kernel_rfl) ⟨by kernel_rfl, by kernel_rfl, trivial⟩ ?_
        refine ⟨?_, ?_, ?_, ?_, ?_, ?_, ?_, ?_, ?_, ?_, ?_, trivial⟩
        · intro vals w1 hx hd
          refine .run [(19, .slice (some ⟨gb, go, none⟩) (ms + 1) cA19)] { dst := some 0, op := Go.Op.move (Go.Operand.const (.slice (some ⟨gb, go, none⟩) (ms + 1) cA19)), type := 36, pos := "", after := #[], guard := none } 123 ⟨.out (by kernel_rfl) (by kernel_rfl), trivial⟩ (by kernel_rfl) (by kernel_rfl) (by kernel_rfl) rfl rfl rfl ?_
          clear hd
          go_wp2
          exact ⟨rfl, Ext.refl _, rfl⟩
        · intro vals w1 hx hd
          refine .run [(25, .int .i64 (ka : Int))] { dst := some 0, op := Go.Op.move (Go.Operand.const (.int .i64 (ka : Int))), type := 3, pos := "", after := #[], guard := none } 124 ⟨.out (by kernel_rfl) (by kernel_rfl), trivial⟩ (by kernel_rfl) (by kernel_rfl) (by kernel_rfl) rfl rfl rfl ?_
          clear hd
          go_wp2
          exact ⟨rfl, Ext.refl _, rfl⟩
        · intro vals w1 hx hd
          have e0 : vals 0 = .slice (some ⟨gb, go, none⟩) (ms + 1) cA19 := hd 0 (by decide)
          have e1 : vals 1 = .int .i64 (ka : Int) := hd 1 (by decide)
          refine .run [(123, .slice (some ⟨gb, go, none⟩) (ms + 1) cA19), (124, .int .i64 (ka : Int))] { dst := some 0, op := Go.Op.indexAddr 36 (Go.Operand.const (.slice (some ⟨gb, go, none⟩) (ms + 1) cA19)) (Go.Operand.const (.int .i64 (ka : Int))), type := 0, pos := "", after := #[], guard := none } 125 ⟨.inn 0 (by kernel_rfl) e0, .inn 1 (by kernel_rfl) e1, trivial⟩ (by kernel_rfl) (by kernel_rfl) (by kernel_rfl) rfl rfl rfl ?_
          clear hd e0 e1
          go_wp2
          exact ⟨rfl, Ext.refl _, rfl⟩
        · intro vals w1 hx hd
          have e2 : vals 2 = .pointer (some ⟨gb, go + ka * 21, none⟩) := hd 2 (by decide)
          refine .run [(125, .pointer (some ⟨gb, go + ka * 21, none⟩))] { dst := some 0, op := Go.Op.load 27 (Go.Operand.const (.pointer (some ⟨gb, go + ka * 21, none⟩))), type := 27, pos := "", after := #[], guard := none } 126 ⟨.inn 2 (by kernel_rfl) e2, trivial⟩ (by kernel_rfl) (by kernel_rfl) (by kernel_rfl) rfl rfl rfl ?_
          clear hd e2
          refine wpList_load_st rfl 27 _ rfl gb (go + ka * 21) rfl X X.toList (by simp) _ (RA.range2 HRX.out hx.undrew) Try.underlying27 rfl (by rw [Array.length_toList, HZX.out]; exact sat_size) ?_
          go_wp2
          exact ⟨rfl, Ext.refl _, rfl⟩
        · intro vals w1 hx hd
          have e3 : vals 3 = .agg X := hd 3 (by decide)
          refine .run [(126, .agg X)] { dst := some 0, op := Go.Op.call { callee := Go.Callee.value (Go.Operand.func 20), args := #[(Go.Operand.const (.agg X))], argTypes := #[27] }, type := 4, pos := "", after := #[], guard := none } 127 ⟨.inn 3 (by kernel_rfl) e3, trivial⟩ (by kernel_rfl) (by kernel_rfl) (by kernel_rfl) rfl rfl rfl ?_
          clear hd e3
          go_wp2_with fail
          refine (HCS.out _).mono ?_
          rintro e w2 ⟨rfl, hb2⟩
          go_wp2
          exact ⟨rfl, hb2, rfl⟩
        · intro vals w1 hx hd
          refine .run [(19, .slice (some ⟨gb, go, none⟩) (ms + 1) cA19)] { dst := some 0, op := Go.Op.move (Go.Operand.const (.slice (some ⟨gb, go, none⟩) (ms + 1) cA19)), type := 36, pos := "", after := #[], guard := none } 128 ⟨.out (by kernel_rfl) (by kernel_rfl), trivial⟩ (by kernel_rfl) (by kernel_rfl) (by kernel_rfl) rfl rfl rfl ?_
          clear hd
          go_wp2
          exact ⟨rfl, Ext.refl _, rfl⟩
        · intro vals w1 hx hd
          refine .run [(25, .int .i64 (ka : Int))] { dst := some 0, op := Go.Op.move (Go.Operand.const (.int .i64 (ka : Int))), type := 3, pos := "", after := #[], guard := none } 129 ⟨.out (by kernel_rfl) (by kernel_rfl), trivial⟩ (by kernel_rfl) (by kernel_rfl) (by kernel_rfl) rfl rfl rfl ?_
          clear hd
          go_wp2
          exact ⟨rfl, Ext.refl _, rfl⟩
        · intro vals w1 hx hd
          have e5 : vals 5 = .slice (some ⟨gb, go, none⟩) (ms + 1) cA19 := hd 5 (by decide)
          have e6 : vals 6 = .int .i64 (ka : Int) := hd 6 (by decide)
          refine .run [(128, .slice (some ⟨gb, go, none⟩) (ms + 1) cA19), (129, .int .i64 (ka : Int))] { dst := some 0, op := Go.Op.indexAddr 36 (Go.Operand.const (.slice (some ⟨gb, go, none⟩) (ms + 1) cA19)) (Go.Operand.const (.int .i64 (ka : Int))), type := 0, pos := "", after := #[], guard := none } 130 ⟨.inn 5 (by kernel_rfl) e5, .inn 6 (by kernel_rfl) e6, trivial⟩ (by kernel_rfl) (by kernel_rfl) (by kernel_rfl) rfl rfl rfl ?_
          clear hd e5 e6
          go_wp2
          exact ⟨rfl, Ext.refl _, rfl⟩
        · intro vals w1 hx hd
          have e7 : vals 7 = .pointer (some ⟨gb, go + ka * 21, none⟩) := hd 7 (by decide)
          refine .run [(130, .pointer (some ⟨gb, go + ka * 21, none⟩))] { dst := some 0, op := Go.Op.load 27 (Go.Operand.const (.pointer (some ⟨gb, go + ka * 21, none⟩))), type := 27, pos := "", after := #[], guard := none } 131 ⟨.inn 7 (by kernel_rfl) e7, trivial⟩ (by kernel_rfl) (by kernel_rfl) (by kernel_rfl) rfl rfl rfl ?_
          clear hd e7
          refine wpList_load_st rfl 27 _ rfl gb (go + ka * 21) rfl X X.toList (by simp) _ (RA.range2 HRX.out hx.undrew) Try.underlying27 rfl (by rw [Array.length_toList, HZX.out]; exact sat_size) ?_
          go_wp2
          exact ⟨rfl, Ext.refl _, rfl⟩
        · intro vals w1 hx hd
          have e8 : vals 8 = .agg X := hd 8 (by decide)
          refine .run [(131, .agg X)] { dst := some 0, op := Go.Op.call { callee := Go.Callee.value (Go.Operand.func 21), args := #[(Go.Operand.const (.agg X))], argTypes := #[27] }, type := 4, pos := "", after := #[], guard := none } 132 ⟨.inn 8 (by kernel_rfl) e8, trivial⟩ (by kernel_rfl) (by kernel_rfl) (by kernel_rfl) rfl rfl rfl ?_
          clear hd e8
          go_wp2_with fail
          refine (HCR.out _).mono ?_
          rintro e w2 ⟨rfl, hb2⟩
          go_wp2
          exact ⟨rfl, hb2, rfl⟩
        · intro vals w1 hx hd
          have e4 : vals 4 = .bool qs := hd 4 (by decide)
          have e9 : vals 9 = .bool qs := hd 9 (by decide)
          refine .run [(127, .bool qs), (132, .bool qs)] { dst := some 0, op := Go.Op.binOp Go.BinOp.neq 4 (Go.Operand.const (.bool qs)) (Go.Operand.const (.bool qs)) 4, type := 4, pos := "", after := #[], guard := none } 133 ⟨.inn 4 (by kernel_rfl) e4, .inn 9 (by kernel_rfl) e9, trivial⟩ (by kernel_rfl) (by kernel_rfl) (by kernel_rfl) rfl rfl rfl ?_
          clear hd e4 e9
          go_wp2
          all_goals exact ⟨rfl, Ext.refl _, by cases qs <;> rfl⟩
      intro vals Wr hx hf
      have e10 : vals 10 = .bool false := hf 10 (by omega)
      clear hf
      have hx := hx.undrew
      have HRX := Lib.hid (RA.range2 HRX.out hx)
      have HRO := Lib.hid (RA.range2 HRO.out hx)
      have hka_ := Ext.trans hka_ hx
      clear hx
      refine tail0 (by kernel_rfl) ?_
      simp only [Lf, dstAt, Act.put, List.getElem?_toArray, List.getElem?_cons_zero, List.getElem?_cons_succ, Option.bind_some, List.setIfInBounds_toArray, List.set_cons_zero, List.set_cons_succ]
      rw [e10]
      clear e10 HCS HCR qs
      go_wp2
      go_loopw [26] (fun x wr => ∃ kb : Nat, kb ≤ m5 ∧ x = .int .i64 kb ∧ Ext Wr wr) (fun x _ => m5 - (intOf x).toNat)
      case atStart => exact ⟨0, Nat.zero_le _, rfl, Ext.refl _⟩
      case round =>
        obtain ⟨kb, hkb, rfl, hkb_⟩ := hrel
        by_cases hkb2 : kb < m5
        · obtain ⟨gp, gpo, hz, hA, _, hr⟩ := (HRP.out.below (Ext.trans hka_ hkb_)).range pas_len hkb2
          generalize PL[kb] = ys at hr
          obtain ⟨Y, hY⟩ : ∃ X, (pasCells ys).toArray = X := ⟨_, rfl⟩
          have HZY : Hid (Y.size = 6) := Lib.hid (by rw [← hY]; rfl)
          have HRY : Hid (wr.rangeAt gp (gpo + kb * 6) Y.toList) := Lib.hid (by rw [← hY]; exact hr)
          have HRX := Lib.hid (RA.range2 HRX.out hkb_)
          have HS1 : Hid (∀ w, Calls Try.prog 22 #[.agg X, .agg Y] w fun e w' => e = .returned (.int .i64 (sendP xs ys)) ∧ Ext w w') := Lib.hid (by rw [← hY]; exact HSD.out ys)
          have HS2 : Hid (∀ w, Calls Try.prog 23 #[.agg X, .agg Y] w fun e w' => e = .returned (.int .i64 (sendP xs ys)) ∧ Ext w w') := Lib.hid (by rw [← hY]; exact HSR.out ys)
          generalize sendP xs ys = sd at HS1 HS2
          clear hr hY hz
          subst hA
          go_upto_region 21 with (fail)
          refine wp_region_obl 19 (fun ix vals v w1 => match ix with | 0 => v = .slice (some ⟨gb, go, none⟩) (ms + 1) cA19 | 1 => v = .int .i64 (ka : Int) | 2 => v = .pointer (some ⟨gb, go + ka * 21, none⟩) | 3 => v = .agg X | 4 => v = .slice (some ⟨gp, gpo, none⟩) m5 cp | 5 => v = .int .i64 (kb : Int) | 6 => v = .pointer (some ⟨gp, gpo + kb * 6, none⟩) | 7 => v = .agg Y | 8 => v = .int .i64 sd | 9 => v = .slice (some ⟨gb, go, none⟩) (ms + 1) cA19 | 10 => v = .int .i64 (ka : Int) | 11 => v = .pointer (some ⟨gb, go + ka * 21, none⟩) | 12 => v = .agg X | 13 => v = .slice (some ⟨gp, gpo, none⟩) m5 cp | 14 => v = .int .i64 (kb : Int) | 15 => v = .pointer (some ⟨gp, gpo + kb * 6, none⟩) | 16 => v = .agg Y | 17 => v = .int .i64 sd | _ => v = .bool false) (by kernel_rfl) (by kernel_rfl) ?_ ?_ ?_ ?_
          · intro ix vals v w1 w2 hi hr hx
            match ix, hr with
            | 0, hr => exact hr
            | 1, hr => exact hr
            | 2, hr => exact hr
            | 3, hr => exact hr
            | 4, hr => exact hr
            | 5, hr => exact hr
            | 6, hr => exact hr
            | 7, hr => exact hr
            | 8, hr => exact hr
            | 9, hr => exact hr
            | 10, hr => exact hr
            | 11, hr => exact hr
            | 12, hr => exact hr
            | 13, hr => exact hr
            | 14, hr => exact hr
            | 15, hr => exact hr
            | 16, hr => exact hr
            | 17, hr => exact hr
            | (kx + 18), hr => exact hr
          · intro ix vals vals_ v w1 hi hv hr
            exact hr
          · refine obls_ofT [some 140, some 141, some 142, some 143, some 144, some 145, some 146, some 147, some 148, some 149, some 150, some 151, some 152, some 153, some 154, some 155, some 156, some 157, some 158] [(19, .slice (some ⟨gb, go, none⟩) (ms + 1) cA19), (25, .int .i64 (ka : Int)), (21, .slice (some ⟨gp, gpo, none⟩) m5 cp), (26, .int .i64 (kb : Int))] 272 (by kernel_rfl) (by kernel_rfl) ⟨by kernel_rfl, by kernel_rfl, by kernel_rfl, by kernel_rfl, trivial⟩ ?_
            refine ⟨?_, ?_, ?_, ?_, ?_, ?_, ?_, ?_, ?_, ?_, ?_, ?_, ?_, ?_, ?_, ?_, ?_, ?_, ?_, trivial⟩
            · intro vals w1 hx hd
              refine .run [(19, .slice (some ⟨gb, go, none⟩) (ms + 1) cA19)] { dst := some 0, op := Go.Op.move (Go.Operand.const (.slice (some ⟨gb, go, none⟩) (ms + 1) cA19)), type := 36, pos := "", after := #[], guard := none } 140 ⟨.out (by kernel_rfl) (by kernel_rfl), trivial⟩ (by kernel_rfl) (by kernel_rfl) (by kernel_rfl) rfl rfl rfl ?_
              clear hd
              go_wp2
              exact ⟨rfl, Ext.refl _, rfl⟩
            · intro vals w1 hx hd
              refine .run [(25, .int .i64 (ka : Int))] { dst := some 0, op := Go.Op.move (Go.Operand.const (.int .i64 (ka : Int))), type := 3, pos := "", after := #[], guard := none } 141 ⟨.out (by kernel_rfl) (by kernel_rfl), trivial⟩ (by kernel_rfl) (by kernel_rfl) (by kernel_rfl) rfl rfl rfl ?_
              clear hd
              go_wp2
              exact ⟨rfl, Ext.refl _, rfl⟩
            · intro vals w1 hx hd
              have e0 : vals 0 = .slice (some ⟨gb, go, none⟩) (ms + 1) cA19 := hd 0 (by decide)
              have e1 : vals 1 = .int .i64 (ka : Int) := hd 1 (by decide)
              refine .run [(140, .slice (some ⟨gb, go, none⟩) (ms + 1) cA19), (141, .int .i64 (ka : Int))] { dst := some 0, op := Go.Op.indexAddr 36 (Go.Operand.const (.slice (some ⟨gb, go, none⟩) (ms + 1) cA19)) (Go.Operand.const (.int .i64 (ka : Int))), type := 0, pos := "", after := #[], guard := none } 142 ⟨.inn 0 (by kernel_rfl) e0, .inn 1 (by kernel_rfl) e1, trivial⟩ (by kernel_rfl) (by kernel_rfl) (by kernel_rfl) rfl rfl rfl ?_
              clear hd e0 e1
              go_wp2
              exact ⟨rfl, Ext.refl _, rfl⟩
            · intro vals w1 hx hd
              have e2 : vals 2 = .pointer (some ⟨gb, go + ka * 21, none⟩) := hd 2 (by decide)
              refine .run [(142, .pointer (some ⟨gb, go + ka * 21, none⟩))] { dst := some 0, op := Go.Op.load 27 (Go.Operand.const (.pointer (some ⟨gb, go + ka * 21, none⟩))), type := 27, pos := "", after := #[], guard := none } 143 ⟨.inn 2 (by kernel_rfl) e2, trivial⟩ (by kernel_rfl) (by kernel_rfl) (by kernel_rfl) rfl rfl rfl ?_
              clear hd e2
              refine wpList_load_st rfl 27 _ rfl gb (go + ka * 21) rfl X X.toList (by simp) _ (RA.range2 HRX.out hx.undrew) Try.underlying27 rfl (by rw [Array.length_toList, HZX.out]; exact sat_size) ?_
              go_wp2
              exact ⟨rfl, Ext.refl _, rfl⟩
            · intro vals w1 hx hd
              refine .run [(21, .slice (some ⟨gp, gpo, none⟩) m5 cp)] { dst := some 0, op := Go.Op.move (Go.Operand.const (.slice (some ⟨gp, gpo, none⟩) m5 cp)), type := 32, pos := "", after := #[], guard := none } 144 ⟨.out (by kernel_rfl) (by kernel_rfl), trivial⟩ (by kernel_rfl) (by kernel_rfl) (by kernel_rfl) rfl rfl rfl ?_
              clear hd
              go_wp2
              exact ⟨rfl, Ext.refl _, rfl⟩
            · intro vals w1 hx hd
              refine .run [(26, .int .i64 (kb : Int))] { dst := some 0, op := Go.Op.move (Go.Operand.const (.int .i64 (kb : Int))), type := 3, pos := "", after := #[], guard := none } 145 ⟨.out (by kernel_rfl) (by kernel_rfl), trivial⟩ (by kernel_rfl) (by kernel_rfl) (by kernel_rfl) rfl rfl rfl ?_
              clear hd
              go_wp2
              exact ⟨rfl, Ext.refl _, rfl⟩
            · intro vals w1 hx hd
              have e4 : vals 4 = .slice (some ⟨gp, gpo, none⟩) m5 cp := hd 4 (by decide)
              have e5 : vals 5 = .int .i64 (kb : Int) := hd 5 (by decide)
              refine .run [(144, .slice (some ⟨gp, gpo, none⟩) m5 cp), (145, .int .i64 (kb : Int))] { dst := some 0, op := Go.Op.indexAddr 32 (Go.Operand.const (.slice (some ⟨gp, gpo, none⟩) m5 cp)) (Go.Operand.const (.int .i64 (kb : Int))), type := 0, pos := "", after := #[], guard := none } 146 ⟨.inn 4 (by kernel_rfl) e4, .inn 5 (by kernel_rfl) e5, trivial⟩ (by kernel_rfl) (by kernel_rfl) (by kernel_rfl) rfl rfl rfl ?_
              clear hd e4 e5
              go_wp2
              exact ⟨rfl, Ext.refl _, rfl⟩
            · intro vals w1 hx hd
              have e6 : vals 6 = .pointer (some ⟨gp, gpo + kb * 6, none⟩) := hd 6 (by decide)
              refine .run [(146, .pointer (some ⟨gp, gpo + kb * 6, none⟩))] { dst := some 0, op := Go.Op.load 47 (Go.Operand.const (.pointer (some ⟨gp, gpo + kb * 6, none⟩))), type := 47, pos := "", after := #[], guard := none } 147 ⟨.inn 6 (by kernel_rfl) e6, trivial⟩ (by kernel_rfl) (by kernel_rfl) (by kernel_rfl) rfl rfl rfl ?_
              clear hd e6
              refine wpList_load_st rfl 47 _ rfl gp (gpo + kb * 6) rfl Y Y.toList (by simp) _ (RA.range2 HRY.out hx.undrew) Try.underlying47 rfl (by rw [Array.length_toList, HZY.out]; exact pas_size_) ?_
              go_wp2
              exact ⟨rfl, Ext.refl _, rfl⟩
            · intro vals w1 hx hd
              have e3 : vals 3 = .agg X := hd 3 (by decide)
              have e7 : vals 7 = .agg Y := hd 7 (by decide)
              refine .run [(143, .agg X), (147, .agg Y)] { dst := some 0, op := Go.Op.call { callee := Go.Callee.value (Go.Operand.func 22), args := #[(Go.Operand.const (.agg X)), (Go.Operand.const (.agg Y))], argTypes := #[27, 47] }, type := 3, pos := "", after := #[], guard := none } 148 ⟨.inn 3 (by kernel_rfl) e3, .inn 7 (by kernel_rfl) e7, trivial⟩ (by kernel_rfl) (by kernel_rfl) (by kernel_rfl) rfl rfl rfl ?_
              clear hd e3 e7
              go_wp2_with fail
              refine (HS1.out _).mono ?_
              rintro e w2 ⟨rfl, hb2⟩
              go_wp2
              exact ⟨rfl, hb2, rfl⟩
            · intro vals w1 hx hd
              refine .run [(19, .slice (some ⟨gb, go, none⟩) (ms + 1) cA19)] { dst := some 0, op := Go.Op.move (Go.Operand.const (.slice (some ⟨gb, go, none⟩) (ms + 1) cA19)), type := 36, pos := "", after := #[], guard := none } 149 ⟨.out (by kernel_rfl) (by kernel_rfl), trivial⟩ (by kernel_rfl) (by kernel_rfl) (by kernel_rfl) rfl rfl rfl ?_
              clear hd
              go_wp2
              exact ⟨rfl, Ext.refl _, rfl⟩
            · intro vals w1 hx hd
              refine .run [(25, .int .i64 (ka : Int))] { dst := some 0, op := Go.Op.move (Go.Operand.const (.int .i64 (ka : Int))), type := 3, pos := "", after := #[], guard := none } 150 ⟨.out (by kernel_rfl) (by kernel_rfl), trivial⟩ (by kernel_rfl) (by kernel_rfl) (by kernel_rfl) rfl rfl rfl ?_
              clear hd
              go_wp2
              exact ⟨rfl, Ext.refl _, rfl⟩
            · intro vals w1 hx hd
              have e9 : vals 9 = .slice (some ⟨gb, go, none⟩) (ms + 1) cA19 := hd 9 (by decide)
              have e10 : vals 10 = .int .i64 (ka : Int) := hd 10 (by decide)
              refine .run [(149, .slice (some ⟨gb, go, none⟩) (ms + 1) cA19), (150, .int .i64 (ka : Int))] { dst := some 0, op := Go.Op.indexAddr 36 (Go.Operand.const (.slice (some ⟨gb, go, none⟩) (ms + 1) cA19)) (Go.Operand.const (.int .i64 (ka : Int))), type := 0, pos := "", after := #[], guard := none } 151 ⟨.inn 9 (by kernel_rfl) e9, .inn 10 (by kernel_rfl) e10, trivial⟩ (by kernel_rfl) (by kernel_rfl) (by kernel_rfl) rfl rfl rfl ?_
              clear hd e9 e10
              go_wp2
              exact ⟨rfl, Ext.refl _, rfl⟩
            · intro vals w1 hx hd
              have e11 : vals 11 = .pointer (some ⟨gb, go + ka * 21, none⟩) := hd 11 (by decide)
              refine .run [(151, .pointer (some ⟨gb, go + ka * 21, none⟩))] { dst := some 0, op := Go.Op.load 27 (Go.Operand.const (.pointer (some ⟨gb, go + ka * 21, none⟩))), type := 27, pos := "", after := #[], guard := none } 152 ⟨.inn 11 (by kernel_rfl) e11, trivial⟩ (by kernel_rfl) (by kernel_rfl) (by kernel_rfl) rfl rfl rfl ?_
              clear hd e11
              refine wpList_load_st rfl 27 _ rfl gb (go + ka * 21) rfl X X.toList (by simp) _ (RA.range2 HRX.out hx.undrew) Try.underlying27 rfl (by rw [Array.length_toList, HZX.out]; exact sat_size) ?_
              go_wp2
              exact ⟨rfl, Ext.refl _, rfl⟩
            · intro vals w1 hx hd
              refine .run [(21, .slice (some ⟨gp, gpo, none⟩) m5 cp)] { dst := some 0, op := Go.Op.move (Go.Operand.const (.slice (some ⟨gp, gpo, none⟩) m5 cp)), type := 32, pos := "", after := #[], guard := none } 153 ⟨.out (by kernel_rfl) (by kernel_rfl), trivial⟩ (by kernel_rfl) (by kernel_rfl) (by kernel_rfl) rfl rfl rfl ?_
              clear hd
              go_wp2
              exact ⟨rfl, Ext.refl _, rfl⟩
            · intro vals w1 hx hd
              refine .run [(26, .int .i64 (kb : Int))] { dst := some 0, op := Go.Op.move (Go.Operand.const (.int .i64 (kb : Int))), type := 3, pos := "", after := #[], guard := none } 154 ⟨.out (by kernel_rfl) (by kernel_rfl), trivial⟩ (by kernel_rfl) (by kernel_rfl) (by kernel_rfl) rfl rfl rfl ?_
              clear hd
              go_wp2
              exact ⟨rfl, Ext.refl _, rfl⟩
            · intro vals w1 hx hd
              have e13 : vals 13 = .slice (some ⟨gp, gpo, none⟩) m5 cp := hd 13 (by decide)
              have e14 : vals 14 = .int .i64 (kb : Int) := hd 14 (by decide)
              refine .run [(153, .slice (some ⟨gp, gpo, none⟩) m5 cp), (154, .int .i64 (kb : Int))] { dst := some 0, op := Go.Op.indexAddr 32 (Go.Operand.const (.slice (some ⟨gp, gpo, none⟩) m5 cp)) (Go.Operand.const (.int .i64 (kb : Int))), type := 0, pos := "", after := #[], guard := none } 155 ⟨.inn 13 (by kernel_rfl) e13, .inn 14 (by kernel_rfl) e14, trivial⟩ (by kernel_rfl) (by kernel_rfl) (by kernel_rfl) rfl rfl rfl ?_
              clear hd e13 e14
              go_wp2
              exact ⟨rfl, Ext.refl _, rfl⟩
            · intro vals w1 hx hd
              have e15 : vals 15 = .pointer (some ⟨gp, gpo + kb * 6, none⟩) := hd 15 (by decide)
              refine .run [(155, .pointer (some ⟨gp, gpo + kb * 6, none⟩))] { dst := some 0, op := Go.Op.load 47 (Go.Operand.const (.pointer (some ⟨gp, gpo + kb * 6, none⟩))), type := 47, pos := "", after := #[], guard := none } 156 ⟨.inn 15 (by kernel_rfl) e15, trivial⟩ (by kernel_rfl) (by kernel_rfl) (by kernel_rfl) rfl rfl rfl ?_
              clear hd e15
              refine wpList_load_st rfl 47 _ rfl gp (gpo + kb * 6) rfl Y Y.toList (by simp) _ (RA.range2 HRY.out hx.undrew) Try.underlying47 rfl (by rw [Array.length_toList, HZY.out]; exact pas_size_) ?_
              go_wp2
              exact ⟨rfl, Ext.refl _, rfl⟩
            · intro vals w1 hx hd
              have e12 : vals 12 = .agg X := hd 12 (by decide)
              have e16 : vals 16 = .agg Y := hd 16 (by decide)
              refine .run [(152, .agg X), (156, .agg Y)] { dst := some 0, op := Go.Op.call { callee := Go.Callee.value (Go.Operand.func 23), args := #[(Go.Operand.const (.agg X)), (Go.Operand.const (.agg Y))], argTypes := #[27, 47] }, type := 3, pos := "", after := #[], guard := none } 157 ⟨.inn 12 (by kernel_rfl) e12, .inn 16 (by kernel_rfl) e16, trivial⟩ (by kernel_rfl) (by kernel_rfl) (by kernel_rfl) rfl rfl rfl ?_
              clear hd e12 e16
              go_wp2_with fail
              refine (HS2.out _).mono ?_
              rintro e w2 ⟨rfl, hb2⟩
              go_wp2
              exact ⟨rfl, hb2, rfl⟩
            · intro vals w1 hx hd
              have e8 : vals 8 = .int .i64 sd := hd 8 (by decide)
              have e17 : vals 17 = .int .i64 sd := hd 17 (by decide)
              refine .run [(148, .int .i64 sd), (157, .int .i64 sd)] { dst := some 0, op := Go.Op.binOp Go.BinOp.neq 3 (Go.Operand.const (.int .i64 sd)) (Go.Operand.const (.int .i64 sd)) 3, type := 4, pos := "", after := #[], guard := none } 158 ⟨.inn 8 (by kernel_rfl) e8, .inn 17 (by kernel_rfl) e17, trivial⟩ (by kernel_rfl) (by kernel_rfl) (by kernel_rfl) rfl rfl rfl ?_
              clear hd e8 e17
              go_wp2
              all_goals exact ⟨rfl, Ext.refl _, by simp⟩
          intro vals Wp hx hf
          have e18 : vals 18 = .bool false := hf 18 (by omega)
          clear hf
          have hx := hx.undrew
          have hkb_ := Ext.trans hkb_ hx
          clear hx
          refine tail0 (by kernel_rfl) ?_
          simp only [Lf, dstAt, Act.put, List.getElem?_toArray, List.getElem?_cons_zero, List.getElem?_cons_succ, Option.bind_some, List.setIfInBounds_toArray, List.set_cons_zero, List.set_cons_succ]
          rw [e18]
          clear e18 HS1 HS2 HRX HRY
          go_wp2
          go_roundw
          case rel => exact ⟨kb + 1, by omega, by go_num, hkb_⟩
          case measure => simp [intOf]; omega
        · skip
          have hka_ := Ext.trans hka_ hkb_
          have HRX := Lib.hid (RA.range2 HRX.out hkb_)
          have HRO := Lib.hid (RA.range2 HRO.out hkb_)
          clear hkb_ HSD HSR
          obtain ⟨Wl, hWl⟩ : ∃ W : World, W = wr := ⟨_, rfl⟩
          rw [← hWl] at hka_ HRX HRO ⊢
          clear hWl
          go_wp2
          go_loopw [27] (fun x wr => ∃ kc : Nat, kc ≤ mt + 1 ∧ x = .int .i64 kc ∧ Ext Wl wr) (fun x _ => mt + 1 - (intOf x).toNat)
          case atStart => exact ⟨0, Nat.zero_le _, rfl, Ext.refl _⟩
          case round =>
            obtain ⟨kc, hkc, rfl, hkc_⟩ := hrel
            by_cases hkc2 : kc < mt + 1
            · obtain ⟨gs, gso, hz, hA, _, hr⟩ := (HRT.out.below (Ext.trans hka_ hkc_)).range stn_len hkc2
              generalize TS[kc] = ys at hr
              have hkc3 : (kc : Int) < (mt : Int) + 1 := by omega
              obtain ⟨TX, hTX⟩ : ∃ X, (stnCells ys).toArray = X := ⟨_, rfl⟩
              have HZTX : Hid (TX.size = 6) := Lib.hid (by rw [← hTX]; rfl)
              have HRT2 : Hid (wr.rangeAt gs (gso + kc * 6) TX.toList) := Lib.hid (by rw [← hTX]; exact hr)
              have HRO := Lib.hid (RA.range2 HRO.out hkc_)
              obtain ⟨qt, hqt⟩ : ∃ q, q = stnOK ys := ⟨_, rfl⟩
              have HTV : Hid (∀ w, Calls Try.prog 24 #[.agg TX] w fun e w' => e = .returned (.bool qt) ∧ Ext w w') := Lib.hid (by rw [hqt]; rw [← hTX]; exact stn_x ys)
              have HTR : Hid (∀ w, Calls Try.prog 25 #[.agg TX] w fun e w' => e = .returned (.bool qt) ∧ Ext w w') := Lib.hid (by rw [hqt]; rw [← hTX]; exact rstn_x ys)
              have HVW : Hid (∀ t la w, Calls Try.prog 26 #[.agg OX, .agg TX, .int .i64 t, .int .i64 la] w fun e w' => e = .returned (viewV (viewP xs.orbit ys t la)) ∧ Ext w w') := Lib.hid (by rw [← HXE.out, ← hTX]; exact view_x xs.orbit ys)
              have HVR : Hid (∀ t la w, Calls Try.prog 27 #[.agg OX, .agg TX, .int .i64 t, .int .i64 la] w fun e w' => e = .returned (viewV (viewP xs.orbit ys t la)) ∧ Ext w w') := Lib.hid (by rw [← HXE.out, ← hTX]; exact rview_x xs.orbit ys)
              have HCT : Hid (∀ (u : Spl) la, ∃ (l : List Spl) (er : Int), (∀ w, Calls Try.prog 28 #[.agg OX, .agg TX, .agg #[.int .i64 u.fr, .int .i64 u.tt], .int .i64 la] w (SpRet l er w)) ∧ ∀ w, Calls Try.prog 29 #[.agg OX, .agg TX, .agg #[.int .i64 u.fr, .int .i64 u.tt], .int .i64 la] w (SpRet l er w)) := Lib.hid (by rw [← HXE.out, ← hTX]; exact contacts_x xs.orbit ys)
              clear hr hTX hqt hz
              subst hA
              go_upto_region 27 with (first | (refine wpList_load_st rfl 25 _ rfl gb (go + ka * 21 + 2) rfl OX OX.toList (by simp) _ HRO.out Try.underlying25 rfl (by rw [Array.length_toList, HZOX.out]; exact orb_size) ?_) | (refine wpList_store_new rfl 25 _ _ rfl _ OX rfl rfl (by rw [HZOX.out]; exact orb_size) (by rw [HZOX.out]; rfl) HOOX.out ?_))
              have J28 : Blk (wr.alloc (.cells OX 25)) wr.heap.size 25 OX := Blk.new _ _ _
              have hx : Ext wr (wr.alloc (.cells OX 25)) := bl_alloc (Below.refl _ _) _
              obtain ⟨g28, hg⟩ : ∃ g, g = wr.heap.size := ⟨_, rfl⟩
              rw [← hg] at J28 ⊢
              generalize wr.alloc (.cells OX 25) = Wd at J28 hx ⊢
              clear hg HRO
              have HRT2 := Lib.hid (RA.range2 HRT2.out hx)
              have hkc_ := Ext.trans hkc_ hx
              clear hx
              refine wp_region_obl 11 (fun ix vals v w1 => match ix with | 0 => v = .slice (some ⟨gs, gso, none⟩) (mt + 1) cA20 | 1 => v = .int .i64 (kc : Int) | 2 => v = .pointer (some ⟨gs, gso + kc * 6, none⟩) | 3 => v = .agg TX | 4 => v = .bool qt | 5 => v = .slice (some ⟨gs, gso, none⟩) (mt + 1) cA20 | 6 => v = .int .i64 (kc : Int) | 7 => v = .pointer (some ⟨gs, gso + kc * 6, none⟩) | 8 => v = .agg TX | 9 => v = .bool qt | _ => v = .bool false) (by kernel_rfl) (by kernel_rfl) ?_ ?_ ?_ ?_
              · intro ix vals v w1 w2 hi hr hx
                match ix, hr with
                | 0, hr => exact hr
                | 1, hr => exact hr
                | 2, hr => exact hr
                | 3, hr => exact hr
                | 4, hr => exact hr
                | 5, hr => exact hr
                | 6, hr => exact hr
                | 7, hr => exact hr
                | 8, hr => exact hr
                | 9, hr => exact hr
                | (kx + 10), hr => exact hr
              · intro ix vals vals_ v w1 hi hv hr
                exact hr
              · refine obls_ofT [some 170, some 171, some 172, some 173, some 174, some 175, some 176, some 177, some 178, some 179, some 180] [(20, .slice (some ⟨gs, gso, none⟩) (mt + 1) cA20), (27, .int .i64 (kc : Int))] 272 (by kernel_rfl) (by kernel_rfl) ⟨by kernel_rfl, by kernel_rfl, trivial⟩ ?_
                refine ⟨?_, ?_, ?_, ?_, ?_, ?_, ?_, ?_, ?_, ?_, ?_, trivial⟩
                · intro vals w1 hx hd
                  refine .run [(20, .slice (some ⟨gs, gso, none⟩) (mt + 1) cA20)] { dst := some 0, op := Go.Op.move (Go.Operand.const (.slice (some ⟨gs, gso, none⟩) (mt + 1) cA20)), type := 38, pos := "", after := #[], guard := none } 170 ⟨.out (by kernel_rfl) (by kernel_rfl), trivial⟩ (by kernel_rfl) (by kernel_rfl) (by kernel_rfl) rfl rfl rfl ?_
                  clear hd
                  go_wp2
                  exact ⟨rfl, Ext.refl _, rfl⟩
                · intro vals w1 hx hd
                  refine .run [(27, .int .i64 (kc : Int))] { dst := some 0, op := Go.Op.move (Go.Operand.const (.int .i64 (kc : Int))), type := 3, pos := "", after := #[], guard := none } 171 ⟨.out (by kernel_rfl) (by kernel_rfl), trivial⟩ (by kernel_rfl) (by kernel_rfl) (by kernel_rfl) rfl rfl rfl ?_
                  clear hd
                  go_wp2
                  exact ⟨rfl, Ext.refl _, rfl⟩
                · intro vals w1 hx hd
                  have e0 : vals 0 = .slice (some ⟨gs, gso, none⟩) (mt + 1) cA20 := hd 0 (by decide)
                  have e1 : vals 1 = .int .i64 (kc : Int) := hd 1 (by decide)
                  refine .run [(170, .slice (some ⟨gs, gso, none⟩) (mt + 1) cA20), (171, .int .i64 (kc : Int))] { dst := some 0, op := Go.Op.indexAddr 38 (Go.Operand.const (.slice (some ⟨gs, gso, none⟩) (mt + 1) cA20)) (Go.Operand.const (.int .i64 (kc : Int))), type := 0, pos := "", after := #[], guard := none } 172 ⟨.inn 0 (by kernel_rfl) e0, .inn 1 (by kernel_rfl) e1, trivial⟩ (by kernel_rfl) (by kernel_rfl) (by kernel_rfl) rfl rfl rfl ?_
                  clear hd e0 e1
                  go_wp2
                  exact ⟨rfl, Ext.refl _, rfl⟩
                · intro vals w1 hx hd
                  have e2 : vals 2 = .pointer (some ⟨gs, gso + kc * 6, none⟩) := hd 2 (by decide)
                  refine .run [(172, .pointer (some ⟨gs, gso + kc * 6, none⟩))] { dst := some 0, op := Go.Op.load 31 (Go.Operand.const (.pointer (some ⟨gs, gso + kc * 6, none⟩))), type := 31, pos := "", after := #[], guard := none } 173 ⟨.inn 2 (by kernel_rfl) e2, trivial⟩ (by kernel_rfl) (by kernel_rfl) (by kernel_rfl) rfl rfl rfl ?_
                  clear hd e2
                  refine wpList_load_st rfl 31 _ rfl gs (gso + kc * 6) rfl TX TX.toList (by simp) _ (RA.range2 HRT2.out hx.undrew) Try.underlying31 rfl (by rw [Array.length_toList, HZTX.out]; exact stn_size_) ?_
                  go_wp2
                  exact ⟨rfl, Ext.refl _, rfl⟩
                · intro vals w1 hx hd
                  have e3 : vals 3 = .agg TX := hd 3 (by decide)
                  refine .run [(173, .agg TX)] { dst := some 0, op := Go.Op.call { callee := Go.Callee.value (Go.Operand.func 24), args := #[(Go.Operand.const (.agg TX))], argTypes := #[31] }, type := 4, pos := "", after := #[], guard := none } 174 ⟨.inn 3 (by kernel_rfl) e3, trivial⟩ (by kernel_rfl) (by kernel_rfl) (by kernel_rfl) rfl rfl rfl ?_
                  clear hd e3
                  go_wp2_with fail
                  refine (HTV.out _).mono ?_
                  rintro e w2 ⟨rfl, hb2⟩
                  go_wp2
                  exact ⟨rfl, hb2, rfl⟩
                · intro vals w1 hx hd
                  refine .run [(20, .slice (some ⟨gs, gso, none⟩) (mt + 1) cA20)] { dst := some 0, op := Go.Op.move (Go.Operand.const (.slice (some ⟨gs, gso, none⟩) (mt + 1) cA20)), type := 38, pos := "", after := #[], guard := none } 175 ⟨.out (by kernel_rfl) (by kernel_rfl), trivial⟩ (by kernel_rfl) (by kernel_rfl) (by kernel_rfl) rfl rfl rfl ?_
                  clear hd
                  go_wp2
                  exact ⟨rfl, Ext.refl _, rfl⟩
                · intro vals w1 hx hd
                  refine .run [(27, .int .i64 (kc : Int))] { dst := some 0, op := Go.Op.move (Go.Operand.const (.int .i64 (kc : Int))), type := 3, pos := "", after := #[], guard := none } 176 ⟨.out (by kernel_rfl) (by kernel_rfl), trivial⟩ (by kernel_rfl) (by kernel_rfl) (by kernel_rfl) rfl rfl rfl ?_
                  clear hd
                  go_wp2
                  exact ⟨rfl, Ext.refl _, rfl⟩
                · intro vals w1 hx hd
                  have e5 : vals 5 = .slice (some ⟨gs, gso, none⟩) (mt + 1) cA20 := hd 5 (by decide)
                  have e6 : vals 6 = .int .i64 (kc : Int) := hd 6 (by decide)
                  refine .run [(175, .slice (some ⟨gs, gso, none⟩) (mt + 1) cA20), (176, .int .i64 (kc : Int))] { dst := some 0, op := Go.Op.indexAddr 38 (Go.Operand.const (.slice (some ⟨gs, gso, none⟩) (mt + 1) cA20)) (Go.Operand.const (.int .i64 (kc : Int))), type := 0, pos := "", after := #[], guard := none } 177 ⟨.inn 5 (by kernel_rfl) e5, .inn 6 (by kernel_rfl) e6, trivial⟩ (by kernel_rfl) (by kernel_rfl) (by kernel_rfl) rfl rfl rfl ?_
                  clear hd e5 e6
                  go_wp2
                  exact ⟨rfl, Ext.refl _, rfl⟩
                · intro vals w1 hx hd
                  have e7 : vals 7 = .pointer (some ⟨gs, gso + kc * 6, none⟩) := hd 7 (by decide)
                  refine .run [(177, .pointer (some ⟨gs, gso + kc * 6, none⟩))] { dst := some 0, op := Go.Op.load 31 (Go.Operand.const (.pointer (some ⟨gs, gso + kc * 6, none⟩))), type := 31, pos := "", after := #[], guard := none } 178 ⟨.inn 7 (by kernel_rfl) e7, trivial⟩ (by kernel_rfl) (by kernel_rfl) (by kernel_rfl) rfl rfl rfl ?_
                  clear hd e7
                  refine wpList_load_st rfl 31 _ rfl gs (gso + kc * 6) rfl TX TX.toList (by simp) _ (RA.range2 HRT2.out hx.undrew) Try.underlying31 rfl (by rw [Array.length_toList, HZTX.out]; exact stn_size_) ?_
                  go_wp2
                  exact ⟨rfl, Ext.refl _, rfl⟩
                · intro vals w1 hx hd
                  have e8 : vals 8 = .agg TX := hd 8 (by decide)
                  refine .run [(178, .agg TX)] { dst := some 0, op := Go.Op.call { callee := Go.Callee.value (Go.Operand.func 25), args := #[(Go.Operand.const (.agg TX))], argTypes := #[31] }, type := 4, pos := "", after := #[], guard := none } 179 ⟨.inn 8 (by kernel_rfl) e8, trivial⟩ (by kernel_rfl) (by kernel_rfl) (by kernel_rfl) rfl rfl rfl ?_
                  clear hd e8
                  go_wp2_with fail
                  refine (HTR.out _).mono ?_
                  rintro e w2 ⟨rfl, hb2⟩
                  go_wp2
                  exact ⟨rfl, hb2, rfl⟩
                · intro vals w1 hx hd
                  have e4 : vals 4 = .bool qt := hd 4 (by decide)
                  have e9 : vals 9 = .bool qt := hd 9 (by decide)
                  refine .run [(174, .bool qt), (179, .bool qt)] { dst := some 0, op := Go.Op.binOp Go.BinOp.neq 4 (Go.Operand.const (.bool qt)) (Go.Operand.const (.bool qt)) 4, type := 4, pos := "", after := #[], guard := none } 180 ⟨.inn 4 (by kernel_rfl) e4, .inn 9 (by kernel_rfl) e9, trivial⟩ (by kernel_rfl) (by kernel_rfl) (by kernel_rfl) rfl rfl rfl ?_
                  clear hd e4 e9
                  go_wp2
                  all_goals exact ⟨rfl, Ext.refl _, by cases qt <;> rfl⟩
              intro vals We hx hf
              have e10 : vals 10 = .bool false := hf 10 (by omega)
              clear hf
              have hx := hx.undrew
              have HRT2 := Lib.hid (RA.range2 HRT2.out hx)
              have J28 := J28.ext hx
              have hkc_ := Ext.trans hkc_ hx
              clear hx
              refine tail0 (by kernel_rfl) ?_
              simp only [Lf, dstAt, Act.put, List.getElem?_toArray, List.getElem?_cons_zero, List.getElem?_cons_succ, Option.bind_some, List.setIfInBounds_toArray, List.set_cons_zero, List.set_cons_succ]
              rw [e10]
              clear e10 HTV HTR qt
              go_wp2_with fail
              refine (HP2.out _).mono ?_
              rintro e w2 ⟨rfl, rfl⟩
              obtain ⟨l2, hl2⟩ : ∃ l, IntKind.i64.wrap (k2 - 10) = l := ⟨_, rfl⟩
              go_wp2
              clear hl2
              have J30 : Blk (We.alloc (.cells #[.int .i64 t, .int .i64 la, .int .i64 k0, .int .i64 l2] 49)) We.heap.size 49 #[.int .i64 t, .int .i64 la, .int .i64 k0, .int .i64 l2] := Blk.new _ _ _
              have hx : Ext We (We.alloc (.cells #[.int .i64 t, .int .i64 la, .int .i64 k0, .int .i64 l2] 49)) := bl_alloc (Below.refl _ _) _
              obtain ⟨gq, hg⟩ : ∃ g, g = We.heap.size := ⟨_, rfl⟩
              rw [← hg] at J30 ⊢
              generalize We.alloc (.cells #[.int .i64 t, .int .i64 la, .int .i64 k0, .int .i64 l2] 49) = Wf at J30 hx ⊢
              clear hg
              have HRT2 := Lib.hid (RA.range2 HRT2.out hx)
              have J28 := J28.ext hx
              have hkc_ := Ext.trans hkc_ hx
              clear hx
              have HRQ := Lib.hid (RA.two (cells := splCells) (s := 2) (x := ⟨t, la⟩) (y := ⟨k0, l2⟩) rfl rfl J30)
              have J23c := J23.ext (Ext.trans hka_ hkc_)
              have J24c := J24.ext (Ext.trans hka_ hkc_)
              clear J30
              go_loopw [191] (fun x wr => ∃ kd : Nat, kd ≤ 2 ∧ x = .int .i64 kd ∧ Ext Wf wr) (fun x _ => 2 - (intOf x).toNat)
              case atStart => exact ⟨0, Nat.zero_le _, rfl, Ext.refl _⟩
              case round =>
                obtain ⟨kd, hkd, rfl, hkd_⟩ := hrel
                by_cases hkd2 : kd < 2
                · obtain ⟨gq_, gqo, hz, hA, _, hc⟩ := (HRQ.out.below hkd_).at_ spl_len hkd2
                  obtain ⟨rfl, rfl⟩ : gq = gq_ ∧ 0 = gqo := by injection hA with hA; injection hA with h1 h2; exact ⟨h1, h2⟩
                  clear hA
                  have n0 := hc 0 (by omega)
                  have n1 := hc 1 (by omega)
                  generalize ([⟨t, la⟩, ⟨k0, l2⟩] : List Spl)[kd] = nu at n0 n1
                  obtain ⟨nt, nl⟩ := nu
                  have hkd3 : (kd : Int) < 2 := by omega
                  have n0 : wr.cell? ⟨gq, kd * 2, none⟩ = some (.int .i64 nt) := by rw [Nat.zero_add, Nat.add_zero] at n0; exact n0
                  have n1 : wr.cell? ⟨gq, kd * 2 + 1, none⟩ = some (.int .i64 nl) := by rw [Nat.zero_add] at n1; exact n1
                  clear hc hz
                  go_upto_region 32 with (fail)
                  clear n0 n1
                  have J31 : Blk (wr.alloc (.cells #[.int .i64 nt, .int .i64 nl] 49)) wr.heap.size 49 #[.int .i64 nt, .int .i64 nl] := Blk.new _ _ _
                  have hx : Ext wr (wr.alloc (.cells #[.int .i64 nt, .int .i64 nl] 49)) := bl_alloc (Below.refl _ _) _
                  obtain ⟨g30, hg⟩ : ∃ g, g = wr.heap.size := ⟨_, rfl⟩
                  rw [← hg] at J31 ⊢
                  generalize wr.alloc (.cells #[.int .i64 nt, .int .i64 nl] 49) = Wg at J31 hx ⊢
                  clear hg
                  have hkd_ := Ext.trans hkd_ hx
                  clear hx
                  have HRT3 := Lib.hid (RA.range2 HRT2.out hkd_)
                  have J28d := J28.ext hkd_
                  have J23d := J23c.ext hkd_
                  have J24d := J24c.ext hkd_
                  obtain ⟨vb, ve, hvv⟩ := viewV_form (viewP xs.orbit ys nt nl)
                  have HV1 : Hid (∀ w, Calls Try.prog 26 #[.agg OX, .agg TX, .int .i64 nt, .int .i64 nl] w fun e w' => e = .returned (.tuple #[.bool vb, .int .i64 ve]) ∧ Ext w w') := Lib.hid (by rw [← hvv]; exact HVW.out nt nl)
                  have HV2 : Hid (∀ w, Calls Try.prog 27 #[.agg OX, .agg TX, .int .i64 nt, .int .i64 nl] w fun e w' => e = .returned (.tuple #[.bool vb, .int .i64 ve]) ∧ Ext w w') := Lib.hid (by rw [← hvv]; exact HVR.out nt nl)
                  clear hvv
                  have n0 : Wg.cell? ⟨g30, 0, none⟩ = some (.int .i64 nt) := J31.cell 0
                  have n1 : Wg.cell? ⟨g30, 1, none⟩ = some (.int .i64 nl) := J31.cell 1
                  go_upto_region 32 with (fail)
                  refine L7.wp_region_late 13 12 (fun ix vals v w1 => match ix with | 0 => v = .agg OX | 1 => v = .slice (some ⟨gs, gso, none⟩) (mt + 1) cA20 | 2 => v = .int .i64 (kc : Int) | 3 => v = .pointer (some ⟨gs, gso + kc * 6, none⟩) | 4 => v = .agg TX | 5 => v = .pointer (some ⟨g30, 0, none⟩) | 6 => v = .int .i64 nt | 7 => v = .pointer (some ⟨g30, 1, none⟩) | 8 => v = .int .i64 nl | 9 => v = .tuple #[.bool vb, .int .i64 ve] | 10 => v = .tuple #[.bool vb, .int .i64 ve] | 11 => v = .bool vb | _ => v = .int .i64 ve) (fun _ _ => none) (by kernel_rfl) (by kernel_rfl) (by kernel_rfl) (by kernel_rfl) _ rfl ?_ ?_ ?_ ?_ ?_
                  · intro ix vals v w1 hi hr k hk
                    match ix, hr, hk with
                    | 0, _, hk => cases hk
                    | 1, _, hk => cases hk
                    | 2, _, hk => cases hk
                    | 3, _, hk => cases hk
                    | 4, _, hk => cases hk
                    | 5, _, hk => cases hk
                    | 6, _, hk => cases hk
                    | 7, _, hk => cases hk
                    | 8, _, hk => cases hk
                    | 9, _, hk => cases hk
                    | 10, _, hk => cases hk
                    | 11, _, hk => cases hk
                    | (kx + 12), _, hk => cases hk
                  · intro ix vals v w1 w2 hi hr hx
                    match ix, hr with
                    | 0, hr => exact hr
                    | 1, hr => exact hr
                    | 2, hr => exact hr
                    | 3, hr => exact hr
                    | 4, hr => exact hr
                    | 5, hr => exact hr
                    | 6, hr => exact hr
                    | 7, hr => exact hr
                    | 8, hr => exact hr
                    | 9, hr => exact hr
                    | 10, hr => exact hr
                    | 11, hr => exact hr
                    | (kx + 12), hr => exact hr
                  · intro ix vals vals_ v w1 hi hv hr
                    exact hr
                  · refine ⟨?_, ?_, ?_, ?_, ?_, ?_, ?_, ?_, ?_, ?_, ?_, ?_, ?_, trivial⟩
                    · intro vals w1 hx hd ha
                      refine L7.plain1 (fun _ => rfl) ?_
                      clear hd ha
                      simp only [Lf]
                      refine wpList_load_st rfl 25 _ rfl g28 0 rfl OX OX.toList (by simp) _ (Blk.range (J28d.ext hx.undrew) _ rfl) Try.underlying25 rfl (by rw [Array.length_toList, HZOX.out]; exact orb_size) ?_
                      go_wp2
                      exact ⟨rfl, Ext.refl _, rfl⟩
                    · intro vals w1 hx hd ha
                      refine L7.plain1 (fun _ => rfl) ?_
                      clear hd ha
                      simp only [Lf, dstAt, Act.put, List.getElem?_toArray, List.getElem?_cons_zero, Option.bind_some, List.setIfInBounds_toArray, List.set_cons_zero, List.set_cons_succ]
                      go_wp2
                      exact ⟨rfl, Ext.refl _, rfl⟩
                    · intro vals w1 hx hd ha
                      refine L7.plain1 (fun _ => rfl) ?_
                      clear hd ha
                      simp only [Lf, dstAt, Act.put, List.getElem?_toArray, List.getElem?_cons_zero, List.getElem?_cons_succ, Option.bind_some, List.setIfInBounds_toArray, List.set_cons_zero, List.set_cons_succ]
                      go_wp2
                      exact ⟨rfl, Ext.refl _, rfl⟩
                    · intro vals w1 hx hd ha
                      have e1 : vals 1 = .slice (some ⟨gs, gso, none⟩) (mt + 1) cA20 := hd 1 (by decide)
                      have e2 : vals 2 = .int .i64 (kc : Int) := hd 2 (by decide)
                      refine L7.plain1 (fun _ => rfl) ?_
                      clear hd ha
                      simp only [Lf, dstAt, Act.put, List.getElem?_toArray, List.getElem?_cons_zero, List.getElem?_cons_succ, Option.bind_some, List.setIfInBounds_toArray, List.set_cons_zero, List.set_cons_succ]
                      simp only [e1, e2]
                      clear e1 e2
                      go_wp2
                      exact ⟨rfl, Ext.refl _, rfl⟩
                    · intro vals w1 hx hd ha
                      have e3 : vals 3 = .pointer (some ⟨gs, gso + kc * 6, none⟩) := hd 3 (by decide)
                      refine L7.plain1 (fun _ => rfl) ?_
                      clear hd ha
                      simp only [Lf, dstAt, Act.put, List.getElem?_toArray, List.getElem?_cons_zero, List.getElem?_cons_succ, Option.bind_some, List.setIfInBounds_toArray, List.set_cons_zero, List.set_cons_succ]
                      simp only [e3]
                      clear e3
                      refine wpList_load_st rfl 31 _ rfl gs (gso + kc * 6) rfl TX TX.toList (by simp) _ (RA.range2 HRT3.out hx.undrew) Try.underlying31 rfl (by rw [Array.length_toList, HZTX.out]; exact stn_size_) ?_
                      go_wp2
                      exact ⟨rfl, Ext.refl _, rfl⟩
                    · intro vals w1 hx hd ha
                      refine L7.plain1 (fun _ => rfl) ?_
                      clear hd ha
                      simp only [Lf, dstAt, Act.put, List.getElem?_toArray, List.getElem?_cons_zero, List.getElem?_cons_succ, Option.bind_some, List.setIfInBounds_toArray, List.set_cons_zero, List.set_cons_succ]
                      go_wp2
                      exact ⟨rfl, Ext.refl _, rfl⟩
                    · intro vals w1 hx hd ha
                      have e5 : vals 5 = .pointer (some ⟨g30, 0, none⟩) := hd 5 (by decide)
                      refine L7.plain1 (fun _ => rfl) ?_
                      clear hd ha
                      simp only [Lf, dstAt, Act.put, List.getElem?_toArray, List.getElem?_cons_zero, List.getElem?_cons_succ, Option.bind_some, List.setIfInBounds_toArray, List.set_cons_zero, List.set_cons_succ]
                      simp only [e5]
                      clear e5
                      have n0 := ext_cell hx n0
                      go_wp2
                      exact ⟨rfl, Ext.refl _, rfl⟩
                    · intro vals w1 hx hd ha
                      refine L7.plain1 (fun _ => rfl) ?_
                      clear hd ha
                      simp only [Lf, dstAt, Act.put, List.getElem?_toArray, List.getElem?_cons_zero, List.getElem?_cons_succ, Option.bind_some, List.setIfInBounds_toArray, List.set_cons_zero, List.set_cons_succ]
                      go_wp2
                      exact ⟨rfl, Ext.refl _, rfl⟩
                    · intro vals w1 hx hd ha
                      have e7 : vals 7 = .pointer (some ⟨g30, 1, none⟩) := hd 7 (by decide)
                      refine L7.plain1 (fun _ => rfl) ?_
                      clear hd ha
                      simp only [Lf, dstAt, Act.put, List.getElem?_toArray, List.getElem?_cons_zero, List.getElem?_cons_succ, Option.bind_some, List.setIfInBounds_toArray, List.set_cons_zero, List.set_cons_succ]
                      simp only [e7]
                      clear e7
                      have n1 := ext_cell hx n1
                      go_wp2
                      exact ⟨rfl, Ext.refl _, rfl⟩
                    · intro vals w1 hx hd ha
                      have e0 : vals 0 = .agg OX := hd 0 (by decide)
                      have e4 : vals 4 = .agg TX := hd 4 (by decide)
                      have e6 : vals 6 = .int .i64 nt := hd 6 (by decide)
                      have e8 : vals 8 = .int .i64 nl := hd 8 (by decide)
                      refine L7.plain1 (fun _ => rfl) ?_
                      clear hd ha
                      simp only [Lf, dstAt, Act.put, List.getElem?_toArray, List.getElem?_cons_zero, List.getElem?_cons_succ, Option.bind_some, List.setIfInBounds_toArray, List.set_cons_zero, List.set_cons_succ]
                      simp only [e0]
                      simp only [e4]
                      simp only [e6]
                      simp only [e8]
                      clear e0 e4 e6 e8
                      go_wp2_with fail
                      refine (HV1.out _).mono ?_
                      rintro e w2 ⟨rfl, hb2⟩
                      go_wp2
                      exact ⟨rfl, hb2, rfl⟩
                    · intro vals w1 hx hd ha
                      have e9 : vals 9 = .tuple #[.bool vb, .int .i64 ve] := hd 9 (by decide)
                      refine L7.plain1 (fun _ => rfl) ?_
                      clear hd ha
                      simp only [Lf, dstAt, Act.put, List.getElem?_toArray, List.getElem?_cons_zero, List.getElem?_cons_succ, Option.bind_some, List.setIfInBounds_toArray, List.set_cons_zero, List.set_cons_succ]
                      simp only [e9]
                      clear e9
                      go_wp2
                      exact ⟨rfl, Ext.refl _, rfl⟩
                    · intro vals w1 hx hd ha
                      have e10 : vals 10 = .tuple #[.bool vb, .int .i64 ve] := hd 10 (by decide)
                      refine L7.plain1 (fun _ => rfl) ?_
                      clear hd ha
                      simp only [Lf, dstAt, Act.put, List.getElem?_toArray, List.getElem?_cons_zero, List.getElem?_cons_succ, Option.bind_some, List.setIfInBounds_toArray, List.set_cons_zero, List.set_cons_succ]
                      simp only [e10]
                      clear e10
                      go_wp2
                      exact ⟨rfl, Ext.refl _, rfl⟩
                    · intro vals w1 hx hd ha
                      have e10 : vals 10 = .tuple #[.bool vb, .int .i64 ve] := hd 10 (by decide)
                      refine L7.plain1 (fun _ => rfl) ?_
                      clear hd ha
                      simp only [Lf, dstAt, Act.put, List.getElem?_toArray, List.getElem?_cons_zero, List.getElem?_cons_succ, Option.bind_some, List.setIfInBounds_toArray, List.set_cons_zero, List.set_cons_succ]
                      simp only [e10]
                      clear e10
                      go_wp2
                      exact ⟨rfl, Ext.refl _, rfl⟩
                  intro vals Wh hx hf _
                  have e11 : vals 11 = .bool vb := hf 11 (by omega)
                  have e12 : vals 12 = .int .i64 ve := hf 12 (by omega)
                  clear hf n0 n1
                  have hx := hx.undrew
                  have hkd_ := Ext.trans hkd_ hx
                  have HRT3 := Lib.hid (RA.range2 HRT3.out hx)
                  have J28d := J28d.ext hx
                  have J31 := J31.ext hx
                  have J23d := J23d.ext hx
                  have J24d := J24d.ext hx
                  clear hx HV1
                  simp only [Lf, dstAt, Act.put, List.getElem?_toArray, List.getElem?_cons_zero, List.getElem?_cons_succ, Option.bind_some, List.setIfInBounds_toArray, List.set_cons_zero, List.set_cons_succ]
                  rw [e11, e12]
                  clear e11 e12
                  go_wp2
                  refine L7.Qn_of ?_
                  refine tail1 14 _ (by kernel_rfl) (by kernel_rfl) rfl ?_
                  have n0 : Wh.cell? ⟨g30, 0, none⟩ = some (.int .i64 nt) := J31.cell 0
                  have n1 : Wh.cell? ⟨g30, 1, none⟩ = some (.int .i64 nl) := J31.cell 1
                  go_upto_region 33 with (fail)
                  refine L7.wp_region_late 13 12 (fun ix vals v w1 => match ix with | 0 => v = .agg OX | 1 => v = .slice (some ⟨gs, gso, none⟩) (mt + 1) cA20 | 2 => v = .int .i64 (kc : Int) | 3 => v = .pointer (some ⟨gs, gso + kc * 6, none⟩) | 4 => v = .agg TX | 5 => v = .pointer (some ⟨g30, 0, none⟩) | 6 => v = .int .i64 nt | 7 => v = .pointer (some ⟨g30, 1, none⟩) | 8 => v = .int .i64 nl | 9 => v = .tuple #[.bool vb, .int .i64 ve] | 10 => v = .tuple #[.bool vb, .int .i64 ve] | 11 => v = .bool vb | _ => v = .int .i64 ve) (fun _ _ => none) (by kernel_rfl) (by kernel_rfl) (by kernel_rfl) (by kernel_rfl) _ rfl ?_ ?_ ?_ ?_ ?_
                  · intro ix vals v w1 hi hr k hk
                    match ix, hr, hk with
                    | 0, _, hk => cases hk
                    | 1, _, hk => cases hk
                    | 2, _, hk => cases hk
                    | 3, _, hk => cases hk
                    | 4, _, hk => cases hk
                    | 5, _, hk => cases hk
                    | 6, _, hk => cases hk
                    | 7, _, hk => cases hk
                    | 8, _, hk => cases hk
                    | 9, _, hk => cases hk
                    | 10, _, hk => cases hk
                    | 11, _, hk => cases hk
                    | (kx + 12), _, hk => cases hk
                  · intro ix vals v w1 w2 hi hr hx
                    match ix, hr with
                    | 0, hr => exact hr
                    | 1, hr => exact hr
                    | 2, hr => exact hr
                    | 3, hr => exact hr
                    | 4, hr => exact hr
                    | 5, hr => exact hr
                    | 6, hr => exact hr
                    | 7, hr => exact hr
                    | 8, hr => exact hr
                    | 9, hr => exact hr
                    | 10, hr => exact hr
                    | 11, hr => exact hr
                    | (kx + 12), hr => exact hr
                  · intro ix vals vals_ v w1 hi hv hr
                    exact hr
                  · refine ⟨?_, ?_, ?_, ?_, ?_, ?_, ?_, ?_, ?_, ?_, ?_, ?_, ?_, trivial⟩
                    · intro vals w1 hx hd ha
                      refine L7.plain1 (fun _ => rfl) ?_
                      clear hd ha
                      simp only [Lf]
                      refine wpList_load_st rfl 25 _ rfl g28 0 rfl OX OX.toList (by simp) _ (Blk.range (J28d.ext hx.undrew) _ rfl) Try.underlying25 rfl (by rw [Array.length_toList, HZOX.out]; exact orb_size) ?_
                      go_wp2
                      exact ⟨rfl, Ext.refl _, rfl⟩
                    · intro vals w1 hx hd ha
                      refine L7.plain1 (fun _ => rfl) ?_
                      clear hd ha
                      simp only [Lf, dstAt, Act.put, List.getElem?_toArray, List.getElem?_cons_zero, Option.bind_some, List.setIfInBounds_toArray, List.set_cons_zero, List.set_cons_succ]
                      go_wp2
                      exact ⟨rfl, Ext.refl _, rfl⟩
                    · intro vals w1 hx hd ha
                      refine L7.plain1 (fun _ => rfl) ?_
                      clear hd ha
                      simp only [Lf, dstAt, Act.put, List.getElem?_toArray, List.getElem?_cons_zero, List.getElem?_cons_succ, Option.bind_some, List.setIfInBounds_toArray, List.set_cons_zero, List.set_cons_succ]
                      go_wp2
                      exact ⟨rfl, Ext.refl _, rfl⟩
                    · intro vals w1 hx hd ha
                      have e1 : vals 1 = .slice (some ⟨gs, gso, none⟩) (mt + 1) cA20 := hd 1 (by decide)
                      have e2 : vals 2 = .int .i64 (kc : Int) := hd 2 (by decide)
                      refine L7.plain1 (fun _ => rfl) ?_
                      clear hd ha
                      simp only [Lf, dstAt, Act.put, List.getElem?_toArray, List.getElem?_cons_zero, List.getElem?_cons_succ, Option.bind_some, List.setIfInBounds_toArray, List.set_cons_zero, List.set_cons_succ]
                      simp only [e1, e2]
                      clear e1 e2
                      go_wp2
                      exact ⟨rfl, Ext.refl _, rfl⟩
                    · intro vals w1 hx hd ha
                      have e3 : vals 3 = .pointer (some ⟨gs, gso + kc * 6, none⟩) := hd 3 (by decide)
                      refine L7.plain1 (fun _ => rfl) ?_
                      clear hd ha
                      simp only [Lf, dstAt, Act.put, List.getElem?_toArray, List.getElem?_cons_zero, List.getElem?_cons_succ, Option.bind_some, List.setIfInBounds_toArray, List.set_cons_zero, List.set_cons_succ]
                      simp only [e3]
                      clear e3
                      refine wpList_load_st rfl 31 _ rfl gs (gso + kc * 6) rfl TX TX.toList (by simp) _ (RA.range2 HRT3.out hx.undrew) Try.underlying31 rfl (by rw [Array.length_toList, HZTX.out]; exact stn_size_) ?_
                      go_wp2
                      exact ⟨rfl, Ext.refl _, rfl⟩
                    · intro vals w1 hx hd ha
                      refine L7.plain1 (fun _ => rfl) ?_
                      clear hd ha
                      simp only [Lf, dstAt, Act.put, List.getElem?_toArray, List.getElem?_cons_zero, List.getElem?_cons_succ, Option.bind_some, List.setIfInBounds_toArray, List.set_cons_zero, List.set_cons_succ]
                      go_wp2
                      exact ⟨rfl, Ext.refl _, rfl⟩
                    · intro vals w1 hx hd ha
                      have e5 : vals 5 = .pointer (some ⟨g30, 0, none⟩) := hd 5 (by decide)
                      refine L7.plain1 (fun _ => rfl) ?_
                      clear hd ha
                      simp only [Lf, dstAt, Act.put, List.getElem?_toArray, List.getElem?_cons_zero, List.getElem?_cons_succ, Option.bind_some, List.setIfInBounds_toArray, List.set_cons_zero, List.set_cons_succ]
                      simp only [e5]
                      clear e5
                      have n0 := ext_cell hx n0
                      go_wp2
                      exact ⟨rfl, Ext.refl _, rfl⟩
                    · intro vals w1 hx hd ha
                      refine L7.plain1 (fun _ => rfl) ?_
                      clear hd ha
                      simp only [Lf, dstAt, Act.put, List.getElem?_toArray, List.getElem?_cons_zero, List.getElem?_cons_succ, Option.bind_some, List.setIfInBounds_toArray, List.set_cons_zero, List.set_cons_succ]
                      go_wp2
                      exact ⟨rfl, Ext.refl _, rfl⟩
                    · intro vals w1 hx hd ha
                      have e7 : vals 7 = .pointer (some ⟨g30, 1, none⟩) := hd 7 (by decide)
                      refine L7.plain1 (fun _ => rfl) ?_
                      clear hd ha
                      simp only [Lf, dstAt, Act.put, List.getElem?_toArray, List.getElem?_cons_zero, List.getElem?_cons_succ, Option.bind_some, List.setIfInBounds_toArray, List.set_cons_zero, List.set_cons_succ]
                      simp only [e7]
                      clear e7
                      have n1 := ext_cell hx n1
                      go_wp2
                      exact ⟨rfl, Ext.refl _, rfl⟩
                    · intro vals w1 hx hd ha
                      have e0 : vals 0 = .agg OX := hd 0 (by decide)
                      have e4 : vals 4 = .agg TX := hd 4 (by decide)
                      have e6 : vals 6 = .int .i64 nt := hd 6 (by decide)
                      have e8 : vals 8 = .int .i64 nl := hd 8 (by decide)
                      refine L7.plain1 (fun _ => rfl) ?_
                      clear hd ha
                      simp only [Lf, dstAt, Act.put, List.getElem?_toArray, List.getElem?_cons_zero, List.getElem?_cons_succ, Option.bind_some, List.setIfInBounds_toArray, List.set_cons_zero, List.set_cons_succ]
                      simp only [e0]
                      simp only [e4]
                      simp only [e6]
                      simp only [e8]
                      clear e0 e4 e6 e8
                      go_wp2_with fail
                      refine (HV2.out _).mono ?_
                      rintro e w2 ⟨rfl, hb2⟩
                      go_wp2
                      exact ⟨rfl, hb2, rfl⟩
                    · intro vals w1 hx hd ha
                      have e9 : vals 9 = .tuple #[.bool vb, .int .i64 ve] := hd 9 (by decide)
                      refine L7.plain1 (fun _ => rfl) ?_
                      clear hd ha
                      simp only [Lf, dstAt, Act.put, List.getElem?_toArray, List.getElem?_cons_zero, List.getElem?_cons_succ, Option.bind_some, List.setIfInBounds_toArray, List.set_cons_zero, List.set_cons_succ]
                      simp only [e9]
                      clear e9
                      go_wp2
                      exact ⟨rfl, Ext.refl _, rfl⟩
                    · intro vals w1 hx hd ha
                      have e10 : vals 10 = .tuple #[.bool vb, .int .i64 ve] := hd 10 (by decide)
                      refine L7.plain1 (fun _ => rfl) ?_
                      clear hd ha
                      simp only [Lf, dstAt, Act.put, List.getElem?_toArray, List.getElem?_cons_zero, List.getElem?_cons_succ, Option.bind_some, List.setIfInBounds_toArray, List.set_cons_zero, List.set_cons_succ]
                      simp only [e10]
                      clear e10
                      go_wp2
                      exact ⟨rfl, Ext.refl _, rfl⟩
                    · intro vals w1 hx hd ha
                      have e10 : vals 10 = .tuple #[.bool vb, .int .i64 ve] := hd 10 (by decide)
                      refine L7.plain1 (fun _ => rfl) ?_
                      clear hd ha
                      simp only [Lf, dstAt, Act.put, List.getElem?_toArray, List.getElem?_cons_zero, List.getElem?_cons_succ, Option.bind_some, List.setIfInBounds_toArray, List.set_cons_zero, List.set_cons_succ]
                      simp only [e10]
                      clear e10
                      go_wp2
                      exact ⟨rfl, Ext.refl _, rfl⟩
                  intro vals Wi hx hf _
                  have e11 : vals 11 = .bool vb := hf 11 (by omega)
                  have e12 : vals 12 = .int .i64 ve := hf 12 (by omega)
                  clear hf n0 n1
                  have hx := hx.undrew
                  have hkd_ := Ext.trans hkd_ hx
                  have HRT3 := Lib.hid (RA.range2 HRT3.out hx)
                  have J28d := J28d.ext hx
                  have J31 := J31.ext hx
                  have J23d := J23d.ext hx
                  have J24d := J24d.ext hx
                  clear hx HV2
                  simp only [Lf, dstAt, Act.put, List.getElem?_toArray, List.getElem?_cons_zero, List.getElem?_cons_succ, Option.bind_some, List.setIfInBounds_toArray, List.set_cons_zero, List.set_cons_succ]
                  rw [e11, e12]
                  clear e11 e12
                  go_wp2
                  refine L7.Qn_of ?_
                  refine tail1 14 _ (by kernel_rfl) (by kernel_rfl) rfl ?_
                  have hq1 : (vb != vb) = false := by cases vb <;> rfl
                  have hq2 : (ve != ve) = false := by simp
                  have t0 : Wi.cell? ⟨g24, 0, none⟩ = some (.int .i64 a0) := J24d.cell 0
                  have t1 : Wi.cell? ⟨g24, 1, none⟩ = some (.int .i64 b1) := J24d.cell 1
                  have t2 : Wi.cell? ⟨g23, 0, none⟩ = some (.int .i64 k0) := J23d.cell 0
                  have t3 : Wi.cell? ⟨g23, 1, none⟩ = some (.int .i64 b2) := J23d.cell 1
                  go_wp2
                  clear t0 t1 t2 t3 hq1 hq2
                  have J32 : Blk (Wi.alloc (.cells #[.int .i64 a0, .int .i64 b1, .int .i64 k0, .int .i64 b2] 34)) Wi.heap.size 34 #[.int .i64 a0, .int .i64 b1, .int .i64 k0, .int .i64 b2] := Blk.new _ _ _
                  have hx : Ext Wi (Wi.alloc (.cells #[.int .i64 a0, .int .i64 b1, .int .i64 k0, .int .i64 b2] 34)) := bl_alloc (Below.refl _ _) _
                  obtain ⟨gu, hg⟩ : ∃ g, g = Wi.heap.size := ⟨_, rfl⟩
                  rw [← hg] at J32 ⊢
                  generalize Wi.alloc (.cells #[.int .i64 a0, .int .i64 b1, .int .i64 k0, .int .i64 b2] 34) = Wj at J32 hx ⊢
                  clear hg
                  have hkd_ := Ext.trans hkd_ hx
                  have HRT3 := Lib.hid (RA.range2 HRT3.out hx)
                  have J28d := J28d.ext hx
                  have J31 := J31.ext hx
                  clear hx J23d J24d
                  have HRU := Lib.hid (RA.two (cells := splCells) (s := 2) (x := ⟨a0, b1⟩) (y := ⟨k0, b2⟩) rfl rfl J32)
                  clear J32
                  go_loopw [233] (fun x wr => ∃ ke : Nat, ke ≤ 2 ∧ x = .int .i64 ke ∧ Ext Wj wr) (fun x _ => 2 - (intOf x).toNat)
                  case atStart => exact ⟨0, Nat.zero_le _, rfl, Ext.refl _⟩
                  case round =>
                    obtain ⟨ke, hke, rfl, hke_⟩ := hrel
                    by_cases hke2 : ke < 2
                    · obtain ⟨gu_, guo, hz, hA, _, hc⟩ := (HRU.out.below hke_).at_ spl_len hke2
                      obtain ⟨rfl, rfl⟩ : gu = gu_ ∧ 0 = guo := by injection hA with hA; injection hA with h1 h2; exact ⟨h1, h2⟩
                      clear hA
                      have n0 := hc 0 (by omega)
                      have n1 := hc 1 (by omega)
                      generalize ([⟨a0, b1⟩, ⟨k0, b2⟩] : List Spl)[ke] = nu at n0 n1
                      have hke3 : (ke : Int) < 2 := by omega
                      obtain ⟨cl, ce, hc1, hc2⟩ := HCT.out nu nl
                      obtain ⟨ua, ub⟩ := nu
                      dsimp only at hc1 hc2
                      have n0 : wr.cell? ⟨gu, ke * 2, none⟩ = some (.int .i64 ua) := by rw [Nat.zero_add, Nat.add_zero] at n0; exact n0
                      have n1 : wr.cell? ⟨gu, ke * 2 + 1, none⟩ = some (.int .i64 ub) := by rw [Nat.zero_add] at n1; exact n1
                      have HC1 := Lib.hid hc1
                      have HC2 := Lib.hid hc2
                      clear hc hz hc1 hc2
                      go_upto_region 39 with (fail)
                      clear n0 n1
                      have J36 : Blk (wr.alloc (.cells #[.int .i64 ua, .int .i64 ub] 34)) wr.heap.size 34 #[.int .i64 ua, .int .i64 ub] := Blk.new _ _ _
                      have hx : Ext wr (wr.alloc (.cells #[.int .i64 ua, .int .i64 ub] 34)) := bl_alloc (Below.refl _ _) _
                      obtain ⟨g36, hg⟩ : ∃ g, g = wr.heap.size := ⟨_, rfl⟩
                      rw [← hg] at J36 ⊢
                      generalize wr.alloc (.cells #[.int .i64 ua, .int .i64 ub] 34) = Wk at J36 hx ⊢
                      clear hg
                      have hke_ := Ext.trans hke_ hx
                      clear hx
                      have HRT4 := Lib.hid (RA.range2 HRT3.out hke_)
                      have J28e := J28d.ext hke_
                      have J31e := J31.ext hke_
                      have n1 : Wk.cell? ⟨g30, 1, none⟩ = some (.int .i64 nl) := J31e.cell 1
                      have m0 : Wk.cell? ⟨g36, 0, none⟩ = some (.int .i64 ua) := J36.cell 0
                      have m1 : Wk.cell? ⟨g36, 1, none⟩ = some (.int .i64 ub) := J36.cell 1
                      go_upto_region 39 with (fail)
                      refine L7.wp_region_late 12 11 (fun ix vals v w1 => match ix with | 0 => v = .agg OX | 1 => v = .slice (some ⟨gs, gso, none⟩) (mt + 1) cA20 | 2 => v = .int .i64 (kc : Int) | 3 => v = .pointer (some ⟨gs, gso + kc * 6, none⟩) | 4 => v = .agg TX | 5 => v = .agg #[.int .i64 ua, .int .i64 ub] | 6 => v = .pointer (some ⟨g30, 1, none⟩) | 7 => v = .int .i64 nl | 8 => ∃ z, v = .tuple #[z, .int .i64 ce] ∧ w1.ownsRow Wk.heap.size 34 2 z cl.length (cl.flatMap splCells) | 9 => ∃ z, v = .tuple #[z, .int .i64 ce] ∧ w1.ownsRow Wk.heap.size 34 2 z cl.length (cl.flatMap splCells) | 10 => w1.ownsRow Wk.heap.size 34 2 v cl.length (cl.flatMap splCells) | _ => v = .int .i64 ce) (fun _ _ => none) (by kernel_rfl) (by kernel_rfl) (by kernel_rfl) (by kernel_rfl) _ rfl ?_ ?_ ?_ ?_ ?_
                      · intro ix vals v w1 hi hr k hk
                        match ix, hr, hk with
                        | 0, _, hk => cases hk
                        | 1, _, hk => cases hk
                        | 2, _, hk => cases hk
                        | 3, _, hk => cases hk
                        | 4, _, hk => cases hk
                        | 5, _, hk => cases hk
                        | 6, _, hk => cases hk
                        | 7, _, hk => cases hk
                        | 8, _, hk => cases hk
                        | 9, _, hk => cases hk
                        | 10, _, hk => cases hk
                        | (kx + 11), _, hk => cases hk
                      · intro ix vals v w1 w2 hi hr hx
                        match ix, hr with
                        | 0, hr => exact hr
                        | 1, hr => exact hr
                        | 2, hr => exact hr
                        | 3, hr => exact hr
                        | 4, hr => exact hr
                        | 5, hr => exact hr
                        | 6, hr => exact hr
                        | 7, hr => exact hr
                        | 8, hr => obtain ⟨z, h1, h2⟩ := hr; exact ⟨z, h1, own_ext h2 hx⟩
                        | 9, hr => obtain ⟨z, h1, h2⟩ := hr; exact ⟨z, h1, own_ext h2 hx⟩
                        | 10, hr => exact own_ext hr hx
                        | (kx + 11), hr => exact hr
                      · intro ix vals vals_ v w1 hi hv hr
                        exact hr
                      · refine ⟨?_, ?_, ?_, ?_, ?_, ?_, ?_, ?_, ?_, ?_, ?_, ?_, trivial⟩
                        · intro vals w1 hx hd ha
                          refine L7.plain1 (fun _ => rfl) ?_
                          clear hd ha
                          simp only [Lf]
                          refine wpList_load_st rfl 25 _ rfl g28 0 rfl OX OX.toList (by simp) _ (Blk.range (J28e.ext hx.undrew) _ rfl) Try.underlying25 rfl (by rw [Array.length_toList, HZOX.out]; exact orb_size) ?_
                          go_wp2
                          exact ⟨rfl, Ext.refl _, rfl⟩
                        · intro vals w1 hx hd ha
                          refine L7.plain1 (fun _ => rfl) ?_
                          clear hd ha
                          simp only [Lf, dstAt, Act.put, List.getElem?_toArray, List.getElem?_cons_zero, Option.bind_some, List.setIfInBounds_toArray, List.set_cons_zero, List.set_cons_succ]
                          go_wp2
                          exact ⟨rfl, Ext.refl _, rfl⟩
                        · intro vals w1 hx hd ha
                          refine L7.plain1 (fun _ => rfl) ?_
                          clear hd ha
                          simp only [Lf, dstAt, Act.put, List.getElem?_toArray, List.getElem?_cons_zero, List.getElem?_cons_succ, Option.bind_some, List.setIfInBounds_toArray, List.set_cons_zero, List.set_cons_succ]
                          go_wp2
                          exact ⟨rfl, Ext.refl _, rfl⟩
                        · intro vals w1 hx hd ha
                          have e1 : vals 1 = .slice (some ⟨gs, gso, none⟩) (mt + 1) cA20 := hd 1 (by decide)
                          have e2 : vals 2 = .int .i64 (kc : Int) := hd 2 (by decide)
                          refine L7.plain1 (fun _ => rfl) ?_
                          clear hd ha
                          simp only [Lf, dstAt, Act.put, List.getElem?_toArray, List.getElem?_cons_zero, List.getElem?_cons_succ, Option.bind_some, List.setIfInBounds_toArray, List.set_cons_zero, List.set_cons_succ]
                          simp only [e1, e2]
                          clear e1 e2
                          go_wp2
                          exact ⟨rfl, Ext.refl _, rfl⟩
                        · intro vals w1 hx hd ha
                          have e3 : vals 3 = .pointer (some ⟨gs, gso + kc * 6, none⟩) := hd 3 (by decide)
                          refine L7.plain1 (fun _ => rfl) ?_
                          clear hd ha
                          simp only [Lf, dstAt, Act.put, List.getElem?_toArray, List.getElem?_cons_zero, List.getElem?_cons_succ, Option.bind_some, List.setIfInBounds_toArray, List.set_cons_zero, List.set_cons_succ]
                          simp only [e3]
                          clear e3
                          refine wpList_load_st rfl 31 _ rfl gs (gso + kc * 6) rfl TX TX.toList (by simp) _ (RA.range2 HRT4.out hx.undrew) Try.underlying31 rfl (by rw [Array.length_toList, HZTX.out]; exact stn_size_) ?_
                          go_wp2
                          exact ⟨rfl, Ext.refl _, rfl⟩
                        · intro vals w1 hx hd ha
                          refine L7.plain1 (fun _ => rfl) ?_
                          clear hd ha
                          simp only [Lf, dstAt, Act.put, List.getElem?_toArray, List.getElem?_cons_zero, List.getElem?_cons_succ, Option.bind_some, List.setIfInBounds_toArray, List.set_cons_zero, List.set_cons_succ]
                          have m0 := ext_cell hx m0
                          have m1 := ext_cell hx m1
                          go_wp2
                          exact ⟨rfl, Ext.refl _, rfl⟩
                        · intro vals w1 hx hd ha
                          refine L7.plain1 (fun _ => rfl) ?_
                          clear hd ha
                          simp only [Lf, dstAt, Act.put, List.getElem?_toArray, List.getElem?_cons_zero, List.getElem?_cons_succ, Option.bind_some, List.setIfInBounds_toArray, List.set_cons_zero, List.set_cons_succ]
                          go_wp2
                          exact ⟨rfl, Ext.refl _, rfl⟩
                        · intro vals w1 hx hd ha
                          have e6 : vals 6 = .pointer (some ⟨g30, 1, none⟩) := hd 6 (by decide)
                          refine L7.plain1 (fun _ => rfl) ?_
                          clear hd ha
                          simp only [Lf, dstAt, Act.put, List.getElem?_toArray, List.getElem?_cons_zero, List.getElem?_cons_succ, Option.bind_some, List.setIfInBounds_toArray, List.set_cons_zero, List.set_cons_succ]
                          simp only [e6]
                          clear e6
                          have n1 := ext_cell hx n1
                          go_wp2
                          exact ⟨rfl, Ext.refl _, rfl⟩
                        · intro vals w1 hx hd ha
                          have e0 : vals 0 = .agg OX := hd 0 (by decide)
                          have e4 : vals 4 = .agg TX := hd 4 (by decide)
                          have e5 : vals 5 = .agg #[.int .i64 ua, .int .i64 ub] := hd 5 (by decide)
                          have e7 : vals 7 = .int .i64 nl := hd 7 (by decide)
                          refine L7.plain1 (fun _ => rfl) ?_
                          clear hd ha
                          simp only [Lf, dstAt, Act.put, List.getElem?_toArray, List.getElem?_cons_zero, List.getElem?_cons_succ, Option.bind_some, List.setIfInBounds_toArray, List.set_cons_zero, List.set_cons_succ]
                          simp only [e0]
                          simp only [e4]
                          simp only [e5]
                          simp only [e7]
                          clear e0 e4 e5 e7
                          have hz := Below.size hx.undrew
                          go_wp2_with fail
                          refine (HC1.out w1).mono ?_
                          rintro e w2 ⟨z, rfl, hown, hb2⟩
                          go_wp2
                          exact ⟨rfl, hb2, z, rfl, own_base hown hz⟩
                        · intro vals w1 hx hd ha
                          have r8 : (fun v w1 => ∃ z, v = .tuple #[z, .int .i64 ce] ∧ w1.ownsRow Wk.heap.size 34 2 z cl.length (cl.flatMap splCells)) (vals 8) w1 := hd 8 (by decide)
                          dsimp only at r8
                          refine L7.plain1 (fun _ => rfl) ?_
                          clear hd ha
                          simp only [Lf, dstAt, Act.put, List.getElem?_toArray, List.getElem?_cons_zero, List.getElem?_cons_succ, Option.bind_some, List.setIfInBounds_toArray, List.set_cons_zero, List.set_cons_succ]
                          obtain ⟨z, e_8, ho⟩ := r8
                          rw [e_8]
                          go_wp2
                          exact ⟨rfl, Ext.refl _, z, rfl, ho⟩
                        · intro vals w1 hx hd ha
                          have r9 : (fun v w1 => ∃ z, v = .tuple #[z, .int .i64 ce] ∧ w1.ownsRow Wk.heap.size 34 2 z cl.length (cl.flatMap splCells)) (vals 9) w1 := hd 9 (by decide)
                          dsimp only at r9
                          refine L7.plain1 (fun _ => rfl) ?_
                          clear hd ha
                          simp only [Lf, dstAt, Act.put, List.getElem?_toArray, List.getElem?_cons_zero, List.getElem?_cons_succ, Option.bind_some, List.setIfInBounds_toArray, List.set_cons_zero, List.set_cons_succ]
                          obtain ⟨z, e_9, ho⟩ := r9
                          rw [e_9]
                          go_wp2
                          exact ⟨rfl, Ext.refl _, ho⟩
                        · intro vals w1 hx hd ha
                          have r9 : (fun v w1 => ∃ z, v = .tuple #[z, .int .i64 ce] ∧ w1.ownsRow Wk.heap.size 34 2 z cl.length (cl.flatMap splCells)) (vals 9) w1 := hd 9 (by decide)
                          dsimp only at r9
                          refine L7.plain1 (fun _ => rfl) ?_
                          clear hd ha
                          simp only [Lf, dstAt, Act.put, List.getElem?_toArray, List.getElem?_cons_zero, List.getElem?_cons_succ, Option.bind_some, List.setIfInBounds_toArray, List.set_cons_zero, List.set_cons_succ]
                          obtain ⟨z, e_9, ho⟩ := r9
                          rw [e_9]
                          go_wp2
                          exact ⟨rfl, Ext.refl _, rfl⟩
                      intro vals Wm hx hf _
                      have hown : Wm.ownsRow Wk.heap.size 34 2 (vals 10) cl.length (cl.flatMap splCells) := hf 10 (by omega)
                      have e11 : vals 11 = .int .i64 ce := hf 11 (by omega)
                      clear hf n1 m0 m1
                      have hx := hx.undrew
                      have hke_ := Ext.trans hke_ hx
                      obtain ⟨Aa, ca, e10, HOa⟩ := own_ra hown
                      have HOa := Lib.hid HOa
                      have HRT4 := Lib.hid (RA.range2 HRT4.out hx)
                      have J28e := J28e.ext hx
                      have J31e := J31e.ext hx
                      have J36 := J36.ext hx
                      clear hx hown HC1
                      simp only [Lf, dstAt, Act.put, List.getElem?_toArray, List.getElem?_cons_zero, List.getElem?_cons_succ, Option.bind_some, List.setIfInBounds_toArray, List.set_cons_zero, List.set_cons_succ]
                      rw [e10, e11]
                      clear e10 e11
                      go_wp2
                      refine L7.Qn_of ?_
                      refine tail1 13 _ (by kernel_rfl) (by kernel_rfl) rfl ?_
                      have n1 : Wm.cell? ⟨g30, 1, none⟩ = some (.int .i64 nl) := J31e.cell 1
                      have m0 : Wm.cell? ⟨g36, 0, none⟩ = some (.int .i64 ua) := J36.cell 0
                      have m1 : Wm.cell? ⟨g36, 1, none⟩ = some (.int .i64 ub) := J36.cell 1
                      go_upto_region 40 with (fail)
                      refine L7.wp_region_late 12 11 (fun ix vals v w1 => match ix with | 0 => v = .agg OX | 1 => v = .slice (some ⟨gs, gso, none⟩) (mt + 1) cA20 | 2 => v = .int .i64 (kc : Int) | 3 => v = .pointer (some ⟨gs, gso + kc * 6, none⟩) | 4 => v = .agg TX | 5 => v = .agg #[.int .i64 ua, .int .i64 ub] | 6 => v = .pointer (some ⟨g30, 1, none⟩) | 7 => v = .int .i64 nl | 8 => ∃ z, v = .tuple #[z, .int .i64 ce] ∧ w1.ownsRow Wm.heap.size 34 2 z cl.length (cl.flatMap splCells) | 9 => ∃ z, v = .tuple #[z, .int .i64 ce] ∧ w1.ownsRow Wm.heap.size 34 2 z cl.length (cl.flatMap splCells) | 10 => w1.ownsRow Wm.heap.size 34 2 v cl.length (cl.flatMap splCells) | _ => v = .int .i64 ce) (fun _ _ => none) (by kernel_rfl) (by kernel_rfl) (by kernel_rfl) (by kernel_rfl) _ rfl ?_ ?_ ?_ ?_ ?_
                      · intro ix vals v w1 hi hr k hk
                        match ix, hr, hk with
                        | 0, _, hk => cases hk
                        | 1, _, hk => cases hk
                        | 2, _, hk => cases hk
                        | 3, _, hk => cases hk
                        | 4, _, hk => cases hk
                        | 5, _, hk => cases hk
                        | 6, _, hk => cases hk
                        | 7, _, hk => cases hk
                        | 8, _, hk => cases hk
                        | 9, _, hk => cases hk
                        | 10, _, hk => cases hk
                        | (kx + 11), _, hk => cases hk
                      · intro ix vals v w1 w2 hi hr hx
                        match ix, hr with
                        | 0, hr => exact hr
                        | 1, hr => exact hr
                        | 2, hr => exact hr
                        | 3, hr => exact hr
                        | 4, hr => exact hr
                        | 5, hr => exact hr
                        | 6, hr => exact hr
                        | 7, hr => exact hr
                        | 8, hr => obtain ⟨z, h1, h2⟩ := hr; exact ⟨z, h1, own_ext h2 hx⟩
                        | 9, hr => obtain ⟨z, h1, h2⟩ := hr; exact ⟨z, h1, own_ext h2 hx⟩
                        | 10, hr => exact own_ext hr hx
                        | (kx + 11), hr => exact hr
                      · intro ix vals vals_ v w1 hi hv hr
                        exact hr
                      · refine ⟨?_, ?_, ?_, ?_, ?_, ?_, ?_, ?_, ?_, ?_, ?_, ?_, trivial⟩
                        · intro vals w1 hx hd ha
                          refine L7.plain1 (fun _ => rfl) ?_
                          clear hd ha
                          simp only [Lf]
                          refine wpList_load_st rfl 25 _ rfl g28 0 rfl OX OX.toList (by simp) _ (Blk.range (J28e.ext hx.undrew) _ rfl) Try.underlying25 rfl (by rw [Array.length_toList, HZOX.out]; exact orb_size) ?_
                          go_wp2
                          exact ⟨rfl, Ext.refl _, rfl⟩
                        · intro vals w1 hx hd ha
                          refine L7.plain1 (fun _ => rfl) ?_
                          clear hd ha
                          simp only [Lf, dstAt, Act.put, List.getElem?_toArray, List.getElem?_cons_zero, Option.bind_some, List.setIfInBounds_toArray, List.set_cons_zero, List.set_cons_succ]
                          go_wp2
                          exact ⟨rfl, Ext.refl _, rfl⟩
                        · intro vals w1 hx hd ha
                          refine L7.plain1 (fun _ => rfl) ?_
                          clear hd ha
                          simp only [Lf, dstAt, Act.put, List.getElem?_toArray, List.getElem?_cons_zero, List.getElem?_cons_succ, Option.bind_some, List.setIfInBounds_toArray, List.set_cons_zero, List.set_cons_succ]
                          go_wp2
                          exact ⟨rfl, Ext.refl _, rfl⟩
                        · intro vals w1 hx hd ha
                          have e1 : vals 1 = .slice (some ⟨gs, gso, none⟩) (mt + 1) cA20 := hd 1 (by decide)
                          have e2 : vals 2 = .int .i64 (kc : Int) := hd 2 (by decide)
                          refine L7.plain1 (fun _ => rfl) ?_
                          clear hd ha
                          simp only [Lf, dstAt, Act.put, List.getElem?_toArray, List.getElem?_cons_zero, List.getElem?_cons_succ, Option.bind_some, List.setIfInBounds_toArray, List.set_cons_zero, List.set_cons_succ]
                          simp only [e1, e2]
                          clear e1 e2
                          go_wp2
                          exact ⟨rfl, Ext.refl _, rfl⟩
                        · intro vals w1 hx hd ha
                          have e3 : vals 3 = .pointer (some ⟨gs, gso + kc * 6, none⟩) := hd 3 (by decide)
                          refine L7.plain1 (fun _ => rfl) ?_
                          clear hd ha
                          simp only [Lf, dstAt, Act.put, List.getElem?_toArray, List.getElem?_cons_zero, List.getElem?_cons_succ, Option.bind_some, List.setIfInBounds_toArray, List.set_cons_zero, List.set_cons_succ]
                          simp only [e3]
                          clear e3
                          refine wpList_load_st rfl 31 _ rfl gs (gso + kc * 6) rfl TX TX.toList (by simp) _ (RA.range2 HRT4.out hx.undrew) Try.underlying31 rfl (by rw [Array.length_toList, HZTX.out]; exact stn_size_) ?_
                          go_wp2
                          exact ⟨rfl, Ext.refl _, rfl⟩
                        · intro vals w1 hx hd ha
                          refine L7.plain1 (fun _ => rfl) ?_
                          clear hd ha
                          simp only [Lf, dstAt, Act.put, List.getElem?_toArray, List.getElem?_cons_zero, List.getElem?_cons_succ, Option.bind_some, List.setIfInBounds_toArray, List.set_cons_zero, List.set_cons_succ]
                          have m0 := ext_cell hx m0
                          have m1 := ext_cell hx m1
                          go_wp2
                          exact ⟨rfl, Ext.refl _, rfl⟩
                        · intro vals w1 hx hd ha
                          refine L7.plain1 (fun _ => rfl) ?_
                          clear hd ha
                          simp only [Lf, dstAt, Act.put, List.getElem?_toArray, List.getElem?_cons_zero, List.getElem?_cons_succ, Option.bind_some, List.setIfInBounds_toArray, List.set_cons_zero, List.set_cons_succ]
                          go_wp2
                          exact ⟨rfl, Ext.refl _, rfl⟩
                        · intro vals w1 hx hd ha
                          have e6 : vals 6 = .pointer (some ⟨g30, 1, none⟩) := hd 6 (by decide)
                          refine L7.plain1 (fun _ => rfl) ?_
                          clear hd ha
                          simp only [Lf, dstAt, Act.put, List.getElem?_toArray, List.getElem?_cons_zero, List.getElem?_cons_succ, Option.bind_some, List.setIfInBounds_toArray, List.set_cons_zero, List.set_cons_succ]
                          simp only [e6]
                          clear e6
                          have n1 := ext_cell hx n1
                          go_wp2
                          exact ⟨rfl, Ext.refl _, rfl⟩
                        · intro vals w1 hx hd ha
                          have e0 : vals 0 = .agg OX := hd 0 (by decide)
                          have e4 : vals 4 = .agg TX := hd 4 (by decide)
                          have e5 : vals 5 = .agg #[.int .i64 ua, .int .i64 ub] := hd 5 (by decide)
                          have e7 : vals 7 = .int .i64 nl := hd 7 (by decide)
                          refine L7.plain1 (fun _ => rfl) ?_
                          clear hd ha
                          simp only [Lf, dstAt, Act.put, List.getElem?_toArray, List.getElem?_cons_zero, List.getElem?_cons_succ, Option.bind_some, List.setIfInBounds_toArray, List.set_cons_zero, List.set_cons_succ]
                          simp only [e0]
                          simp only [e4]
                          simp only [e5]
                          simp only [e7]
                          clear e0 e4 e5 e7
                          have hz := Below.size hx.undrew
                          go_wp2_with fail
                          refine (HC2.out w1).mono ?_
                          rintro e w2 ⟨z, rfl, hown, hb2⟩
                          go_wp2
                          exact ⟨rfl, hb2, z, rfl, own_base hown hz⟩
                        · intro vals w1 hx hd ha
                          have r8 : (fun v w1 => ∃ z, v = .tuple #[z, .int .i64 ce] ∧ w1.ownsRow Wm.heap.size 34 2 z cl.length (cl.flatMap splCells)) (vals 8) w1 := hd 8 (by decide)
                          dsimp only at r8
                          refine L7.plain1 (fun _ => rfl) ?_
                          clear hd ha
                          simp only [Lf, dstAt, Act.put, List.getElem?_toArray, List.getElem?_cons_zero, List.getElem?_cons_succ, Option.bind_some, List.setIfInBounds_toArray, List.set_cons_zero, List.set_cons_succ]
                          obtain ⟨z, e_8, ho⟩ := r8
                          rw [e_8]
                          go_wp2
                          exact ⟨rfl, Ext.refl _, z, rfl, ho⟩
                        · intro vals w1 hx hd ha
                          have r9 : (fun v w1 => ∃ z, v = .tuple #[z, .int .i64 ce] ∧ w1.ownsRow Wm.heap.size 34 2 z cl.length (cl.flatMap splCells)) (vals 9) w1 := hd 9 (by decide)
                          dsimp only at r9
                          refine L7.plain1 (fun _ => rfl) ?_
                          clear hd ha
                          simp only [Lf, dstAt, Act.put, List.getElem?_toArray, List.getElem?_cons_zero, List.getElem?_cons_succ, Option.bind_some, List.setIfInBounds_toArray, List.set_cons_zero, List.set_cons_succ]
                          obtain ⟨z, e_9, ho⟩ := r9
                          rw [e_9]
                          go_wp2
                          exact ⟨rfl, Ext.refl _, ho⟩
                        · intro vals w1 hx hd ha
                          have r9 : (fun v w1 => ∃ z, v = .tuple #[z, .int .i64 ce] ∧ w1.ownsRow Wm.heap.size 34 2 z cl.length (cl.flatMap splCells)) (vals 9) w1 := hd 9 (by decide)
                          dsimp only at r9
                          refine L7.plain1 (fun _ => rfl) ?_
                          clear hd ha
                          simp only [Lf, dstAt, Act.put, List.getElem?_toArray, List.getElem?_cons_zero, List.getElem?_cons_succ, Option.bind_some, List.setIfInBounds_toArray, List.set_cons_zero, List.set_cons_succ]
                          obtain ⟨z, e_9, ho⟩ := r9
                          rw [e_9]
                          go_wp2
                          exact ⟨rfl, Ext.refl _, rfl⟩
                      intro vals Wn hx hf _
                      have hown : Wn.ownsRow Wm.heap.size 34 2 (vals 10) cl.length (cl.flatMap splCells) := hf 10 (by omega)
                      have e11 : vals 11 = .int .i64 ce := hf 11 (by omega)
                      clear hf n1 m0 m1
                      have hx := hx.undrew
                      have hke_ := Ext.trans hke_ hx
                      obtain ⟨Ab, cb, e10, HOb⟩ := own_ra hown
                      have HOb := Lib.hid HOb
                      have HOa := Lib.hid ((HOa.out.below hx).more hx.size)
                      clear hx hown HC2
                      simp only [Lf, dstAt, Act.put, List.getElem?_toArray, List.getElem?_cons_zero, List.getElem?_cons_succ, Option.bind_some, List.setIfInBounds_toArray, List.set_cons_zero, List.set_cons_succ]
                      rw [e10, e11]
                      clear e10 e11
                      go_wp2
                      refine L7.Qn_of ?_
                      refine tail1 13 _ (by kernel_rfl) (by kernel_rfl) rfl ?_
                      have hq2 : (ce != ce) = false := by simp
                      have hsm := sameSpl_any Aa Ab cl.length cl.length ca cb cl cl Wn HOa.out HOb.out
                      rw [decide_eq_true rfl] at hsm
                      have HSM := Lib.hid hsm
                      clear hsm
                      go_wp2_with fail
                      refine HSM.out.mono ?_
                      rintro e Wo ⟨rfl, hx⟩
                      have hke_ := Ext.trans hke_ hx
                      clear hx HSM
                      go_wp2
                      go_roundw
                      case rel => exact ⟨ke + 1, by omega, by go_num, hke_⟩
                      case measure => simp [intOf]; omega
                    · skip
                      have hkd_ := Ext.trans hkd_ hke_
                      clear hke_
                      go_wp2
                      go_roundw
                      case rel => exact ⟨kd + 1, by omega, by go_num, hkd_⟩
                      case measure => simp [intOf]; omega
                · skip
                  have hkc_ := Ext.trans hkc_ hkd_
                  clear hkd_
                  go_wp2
                  go_roundw
                  case rel => exact ⟨kc + 1, by omega, by go_num, hkc_⟩
                  case measure => simp [intOf]; omega
            · skip
              have hka_ := Ext.trans hka_ hkc_
              clear hkc_
              go_wp2
              go_roundw
              case rel => exact ⟨ka + 1, by omega, by go_num, hka_⟩
              case measure => simp [intOf]; omega
    · go_wp2
      go_ret
      exact ⟨rfl, Ext.trans hB hka_⟩

end Go.Proofs.Ytlmpmhfbjblhnaa
