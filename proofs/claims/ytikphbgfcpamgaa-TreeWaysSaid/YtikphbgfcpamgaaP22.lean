/- left. -/
import Derived.Test.YtikphbgfcpamgaaP21
import Derived.Laws.EntriesVeiled
namespace Go.Proofs.Ytikphbgfcpamgaa
open Go.RowKit

theorem Grw.set {gg gk gm : Nat} {v v' : Value} {w W : World} (h : Grw gg gk gm v v' w W) {p : Addr} (hp : w.heap.size ≤ p.block) (u : Value) : Grw gg gk gm v v' w (W.setCell p u) :=
  ⟨h.os, h.tape, h.output, by simpa using h.size, fun i hi a1 a2 a3 a4 => (Below.heap_setCell W p u i (by omega)).trans (h.block i hi a1 a2 a3 a4), h.own⟩
theorem LSt.set {W : World} {B gmb gtb gcb gpb gg gk gm : Nat} {s0 : Int} {TA : Option Addr} {tn tc : Nat} {Tt : List Brn} {st : Int} {v : Value} {T : List Brn} {M : Int → Option Value} (h : LSt W B gmb gtb gcb gpb gg gk gm s0 TA tn tc Tt st v T M) {g : Nat} {cs : Array Value} (j : Blk W g 30 cs) (hne : v.ownBlock ≠ some g) (hB : B ≤ g) (i : Nat) (u : Value) : LSt (W.setCell ⟨g, i, none⟩ u) B gmb gtb gcb gpb gg gk gm s0 TA tn tc Tt st v T M := by
  have hb : ∀ {b : Nat} {t : TypeId} {cs : Array Value}, Blk W b t cs → t ≠ 30 → Blk (W.setCell ⟨g, i, none⟩ u) b t cs := fun k n => k.far (p := ⟨g, i, none⟩) (k.ne_ j n) u
  refine ⟨⟨hb h.env.jm (by decide), hb h.env.jt (by decide), hb h.env.jf (by decide), hb h.env.jp (by decide), h.env.rl.keep fun p hp => ?_, by simpa using h.env.hB⟩, ⟨hb h.gr.blk (by decide), own_off h.gr.row (p := ⟨g, i, none⟩) (fun q e e2 => hne (by rw [e, e2])) u, h.gr.map.keep (Below.heap_setCell W ⟨g, i, none⟩ u gk (fun e => h.gr.map.ne_blk j e.symm)), h.gr.nd⟩, h.map.far (p := ⟨g, i, none⟩) (fun e => h.map.ne_blk j e.symm) u, h.met, h.frm⟩
  unfold World.cell?
  rw [Below.heap_setCell W ⟨g, i, none⟩ u p.block (by show p.block ≠ g; omega)]
theorem Grw.keepOwn {gg gk gm : Nat} {v v' : Value} {w W : World} (h : Grw gg gk gm v v' w W) {g : Nat} (hg : g < w.heap.size) (hne : v.ownBlock ≠ some g) : v'.ownBlock ≠ some g := fun e => by
  rcases h.own g e with e2 | e2
  · exact hne e2
  · omega
set_option maxRecDepth 100000 in
set_option maxHeartbeats 2000000 in
theorem come_any {B gmb gtb gcb gpb gg gk gm : Nat} {s0 : Int} {TA : Option Addr} {tn tc : Nat} {Tt : List Brn} {st : Int} (h1 : B ≤ gg) (h2 : B ≤ gk) (h3 : B ≤ gm) (hkm : gk ≠ gm) (hd : Down Tt) (hl : Tt.length ≤ 1500) (f : Nat) :
    ∀ (k : Int) (D : DT) (v : Value) (T : List Brn) (M : Int → Option Value) (w : World), LSt w B gmb gtb gcb gpb gg gk gm s0 TA tn tc Tt st v T M → M (-1) = some (.int .i64 (-1)) → Rep Tt k D → k + 1 < f →
    Calls Try.prog 55 #[.int .i64 k, .pointer (some ⟨gmb, 0, none⟩), .pointer (some ⟨gtb, 0, none⟩), .pointer (some ⟨gcb, 0, none⟩), .pointer (some ⟨gpb, 0, none⟩)] w (ComeRet B gmb gtb gcb gpb gg gk gm s0 TA tn tc Tt st v (bld T D) w) := by
  induction f with
  | zero => intro k D v T M w _ _ hr h; have := hr.lo; omega
  | succ f ih =>
    intro k D v T M w G hM1 hrep hf
    have IH := Lib.hid ih
    have HG := Lib.hid G
    have HREP := Lib.hid hrep
    have HM1 := Lib.hid hM1
    have HD := Lib.hid hd
    obtain ⟨X, hX⟩ : ∃ X, X = bld T D := ⟨_, rfl⟩
    rw [← hX]
    have HX := Lib.hid hX
    have m0 : w.cell? ⟨gmb, 0, none⟩ = some (.map (some gm)) := G.env.jm.cell 0
    have t1 : w.cell? ⟨gtb, 1, none⟩ = some (.slice TA tn tc) := G.env.jt.cell 1
    have hlk := G.map.look_ok Try.underlying95 Try.underlying3 (zero_int w) k
    clear ih hX hd
    cases hM : M k with
    | some u =>
      obtain ⟨i, D', hu, hr1, hr2⟩ := G.met _ _ hM
      rw [hM, hu] at hlk
      have hlk2 : (Instr.lookup 95 (.map (some gm)) (.int .i64 k) true).run Try.prog w = .ok (.tuple #[.int .i64 i, .bool true]) w := hlk
      have hXT : X = (T, i) := by rw [HX.out, hrep.fn hr1]; exact bld_met G.gr.nd hr2
      have HXT := Lib.hid hXT
      clear hlk hXT hM hu hr1 hr2 G hrep hM1
      go_enter Try.func55, Try.ntmps55
      go_wp2
      go_ret
      rw [HXT.out]
      exact ⟨v, M, rfl, HG.out, HM1.out, Grw.refl _ _ _ _ _⟩
    | none =>
      rw [hM] at hlk
      have hlk2 : (Instr.lookup 95 (.map (some gm)) (.int .i64 k) true).run Try.prog w = .ok (.tuple #[.int .i64 0, .bool false]) w := hlk
      have hlo := hrep.lo
      have hk1 : k ≠ -1 := fun e => by rw [e, hM1] at hM; cases hM
      obtain ⟨j, rfl⟩ : ∃ j : Nat, k = j := ⟨k.toNat, by omega⟩
      obtain ⟨b, n, y, hb, rn, ry, hDe⟩ := hrep.inv
      have hjl := (List.getElem?_eq_some_iff.1 hb).1
      have hbe : Tt[j] = b := (List.getElem?_eq_some_iff.1 hb).2
      obtain ⟨⟨_, dn⟩, _, dy⟩ := HD.out j b hb
      have hjt : j < tn := by rw [← G.env.rl.len]; exact hjl
      obtain ⟨tb, to_, hz, hA, _, hcell⟩ := G.env.rl.at_ brn_len hjt
      rw [hbe] at hcell
      obtain ⟨ba, bo, bs, by_, bn⟩ := b
      dsimp only at rn ry dn dy hDe
      have c0 : w.cell? ⟨tb, to_ + j * 5, none⟩ = some (.int .i64 ba) := hcell 0 (by omega)
      have c1 : w.cell? ⟨tb, to_ + j * 5 + 1, none⟩ = some (.int .i64 bo) := hcell 1 (by omega)
      have c2 : w.cell? ⟨tb, to_ + j * 5 + 2, none⟩ = some (.int .i64 bs) := hcell 2 (by omega)
      have c3 : w.cell? ⟨tb, to_ + j * 5 + 3, none⟩ = some (.int .i64 by_) := hcell 3 (by omega)
      have c4 : w.cell? ⟨tb, to_ + j * 5 + 4, none⟩ = some (.int .i64 bn) := hcell 4 (by omega)
      have hjz : (j : Int) < (tn : Int) := by omega
      have HXN : Hid (X = (put (bld (bld T n).1 y).1 ⟨ba, bo, bs, (bld (bld T n).1 y).2, (bld T n).2⟩, ((pos ⟨ba, bo, bs, (bld (bld T n).1 y).2, (bld T n).2⟩ (bld (bld T n).1 y).1 : Nat) : Int))) := Lib.hid (by rw [HX.out, hDe, bld])
      have hrX : Rep X.1 X.2 D := by rw [HX.out]; exact bld_rep _ _
      have hfX : FromP (PL Tt) X.1 := by rw [HX.out]; exact bld_from D T (pl_subs hrep) G.frm
      have hf1 : FromP (PL Tt) (bld T n).1 := bld_from n T (pl_subs rn) G.frm
      have HREPX := Lib.hid hrX
      have HFRX := Lib.hid hfX
      have HFR1 := Lib.hid hf1
      have HRN := Lib.hid rn
      have HRY := Lib.hid ry
      have HLO : Hid (bn + 1 < f ∧ by_ + 1 < f) := Lib.hid (by omega)
      have HBsz : Hid (B ≤ w.heap.size) := Lib.hid G.env.hB
      subst hA
      clear hlk hM hlo hk1 hb hjl hbe dn dy hjt hcell hz hDe hrX hfX hf1 rn ry hM1 G hrep HX
      go_enter Try.func55, Try.ntmps55
      go_upto_region 4 with (fail)
      clear hlk2 m0
      go_upto_region 5 with (fail)
      have J9 := Blk.new w 30 #[.int .i64 ba, .int .i64 bo, .int .i64 bs, .int .i64 by_, .int .i64 bn]
      have hy : Ext w (w.alloc (.cells #[.int .i64 ba, .int .i64 bo, .int .i64 bs, .int .i64 by_, .int .i64 bn] 30)) := bl_alloc (Below.refl _ _) _
      obtain ⟨g9, hg9⟩ : ∃ g, g = w.heap.size := ⟨_, rfl⟩
      rw [← hg9] at J9 ⊢
      have H9 := Lib.hid hg9
      have hno : v.ownBlock ≠ some g9 := fun e => by have := (World.ownsRow.lt HG.out.gr.row g9 e).2; omega
      clear hg9
      generalize w.alloc (.cells #[.int .i64 ba, .int .i64 bo, .int .i64 bs, .int .i64 by_, .int .i64 bn] 30) = W6 at J9 hy ⊢
      have G6 := HG.out.ext hy
      have HNO := Lib.hid hno
      have fb0 : W6.cell? ⟨gcb, 0, none⟩ = some (.func (.func 55) #[] #[.pointer (some ⟨gmb, 0, none⟩), .pointer (some ⟨gtb, 0, none⟩), .pointer (some ⟨gcb, 0, none⟩), .pointer (some ⟨gpb, 0, none⟩)]) := G6.env.jf.cell 0
      have q4 : W6.cell? ⟨g9, 4, none⟩ = some (.int .i64 bn) := J9.cell 4
      have hc1 : Calls Try.prog 55 #[.int .i64 bn, .pointer (some ⟨gmb, 0, none⟩), .pointer (some ⟨gtb, 0, none⟩), .pointer (some ⟨gcb, 0, none⟩), .pointer (some ⟨gpb, 0, none⟩)] W6 (ComeRet B gmb gtb gcb gpb gg gk gm s0 (some ⟨tb, to_, none⟩) tn tc Tt st v (bld T n) W6) := IH.out bn n v T M W6 G6 HM1.out HRN.out HLO.out.1
      generalize bld T n = P1 at hc1 HXN HFR1
      obtain ⟨T1, k1⟩ := P1
      have HC1 := Lib.hid hc1
      have HJ9 := Lib.hid J9
      have HG6 := Lib.hid G6
      have HY := Lib.hid hy
      clear c0 c1 c2 c3 c4 hc1 J9 G6 hno t1 hy
      go_wp2_with fail
      have hc := HC1.out
      clear HC1
      refine hc.mono ?_
      clear hc
      rintro e W7 ⟨v7, M7, rfl, G7, hm7, hw7⟩
      have J9 := HG6.out.blk hw7 HJ9.out (by decide) HNO.out
      have hno7 := hw7.keepOwn HJ9.out.lt HNO.out
      have hw7t : Grw gg gk gm v v7 w W7 := (Grw.of_ext HY.out).trans hw7
      have q4 : W7.cell? ⟨g9, 4, none⟩ = some (.int .i64 bn) := J9.cell 4
      have qf4 := J9.frozen 4
      have hB9 : B ≤ g9 := by have h1 := H9.out; have h2 := HBsz.out; omega
      have G7s := LSt.set G7 J9 hno7 hB9 4 (.int .i64 k1)
      have J9s : Blk (W7.setCell ⟨g9, 4, none⟩ (.int .i64 k1)) g9 30 #[.int .i64 ba, .int .i64 bo, .int .i64 bs, .int .i64 by_, .int .i64 k1] := by
        have h := J9.set_ 4 (.int .i64 k1)
        simp only [List.setIfInBounds_toArray, List.set_cons_zero, List.set_cons_succ] at h
        exact h
      have hw7s := hw7t.set (p := ⟨g9, 4, none⟩) (by show w.heap.size ≤ g9; have := H9.out; omega) (.int .i64 k1)
      obtain ⟨W7b, hW7b⟩ : ∃ W, W = W7.setCell ⟨g9, 4, none⟩ (.int .i64 k1) := ⟨_, rfl⟩
      rw [← hW7b] at G7s J9s hw7s
      have HW7B := Lib.hid hW7b
      have HG7 := Lib.hid G7s
      have HJ9 := Lib.hid J9s
      have HM7 := Lib.hid hm7
      have HNO := Lib.hid hno7
      have HW7 := Lib.hid hw7s
      clear J9 hno7 hw7t G7 hw7 G7s J9s hw7s hm7 HG6 hW7b HY
      go_upto_region 6 with (fail)
      rw [← HW7B.out]
      clear HW7B q4 qf4
      have fb0 : W7b.cell? ⟨gcb, 0, none⟩ = some (.func (.func 55) #[] #[.pointer (some ⟨gmb, 0, none⟩), .pointer (some ⟨gtb, 0, none⟩), .pointer (some ⟨gcb, 0, none⟩), .pointer (some ⟨gpb, 0, none⟩)]) := HG7.out.env.jf.cell 0
      have q3 : W7b.cell? ⟨g9, 3, none⟩ = some (.int .i64 by_) := HJ9.out.cell 3
      have hc2 : Calls Try.prog 55 #[.int .i64 by_, .pointer (some ⟨gmb, 0, none⟩), .pointer (some ⟨gtb, 0, none⟩), .pointer (some ⟨gcb, 0, none⟩), .pointer (some ⟨gpb, 0, none⟩)] W7b (ComeRet B gmb gtb gcb gpb gg gk gm s0 (some ⟨tb, to_, none⟩) tn tc Tt st v7 (bld T1 y) W7b) := IH.out by_ y v7 T1 M7 W7b HG7.out HM7.out HRY.out HLO.out.2
      have hf2 : FromP (PL Tt) (bld T1 y).1 := bld_from y T1 (pl_subs HRY.out) HFR1.out
      have hxn := HXN.out
      try dsimp only at hxn
      generalize bld T1 y = P2 at hc2 hxn hf2
      obtain ⟨T2, k2⟩ := P2
      try dsimp only at hxn
      have HXN2 := Lib.hid hxn
      have HFR2 := Lib.hid hf2
      have HC2 := Lib.hid hc2
      clear hc2 hxn hf2 HXN HFR1
      go_wp2_with fail
      have hc := HC2.out
      clear HC2
      refine hc.mono ?_
      clear hc
      rintro e W8 ⟨v9, M9, rfl, G8, hm8, hw8⟩
      have J9 := HG7.out.blk hw8 HJ9.out (by decide) HNO.out
      have hno8 := hw8.keepOwn HJ9.out.lt HNO.out
      have hw8t : Grw gg gk gm v v9 w W8 := HW7.out.trans hw8
      have q3 : W8.cell? ⟨g9, 3, none⟩ = some (.int .i64 by_) := J9.cell 3
      have qf3 := J9.frozen 3
      have G8s := LSt.set G8 J9 hno8 hB9 3 (.int .i64 k2)
      have J9s : Blk (W8.setCell ⟨g9, 3, none⟩ (.int .i64 k2)) g9 30 #[.int .i64 ba, .int .i64 bo, .int .i64 bs, .int .i64 k2, .int .i64 k1] := by
        have h := J9.set_ 3 (.int .i64 k2)
        simp only [List.setIfInBounds_toArray, List.set_cons_zero, List.set_cons_succ] at h
        exact h
      have hw8s := hw8t.set (p := ⟨g9, 3, none⟩) (by show w.heap.size ≤ g9; have := H9.out; omega) (.int .i64 k2)
      obtain ⟨W9, hW9⟩ : ∃ W, W = W8.setCell ⟨g9, 3, none⟩ (.int .i64 k2) := ⟨_, rfl⟩
      rw [← hW9] at G8s J9s hw8s
      have HW9B := Lib.hid hW9
      have HG9 := Lib.hid G8s
      have HM9 := Lib.hid hm8
      have HW9 := Lib.hid hw8s
      have HNO9 := Lib.hid hno8
      clear J9 hno8 hw8t G8 hw8 hw8s hm8 HG7 hW9 HJ9 HM7 HW7
      go_upto_region 7 with (fail)
      rw [← HW9B.out]
      clear HW9B q3 qf3 fb0
      have G9 := HG9.out
      have J9 := J9s
      obtain ⟨T3, hT3⟩ : ∃ T3, T3 = put T2 (⟨ba, bo, bs, k2, k1⟩ : Brn) := ⟨_, rfl⟩
      obtain ⟨kb, hkb⟩ : ∃ kb, kb = pos (⟨ba, bo, bs, k2, k1⟩ : Brn) T2 := ⟨_, rfl⟩
      have hn9 : T2.length ≤ 800000 := by have := pl_len HD.out hl G9.gr.nd HFR2.out; omega
      have HBR := Lib.hid (fun (w1 : World) (hx : FT W9.heap.size (SB gg gk v9) (FinB gg gk B st v9 (put T2 (⟨ba, bo, bs, k2, k1⟩ : Brn)) W9.heap.size) W9 w1) => branch_ft (⟨ba, bo, bs, k2, k1⟩ : Brn) G9.gr hn9 G9.env.hB hx)
      have hT := ft_tr W9.heap.size (SB gg gk v9) (FinB gg gk B st v9 (put T2 (⟨ba, bo, bs, k2, k1⟩ : Brn)) W9.heap.size)
      have HXK : Hid (X = (T3, (kb : Int))) := Lib.hid (by rw [HXN2.out, hT3, hkb])
      have HPE : Hid (∃ R, T3 = T2 ++ R) := Lib.hid (by rw [hT3]; exact put_ext T2 _)
      rw [← hT3] at HBR hT
      rw [← hkb] at HBR
      clear hT3 hkb HXN2
      change Hid (∀ (w1 : World), FT W9.heap.size (SB gg gk v9) (FinB gg gk B st v9 T3 W9.heap.size) W9 w1 → Calls Try.prog 39 #[.pointer (some ⟨gg, 0, none⟩), .agg #[.int .i64 ba, .int .i64 bo, .int .i64 bs, .int .i64 k2, .int .i64 k1]] w1 fun e w' => e = .returned (.int .i64 (kb : Int)) ∧ FT W9.heap.size (SB gg gk v9) (FinB gg gk B st v9 T3 W9.heap.size) w1 w' ∧ FinB gg gk B st v9 T3 W9.heap.size w') at HBR
      have nm := G9.nS G9.env.jm (by decide) (G9.no G9.env.jm (by decide))
      have np := G9.nS G9.env.jp (by decide) (G9.no G9.env.jp (by decide))
      have n9 := G9.nS J9 (by decide) HNO9.out
      have lm := G9.env.jm.lt
      have lp := G9.env.jp.lt
      have l9 := J9.lt
      have m0 : W9.cell? ⟨gmb, 0, none⟩ = some (.map (some gm)) := G9.env.jm.cell 0
      have p0 : W9.cell? ⟨gpb, 0, none⟩ = some (.pointer (some ⟨gg, 0, none⟩)) := G9.env.jp.cell 0
      have q0 : W9.cell? ⟨g9, 0, none⟩ = some (.int .i64 ba) := J9.cell 0
      have q1 : W9.cell? ⟨g9, 1, none⟩ = some (.int .i64 bo) := J9.cell 1
      have q2 : W9.cell? ⟨g9, 2, none⟩ = some (.int .i64 bs) := J9.cell 2
      have q3 : W9.cell? ⟨g9, 3, none⟩ = some (.int .i64 k2) := J9.cell 3
      have q4 : W9.cell? ⟨g9, 4, none⟩ = some (.int .i64 k1) := J9.cell 4
      clear G9 J9 J9s
      refine RB.wp_region_obl (T := _) hT 5 (fun ix vals v w1 => match ix with | 0 => v = .map (some gm) | 1 => v = .int .i64 (j : Int) | 2 => v = .pointer (some ⟨gg, 0, none⟩) | 3 => v = .agg #[.int .i64 ba, .int .i64 bo, .int .i64 bs, .int .i64 k2, .int .i64 k1] | _ => v = .int .i64 (kb : Int) ∧ FinB gg gk B st v9 T3 W9.heap.size w1) (by kernel_rfl) (by kernel_rfl) ?_ ?_ ?_ ?_
      · intro ix vals v w1 w2 hi hr hx
        match ix, hr with
        | 0, hr => exact hr
        | 1, hr => exact hr
        | 2, hr => exact hr
        | 3, hr => exact hr
        | (kx + 4), hr => exact ⟨hr.1, hx.fin hr.2⟩
      · intro ix vals vals_ v w1 hi hv hr
        exact hr
      · refine ⟨?_, ?_, ?_, ?_, ?_, trivial⟩
        · intro vals w1 hx hd ha
          clear hd ha
          simp only [Lf]
          have m0 := hx.undrew.cell m0 lm nm
          go_wp2
          exact ⟨rfl, hT.refl _, rfl⟩
        · intro vals w1 hx hd ha
          clear hd ha
          simp only [Lf, dstAt, Act.put, List.getElem?_toArray, List.getElem?_cons_zero, Option.bind_some, List.setIfInBounds_toArray, List.set_cons_zero, List.set_cons_succ]
          go_wp2
          exact ⟨rfl, hT.refl _, rfl⟩
        · intro vals w1 hx hd ha
          clear hd ha
          simp only [Lf, dstAt, Act.put, List.getElem?_toArray, List.getElem?_cons_zero, List.getElem?_cons_succ, Option.bind_some, List.setIfInBounds_toArray, List.set_cons_zero, List.set_cons_succ]
          have p0 := hx.undrew.cell p0 lp np
          go_wp2
          exact ⟨rfl, hT.refl _, rfl⟩
        · intro vals w1 hx hd ha
          clear hd ha
          simp only [Lf, dstAt, Act.put, List.getElem?_toArray, List.getElem?_cons_zero, List.getElem?_cons_succ, Option.bind_some, List.setIfInBounds_toArray, List.set_cons_zero, List.set_cons_succ]
          have q0 := hx.undrew.cell q0 l9 n9; have q1 := hx.undrew.cell q1 l9 n9; have q2 := hx.undrew.cell q2 l9 n9; have q3 := hx.undrew.cell q3 l9 n9; have q4 := hx.undrew.cell q4 l9 n9
          go_wp2
          exact ⟨rfl, hT.refl _, rfl⟩
        · intro vals w1 hx hd ha
          have e2 : vals 2 = .pointer (some ⟨gg, 0, none⟩) := hd 2 (by decide)
          have e3 : vals 3 = .agg #[.int .i64 ba, .int .i64 bo, .int .i64 bs, .int .i64 k2, .int .i64 k1] := hd 3 (by decide)
          clear hd ha
          simp only [Lf, dstAt, Act.put, List.getElem?_toArray, List.getElem?_cons_zero, List.getElem?_cons_succ, Option.bind_some, List.setIfInBounds_toArray, List.set_cons_zero, List.set_cons_succ]
          simp only [e2]
          simp only [e3]
          clear e2 e3
          go_wp2_with fail
          refine (HBR.out w1 hx.undrew).mono ?_
          rintro e w2 ⟨rfl, hft, hfin⟩
          go_wp2
          exact ⟨rfl, hft, rfl, hfin⟩
      intro vz W10 hx10 hf
      have z0 : vz 0 = .map (some gm) := hf 0 (by omega)
      have z1 : vz 1 = .int .i64 (j : Int) := hf 1 (by omega)
      obtain ⟨z4, v10, g10, o10⟩ : vz 4 = .int .i64 (kb : Int) ∧ FinB gg gk B st v9 T3 W9.heap.size W10 := hf 4 (by omega)
      clear hf HBR m0 p0 q0 q1 q2 q3 q4 hT
      have hx10 := hx10.undrew
      have henv10 := HG9.out.env_ft h1 h2 hx10
      have hngm : ¬ SB gg gk v9 gm := fun e => by
        rcases e with e | e | e
        · exact HG9.out.map.ne_blk HG9.out.gr.blk e.symm
        · exact hkm e.symm
        · exact HG9.out.map.ne_own HG9.out.gr.row e
      have hmap10 := HG9.out.map.mid (hx10.oth gm HG9.out.map.lt hngm)
      have hmet10 : MetL Tt T3 M9 := fun s u hs => by
        obtain ⟨i, D', h1, h2, h3⟩ := HG9.out.met s u hs
        exact ⟨i, D', h1, h2, h3.grow HPE.out⟩
      have hw10 : Grw gg gk gm v v10 w W10 := HW9.out.trans ⟨hx10.os, hx10.tape, hx10.output, hx10.size, fun i hi a1 a2 _ a4 => hx10.oth i hi (fun e => by
        rcases e with e | e | e
        · exact a1 e
        · exact a2 e
        · exact a4 e), o10⟩
      obtain ⟨W11, hu, hm11, hgb⟩ := hmap10.update Try.underlying95 Try.underlying3 (j : Int) (.int .i64 (kb : Int))
      have hw11 := hw10.trans (Grw.of_map hgb (.inr (.inr rfl)))
      have henv11 := henv10.mapd hmap10 h3 hgb
      have hgr11 : Gr W11 gg gk B st v10 T3 := ⟨g10.blk.grown hgb (fun e => hmap10.ne_blk g10.blk (by injection e)), g10.row.kept hgb (.inr (hmap10.ne_own g10.row)), g10.map.keep (hgb.block gk g10.map.lt (fun e => hkm (by injection e))), g10.nd⟩
      have hrepX := HREPX.out
      have hfrX := HFRX.out
      rw [HXK.out] at hrepX hfrX
      have hG11 : LSt W11 B gmb gtb gcb gpb gg gk gm s0 (some ⟨tb, to_, none⟩) tn tc Tt st v10 T3 (fun z => if z = (j : Int) then some (.int .i64 (kb : Int)) else M9 z) := ⟨henv11, hgr11, hm11, hmet10.put HREP.out hrepX, hfrX⟩
      have hlk := hm11.look Try.underlying95 Try.underlying3 (zero_int W11) (j : Int)
      rw [if_pos rfl] at hlk
      have hlk2 : (Instr.lookup 95 (.map (some gm)) (.int .i64 (j : Int)) false).run Try.prog W11 = .ok (.int .i64 (kb : Int)) W11 := hlk
      have HG11 := Lib.hid hG11
      have HW11 := Lib.hid hw11
      have HU := Lib.hid hu
      have HMM : Hid ((if (-1 : Int) = (j : Int) then some (Value.int .i64 (kb : Int)) else M9 (-1)) = some (.int .i64 (-1))) := Lib.hid (by rw [if_neg (by omega)]; exact HM9.out)
      have m0 : W11.cell? ⟨gmb, 0, none⟩ = some (.map (some gm)) := henv11.jm.cell 0
      clear hlk hG11 hw11 hu henv10 hngm hmap10 hmet10 hw10 hm11 hgb henv11 hgr11 hrepX hfrX g10 o10 hx10 HG9 HW9 HM9
      refine tail1 5 _ (by kernel_rfl) (by kernel_rfl) rfl ?_
      simp only [Lf, dstAt, Act.put, List.getElem?_toArray, List.getElem?_cons_zero, List.getElem?_cons_succ, Option.bind_some, List.setIfInBounds_toArray, List.set_cons_zero, List.set_cons_succ]
      rw [z0, z1, z4]
      clear z0 z1 z4
      go_upto_region 8 with (refine wpList_mapUpdate_run rfl _ _ _ _ rfl rfl rfl rfl HU.out ?_)
      clear HU
      go_wp2
      go_ret
      rw [HXK.out]
      exact ⟨v10, _, rfl, HG11.out, HMM.out, HW11.out⟩
end Go.Proofs.Ytikphbgfcpamgaa
namespace Go.Proofs.Ytikphbgfcpamgaa
open Go.RowKit

theorem wpList_insert_run {P : Program} {w : World} {ops : Array Oper} {rest : List Oper} {o : Oper} {a : Act} {Q : Exit → Act → World → Prop} (hg : o.guard = none) (m x v : Operand) (t : TypeId) (hop : o.op = Op.insert t m x v) {M X V : Value} {w' : World} (hm : a.eval m = M) (hx : a.eval x = X) (hv : a.eval v = V)
    (hrun : (Instr.mapUpdate t M X V).run P w = .ok () w') (hK : wpList P ops Q rest (a.put o.dst undef) w') : wpList P ops Q (o :: rest) a w := by
  refine wpList_plain hg fun K hK' => ?_
  unfold Oper.wp
  simp [execOp, hop, hm, hx, hv, hrun, Result.andThen]
  exact hK' _ _ hK
def FinL (B gmb gtb gcb gpb gg gk gm : Nat) (s0 : Int) (TA : Option Addr) (tn tc : Nat) (Tt : List Brn) (st : Int) (v : Value) (T2 : List Brn) (N0 : Nat) (W : World) : Prop := ∃ v' M', LSt W B gmb gtb gcb gpb gg gk gm s0 TA tn tc Tt st v' T2 M' ∧ M' (-1) = some (.int .i64 (-1)) ∧ ∀ g, v'.ownBlock = some g → v.ownBlock = some g ∨ N0 ≤ g
theorem finL_drew {B gmb gtb gcb gpb gg gk gm : Nat} {s0 : Int} {TA : Option Addr} {tn tc : Nat} {Tt : List Brn} {st : Int} {v : Value} {T2 : List Brn} {N0 : Nat} (W : World) (h : FinL B gmb gtb gcb gpb gg gk gm s0 TA tn tc Tt st v T2 N0 W) : FinL B gmb gtb gcb gpb gg gk gm s0 TA tn tc Tt st v T2 N0 W.drew := by
  obtain ⟨v', M', g, m, o⟩ := h
  exact ⟨v', M', ⟨⟨g.env.jm, g.env.jt, g.env.jf, g.env.jp, g.env.rl.keep (fun _ _ => rfl), g.env.hB⟩, ⟨g.gr.blk, g.gr.row, g.gr.map, g.gr.nd⟩, g.map, g.met, g.frm⟩, m, o⟩
theorem come_ft {B gmb gtb gcb gpb gg gk gm : Nat} {s0 : Int} {TA : Option Addr} {tn tc : Nat} {Tt : List Brn} {st : Int} {v : Value} {T : List Brn} {M : Int → Option Value} (h1 : B ≤ gg) (h2 : B ≤ gk) (h3 : B ≤ gm) (hkm : gk ≠ gm) (hd : Down Tt) (hl : Tt.length ≤ 1500) {k : Int} {D : DT} (hrep : Rep Tt k D) {W0 w1 : World} (h : LSt W0 B gmb gtb gcb gpb gg gk gm s0 TA tn tc Tt st v T M) (hM1 : M (-1) = some (.int .i64 (-1)))
    (hx : FT W0.heap.size (SG gg gk gm v) (FinL B gmb gtb gcb gpb gg gk gm s0 TA tn tc Tt st v (bld T D).1 W0.heap.size) W0 w1) :
    Calls Try.prog 55 #[.int .i64 k, .pointer (some ⟨gmb, 0, none⟩), .pointer (some ⟨gtb, 0, none⟩), .pointer (some ⟨gcb, 0, none⟩), .pointer (some ⟨gpb, 0, none⟩)] w1 fun e w' => e = .returned (.int .i64 (bld T D).2) ∧ FT W0.heap.size (SG gg gk gm v) (FinL B gmb gtb gcb gpb gg gk gm s0 TA tn tc Tt st v (bld T D).1 W0.heap.size) w1 w' ∧ FinL B gmb gtb gcb gpb gg gk gm s0 TA tn tc Tt st v (bld T D).1 W0.heap.size w' := by
  have key : ∀ (v1 : Value) (T1 : List Brn) (M1 : Int → Option Value), LSt w1 B gmb gtb gcb gpb gg gk gm s0 TA tn tc Tt st v1 T1 M1 → M1 (-1) = some (.int .i64 (-1)) → bld T1 D = bld T D → (∀ g, v1.ownBlock = some g → v.ownBlock = some g ∨ W0.heap.size ≤ g) →
      Calls Try.prog 55 #[.int .i64 k, .pointer (some ⟨gmb, 0, none⟩), .pointer (some ⟨gtb, 0, none⟩), .pointer (some ⟨gcb, 0, none⟩), .pointer (some ⟨gpb, 0, none⟩)] w1 fun e w' => e = .returned (.int .i64 (bld T D).2) ∧ FT W0.heap.size (SG gg gk gm v) (FinL B gmb gtb gcb gpb gg gk gm s0 TA tn tc Tt st v (bld T D).1 W0.heap.size) w1 w' ∧ FinL B gmb gtb gcb gpb gg gk gm s0 TA tn tc Tt st v (bld T D).1 W0.heap.size w' := by
    intro v1 T1 M1 g1 m1 he o1
    have hc := come_any h1 h2 h3 hkm hd hl ((k + 2).toNat) k D v1 T1 M1 w1 g1 m1 hrep (by have := hrep.lo; omega)
    rw [he] at hc
    refine Calls.mono hc ?_
    rintro e w' ⟨v', M', rfl, hg, hm, hw⟩
    have hf : FinL B gmb gtb gcb gpb gg gk gm s0 TA tn tc Tt st v (bld T D).1 W0.heap.size w' := ⟨v', M', hg, hm, fun g hgv => by
      rcases hw.own g hgv with e2 | e2
      · exact o1 g e2
      · exact .inr (Nat.le_trans hx.size e2)⟩
    refine ⟨rfl, ⟨hw.os, hw.tape, hw.output, hw.size, fun i hi hs => hw.block i (Nat.lt_of_lt_of_le hi hx.size) (fun e => hs (.inl e)) (fun e => hs (.inr (.inl e))) (fun e => hs (.inr (.inr (.inl e)))) (fun e => ?_), fun _ => hf, .inr hf⟩, hf⟩
    rcases o1 i e with e2 | e2
    · exact hs (.inr (.inr (.inr e2)))
    · omega
  rcases hx.orr with e | ⟨v1, M1, g1, m1, o1⟩
  · exact key v T M (h.ext e) hM1 rfl fun _ e => .inl e
  · exact key v1 _ M1 g1 m1 (bld_met (bld_nodup _ _ h.gr.nd) (bld_rep _ _)) o1
def LeftRet (X : List Brn × Int) (w : World) (e : Ending) (w' : World) : Prop := ∃ v, e = .returned (.agg #[.int .i64 X.2, v]) ∧ OwnB w' w.heap.size v X.1 ∧ Ext w w'
theorem results_1 {P : Program} {fn : Func} {p : Tmp} {t : TypeId} (h : fn.results = #[.cell p t]) (tmps : Array Value) (w : World) (g : Nat) (X : Array Value) (hp : tmps.getD p undef = .pointer (some ⟨g, 0, none⟩)) (J : Blk w g t X) (d : TypeDesc) (hu : P.underlying t = some d) (hd : d.isRow = true) (hi : (P.info? t).map (·.size) = some X.size) :
    (results fn tmps).run P w = .ok (.agg X) w := by
  have hl := load_blk J d hu hd hi
  have hp' : tmps[p]?.getD undef = .pointer (some ⟨g, 0, none⟩) := by simpa using hp
  simp only [results, h]
  simp [hp', asAddr, hl]
set_option maxRecDepth 100000 in
set_option maxHeartbeats 2000000 in
theorem left_any (Tt : List Brn) (TA : Option Addr) (tn tc : Nat) (s0 : Int) (k : Int) (D : DT) (w : World) (hr : RA brnCells 5 w w.heap.size TA tn tc Tt) (hd : Down Tt) (hl : Tt.length ≤ 1500) (hrep : Rep Tt k D) :
    Calls Try.prog 42 #[.agg #[.int .i64 s0, .slice TA tn tc], .int .i64 k] w (LeftRet (bld [] D) w) := by
  have HR := Lib.hid hr
  have HD := Lib.hid hd
  have HREP := Lib.hid hrep
  obtain ⟨Y, hY⟩ : ∃ Y, Y = bld [] D := ⟨_, rfl⟩
  rw [← hY]
  have HY := Lib.hid hY
  clear hr hd hrep hY
  go_enter Try.func42, Try.ntmps42
  go_wp2_with fail
  have JB := (Blk.new w 33 #[.int .i64 s0, .slice TA tn tc]).alloc (.cells #[.int .i64 0, .slice none 0 0] 33)
  have JR := Blk.new_at (g := w.heap.size + 1) (w.alloc (.cells #[.int .i64 s0, .slice TA tn tc] 33)) 33 #[.int .i64 0, .slice none 0 0] (by simp)
  have hx2 : Ext w ((w.alloc (.cells #[.int .i64 s0, .slice TA tn tc] 33)).alloc (.cells #[.int .i64 0, .slice none 0 0] 33)) := (by repeat (first | exact Below.refl _ _ | assumption | refine Below.drew ?_ | refine below_drewN ?_ _ | refine bl_alloc ?_ _ | refine Below.setCell ?_ (by first | (simp; done) | omega | (simp; omega)) _ | refine bl_then ?_ (by assumption)))
  obtain ⟨gtb, hgtb⟩ : ∃ g, g = w.heap.size := ⟨_, rfl⟩
  obtain ⟨gt, hgt⟩ : ∃ g, g = w.heap.size + 1 := ⟨_, rfl⟩
  rw [← hgt] at JR ⊢
  rw [← hgtb] at JB ⊢
  have hgw : w.heap.size ≤ gt := by omega
  have hgtne : gtb < gt := by omega
  clear hgtb hgt
  generalize (w.alloc (.cells #[.int .i64 s0, .slice TA tn tc] 33)).alloc (.cells #[.int .i64 0, .slice none 0 0] 33) = W2 at JB JR hx2 ⊢
  have HRA2 := Lib.hid (ra_ext HR.out hx2)
  refine (begin_any W2).mono ?_
  rintro e W3 ⟨gg, gk, rfl, hgg, hgk, hgr, hy3⟩
  obtain ⟨B, hB⟩ : ∃ B, B = W2.heap.size := ⟨_, rfl⟩
  rw [← hB] at hgg hgk HRA2
  have hx3 := Ext.trans hx2 hy3
  have hBw : w.heap.size ≤ B := by rw [hB]; exact Below.size hx2
  have hB3 : B ≤ W3.heap.size := by rw [hB]; exact Below.size hy3
  have hBt : gt < B := by rw [hB]; exact JR.lt
  have HRA3 : Hid (RA brnCells 5 W3 B TA tn tc Tt) := Lib.hid (HRA2.out.keep fun p hp => hy3.cell (by omega))
  have HGR := Lib.hid (hgr B)
  have JR3 := JR.ext hy3
  have JB3 := JB.ext hy3
  have hmm : ∀ w : World, (Instr.makeMap 95 none).run Try.prog w = .ok (.map (some w.heap.size)) (w.alloc (.map #[] 0)) := fun w => by simp [Instr.makeMap]
  clear hgr hy3 JR JB hx2 HRA2 hB
  go_upto_region 2 with (fail)
  obtain ⟨gpb, hgpb⟩ : ∃ g, g = W3.heap.size := ⟨_, rfl⟩
  have JPa := Blk.new W3 76 #[.pointer (some ⟨gg, 0, none⟩)]
  have xa : Ext W3 (W3.alloc (.cells #[.pointer (some ⟨gg, 0, none⟩)] 76)) := bl_alloc (Below.refl _ _) _
  have hsz : W3.heap.size < (W3.alloc (.cells #[.pointer (some ⟨gg, 0, none⟩)] 76)).heap.size := by simp
  rw [← hgpb] at JPa ⊢
  generalize W3.alloc (.cells #[.pointer (some ⟨gg, 0, none⟩)] 76) = Wa at JPa xa hsz ⊢
  have MMa := MapI.new Wa
  have xb : Ext Wa (Wa.alloc (.map #[] 0)) := bl_alloc (Below.refl _ _) _
  obtain ⟨Wb, hub, MMb, hgb⟩ := MMa.update Try.underlying95 Try.underlying3 (-1) (.int .i64 (-1))
  obtain ⟨gm, hgm⟩ : ∃ g, g = Wa.heap.size := ⟨_, rfl⟩
  rw [← hgm] at hub MMb hgb
  have xab : Ext W3 Wb := Below.grown (Ext.trans xa xb) hgb (Below.size (Ext.trans xa xb)) (fun q e => by injection e with e; omega)
  have i1 : gpb < gm := by omega
  have JPb : Blk Wb gpb 76 #[.pointer (some ⟨gg, 0, none⟩)] := (JPa.ext xb).grown hgb (fun e => by injection e with e; omega)
  obtain ⟨gmb, hgmb⟩ : ∃ g, g = Wb.heap.size := ⟨_, rfl⟩
  obtain ⟨gcb, hgcb⟩ : ∃ g, g = gmb + 1 := ⟨_, rfl⟩
  have i2 : gm < gmb := by rw [hgmb]; exact MMb.lt
  have i3 : gmb < gcb := by omega
  have i4 : W3.heap.size ≤ gpb := by omega
  have hmm2 : (Instr.makeMap 95 none).run Try.prog Wa = .ok (.map (some gm)) (Wa.alloc (.map #[] 0)) := by rw [hmm, hgm]
  have HUB := Lib.hid hub
  clear hmm hgm hgpb hub MMa hgb hsz JPa xa xb
  go_upto_region 3 with (refine wpList_insert_run rfl _ _ _ _ rfl rfl rfl rfl HUB.out ?_)
  clear hmm2 HUB
  go_upto_region 4 with (fail)
  obtain ⟨Wc, hWc⟩ : ∃ W, W = Wb.alloc (.cells #[.map (some gm)] 95) := ⟨_, rfl⟩
  obtain ⟨Wd, hWd⟩ : ∃ W, W = Wc.alloc (.cells #[.nilFunc] 109) := ⟨_, rfl⟩
  have ec : Wc.heap.size = gcb := by rw [hWc, hgcb, hgmb]; simp
  rw [← hgmb, ← hgcb, ← hWc, ← hWd]
  have xc : Ext Wb Wc := by rw [hWc]; exact bl_alloc (Below.refl _ _) _
  have xd : Ext Wc Wd := by rw [hWd]; exact bl_alloc (Below.refl _ _) _
  have x3d : Ext W3 Wd := Ext.trans (Ext.trans xab xc) xd
  have JP := (JPb.ext xc).ext xd
  have MM := (MMb.ext xc).ext xd
  have JM : Blk Wd gmb 95 #[.map (some gm)] := (show Blk Wc gmb 95 #[.map (some gm)] by rw [hWc]; exact Blk.new_at _ _ _ hgmb.symm).ext xd
  have JF : Blk Wd gcb 109 #[.nilFunc] := by rw [hWd]; exact Blk.new_at _ _ _ ec
  have JR4 := JR3.ext x3d
  have JB4 := JB3.ext x3d
  have hgr4 := HGR.out.ext x3d
  have hx4 := Ext.trans hx3 x3d
  have hra4 : RA brnCells 5 Wd B TA tn tc Tt := HRA3.out.keep fun p hp => x3d.cell (by omega)
  have i5 : gg < gpb := by have := HGR.out.blk.lt; omega
  have i6 : gk < gpb := by have := HGR.out.map.lt; omega
  have i7 : gt < gpb := by omega
  have hBd : B ≤ Wd.heap.size := Nat.le_trans hB3 (Below.size x3d)
  have j0 : Wd.cell? ⟨gcb, 0, none⟩ = some .nilFunc := JF.cell 0
  have jf := JF.frozen 0
  clear hWc hWd ec xc xd x3d xab JPb MMb HGR HRA3 JR3 JB3 hx3 hgmb hgcb
  obtain ⟨W7, hW7⟩ : ∃ W, W = Wd.setCell ⟨gcb, 0, none⟩ (.func (.func 55) #[] #[.pointer (some ⟨gmb, 0, none⟩), .pointer (some ⟨gtb, 0, none⟩), .pointer (some ⟨gcb, 0, none⟩), .pointer (some ⟨gpb, 0, none⟩)]) := ⟨_, rfl⟩
  have JF7 : Blk W7 gcb 109 #[.func (.func 55) #[] #[.pointer (some ⟨gmb, 0, none⟩), .pointer (some ⟨gtb, 0, none⟩), .pointer (some ⟨gcb, 0, none⟩), .pointer (some ⟨gpb, 0, none⟩)]] := by rw [hW7]; exact JF.set_ 0 _
  have JP7 : Blk W7 gpb 76 #[.pointer (some ⟨gg, 0, none⟩)] := by rw [hW7]; exact JP.far (p := ⟨gcb, 0, none⟩) (by show gpb ≠ gcb; omega) _
  have JM7 : Blk W7 gmb 95 #[.map (some gm)] := by rw [hW7]; exact JM.far (p := ⟨gcb, 0, none⟩) (by show gmb ≠ gcb; omega) _
  have JB7 : Blk W7 gtb 33 #[.int .i64 s0, .slice TA tn tc] := by rw [hW7]; exact JB4.far (p := ⟨gcb, 0, none⟩) (by show gtb ≠ gcb; omega) _
  have JR7 : Blk W7 gt 33 #[.int .i64 0, .slice none 0 0] := by rw [hW7]; exact JR4.far (p := ⟨gcb, 0, none⟩) (by show gt ≠ gcb; omega) _
  have MM7 : MapI W7 gm (fun j => if j = -1 then some (.int .i64 (-1)) else none) := by rw [hW7]; exact MM.far (p := ⟨gcb, 0, none⟩) (by show gm ≠ gcb; omega) _
  have GR7 : Gr W7 gg gk B 0 (.slice none 0 0) [] := by
    rw [hW7]
    exact ⟨hgr4.blk.far (p := ⟨gcb, 0, none⟩) (by show gg ≠ gcb; omega) _, World.ownsRow_nil _ _ _ _, hgr4.map.keep (Below.heap_setCell Wd ⟨gcb, 0, none⟩ _ gk (by show gk ≠ gcb; omega)), List.nodup_nil⟩
  have hra7 : RA brnCells 5 W7 B TA tn tc Tt := hra4.keep fun p hp => by
    rw [hW7]
    unfold World.cell?
    rw [Below.heap_setCell Wd ⟨gcb, 0, none⟩ _ p.block (by show p.block ≠ gcb; omega)]
  have hx7 : Ext w W7 := by rw [hW7]; exact hx4.setCell (by show w.heap.size ≤ gcb; omega) _
  have hB7 : B ≤ W7.heap.size := by rw [hW7]; simpa using hBd
  have hmet0 : MetL Tt [] (fun j => if j = -1 then some (.int .i64 (-1)) else none) := fun j u hj => by
    dsimp only at hj
    by_cases e : j = -1
    · rw [if_pos e] at hj
      injection hj with hj
      exact ⟨-1, .leaf, hj.symm, by rw [e]; exact .leaf, .leaf⟩
    · rw [if_neg e] at hj; cases hj
  have hG7 : LSt W7 B gmb gtb gcb gpb gg gk gm s0 TA tn tc Tt 0 (.slice none 0 0) [] (fun j => if j = -1 then some (.int .i64 (-1)) else none) := ⟨⟨JM7, JB7, JF7, JP7, hra7, hB7⟩, GR7, MM7, hmet0, (fun i h => (by simp at h))⟩
  have hkm : gk ≠ gm := by omega
  have hBm : B ≤ gm := by omega
  have HW7 := Lib.hid hW7
  clear JP MM JM JF JR4 JB4 hgr4 hra4 hBd JF7 JP7 JM7 MM7 GR7 hra7 hx4 hmet0 hW7 hB3
  go_upto_region 5 with (fail)
  rw [← HW7.out]
  clear HW7 j0 jf
  obtain ⟨T2, hT2⟩ : ∃ T, T = (bld [] D).1 := ⟨_, rfl⟩
  obtain ⟨k2, hk2⟩ : ∃ k, k = (bld [] D).2 := ⟨_, rfl⟩
  have HGF := Lib.hid (fun (w1 : World) => fun hx => come_ft hgg hgk hBm hkm HD.out hl HREP.out hG7 (if_pos rfl) (w1 := w1) hx)
  have hyt : Y = (T2, k2) := by rw [HY.out, hT2, hk2]
  rw [← hT2, ← hk2] at HGF
  have HY3 := Lib.hid hyt
  clear hT2 hk2 hyt HY
  have HG7 := Lib.hid hG7
  have hT := ft_tr W7.heap.size (SG gg gk gm (.slice none 0 0)) (FinL B gmb gtb gcb gpb gg gk gm s0 TA tn tc Tt 0 (.slice none 0 0) T2 W7.heap.size)
  have nsp : ¬ SG gg gk gm (.slice none 0 0) gpb := fun e => by
    rcases e with e | e | e | e
    · omega
    · omega
    · omega
    · cases e
  have nsf : ¬ SG gg gk gm (.slice none 0 0) gcb := fun e => by
    rcases e with e | e | e | e
    · omega
    · omega
    · omega
    · cases e
  have nst : ¬ SG gg gk gm (.slice none 0 0) gt := fun e => by
    rcases e with e | e | e | e
    · exact JR7.ne_ hG7.gr.blk (by decide) e
    · exact hG7.gr.map.ne_blk JR7 e
    · omega
    · cases e
  have lsp := hG7.env.jp.lt
  have lsf := hG7.env.jf.lt
  have p0 : W7.cell? ⟨gpb, 0, none⟩ = some (.pointer (some ⟨gg, 0, none⟩)) := hG7.env.jp.cell 0
  have f0 : W7.cell? ⟨gcb, 0, none⟩ = some (.func (.func 55) #[] #[.pointer (some ⟨gmb, 0, none⟩), .pointer (some ⟨gtb, 0, none⟩), .pointer (some ⟨gcb, 0, none⟩), .pointer (some ⟨gpb, 0, none⟩)]) := hG7.env.jf.cell 0
  refine RB.wp_region_obl (T := _) hT 7 (fun ix vals v w1 => match ix with | 0 => v = .pointer (some ⟨gg, 0, none⟩) | 1 => v = .func (.func 55) #[] #[.pointer (some ⟨gmb, 0, none⟩), .pointer (some ⟨gtb, 0, none⟩), .pointer (some ⟨gcb, 0, none⟩), .pointer (some ⟨gpb, 0, none⟩)] | 2 => v = .int .i64 k | 3 => v = .int .i64 k2 ∧ FinL B gmb gtb gcb gpb gg gk gm s0 TA tn tc Tt 0 (.slice none 0 0) T2 W7.heap.size w1 | 4 => v = .pointer (some ⟨gg, 0, none⟩) | 5 => v = .pointer (some ⟨gg, 0, none⟩) | _ => v = .pointer (some ⟨gg, 0, none⟩)) (by kernel_rfl) (by kernel_rfl) ?_ ?_ ?_ ?_
  · intro ix vals v w1 w2 hi hr hx
    match ix, hr with
    | 0, hr => exact hr
    | 1, hr => exact hr
    | 2, hr => exact hr
    | 3, hr => exact ⟨hr.1, hx.fin hr.2⟩
    | 4, hr => exact hr
    | 5, hr => exact hr
    | (kx + 6), hr => exact hr
  · intro ix vals vals_ v w1 hi hv hr
    exact hr
  · refine ⟨?_, ?_, ?_, ?_, ?_, ?_, ?_, trivial⟩
    · intro vals w1 hx hd ha
      clear hd ha
      simp only [Lf]
      have p0 := (FT.undrewF (fun W => finL_drew W) hx).cell p0 lsp nsp
      go_wp2
      exact ⟨rfl, hT.refl _, rfl⟩
    · intro vals w1 hx hd ha
      clear hd ha
      simp only [Lf, dstAt, Act.put, List.getElem?_toArray, List.getElem?_cons_zero, Option.bind_some, List.setIfInBounds_toArray, List.set_cons_zero, List.set_cons_succ]
      have f0 := (FT.undrewF (fun W => finL_drew W) hx).cell f0 lsf nsf
      go_wp2
      exact ⟨rfl, hT.refl _, rfl⟩
    · intro vals w1 hx hd ha
      clear hd ha
      simp only [Lf, dstAt, Act.put, List.getElem?_toArray, List.getElem?_cons_zero, List.getElem?_cons_succ, Option.bind_some, List.setIfInBounds_toArray, List.set_cons_zero, List.set_cons_succ]
      go_wp2
      exact ⟨rfl, hT.refl _, rfl⟩
    · intro vals w1 hx hd ha
      have e1 : vals 1 = .func (.func 55) #[] #[.pointer (some ⟨gmb, 0, none⟩), .pointer (some ⟨gtb, 0, none⟩), .pointer (some ⟨gcb, 0, none⟩), .pointer (some ⟨gpb, 0, none⟩)] := hd 1 (by decide)
      have e2 : vals 2 = .int .i64 k := hd 2 (by decide)
      clear hd ha
      simp only [Lf, dstAt, Act.put, List.getElem?_toArray, List.getElem?_cons_zero, List.getElem?_cons_succ, Option.bind_some, List.setIfInBounds_toArray, List.set_cons_zero, List.set_cons_succ]
      simp only [e1]
      simp only [e2]
      clear e1 e2
      go_wp2_with fail
      refine (HGF.out w1 (FT.undrewF (fun W => finL_drew W) hx)).mono ?_
      rintro e w2 ⟨rfl, hft, hfin⟩
      go_wp2
      exact ⟨rfl, hft, rfl, hfin⟩
    · intro vals w1 hx hd ha
      have e0 : vals 0 = .pointer (some ⟨gg, 0, none⟩) := hd 0 (by decide)
      have e1 : vals 1 = .func (.func 55) #[] #[.pointer (some ⟨gmb, 0, none⟩), .pointer (some ⟨gtb, 0, none⟩), .pointer (some ⟨gcb, 0, none⟩), .pointer (some ⟨gpb, 0, none⟩)] := hd 1 (by decide)
      have e2 : vals 2 = .int .i64 k := hd 2 (by decide)
      have r3 : (fun v w1 => v = .int .i64 k2 ∧ FinL B gmb gtb gcb gpb gg gk gm s0 TA tn tc Tt 0 (.slice none 0 0) T2 W7.heap.size w1) (vals 3) w1 := hd 3 (by decide)
      dsimp only at r3
      clear hd ha
      simp only [Lf, dstAt, Act.put, List.getElem?_toArray, List.getElem?_cons_zero, List.getElem?_cons_succ, Option.bind_some, List.setIfInBounds_toArray, List.set_cons_zero, List.set_cons_succ]
      simp only [e0, e1, e2]
      clear e0 e1 e2
      go_wp2
      exact ⟨rfl, hT.refl _, rfl⟩
    · intro vals w1 hx hd ha
      have e0 : vals 0 = .pointer (some ⟨gg, 0, none⟩) := hd 0 (by decide)
      have e1 : vals 1 = .func (.func 55) #[] #[.pointer (some ⟨gmb, 0, none⟩), .pointer (some ⟨gtb, 0, none⟩), .pointer (some ⟨gcb, 0, none⟩), .pointer (some ⟨gpb, 0, none⟩)] := hd 1 (by decide)
      have e2 : vals 2 = .int .i64 k := hd 2 (by decide)
      have r3 : (fun v w1 => v = .int .i64 k2 ∧ FinL B gmb gtb gcb gpb gg gk gm s0 TA tn tc Tt 0 (.slice none 0 0) T2 W7.heap.size w1) (vals 3) w1 := hd 3 (by decide)
      dsimp only at r3
      have e4 : vals 4 = .pointer (some ⟨gg, 0, none⟩) := hd 4 (by decide)
      clear hd ha
      simp only [Lf, dstAt, Act.put, List.getElem?_toArray, List.getElem?_cons_zero, List.getElem?_cons_succ, Option.bind_some, List.setIfInBounds_toArray, List.set_cons_zero, List.set_cons_succ]
      simp only [e0, e1, e2, e4]
      clear e0 e1 e2 e4
      go_wp2
      exact ⟨rfl, hT.refl _, rfl⟩
    · intro vals w1 hx hd ha
      have e0 : vals 0 = .pointer (some ⟨gg, 0, none⟩) := hd 0 (by decide)
      have e1 : vals 1 = .func (.func 55) #[] #[.pointer (some ⟨gmb, 0, none⟩), .pointer (some ⟨gtb, 0, none⟩), .pointer (some ⟨gcb, 0, none⟩), .pointer (some ⟨gpb, 0, none⟩)] := hd 1 (by decide)
      have e2 : vals 2 = .int .i64 k := hd 2 (by decide)
      have r3 : (fun v w1 => v = .int .i64 k2 ∧ FinL B gmb gtb gcb gpb gg gk gm s0 TA tn tc Tt 0 (.slice none 0 0) T2 W7.heap.size w1) (vals 3) w1 := hd 3 (by decide)
      dsimp only at r3
      have e5 : vals 5 = .pointer (some ⟨gg, 0, none⟩) := hd 5 (by decide)
      clear hd ha
      simp only [Lf, dstAt, Act.put, List.getElem?_toArray, List.getElem?_cons_zero, List.getElem?_cons_succ, Option.bind_some, List.setIfInBounds_toArray, List.set_cons_zero, List.set_cons_succ]
      simp only [e0, e1, e2, e5]
      clear e0 e1 e2 e5
      go_wp2
      exact ⟨rfl, hT.refl _, rfl⟩
  intro vz W8 hx8 hf
  have z6 : vz 6 = .pointer (some ⟨gg, 0, none⟩) := hf 6 (by omega)
  obtain ⟨z3, v8, M8, g8, m8, o8⟩ : vz 3 = .int .i64 k2 ∧ FinL B gmb gtb gcb gpb gg gk gm s0 TA tn tc Tt 0 (.slice none 0 0) T2 W7.heap.size W8 := hf 3 (by omega)
  clear hf p0 f0 hT HGF
  have hx8 := FT.undrewF (fun W => finL_drew W) hx8
  have JR8 := hx8.blk JR7 JR7.lt nst
  have hxw8 : Ext w W8 := ⟨hx8.os.trans hx7.os, hx8.tape.trans hx7.tape, hx8.output.trans hx7.output, Nat.le_trans hx7.size hx8.size, fun i hi => (hx8.oth i (Nat.lt_of_lt_of_le hi hx7.size) (fun e => by
    rcases e with e | e | e | e
    · omega
    · omega
    · omega
    · cases e)).trans (hx7.block i hi)⟩
  obtain ⟨A8, c8, hv8, _, _⟩ := own_slice g8.gr.row
  subst hv8
  have hgw2 : w.heap.size ≤ gg := by omega
  have hgtg : gt ≠ gg := fun e => nst (.inl e)
  have JR9 := JR8.far (p := ⟨gg, 0, none⟩) hgtg (.int .i64 k2)
  have hx9 : Ext w (W8.setCell ⟨gg, 0, none⟩ (.int .i64 k2)) := hxw8.setCell hgw2 _
  have JP9 := g8.env.jp.far (p := ⟨gg, 0, none⟩) (by show gpb ≠ gg; omega) (.int .i64 k2)
  have hrow9 := own_off g8.gr.row (p := ⟨gg, 0, none⟩) (fun q e e2 => g8.gr.ne_g (by rw [e, e2])) (.int .i64 k2)
  have hblk9 : GBlk (W8.setCell ⟨gg, 0, none⟩ (.int .i64 k2)) gg k2 (.slice A8 T2.length c8) gk := by
    have h := g8.gr.blk.set_ 0 (.int .i64 k2)
    simp only [List.setIfInBounds_toArray, List.set_cons_zero] at h
    exact h
  have g0 : W8.cell? ⟨gg, 0, none⟩ = some (.int .i64 0) := g8.gr.blk.cell 0
  have gf0 := g8.gr.blk.frozen 0
  have HROW := Lib.hid (own_base hrow9 hBw)
  clear hx8 JR8 hxw8 g8 m8 o8 hrow9 HG7 JR7 hG7 nsp nsf nst lsp lsf JB7
  obtain ⟨W9, hW9⟩ : ∃ W, W = W8.setCell ⟨gg, 0, none⟩ (.int .i64 k2) := ⟨_, rfl⟩
  rw [← hW9] at JR9 hx9 JP9 hblk9 HROW
  have HW9 := Lib.hid hW9
  clear hW9
  refine tail1 7 _ (by kernel_rfl) (by kernel_rfl) rfl ?_
  simp only [Lf, dstAt, Act.put, List.getElem?_toArray, List.getElem?_cons_zero, List.getElem?_cons_succ, Option.bind_some, List.setIfInBounds_toArray, List.set_cons_zero, List.set_cons_succ]
  rw [z3, z6]
  clear z3 z6
  go_upto_region 6 with (fail)
  rw [← HW9.out]
  clear HW9 g0 gf0
  have p0 : W9.cell? ⟨gpb, 0, none⟩ = some (.pointer (some ⟨gg, 0, none⟩)) := JP9.cell 0
  have g0 : W9.cell? ⟨gg, 0, none⟩ = some (.int .i64 k2) := hblk9.cell 0
  have g1 : W9.cell? ⟨gg, 1, none⟩ = some (.slice A8 T2.length c8) := hblk9.cell 1
  have t0 : W9.cell? ⟨gt, 0, none⟩ = some (.int .i64 0) := JR9.cell 0
  have t1 : W9.cell? ⟨gt, 1, none⟩ = some (.slice none 0 0) := JR9.cell 1
  have f0 := JR9.frozen 0
  have f1 := JR9.frozen 1
  clear hblk9 JP9
  go_wp2
  refine bodyPost_ret (results_1 Try.results42 _ _ gt _ rfl (JR9.set2 (.int .i64 k2) (.slice A8 T2.length c8)) _ Try.underlying33 rfl tre_size) rfl ?_
  refine ⟨.slice A8 T2.length c8, by rw [HY3.out], ?_, (hx9.setCell hgw _).setCell hgw _⟩
  rw [HY3.out]
  have hne : ∀ q, (Value.slice A8 T2.length c8).ownBlock = some q → q ≠ gt := fun q e e2 => own_blk_ne HROW.out JR9 (by decide) (by rw [e, e2])
  have h1 := own_off HROW.out (p := ⟨gt, 0, none⟩) hne (.int .i64 k2)
  exact own_off h1 (p := ⟨gt, 1, none⟩) hne _
end Go.Proofs.Ytikphbgfcpamgaa
