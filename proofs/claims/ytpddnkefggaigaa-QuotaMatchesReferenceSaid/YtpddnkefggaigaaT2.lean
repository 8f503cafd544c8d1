/- do of the laws and Do of the reference (printed by quota_do.py). -/
import Derived.Test.YtpddnkefggaigaaO2
import Derived.Test.YtpddnkefggaigaaR6
namespace Go.Proofs.Ytpddnkefggaigaa
open Go.RowKit

structure Deed where
  kind : Int
  fr : Int
  tt : Int
  units : Int
  cents : Int
abbrev deedV (d : Deed) : Value := .agg #[.int .i64 d.kind, .int .i64 d.fr, .int .i64 d.tt, .int .i64 d.units, .int .i64 d.cents]
def doP (p : Pool) (d : Deed) : Option Pool := if d.kind = 0 then lendP p d.fr d.tt d.units else if d.kind = 1 then returnP p d.fr d.tt d.units else if d.kind = 2 then tradeP p d.fr d.tt d.units d.cents else if d.kind = 3 then useP p d.fr d.units else freeP p d.fr d.units
set_option maxHeartbeats 1000000 in
theorem do_0 (s1 s2 s3 s4 : Sl) (p : Pool) (k0 k1 k2 k3 k4 : Int) (w : World) (h : PoolR w w.heap.size s1 s2 s3 s4 p) (hk : k0 = 0) :
    Calls Try.prog 25 #[poolV s1 s2 s3 s4, .agg #[.int .i64 k0, .int .i64 k1, .int .i64 k2, .int .i64 k3, .int .i64 k4]] w (PoolRet w (lendP p k1 k2 k3)) := by
  have hch := lend_any s1 s2 s3 s4 p k1 k2 k3
  obtain ⟨A1, n1, c1⟩ := s1; obtain ⟨A2, n2, c2⟩ := s2; obtain ⟨A3, n3, c3⟩ := s3; obtain ⟨A4, n4, c4⟩ := s4
  show Calls Try.prog 25 #[.agg #[.slice A1 n1 c1, .slice A2 n2 c2, .slice A3 n3 c3, .slice A4 n4 c4], _] w _
  generalize lendP p k1 k2 k3 = r at hch ⊢
  have HC := Lib.hid hch
  clear hch
  subst hk
  go_enter Try.func25, Try.ntmps25
  go_wp2_with fail
  generalize hW : (((w.alloc _).alloc _).alloc _) = W
  have hBW : Below w.heap.size w W := by subst hW; exact (by repeat (first | exact Below.refl _ _ | assumption | refine Below.drew ?_ | refine below_drewN ?_ _ | refine bl_alloc ?_ _ | refine Below.setCell ?_ (by first | (simp; done) | omega | (simp; omega)) _ | refine bl_then ?_ (by assumption)))
  have hzW : w.heap.size + 3 ≤ W.heap.size := by subst hW; simp
  have jr : Blk W (w.heap.size + 2) 26 nil4 := by subst hW; exact Blk.new_at _ _ (by simp)
  clear hW
  refine (HC.out W ((h.below hBW).more (by omega))).mono ?_
  rintro e w2 ⟨v, rfl, hb, hgot⟩
  have hB2 : Below w.heap.size w w2 := hBW.trans (Below.mono hb (by omega))
  have jr2 := jr.ext hb
  have hgot := hgot.down (show w.heap.size ≤ W.heap.size by omega)
  clear jr hBW hb
  have hc0 := jr2.cell 0
  have hc1 := jr2.cell 1
  have hc2 := jr2.cell 2
  have hc3 := jr2.cell 3
  have hf0 := jr2.frozen 0
  have hf1 := jr2.frozen 1
  have hf2 := jr2.frozen 2
  have hf3 := jr2.frozen 3
  rcases hgot with ⟨hr, rfl⟩ | ⟨q, ⟨D1, m1, d1⟩, ⟨D2, m2, d2⟩, ⟨D3, m3, d3⟩, ⟨D4, m4, d4⟩, hr, rfl, hp⟩
  · have HR := Lib.hid hr
    clear hr
    unfold nilV
    go_wp2
    generalize hW4 : ((((w2.setCell ⟨w.heap.size + 2, 0, none⟩ _).setCell ⟨w.heap.size + 2, 1, none⟩ _).setCell ⟨w.heap.size + 2, 2, none⟩ _).setCell ⟨w.heap.size + 2, 3, none⟩ _) = w4
    have j4 : Blk w4 (w.heap.size + 2) 26 nil4 := by subst hW4; exact jr2.set4 _ _ _ _
    have hB4 : Below w.heap.size w w4 := by subst hW4; exact below_set4 hB2 (by omega) _ _ _ _
    clear hc0 hc1 hc2 hc3
    have hc0 := j4.cell 0
    have hc1 := j4.cell 1
    have hc2 := j4.cell 2
    have hc3 := j4.cell 3
    exact bodyPost_ret (v := .tuple #[nilV, .int .i64 250]) (by simp [results, Try.results25, go_sem, hc0, hc1, hc2, hc3, nilV]) rfl ⟨_, rfl, hB4, .inl ⟨HR.out, rfl⟩⟩
  · have HR := Lib.hid hr
    have HP := Lib.hid hp
    clear hr hp
    simp only [poolV, Sl.v]
    go_wp2
    generalize hW4 : ((((w2.setCell ⟨w.heap.size + 2, 0, none⟩ _).setCell ⟨w.heap.size + 2, 1, none⟩ _).setCell ⟨w.heap.size + 2, 2, none⟩ _).setCell ⟨w.heap.size + 2, 3, none⟩ _) = w4
    have j4 : Blk w4 (w.heap.size + 2) 26 #[.slice D1 m1 d1, .slice D2 m2 d2, .slice D3 m3 d3, .slice D4 m4 d4] := by subst hW4; exact jr2.set4 _ _ _ _
    have hB4 : Below w.heap.size w w4 := by subst hW4; exact below_set4 hB2 (by omega) _ _ _ _
    have hp4 := by
      have hp4 := HP.out.set4 jr2 (.slice D1 m1 d1) (.slice D2 m2 d2) (.slice D3 m3 d3) (.slice D4 m4 d4)
      rw [hW4] at hp4
      exact hp4
    clear hc0 hc1 hc2 hc3
    have hc0 := j4.cell 0
    have hc1 := j4.cell 1
    have hc2 := j4.cell 2
    have hc3 := j4.cell 3
    exact bodyPost_ret (v := .tuple #[poolV ⟨D1, m1, d1⟩ ⟨D2, m2, d2⟩ ⟨D3, m3, d3⟩ ⟨D4, m4, d4⟩, .int .i64 0]) (by simp [results, Try.results25, go_sem, hc0, hc1, hc2, hc3]) rfl ⟨_, rfl, hB4, .inr ⟨_, _, _, _, _, HR.out, rfl, hp4⟩⟩

set_option maxHeartbeats 1000000 in
theorem do_1 (s1 s2 s3 s4 : Sl) (p : Pool) (k0 k1 k2 k3 k4 : Int) (w : World) (h : PoolR w w.heap.size s1 s2 s3 s4 p) (hk : k0 = 1) :
    Calls Try.prog 25 #[poolV s1 s2 s3 s4, .agg #[.int .i64 k0, .int .i64 k1, .int .i64 k2, .int .i64 k3, .int .i64 k4]] w (PoolRet w (returnP p k1 k2 k3)) := by
  have hch := return_any s1 s2 s3 s4 p k1 k2 k3
  obtain ⟨A1, n1, c1⟩ := s1; obtain ⟨A2, n2, c2⟩ := s2; obtain ⟨A3, n3, c3⟩ := s3; obtain ⟨A4, n4, c4⟩ := s4
  show Calls Try.prog 25 #[.agg #[.slice A1 n1 c1, .slice A2 n2 c2, .slice A3 n3 c3, .slice A4 n4 c4], _] w _
  generalize returnP p k1 k2 k3 = r at hch ⊢
  have HC := Lib.hid hch
  clear hch
  subst hk
  go_enter Try.func25, Try.ntmps25
  go_wp2_with fail
  generalize hW : (((w.alloc _).alloc _).alloc _) = W
  have hBW : Below w.heap.size w W := by subst hW; exact (by repeat (first | exact Below.refl _ _ | assumption | refine Below.drew ?_ | refine below_drewN ?_ _ | refine bl_alloc ?_ _ | refine Below.setCell ?_ (by first | (simp; done) | omega | (simp; omega)) _ | refine bl_then ?_ (by assumption)))
  have hzW : w.heap.size + 3 ≤ W.heap.size := by subst hW; simp
  have jr : Blk W (w.heap.size + 2) 26 nil4 := by subst hW; exact Blk.new_at _ _ (by simp)
  clear hW
  refine (HC.out W ((h.below hBW).more (by omega))).mono ?_
  rintro e w2 ⟨v, rfl, hb, hgot⟩
  have hB2 : Below w.heap.size w w2 := hBW.trans (Below.mono hb (by omega))
  have jr2 := jr.ext hb
  have hgot := hgot.down (show w.heap.size ≤ W.heap.size by omega)
  clear jr hBW hb
  have hc0 := jr2.cell 0
  have hc1 := jr2.cell 1
  have hc2 := jr2.cell 2
  have hc3 := jr2.cell 3
  have hf0 := jr2.frozen 0
  have hf1 := jr2.frozen 1
  have hf2 := jr2.frozen 2
  have hf3 := jr2.frozen 3
  rcases hgot with ⟨hr, rfl⟩ | ⟨q, ⟨D1, m1, d1⟩, ⟨D2, m2, d2⟩, ⟨D3, m3, d3⟩, ⟨D4, m4, d4⟩, hr, rfl, hp⟩
  · have HR := Lib.hid hr
    clear hr
    unfold nilV
    go_wp2
    generalize hW4 : ((((w2.setCell ⟨w.heap.size + 2, 0, none⟩ _).setCell ⟨w.heap.size + 2, 1, none⟩ _).setCell ⟨w.heap.size + 2, 2, none⟩ _).setCell ⟨w.heap.size + 2, 3, none⟩ _) = w4
    have j4 : Blk w4 (w.heap.size + 2) 26 nil4 := by subst hW4; exact jr2.set4 _ _ _ _
    have hB4 : Below w.heap.size w w4 := by subst hW4; exact below_set4 hB2 (by omega) _ _ _ _
    clear hc0 hc1 hc2 hc3
    have hc0 := j4.cell 0
    have hc1 := j4.cell 1
    have hc2 := j4.cell 2
    have hc3 := j4.cell 3
    exact bodyPost_ret (v := .tuple #[nilV, .int .i64 250]) (by simp [results, Try.results25, go_sem, hc0, hc1, hc2, hc3, nilV]) rfl ⟨_, rfl, hB4, .inl ⟨HR.out, rfl⟩⟩
  · have HR := Lib.hid hr
    have HP := Lib.hid hp
    clear hr hp
    simp only [poolV, Sl.v]
    go_wp2
    generalize hW4 : ((((w2.setCell ⟨w.heap.size + 2, 0, none⟩ _).setCell ⟨w.heap.size + 2, 1, none⟩ _).setCell ⟨w.heap.size + 2, 2, none⟩ _).setCell ⟨w.heap.size + 2, 3, none⟩ _) = w4
    have j4 : Blk w4 (w.heap.size + 2) 26 #[.slice D1 m1 d1, .slice D2 m2 d2, .slice D3 m3 d3, .slice D4 m4 d4] := by subst hW4; exact jr2.set4 _ _ _ _
    have hB4 : Below w.heap.size w w4 := by subst hW4; exact below_set4 hB2 (by omega) _ _ _ _
    have hp4 := by
      have hp4 := HP.out.set4 jr2 (.slice D1 m1 d1) (.slice D2 m2 d2) (.slice D3 m3 d3) (.slice D4 m4 d4)
      rw [hW4] at hp4
      exact hp4
    clear hc0 hc1 hc2 hc3
    have hc0 := j4.cell 0
    have hc1 := j4.cell 1
    have hc2 := j4.cell 2
    have hc3 := j4.cell 3
    exact bodyPost_ret (v := .tuple #[poolV ⟨D1, m1, d1⟩ ⟨D2, m2, d2⟩ ⟨D3, m3, d3⟩ ⟨D4, m4, d4⟩, .int .i64 0]) (by simp [results, Try.results25, go_sem, hc0, hc1, hc2, hc3]) rfl ⟨_, rfl, hB4, .inr ⟨_, _, _, _, _, HR.out, rfl, hp4⟩⟩

set_option maxHeartbeats 1000000 in
theorem do_2 (s1 s2 s3 s4 : Sl) (p : Pool) (k0 k1 k2 k3 k4 : Int) (w : World) (h : PoolR w w.heap.size s1 s2 s3 s4 p) (hk : k0 = 2) :
    Calls Try.prog 25 #[poolV s1 s2 s3 s4, .agg #[.int .i64 k0, .int .i64 k1, .int .i64 k2, .int .i64 k3, .int .i64 k4]] w (PoolRet w (tradeP p k1 k2 k3 k4)) := by
  have hch := trade_any s1 s2 s3 s4 p k1 k2 k3 k4
  obtain ⟨A1, n1, c1⟩ := s1; obtain ⟨A2, n2, c2⟩ := s2; obtain ⟨A3, n3, c3⟩ := s3; obtain ⟨A4, n4, c4⟩ := s4
  show Calls Try.prog 25 #[.agg #[.slice A1 n1 c1, .slice A2 n2 c2, .slice A3 n3 c3, .slice A4 n4 c4], _] w _
  generalize tradeP p k1 k2 k3 k4 = r at hch ⊢
  have HC := Lib.hid hch
  clear hch
  subst hk
  go_enter Try.func25, Try.ntmps25
  go_wp2_with fail
  generalize hW : (((w.alloc _).alloc _).alloc _) = W
  have hBW : Below w.heap.size w W := by subst hW; exact (by repeat (first | exact Below.refl _ _ | assumption | refine Below.drew ?_ | refine below_drewN ?_ _ | refine bl_alloc ?_ _ | refine Below.setCell ?_ (by first | (simp; done) | omega | (simp; omega)) _ | refine bl_then ?_ (by assumption)))
  have hzW : w.heap.size + 3 ≤ W.heap.size := by subst hW; simp
  have jr : Blk W (w.heap.size + 2) 26 nil4 := by subst hW; exact Blk.new_at _ _ (by simp)
  clear hW
  refine (HC.out W ((h.below hBW).more (by omega))).mono ?_
  rintro e w2 ⟨v, rfl, hb, hgot⟩
  have hB2 : Below w.heap.size w w2 := hBW.trans (Below.mono hb (by omega))
  have jr2 := jr.ext hb
  have hgot := hgot.down (show w.heap.size ≤ W.heap.size by omega)
  clear jr hBW hb
  have hc0 := jr2.cell 0
  have hc1 := jr2.cell 1
  have hc2 := jr2.cell 2
  have hc3 := jr2.cell 3
  have hf0 := jr2.frozen 0
  have hf1 := jr2.frozen 1
  have hf2 := jr2.frozen 2
  have hf3 := jr2.frozen 3
  rcases hgot with ⟨hr, rfl⟩ | ⟨q, ⟨D1, m1, d1⟩, ⟨D2, m2, d2⟩, ⟨D3, m3, d3⟩, ⟨D4, m4, d4⟩, hr, rfl, hp⟩
  · have HR := Lib.hid hr
    clear hr
    unfold nilV
    go_wp2
    generalize hW4 : ((((w2.setCell ⟨w.heap.size + 2, 0, none⟩ _).setCell ⟨w.heap.size + 2, 1, none⟩ _).setCell ⟨w.heap.size + 2, 2, none⟩ _).setCell ⟨w.heap.size + 2, 3, none⟩ _) = w4
    have j4 : Blk w4 (w.heap.size + 2) 26 nil4 := by subst hW4; exact jr2.set4 _ _ _ _
    have hB4 : Below w.heap.size w w4 := by subst hW4; exact below_set4 hB2 (by omega) _ _ _ _
    clear hc0 hc1 hc2 hc3
    have hc0 := j4.cell 0
    have hc1 := j4.cell 1
    have hc2 := j4.cell 2
    have hc3 := j4.cell 3
    exact bodyPost_ret (v := .tuple #[nilV, .int .i64 250]) (by simp [results, Try.results25, go_sem, hc0, hc1, hc2, hc3, nilV]) rfl ⟨_, rfl, hB4, .inl ⟨HR.out, rfl⟩⟩
  · have HR := Lib.hid hr
    have HP := Lib.hid hp
    clear hr hp
    simp only [poolV, Sl.v]
    go_wp2
    generalize hW4 : ((((w2.setCell ⟨w.heap.size + 2, 0, none⟩ _).setCell ⟨w.heap.size + 2, 1, none⟩ _).setCell ⟨w.heap.size + 2, 2, none⟩ _).setCell ⟨w.heap.size + 2, 3, none⟩ _) = w4
    have j4 : Blk w4 (w.heap.size + 2) 26 #[.slice D1 m1 d1, .slice D2 m2 d2, .slice D3 m3 d3, .slice D4 m4 d4] := by subst hW4; exact jr2.set4 _ _ _ _
    have hB4 : Below w.heap.size w w4 := by subst hW4; exact below_set4 hB2 (by omega) _ _ _ _
    have hp4 := by
      have hp4 := HP.out.set4 jr2 (.slice D1 m1 d1) (.slice D2 m2 d2) (.slice D3 m3 d3) (.slice D4 m4 d4)
      rw [hW4] at hp4
      exact hp4
    clear hc0 hc1 hc2 hc3
    have hc0 := j4.cell 0
    have hc1 := j4.cell 1
    have hc2 := j4.cell 2
    have hc3 := j4.cell 3
    exact bodyPost_ret (v := .tuple #[poolV ⟨D1, m1, d1⟩ ⟨D2, m2, d2⟩ ⟨D3, m3, d3⟩ ⟨D4, m4, d4⟩, .int .i64 0]) (by simp [results, Try.results25, go_sem, hc0, hc1, hc2, hc3]) rfl ⟨_, rfl, hB4, .inr ⟨_, _, _, _, _, HR.out, rfl, hp4⟩⟩

set_option maxHeartbeats 1000000 in
theorem do_3 (s1 s2 s3 s4 : Sl) (p : Pool) (k0 k1 k2 k3 k4 : Int) (w : World) (h : PoolR w w.heap.size s1 s2 s3 s4 p) (hk : k0 = 3) :
    Calls Try.prog 25 #[poolV s1 s2 s3 s4, .agg #[.int .i64 k0, .int .i64 k1, .int .i64 k2, .int .i64 k3, .int .i64 k4]] w (PoolRet w (useP p k1 k3)) := by
  have hch := use_any s1 s2 s3 s4 p k1 k3
  obtain ⟨A1, n1, c1⟩ := s1; obtain ⟨A2, n2, c2⟩ := s2; obtain ⟨A3, n3, c3⟩ := s3; obtain ⟨A4, n4, c4⟩ := s4
  show Calls Try.prog 25 #[.agg #[.slice A1 n1 c1, .slice A2 n2 c2, .slice A3 n3 c3, .slice A4 n4 c4], _] w _
  generalize useP p k1 k3 = r at hch ⊢
  have HC := Lib.hid hch
  clear hch
  subst hk
  go_enter Try.func25, Try.ntmps25
  go_wp2_with fail
  generalize hW : (((w.alloc _).alloc _).alloc _) = W
  have hBW : Below w.heap.size w W := by subst hW; exact (by repeat (first | exact Below.refl _ _ | assumption | refine Below.drew ?_ | refine below_drewN ?_ _ | refine bl_alloc ?_ _ | refine Below.setCell ?_ (by first | (simp; done) | omega | (simp; omega)) _ | refine bl_then ?_ (by assumption)))
  have hzW : w.heap.size + 3 ≤ W.heap.size := by subst hW; simp
  have jr : Blk W (w.heap.size + 2) 26 nil4 := by subst hW; exact Blk.new_at _ _ (by simp)
  clear hW
  refine (HC.out W ((h.below hBW).more (by omega))).mono ?_
  rintro e w2 ⟨v, rfl, hb, hgot⟩
  have hB2 : Below w.heap.size w w2 := hBW.trans (Below.mono hb (by omega))
  have jr2 := jr.ext hb
  have hgot := hgot.down (show w.heap.size ≤ W.heap.size by omega)
  clear jr hBW hb
  have hc0 := jr2.cell 0
  have hc1 := jr2.cell 1
  have hc2 := jr2.cell 2
  have hc3 := jr2.cell 3
  have hf0 := jr2.frozen 0
  have hf1 := jr2.frozen 1
  have hf2 := jr2.frozen 2
  have hf3 := jr2.frozen 3
  rcases hgot with ⟨hr, rfl⟩ | ⟨q, ⟨D1, m1, d1⟩, ⟨D2, m2, d2⟩, ⟨D3, m3, d3⟩, ⟨D4, m4, d4⟩, hr, rfl, hp⟩
  · have HR := Lib.hid hr
    clear hr
    unfold nilV
    go_wp2
    generalize hW4 : ((((w2.setCell ⟨w.heap.size + 2, 0, none⟩ _).setCell ⟨w.heap.size + 2, 1, none⟩ _).setCell ⟨w.heap.size + 2, 2, none⟩ _).setCell ⟨w.heap.size + 2, 3, none⟩ _) = w4
    have j4 : Blk w4 (w.heap.size + 2) 26 nil4 := by subst hW4; exact jr2.set4 _ _ _ _
    have hB4 : Below w.heap.size w w4 := by subst hW4; exact below_set4 hB2 (by omega) _ _ _ _
    clear hc0 hc1 hc2 hc3
    have hc0 := j4.cell 0
    have hc1 := j4.cell 1
    have hc2 := j4.cell 2
    have hc3 := j4.cell 3
    exact bodyPost_ret (v := .tuple #[nilV, .int .i64 250]) (by simp [results, Try.results25, go_sem, hc0, hc1, hc2, hc3, nilV]) rfl ⟨_, rfl, hB4, .inl ⟨HR.out, rfl⟩⟩
  · have HR := Lib.hid hr
    have HP := Lib.hid hp
    clear hr hp
    simp only [poolV, Sl.v]
    go_wp2
    generalize hW4 : ((((w2.setCell ⟨w.heap.size + 2, 0, none⟩ _).setCell ⟨w.heap.size + 2, 1, none⟩ _).setCell ⟨w.heap.size + 2, 2, none⟩ _).setCell ⟨w.heap.size + 2, 3, none⟩ _) = w4
    have j4 : Blk w4 (w.heap.size + 2) 26 #[.slice D1 m1 d1, .slice D2 m2 d2, .slice D3 m3 d3, .slice D4 m4 d4] := by subst hW4; exact jr2.set4 _ _ _ _
    have hB4 : Below w.heap.size w w4 := by subst hW4; exact below_set4 hB2 (by omega) _ _ _ _
    have hp4 := by
      have hp4 := HP.out.set4 jr2 (.slice D1 m1 d1) (.slice D2 m2 d2) (.slice D3 m3 d3) (.slice D4 m4 d4)
      rw [hW4] at hp4
      exact hp4
    clear hc0 hc1 hc2 hc3
    have hc0 := j4.cell 0
    have hc1 := j4.cell 1
    have hc2 := j4.cell 2
    have hc3 := j4.cell 3
    exact bodyPost_ret (v := .tuple #[poolV ⟨D1, m1, d1⟩ ⟨D2, m2, d2⟩ ⟨D3, m3, d3⟩ ⟨D4, m4, d4⟩, .int .i64 0]) (by simp [results, Try.results25, go_sem, hc0, hc1, hc2, hc3]) rfl ⟨_, rfl, hB4, .inr ⟨_, _, _, _, _, HR.out, rfl, hp4⟩⟩

set_option maxHeartbeats 1000000 in
theorem do_4 (s1 s2 s3 s4 : Sl) (p : Pool) (k0 k1 k2 k3 k4 : Int) (w : World) (h : PoolR w w.heap.size s1 s2 s3 s4 p) (hk0 : ¬ k0 = 0) (hk1 : ¬ k0 = 1) (hk2 : ¬ k0 = 2) (hk3 : ¬ k0 = 3) :
    Calls Try.prog 25 #[poolV s1 s2 s3 s4, .agg #[.int .i64 k0, .int .i64 k1, .int .i64 k2, .int .i64 k3, .int .i64 k4]] w (PoolRet w (freeP p k1 k3)) := by
  have hch := free_any s1 s2 s3 s4 p k1 k3
  obtain ⟨A1, n1, c1⟩ := s1; obtain ⟨A2, n2, c2⟩ := s2; obtain ⟨A3, n3, c3⟩ := s3; obtain ⟨A4, n4, c4⟩ := s4
  show Calls Try.prog 25 #[.agg #[.slice A1 n1 c1, .slice A2 n2 c2, .slice A3 n3 c3, .slice A4 n4 c4], _] w _
  generalize freeP p k1 k3 = r at hch ⊢
  have HC := Lib.hid hch
  clear hch
  have hb0 : (k0 == 0) = false := by simp; omega
  have hb1 : (k0 == 1) = false := by simp; omega
  have hb2 : (k0 == 2) = false := by simp; omega
  have hb3 : (k0 == 3) = false := by simp; omega
  clear hk0 hk1 hk2 hk3
  go_enter Try.func25, Try.ntmps25
  go_wp2_with fail
  generalize hW : (((w.alloc _).alloc _).alloc _) = W
  have hBW : Below w.heap.size w W := by subst hW; exact (by repeat (first | exact Below.refl _ _ | assumption | refine Below.drew ?_ | refine below_drewN ?_ _ | refine bl_alloc ?_ _ | refine Below.setCell ?_ (by first | (simp; done) | omega | (simp; omega)) _ | refine bl_then ?_ (by assumption)))
  have hzW : w.heap.size + 3 ≤ W.heap.size := by subst hW; simp
  have jr : Blk W (w.heap.size + 2) 26 nil4 := by subst hW; exact Blk.new_at _ _ (by simp)
  clear hW
  refine (HC.out W ((h.below hBW).more (by omega))).mono ?_
  rintro e w2 ⟨v, rfl, hb, hgot⟩
  have hB2 : Below w.heap.size w w2 := hBW.trans (Below.mono hb (by omega))
  have jr2 := jr.ext hb
  have hgot := hgot.down (show w.heap.size ≤ W.heap.size by omega)
  clear jr hBW hb
  have hc0 := jr2.cell 0
  have hc1 := jr2.cell 1
  have hc2 := jr2.cell 2
  have hc3 := jr2.cell 3
  have hf0 := jr2.frozen 0
  have hf1 := jr2.frozen 1
  have hf2 := jr2.frozen 2
  have hf3 := jr2.frozen 3
  rcases hgot with ⟨hr, rfl⟩ | ⟨q, ⟨D1, m1, d1⟩, ⟨D2, m2, d2⟩, ⟨D3, m3, d3⟩, ⟨D4, m4, d4⟩, hr, rfl, hp⟩
  · have HR := Lib.hid hr
    clear hr
    unfold nilV
    go_wp2
    generalize hW4 : ((((w2.setCell ⟨w.heap.size + 2, 0, none⟩ _).setCell ⟨w.heap.size + 2, 1, none⟩ _).setCell ⟨w.heap.size + 2, 2, none⟩ _).setCell ⟨w.heap.size + 2, 3, none⟩ _) = w4
    have j4 : Blk w4 (w.heap.size + 2) 26 nil4 := by subst hW4; exact jr2.set4 _ _ _ _
    have hB4 : Below w.heap.size w w4 := by subst hW4; exact below_set4 hB2 (by omega) _ _ _ _
    clear hc0 hc1 hc2 hc3
    have hc0 := j4.cell 0
    have hc1 := j4.cell 1
    have hc2 := j4.cell 2
    have hc3 := j4.cell 3
    exact bodyPost_ret (v := .tuple #[nilV, .int .i64 250]) (by simp [results, Try.results25, go_sem, hc0, hc1, hc2, hc3, nilV]) rfl ⟨_, rfl, hB4, .inl ⟨HR.out, rfl⟩⟩
  · have HR := Lib.hid hr
    have HP := Lib.hid hp
    clear hr hp
    simp only [poolV, Sl.v]
    go_wp2
    generalize hW4 : ((((w2.setCell ⟨w.heap.size + 2, 0, none⟩ _).setCell ⟨w.heap.size + 2, 1, none⟩ _).setCell ⟨w.heap.size + 2, 2, none⟩ _).setCell ⟨w.heap.size + 2, 3, none⟩ _) = w4
    have j4 : Blk w4 (w.heap.size + 2) 26 #[.slice D1 m1 d1, .slice D2 m2 d2, .slice D3 m3 d3, .slice D4 m4 d4] := by subst hW4; exact jr2.set4 _ _ _ _
    have hB4 : Below w.heap.size w w4 := by subst hW4; exact below_set4 hB2 (by omega) _ _ _ _
    have hp4 := by
      have hp4 := HP.out.set4 jr2 (.slice D1 m1 d1) (.slice D2 m2 d2) (.slice D3 m3 d3) (.slice D4 m4 d4)
      rw [hW4] at hp4
      exact hp4
    clear hc0 hc1 hc2 hc3
    have hc0 := j4.cell 0
    have hc1 := j4.cell 1
    have hc2 := j4.cell 2
    have hc3 := j4.cell 3
    exact bodyPost_ret (v := .tuple #[poolV ⟨D1, m1, d1⟩ ⟨D2, m2, d2⟩ ⟨D3, m3, d3⟩ ⟨D4, m4, d4⟩, .int .i64 0]) (by simp [results, Try.results25, go_sem, hc0, hc1, hc2, hc3]) rfl ⟨_, rfl, hB4, .inr ⟨_, _, _, _, _, HR.out, rfl, hp4⟩⟩

theorem do_any (s1 s2 s3 s4 : Sl) (p : Pool) (d : Deed) (w : World) (h : PoolR w w.heap.size s1 s2 s3 s4 p) : Calls Try.prog 25 #[poolV s1 s2 s3 s4, deedV d] w (PoolRet w (doP p d)) := by
  unfold doP
  by_cases hk0 : d.kind = 0
  · rw [if_pos hk0]
    exact do_0 s1 s2 s3 s4 p _ _ _ _ _ w h hk0
  rw [if_neg hk0]
  by_cases hk1 : d.kind = 1
  · rw [if_pos hk1]
    exact do_1 s1 s2 s3 s4 p _ _ _ _ _ w h hk1
  rw [if_neg hk1]
  by_cases hk2 : d.kind = 2
  · rw [if_pos hk2]
    exact do_2 s1 s2 s3 s4 p _ _ _ _ _ w h hk2
  rw [if_neg hk2]
  by_cases hk3 : d.kind = 3
  · rw [if_pos hk3]
    exact do_3 s1 s2 s3 s4 p _ _ _ _ _ w h hk3
  rw [if_neg hk3]
  exact do_4 s1 s2 s3 s4 p _ _ _ _ _ w h hk0 hk1 hk2 hk3

def rdoP (p : Pool) (d : Deed) : Option Pool := if d.kind = 0 then rlendP p d.fr d.tt d.units else if d.kind = 1 then rreturnP p d.fr d.tt d.units else if d.kind = 2 then rtradeP p d.fr d.tt d.units d.cents else if d.kind = 3 then ruseP p d.fr d.units else rfreeP p d.fr d.units
set_option maxHeartbeats 1000000 in
theorem rdo_0 (s1 s2 s3 s4 : Sl) (p : Pool) (k0 k1 k2 k3 k4 : Int) (w : World) (h : PoolR w w.heap.size s1 s2 s3 s4 p) (hk : k0 = 0) :
    Calls Try.prog 26 #[poolV s1 s2 s3 s4, .agg #[.int .i64 k0, .int .i64 k1, .int .i64 k2, .int .i64 k3, .int .i64 k4]] w (PoolRetA w (rlendP p k1 k2 k3)) := by
  have hch := rlend_any s1 s2 s3 s4 p k1 k2 k3
  obtain ⟨A1, n1, c1⟩ := s1; obtain ⟨A2, n2, c2⟩ := s2; obtain ⟨A3, n3, c3⟩ := s3; obtain ⟨A4, n4, c4⟩ := s4
  show Calls Try.prog 26 #[.agg #[.slice A1 n1 c1, .slice A2 n2 c2, .slice A3 n3 c3, .slice A4 n4 c4], _] w _
  generalize rlendP p k1 k2 k3 = r at hch ⊢
  have HC := Lib.hid hch
  clear hch
  subst hk
  go_enter Try.func26, Try.ntmps26
  go_wp2_with fail
  generalize hW : (((w.alloc _).alloc _).alloc _) = W
  have hBW : Below w.heap.size w W := by subst hW; exact (by repeat (first | exact Below.refl _ _ | assumption | refine Below.drew ?_ | refine below_drewN ?_ _ | refine bl_alloc ?_ _ | refine Below.setCell ?_ (by first | (simp; done) | omega | (simp; omega)) _ | refine bl_then ?_ (by assumption)))
  have hzW : w.heap.size + 3 ≤ W.heap.size := by subst hW; simp
  have jr : Blk W (w.heap.size + 2) 26 nil4 := by subst hW; exact Blk.new_at _ _ (by simp)
  clear hW
  refine (HC.out W ((h.below hBW).more (by omega))).mono ?_
  rintro e w2 ⟨v, rfl, hb, hgot⟩
  have hB2 : Below w.heap.size w w2 := hBW.trans (Below.mono hb (by omega))
  have jr2 := jr.ext hb
  have hgot := hgot.down (show w.heap.size ≤ W.heap.size by omega)
  clear jr hBW hb
  have hc0 := jr2.cell 0
  have hc1 := jr2.cell 1
  have hc2 := jr2.cell 2
  have hc3 := jr2.cell 3
  have hf0 := jr2.frozen 0
  have hf1 := jr2.frozen 1
  have hf2 := jr2.frozen 2
  have hf3 := jr2.frozen 3
  rcases hgot with ⟨hr, rfl⟩ | ⟨q, ⟨D1, m1, d1⟩, ⟨D2, m2, d2⟩, ⟨D3, m3, d3⟩, ⟨D4, m4, d4⟩, hr, rfl, hp⟩
  · have HR := Lib.hid hr
    clear hr
    unfold nilV
    go_wp2
    generalize hW4 : ((((w2.setCell ⟨w.heap.size + 2, 0, none⟩ _).setCell ⟨w.heap.size + 2, 1, none⟩ _).setCell ⟨w.heap.size + 2, 2, none⟩ _).setCell ⟨w.heap.size + 2, 3, none⟩ _) = w4
    have j4 : Blk w4 (w.heap.size + 2) 26 nil4 := by subst hW4; exact jr2.set4 _ _ _ _
    have hB4 : Below w.heap.size w w4 := by subst hW4; exact below_set4 hB2 (by omega) _ _ _ _
    clear hc0 hc1 hc2 hc3
    have hc0 := j4.cell 0
    have hc1 := j4.cell 1
    have hc2 := j4.cell 2
    have hc3 := j4.cell 3
    exact bodyPost_ret (v := .tuple #[nilV, .int .i64 250]) (by simp [results, Try.results26, go_sem, hc0, hc1, hc2, hc3, nilV]) rfl ⟨_, rfl, hB4, .inl ⟨HR.out, rfl⟩⟩
  · have HR := Lib.hid hr
    have HP := Lib.hid hp
    clear hr hp
    simp only [poolV, Sl.v]
    go_wp2
    generalize hW4 : ((((w2.setCell ⟨w.heap.size + 2, 0, none⟩ _).setCell ⟨w.heap.size + 2, 1, none⟩ _).setCell ⟨w.heap.size + 2, 2, none⟩ _).setCell ⟨w.heap.size + 2, 3, none⟩ _) = w4
    have j4 : Blk w4 (w.heap.size + 2) 26 #[.slice D1 m1 d1, .slice D2 m2 d2, .slice D3 m3 d3, .slice D4 m4 d4] := by subst hW4; exact jr2.set4 _ _ _ _
    have hB4 : Below w.heap.size w w4 := by subst hW4; exact below_set4 hB2 (by omega) _ _ _ _
    have hp4 := by
      have hp4 := HP.out.set4 jr2 (.slice D1 m1 d1) (.slice D2 m2 d2) (.slice D3 m3 d3) (.slice D4 m4 d4)
      rw [hW4] at hp4
      exact hp4
    clear hc0 hc1 hc2 hc3
    have hc0 := j4.cell 0
    have hc1 := j4.cell 1
    have hc2 := j4.cell 2
    have hc3 := j4.cell 3
    exact bodyPost_ret (v := .tuple #[poolV ⟨D1, m1, d1⟩ ⟨D2, m2, d2⟩ ⟨D3, m3, d3⟩ ⟨D4, m4, d4⟩, .int .i64 0]) (by simp [results, Try.results26, go_sem, hc0, hc1, hc2, hc3]) rfl ⟨_, rfl, hB4, .inr ⟨_, _, _, _, _, HR.out, rfl, hp4⟩⟩

set_option maxHeartbeats 1000000 in
theorem rdo_1 (s1 s2 s3 s4 : Sl) (p : Pool) (k0 k1 k2 k3 k4 : Int) (w : World) (h : PoolR w w.heap.size s1 s2 s3 s4 p) (hk : k0 = 1) :
    Calls Try.prog 26 #[poolV s1 s2 s3 s4, .agg #[.int .i64 k0, .int .i64 k1, .int .i64 k2, .int .i64 k3, .int .i64 k4]] w (PoolRetA w (rreturnP p k1 k2 k3)) := by
  have hch := rreturn_any s1 s2 s3 s4 p k1 k2 k3
  obtain ⟨A1, n1, c1⟩ := s1; obtain ⟨A2, n2, c2⟩ := s2; obtain ⟨A3, n3, c3⟩ := s3; obtain ⟨A4, n4, c4⟩ := s4
  show Calls Try.prog 26 #[.agg #[.slice A1 n1 c1, .slice A2 n2 c2, .slice A3 n3 c3, .slice A4 n4 c4], _] w _
  generalize rreturnP p k1 k2 k3 = r at hch ⊢
  have HC := Lib.hid hch
  clear hch
  subst hk
  go_enter Try.func26, Try.ntmps26
  go_wp2_with fail
  generalize hW : (((w.alloc _).alloc _).alloc _) = W
  have hBW : Below w.heap.size w W := by subst hW; exact (by repeat (first | exact Below.refl _ _ | assumption | refine Below.drew ?_ | refine below_drewN ?_ _ | refine bl_alloc ?_ _ | refine Below.setCell ?_ (by first | (simp; done) | omega | (simp; omega)) _ | refine bl_then ?_ (by assumption)))
  have hzW : w.heap.size + 3 ≤ W.heap.size := by subst hW; simp
  have jr : Blk W (w.heap.size + 2) 26 nil4 := by subst hW; exact Blk.new_at _ _ (by simp)
  clear hW
  refine (HC.out W ((h.below hBW).more (by omega))).mono ?_
  rintro e w2 ⟨v, rfl, hb, hgot⟩
  have hB2 : Below w.heap.size w w2 := hBW.trans (Below.mono hb (by omega))
  have jr2 := jr.ext hb
  have hgot := hgot.down (show w.heap.size ≤ W.heap.size by omega)
  clear jr hBW hb
  have hc0 := jr2.cell 0
  have hc1 := jr2.cell 1
  have hc2 := jr2.cell 2
  have hc3 := jr2.cell 3
  have hf0 := jr2.frozen 0
  have hf1 := jr2.frozen 1
  have hf2 := jr2.frozen 2
  have hf3 := jr2.frozen 3
  rcases hgot with ⟨hr, rfl⟩ | ⟨q, ⟨D1, m1, d1⟩, ⟨D2, m2, d2⟩, ⟨D3, m3, d3⟩, ⟨D4, m4, d4⟩, hr, rfl, hp⟩
  · have HR := Lib.hid hr
    clear hr
    unfold nilV
    go_wp2
    generalize hW4 : ((((w2.setCell ⟨w.heap.size + 2, 0, none⟩ _).setCell ⟨w.heap.size + 2, 1, none⟩ _).setCell ⟨w.heap.size + 2, 2, none⟩ _).setCell ⟨w.heap.size + 2, 3, none⟩ _) = w4
    have j4 : Blk w4 (w.heap.size + 2) 26 nil4 := by subst hW4; exact jr2.set4 _ _ _ _
    have hB4 : Below w.heap.size w w4 := by subst hW4; exact below_set4 hB2 (by omega) _ _ _ _
    clear hc0 hc1 hc2 hc3
    have hc0 := j4.cell 0
    have hc1 := j4.cell 1
    have hc2 := j4.cell 2
    have hc3 := j4.cell 3
    exact bodyPost_ret (v := .tuple #[nilV, .int .i64 250]) (by simp [results, Try.results26, go_sem, hc0, hc1, hc2, hc3, nilV]) rfl ⟨_, rfl, hB4, .inl ⟨HR.out, rfl⟩⟩
  · have HR := Lib.hid hr
    have HP := Lib.hid hp
    clear hr hp
    simp only [poolV, Sl.v]
    go_wp2
    generalize hW4 : ((((w2.setCell ⟨w.heap.size + 2, 0, none⟩ _).setCell ⟨w.heap.size + 2, 1, none⟩ _).setCell ⟨w.heap.size + 2, 2, none⟩ _).setCell ⟨w.heap.size + 2, 3, none⟩ _) = w4
    have j4 : Blk w4 (w.heap.size + 2) 26 #[.slice D1 m1 d1, .slice D2 m2 d2, .slice D3 m3 d3, .slice D4 m4 d4] := by subst hW4; exact jr2.set4 _ _ _ _
    have hB4 : Below w.heap.size w w4 := by subst hW4; exact below_set4 hB2 (by omega) _ _ _ _
    have hp4 := by
      have hp4 := HP.out.set4 jr2 (.slice D1 m1 d1) (.slice D2 m2 d2) (.slice D3 m3 d3) (.slice D4 m4 d4)
      rw [hW4] at hp4
      exact hp4
    clear hc0 hc1 hc2 hc3
    have hc0 := j4.cell 0
    have hc1 := j4.cell 1
    have hc2 := j4.cell 2
    have hc3 := j4.cell 3
    exact bodyPost_ret (v := .tuple #[poolV ⟨D1, m1, d1⟩ ⟨D2, m2, d2⟩ ⟨D3, m3, d3⟩ ⟨D4, m4, d4⟩, .int .i64 0]) (by simp [results, Try.results26, go_sem, hc0, hc1, hc2, hc3]) rfl ⟨_, rfl, hB4, .inr ⟨_, _, _, _, _, HR.out, rfl, hp4⟩⟩

set_option maxHeartbeats 1000000 in
theorem rdo_2 (s1 s2 s3 s4 : Sl) (p : Pool) (k0 k1 k2 k3 k4 : Int) (w : World) (h : PoolR w w.heap.size s1 s2 s3 s4 p) (hk : k0 = 2) :
    Calls Try.prog 26 #[poolV s1 s2 s3 s4, .agg #[.int .i64 k0, .int .i64 k1, .int .i64 k2, .int .i64 k3, .int .i64 k4]] w (PoolRetA w (rtradeP p k1 k2 k3 k4)) := by
  have hch := rtrade_any s1 s2 s3 s4 p k1 k2 k3 k4
  obtain ⟨A1, n1, c1⟩ := s1; obtain ⟨A2, n2, c2⟩ := s2; obtain ⟨A3, n3, c3⟩ := s3; obtain ⟨A4, n4, c4⟩ := s4
  show Calls Try.prog 26 #[.agg #[.slice A1 n1 c1, .slice A2 n2 c2, .slice A3 n3 c3, .slice A4 n4 c4], _] w _
  generalize rtradeP p k1 k2 k3 k4 = r at hch ⊢
  have HC := Lib.hid hch
  clear hch
  subst hk
  go_enter Try.func26, Try.ntmps26
  go_wp2_with fail
  generalize hW : (((w.alloc _).alloc _).alloc _) = W
  have hBW : Below w.heap.size w W := by subst hW; exact (by repeat (first | exact Below.refl _ _ | assumption | refine Below.drew ?_ | refine below_drewN ?_ _ | refine bl_alloc ?_ _ | refine Below.setCell ?_ (by first | (simp; done) | omega | (simp; omega)) _ | refine bl_then ?_ (by assumption)))
  have hzW : w.heap.size + 3 ≤ W.heap.size := by subst hW; simp
  have jr : Blk W (w.heap.size + 2) 26 nil4 := by subst hW; exact Blk.new_at _ _ (by simp)
  clear hW
  refine (HC.out W ((h.below hBW).more (by omega))).mono ?_
  rintro e w2 ⟨v, rfl, hb, hgot⟩
  have hB2 : Below w.heap.size w w2 := hBW.trans (Below.mono hb (by omega))
  have jr2 := jr.ext hb
  have hgot := hgot.down (show w.heap.size ≤ W.heap.size by omega)
  clear jr hBW hb
  have hc0 := jr2.cell 0
  have hc1 := jr2.cell 1
  have hc2 := jr2.cell 2
  have hc3 := jr2.cell 3
  have hf0 := jr2.frozen 0
  have hf1 := jr2.frozen 1
  have hf2 := jr2.frozen 2
  have hf3 := jr2.frozen 3
  rcases hgot with ⟨hr, rfl⟩ | ⟨q, ⟨D1, m1, d1⟩, ⟨D2, m2, d2⟩, ⟨D3, m3, d3⟩, ⟨D4, m4, d4⟩, hr, rfl, hp⟩
  · have HR := Lib.hid hr
    clear hr
    unfold nilV
    go_wp2
    generalize hW4 : ((((w2.setCell ⟨w.heap.size + 2, 0, none⟩ _).setCell ⟨w.heap.size + 2, 1, none⟩ _).setCell ⟨w.heap.size + 2, 2, none⟩ _).setCell ⟨w.heap.size + 2, 3, none⟩ _) = w4
    have j4 : Blk w4 (w.heap.size + 2) 26 nil4 := by subst hW4; exact jr2.set4 _ _ _ _
    have hB4 : Below w.heap.size w w4 := by subst hW4; exact below_set4 hB2 (by omega) _ _ _ _
    clear hc0 hc1 hc2 hc3
    have hc0 := j4.cell 0
    have hc1 := j4.cell 1
    have hc2 := j4.cell 2
    have hc3 := j4.cell 3
    exact bodyPost_ret (v := .tuple #[nilV, .int .i64 250]) (by simp [results, Try.results26, go_sem, hc0, hc1, hc2, hc3, nilV]) rfl ⟨_, rfl, hB4, .inl ⟨HR.out, rfl⟩⟩
  · have HR := Lib.hid hr
    have HP := Lib.hid hp
    clear hr hp
    simp only [poolV, Sl.v]
    go_wp2
    generalize hW4 : ((((w2.setCell ⟨w.heap.size + 2, 0, none⟩ _).setCell ⟨w.heap.size + 2, 1, none⟩ _).setCell ⟨w.heap.size + 2, 2, none⟩ _).setCell ⟨w.heap.size + 2, 3, none⟩ _) = w4
    have j4 : Blk w4 (w.heap.size + 2) 26 #[.slice D1 m1 d1, .slice D2 m2 d2, .slice D3 m3 d3, .slice D4 m4 d4] := by subst hW4; exact jr2.set4 _ _ _ _
    have hB4 : Below w.heap.size w w4 := by subst hW4; exact below_set4 hB2 (by omega) _ _ _ _
    have hp4 := by
      have hp4 := HP.out.set4 jr2 (.slice D1 m1 d1) (.slice D2 m2 d2) (.slice D3 m3 d3) (.slice D4 m4 d4)
      rw [hW4] at hp4
      exact hp4
    clear hc0 hc1 hc2 hc3
    have hc0 := j4.cell 0
    have hc1 := j4.cell 1
    have hc2 := j4.cell 2
    have hc3 := j4.cell 3
    exact bodyPost_ret (v := .tuple #[poolV ⟨D1, m1, d1⟩ ⟨D2, m2, d2⟩ ⟨D3, m3, d3⟩ ⟨D4, m4, d4⟩, .int .i64 0]) (by simp [results, Try.results26, go_sem, hc0, hc1, hc2, hc3]) rfl ⟨_, rfl, hB4, .inr ⟨_, _, _, _, _, HR.out, rfl, hp4⟩⟩

set_option maxHeartbeats 1000000 in
theorem rdo_3 (s1 s2 s3 s4 : Sl) (p : Pool) (k0 k1 k2 k3 k4 : Int) (w : World) (h : PoolR w w.heap.size s1 s2 s3 s4 p) (hk : k0 = 3) :
    Calls Try.prog 26 #[poolV s1 s2 s3 s4, .agg #[.int .i64 k0, .int .i64 k1, .int .i64 k2, .int .i64 k3, .int .i64 k4]] w (PoolRetA w (ruseP p k1 k3)) := by
  have hch := ruse_any s1 s2 s3 s4 p k1 k3
  obtain ⟨A1, n1, c1⟩ := s1; obtain ⟨A2, n2, c2⟩ := s2; obtain ⟨A3, n3, c3⟩ := s3; obtain ⟨A4, n4, c4⟩ := s4
  show Calls Try.prog 26 #[.agg #[.slice A1 n1 c1, .slice A2 n2 c2, .slice A3 n3 c3, .slice A4 n4 c4], _] w _
  generalize ruseP p k1 k3 = r at hch ⊢
  have HC := Lib.hid hch
  clear hch
  subst hk
  go_enter Try.func26, Try.ntmps26
  go_wp2_with fail
  generalize hW : (((w.alloc _).alloc _).alloc _) = W
  have hBW : Below w.heap.size w W := by subst hW; exact (by repeat (first | exact Below.refl _ _ | assumption | refine Below.drew ?_ | refine below_drewN ?_ _ | refine bl_alloc ?_ _ | refine Below.setCell ?_ (by first | (simp; done) | omega | (simp; omega)) _ | refine bl_then ?_ (by assumption)))
  have hzW : w.heap.size + 3 ≤ W.heap.size := by subst hW; simp
  have jr : Blk W (w.heap.size + 2) 26 nil4 := by subst hW; exact Blk.new_at _ _ (by simp)
  clear hW
  refine (HC.out W ((h.below hBW).more (by omega))).mono ?_
  rintro e w2 ⟨v, rfl, hb, hgot⟩
  have hB2 : Below w.heap.size w w2 := hBW.trans (Below.mono hb (by omega))
  have jr2 := jr.ext hb
  have hgot := hgot.down (show w.heap.size ≤ W.heap.size by omega)
  clear jr hBW hb
  have hc0 := jr2.cell 0
  have hc1 := jr2.cell 1
  have hc2 := jr2.cell 2
  have hc3 := jr2.cell 3
  have hf0 := jr2.frozen 0
  have hf1 := jr2.frozen 1
  have hf2 := jr2.frozen 2
  have hf3 := jr2.frozen 3
  rcases hgot with ⟨hr, rfl⟩ | ⟨q, ⟨D1, m1, d1⟩, ⟨D2, m2, d2⟩, ⟨D3, m3, d3⟩, ⟨D4, m4, d4⟩, hr, rfl, hp⟩
  · have HR := Lib.hid hr
    clear hr
    unfold nilV
    go_wp2
    generalize hW4 : ((((w2.setCell ⟨w.heap.size + 2, 0, none⟩ _).setCell ⟨w.heap.size + 2, 1, none⟩ _).setCell ⟨w.heap.size + 2, 2, none⟩ _).setCell ⟨w.heap.size + 2, 3, none⟩ _) = w4
    have j4 : Blk w4 (w.heap.size + 2) 26 nil4 := by subst hW4; exact jr2.set4 _ _ _ _
    have hB4 : Below w.heap.size w w4 := by subst hW4; exact below_set4 hB2 (by omega) _ _ _ _
    clear hc0 hc1 hc2 hc3
    have hc0 := j4.cell 0
    have hc1 := j4.cell 1
    have hc2 := j4.cell 2
    have hc3 := j4.cell 3
    exact bodyPost_ret (v := .tuple #[nilV, .int .i64 250]) (by simp [results, Try.results26, go_sem, hc0, hc1, hc2, hc3, nilV]) rfl ⟨_, rfl, hB4, .inl ⟨HR.out, rfl⟩⟩
  · have HR := Lib.hid hr
    have HP := Lib.hid hp
    clear hr hp
    simp only [poolV, Sl.v]
    go_wp2
    generalize hW4 : ((((w2.setCell ⟨w.heap.size + 2, 0, none⟩ _).setCell ⟨w.heap.size + 2, 1, none⟩ _).setCell ⟨w.heap.size + 2, 2, none⟩ _).setCell ⟨w.heap.size + 2, 3, none⟩ _) = w4
    have j4 : Blk w4 (w.heap.size + 2) 26 #[.slice D1 m1 d1, .slice D2 m2 d2, .slice D3 m3 d3, .slice D4 m4 d4] := by subst hW4; exact jr2.set4 _ _ _ _
    have hB4 : Below w.heap.size w w4 := by subst hW4; exact below_set4 hB2 (by omega) _ _ _ _
    have hp4 := by
      have hp4 := HP.out.set4 jr2 (.slice D1 m1 d1) (.slice D2 m2 d2) (.slice D3 m3 d3) (.slice D4 m4 d4)
      rw [hW4] at hp4
      exact hp4
    clear hc0 hc1 hc2 hc3
    have hc0 := j4.cell 0
    have hc1 := j4.cell 1
    have hc2 := j4.cell 2
    have hc3 := j4.cell 3
    exact bodyPost_ret (v := .tuple #[poolV ⟨D1, m1, d1⟩ ⟨D2, m2, d2⟩ ⟨D3, m3, d3⟩ ⟨D4, m4, d4⟩, .int .i64 0]) (by simp [results, Try.results26, go_sem, hc0, hc1, hc2, hc3]) rfl ⟨_, rfl, hB4, .inr ⟨_, _, _, _, _, HR.out, rfl, hp4⟩⟩

set_option maxHeartbeats 1000000 in
theorem rdo_4 (s1 s2 s3 s4 : Sl) (p : Pool) (k0 k1 k2 k3 k4 : Int) (w : World) (h : PoolR w w.heap.size s1 s2 s3 s4 p) (hk0 : ¬ k0 = 0) (hk1 : ¬ k0 = 1) (hk2 : ¬ k0 = 2) (hk3 : ¬ k0 = 3) :
    Calls Try.prog 26 #[poolV s1 s2 s3 s4, .agg #[.int .i64 k0, .int .i64 k1, .int .i64 k2, .int .i64 k3, .int .i64 k4]] w (PoolRetA w (rfreeP p k1 k3)) := by
  have hch := rfree_any s1 s2 s3 s4 p k1 k3
  obtain ⟨A1, n1, c1⟩ := s1; obtain ⟨A2, n2, c2⟩ := s2; obtain ⟨A3, n3, c3⟩ := s3; obtain ⟨A4, n4, c4⟩ := s4
  show Calls Try.prog 26 #[.agg #[.slice A1 n1 c1, .slice A2 n2 c2, .slice A3 n3 c3, .slice A4 n4 c4], _] w _
  generalize rfreeP p k1 k3 = r at hch ⊢
  have HC := Lib.hid hch
  clear hch
  have hb0 : (k0 == 0) = false := by simp; omega
  have hb1 : (k0 == 1) = false := by simp; omega
  have hb2 : (k0 == 2) = false := by simp; omega
  have hb3 : (k0 == 3) = false := by simp; omega
  clear hk0 hk1 hk2 hk3
  go_enter Try.func26, Try.ntmps26
  go_wp2_with fail
  generalize hW : (((w.alloc _).alloc _).alloc _) = W
  have hBW : Below w.heap.size w W := by subst hW; exact (by repeat (first | exact Below.refl _ _ | assumption | refine Below.drew ?_ | refine below_drewN ?_ _ | refine bl_alloc ?_ _ | refine Below.setCell ?_ (by first | (simp; done) | omega | (simp; omega)) _ | refine bl_then ?_ (by assumption)))
  have hzW : w.heap.size + 3 ≤ W.heap.size := by subst hW; simp
  have jr : Blk W (w.heap.size + 2) 26 nil4 := by subst hW; exact Blk.new_at _ _ (by simp)
  clear hW
  refine (HC.out W ((h.below hBW).more (by omega))).mono ?_
  rintro e w2 ⟨v, rfl, hb, hgot⟩
  have hB2 : Below w.heap.size w w2 := hBW.trans (Below.mono hb (by omega))
  have jr2 := jr.ext hb
  have hgot := hgot.down (show w.heap.size ≤ W.heap.size by omega)
  clear jr hBW hb
  have hc0 := jr2.cell 0
  have hc1 := jr2.cell 1
  have hc2 := jr2.cell 2
  have hc3 := jr2.cell 3
  have hf0 := jr2.frozen 0
  have hf1 := jr2.frozen 1
  have hf2 := jr2.frozen 2
  have hf3 := jr2.frozen 3
  rcases hgot with ⟨hr, rfl⟩ | ⟨q, ⟨D1, m1, d1⟩, ⟨D2, m2, d2⟩, ⟨D3, m3, d3⟩, ⟨D4, m4, d4⟩, hr, rfl, hp⟩
  · have HR := Lib.hid hr
    clear hr
    unfold nilV
    go_wp2
    generalize hW4 : ((((w2.setCell ⟨w.heap.size + 2, 0, none⟩ _).setCell ⟨w.heap.size + 2, 1, none⟩ _).setCell ⟨w.heap.size + 2, 2, none⟩ _).setCell ⟨w.heap.size + 2, 3, none⟩ _) = w4
    have j4 : Blk w4 (w.heap.size + 2) 26 nil4 := by subst hW4; exact jr2.set4 _ _ _ _
    have hB4 : Below w.heap.size w w4 := by subst hW4; exact below_set4 hB2 (by omega) _ _ _ _
    clear hc0 hc1 hc2 hc3
    have hc0 := j4.cell 0
    have hc1 := j4.cell 1
    have hc2 := j4.cell 2
    have hc3 := j4.cell 3
    exact bodyPost_ret (v := .tuple #[nilV, .int .i64 250]) (by simp [results, Try.results26, go_sem, hc0, hc1, hc2, hc3, nilV]) rfl ⟨_, rfl, hB4, .inl ⟨HR.out, rfl⟩⟩
  · have HR := Lib.hid hr
    have HP := Lib.hid hp
    clear hr hp
    simp only [poolV, Sl.v]
    go_wp2
    generalize hW4 : ((((w2.setCell ⟨w.heap.size + 2, 0, none⟩ _).setCell ⟨w.heap.size + 2, 1, none⟩ _).setCell ⟨w.heap.size + 2, 2, none⟩ _).setCell ⟨w.heap.size + 2, 3, none⟩ _) = w4
    have j4 : Blk w4 (w.heap.size + 2) 26 #[.slice D1 m1 d1, .slice D2 m2 d2, .slice D3 m3 d3, .slice D4 m4 d4] := by subst hW4; exact jr2.set4 _ _ _ _
    have hB4 : Below w.heap.size w w4 := by subst hW4; exact below_set4 hB2 (by omega) _ _ _ _
    have hp4 := by
      have hp4 := HP.out.set4 jr2 (.slice D1 m1 d1) (.slice D2 m2 d2) (.slice D3 m3 d3) (.slice D4 m4 d4)
      rw [hW4] at hp4
      exact hp4
    clear hc0 hc1 hc2 hc3
    have hc0 := j4.cell 0
    have hc1 := j4.cell 1
    have hc2 := j4.cell 2
    have hc3 := j4.cell 3
    exact bodyPost_ret (v := .tuple #[poolV ⟨D1, m1, d1⟩ ⟨D2, m2, d2⟩ ⟨D3, m3, d3⟩ ⟨D4, m4, d4⟩, .int .i64 0]) (by simp [results, Try.results26, go_sem, hc0, hc1, hc2, hc3]) rfl ⟨_, rfl, hB4, .inr ⟨_, _, _, _, _, HR.out, rfl, hp4⟩⟩

theorem rdo_any (s1 s2 s3 s4 : Sl) (p : Pool) (d : Deed) (w : World) (h : PoolR w w.heap.size s1 s2 s3 s4 p) : Calls Try.prog 26 #[poolV s1 s2 s3 s4, deedV d] w (PoolRetA w (rdoP p d)) := by
  unfold rdoP
  by_cases hk0 : d.kind = 0
  · rw [if_pos hk0]
    exact rdo_0 s1 s2 s3 s4 p _ _ _ _ _ w h hk0
  rw [if_neg hk0]
  by_cases hk1 : d.kind = 1
  · rw [if_pos hk1]
    exact rdo_1 s1 s2 s3 s4 p _ _ _ _ _ w h hk1
  rw [if_neg hk1]
  by_cases hk2 : d.kind = 2
  · rw [if_pos hk2]
    exact rdo_2 s1 s2 s3 s4 p _ _ _ _ _ w h hk2
  rw [if_neg hk2]
  by_cases hk3 : d.kind = 3
  · rw [if_pos hk3]
    exact rdo_3 s1 s2 s3 s4 p _ _ _ _ _ w h hk3
  rw [if_neg hk3]
  exact rdo_4 s1 s2 s3 s4 p _ _ _ _ _ w h hk0 hk1 hk2 hk3

end Go.Proofs.Ytpddnkefggaigaa
