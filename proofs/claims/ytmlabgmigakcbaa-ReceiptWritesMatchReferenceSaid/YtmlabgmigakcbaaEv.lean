/- Deliveries and how they are compared. -/
import Derived.Test.YtmlabgmigakcbaaRo
namespace Go.Proofs.Ytmlabgmigakcbaa
open Go.RowKit

/-- A delivery. -/
structure Evt where
  at_ : Int
  im : Int
def evtCells (x : Evt) : List Value := [.int .i64 2, .int .i64 x.at_, .int .i64 x.im, .slice none 0 0, .int .i64 0, .int .i64 0, .bool false]
theorem evt_len (x : Evt) : (evtCells x).length = 7 := rfl
theorem evt_size : (Try.prog.info? 59).map (·.size) = some 7 := by kernel_rfl
theorem info_evt : (Try.prog.info? 59).map (fun i => (i.zero, i.size, i.bytes)) = some (some (.agg #[.int .i64 0, .int .i64 0, .int .i64 0, .slice none 0 0, .int .i64 0, .int .i64 0, .bool false]), 7, 72) := by kernel_rfl
def cmpEvt (a b : Evt) : Int := orL [cmpI a.at_ b.at_, cmpI a.im b.im]

set_option maxRecDepth 100000 in
set_option maxHeartbeats 4000000 in
theorem cmpEvt_any (a b : Evt) (w : World) : Calls Try.prog 55 #[.agg (evtCells a).toArray, .agg (evtCells b).toArray] w fun e w' => e = .returned (.int .i64 (cmpEvt a b)) ∧ Below w.heap.size w w' := by
  obtain ⟨at_, ai⟩ := a
  obtain ⟨bt, bi⟩ := b
  unfold cmpEvt
  dsimp only
  generalize h0 : cmpI at_ bt = c0
  generalize h1 : cmpI ai bi = c1
  have HC0 := Lib.hid h0
  have HC1 := Lib.hid h1
  clear h0 h1
  show Calls Try.prog 55 #[.agg #[.int .i64 2, .int .i64 at_, .int .i64 ai, .slice none 0 0, .int .i64 0, .int .i64 0, .bool false], .agg #[.int .i64 2, .int .i64 bt, .int .i64 bi, .slice none 0 0, .int .i64 0, .int .i64 0, .bool false]] w _
  go_enter Try.func55, Try.ntmps55
  go_wp2_with fail
  have K1 : Blk ((w.alloc (.cells #[.int .i64 2, .int .i64 at_, .int .i64 ai, .slice none 0 0, .int .i64 0, .int .i64 0, .bool false] 59)).alloc (.cells #[.int .i64 2, .int .i64 bt, .int .i64 bi, .slice none 0 0, .int .i64 0, .int .i64 0, .bool false] 59)) w.heap.size 59 #[.int .i64 2, .int .i64 at_, .int .i64 ai, .slice none 0 0, .int .i64 0, .int .i64 0, .bool false] := (Blk.new _ _ _).alloc _
  have K2 : Blk ((w.alloc (.cells #[.int .i64 2, .int .i64 at_, .int .i64 ai, .slice none 0 0, .int .i64 0, .int .i64 0, .bool false] 59)).alloc (.cells #[.int .i64 2, .int .i64 bt, .int .i64 bi, .slice none 0 0, .int .i64 0, .int .i64 0, .bool false] 59)) (w.heap.size + 1) 59 #[.int .i64 2, .int .i64 bt, .int .i64 bi, .slice none 0 0, .int .i64 0, .int .i64 0, .bool false] := Blk.new_at _ _ _ (by simp)
  have hB : Below w.heap.size w ((w.alloc (.cells #[.int .i64 2, .int .i64 at_, .int .i64 ai, .slice none 0 0, .int .i64 0, .int .i64 0, .bool false] 59)).alloc (.cells #[.int .i64 2, .int .i64 bt, .int .i64 bi, .slice none 0 0, .int .i64 0, .int .i64 0, .bool false] 59)) := (by repeat (first | exact Below.refl _ _ | assumption | refine Below.drew ?_ | refine below_drewN ?_ _ | refine bl_alloc ?_ _ | refine Below.setCell ?_ (by first | (simp; done) | omega | (simp; omega)) _ | refine bl_then ?_ (by assumption)))
  generalize (w.alloc (.cells #[.int .i64 2, .int .i64 at_, .int .i64 ai, .slice none 0 0, .int .i64 0, .int .i64 0, .bool false] 59)).alloc (.cells #[.int .i64 2, .int .i64 bt, .int .i64 bi, .slice none 0 0, .int .i64 0, .int .i64 0, .bool false] 59) = W at K1 K2 hB ⊢
  have g1 : W.cell? ⟨w.heap.size, 1, none⟩ = some (.int .i64 at_) := K1.cell 1
  have g2 : W.cell? ⟨w.heap.size, 2, none⟩ = some (.int .i64 ai) := K1.cell 2
  have k1 : W.cell? ⟨w.heap.size + 1, 1, none⟩ = some (.int .i64 bt) := K2.cell 1
  have k2 : W.cell? ⟨w.heap.size + 1, 2, none⟩ = some (.int .i64 bi) := K2.cell 2
  refine wp_region_obl 12 (fun ix vals v w1 => match ix with | 0 => v = .pointer (some ⟨w.heap.size, 1, none⟩) | 1 => v = .int .i64 at_ | 2 => v = .pointer (some ⟨w.heap.size + 1, 1, none⟩) | 3 => v = .int .i64 bt | 4 => v = .int .i64 c0 | 5 => v = .pointer (some ⟨w.heap.size, 2, none⟩) | 6 => v = .int .i64 ai | 7 => v = .pointer (some ⟨w.heap.size + 1, 2, none⟩) | 8 => v = .int .i64 bi | 9 => v = .int .i64 c1 | 10 => ∃ g, v = .slice (some ⟨g, 0, none⟩) 2 2 ∧ Blk w1 g 3 #[.int .i64 c0, .int .i64 c1] | _ => v = .int .i64 (orL [c0, c1])) (by kernel_rfl) (by kernel_rfl) ?_ ?_ ?_ ?_
  · intro ix vals v w1 w2 hi hr hx
    match ix, hr with
    | 0, hr => exact hr
    | 1, hr => exact hr
    | 2, hr => exact hr
    | 3, hr => exact hr
    | 4, hr => exact hr
    | 5, hr => exact hr
    | 6, hr => exact hr
    | 7, hr => exact hr
    | 8, hr => exact hr
    | 9, hr => exact hr
    | 10, hr => obtain ⟨g, h1, h2⟩ := hr; exact ⟨g, h1, h2.ext hx⟩
    | (kx + 11), hr => exact hr
  · intro ix vals vals_ v w1 hi hv hr
    exact hr
  · refine ⟨?_, ?_, ?_, ?_, ?_, ?_, ?_, ?_, ?_, ?_, ?_, ?_, trivial⟩
    · intro vals w1 hx hd ha
      clear hd ha
      simp only [Lf]
      go_wp2
      exact ⟨rfl, Ext.refl _, rfl⟩
    · intro vals w1 hx hd ha
      have e0 : vals 0 = .pointer (some ⟨w.heap.size, 1, none⟩) := hd 0 (by decide)
      clear hd ha
      simp only [Lf, dstAt, Act.put, List.getElem?_toArray, List.getElem?_cons_zero, Option.bind_some, List.setIfInBounds_toArray, List.set_cons_zero, List.set_cons_succ]
      simp only [e0]
      clear e0
      have g1 := ext_cell hx g1
      go_wp2
      exact ⟨rfl, Ext.refl _, rfl⟩
    · intro vals w1 hx hd ha
      clear hd ha
      simp only [Lf, dstAt, Act.put, List.getElem?_toArray, List.getElem?_cons_zero, List.getElem?_cons_succ, Option.bind_some, List.setIfInBounds_toArray, List.set_cons_zero, List.set_cons_succ]
      go_wp2
      exact ⟨rfl, Ext.refl _, rfl⟩
    · intro vals w1 hx hd ha
      have e2 : vals 2 = .pointer (some ⟨w.heap.size + 1, 1, none⟩) := hd 2 (by decide)
      clear hd ha
      simp only [Lf, dstAt, Act.put, List.getElem?_toArray, List.getElem?_cons_zero, List.getElem?_cons_succ, Option.bind_some, List.setIfInBounds_toArray, List.set_cons_zero, List.set_cons_succ]
      simp only [e2]
      clear e2
      have k1 := ext_cell hx k1
      go_wp2
      exact ⟨rfl, Ext.refl _, rfl⟩
    · intro vals w1 hx hd ha
      have e1 : vals 1 = .int .i64 at_ := hd 1 (by decide)
      have e3 : vals 3 = .int .i64 bt := hd 3 (by decide)
      clear hd ha
      simp only [Lf, dstAt, Act.put, List.getElem?_toArray, List.getElem?_cons_zero, List.getElem?_cons_succ, Option.bind_some, List.setIfInBounds_toArray, List.set_cons_zero, List.set_cons_succ]
      simp only [e1]
      simp only [e3]
      clear e1 e3
      go_wp2_with fail
      refine (cmp_any at_ bt _).mono ?_
      rintro e w2 ⟨rfl, rfl⟩
      rw [HC0.out]
      go_wp2
      exact ⟨rfl, Ext.refl _, rfl⟩
    · intro vals w1 hx hd ha
      clear hd ha
      simp only [Lf, dstAt, Act.put, List.getElem?_toArray, List.getElem?_cons_zero, List.getElem?_cons_succ, Option.bind_some, List.setIfInBounds_toArray, List.set_cons_zero, List.set_cons_succ]
      go_wp2
      exact ⟨rfl, Ext.refl _, rfl⟩
    · intro vals w1 hx hd ha
      have e5 : vals 5 = .pointer (some ⟨w.heap.size, 2, none⟩) := hd 5 (by decide)
      clear hd ha
      simp only [Lf, dstAt, Act.put, List.getElem?_toArray, List.getElem?_cons_zero, List.getElem?_cons_succ, Option.bind_some, List.setIfInBounds_toArray, List.set_cons_zero, List.set_cons_succ]
      simp only [e5]
      clear e5
      have g2 := ext_cell hx g2
      go_wp2
      exact ⟨rfl, Ext.refl _, rfl⟩
    · intro vals w1 hx hd ha
      clear hd ha
      simp only [Lf, dstAt, Act.put, List.getElem?_toArray, List.getElem?_cons_zero, List.getElem?_cons_succ, Option.bind_some, List.setIfInBounds_toArray, List.set_cons_zero, List.set_cons_succ]
      go_wp2
      exact ⟨rfl, Ext.refl _, rfl⟩
    · intro vals w1 hx hd ha
      have e7 : vals 7 = .pointer (some ⟨w.heap.size + 1, 2, none⟩) := hd 7 (by decide)
      clear hd ha
      simp only [Lf, dstAt, Act.put, List.getElem?_toArray, List.getElem?_cons_zero, List.getElem?_cons_succ, Option.bind_some, List.setIfInBounds_toArray, List.set_cons_zero, List.set_cons_succ]
      simp only [e7]
      clear e7
      have k2 := ext_cell hx k2
      go_wp2
      exact ⟨rfl, Ext.refl _, rfl⟩
    · intro vals w1 hx hd ha
      have e4 : vals 4 = .int .i64 c0 := hd 4 (by decide)
      have e6 : vals 6 = .int .i64 ai := hd 6 (by decide)
      have e8 : vals 8 = .int .i64 bi := hd 8 (by decide)
      clear hd ha
      simp only [Lf, dstAt, Act.put, List.getElem?_toArray, List.getElem?_cons_zero, List.getElem?_cons_succ, Option.bind_some, List.setIfInBounds_toArray, List.set_cons_zero, List.set_cons_succ]
      simp only [e4]
      simp only [e6]
      simp only [e8]
      clear e4 e6 e8
      go_wp2_with fail
      refine (cmp_any ai bi _).mono ?_
      rintro e w2 ⟨rfl, rfl⟩
      rw [HC1.out]
      go_wp2
      exact ⟨rfl, Ext.refl _, rfl⟩
    · intro vals w1 hx hd ha
      have e4 : vals 4 = .int .i64 c0 := hd 4 (by decide)
      have e9 : vals 9 = .int .i64 c1 := hd 9 (by decide)
      clear hd ha
      simp only [Lf, dstAt, Act.put, List.getElem?_toArray, List.getElem?_cons_zero, List.getElem?_cons_succ, Option.bind_some, List.setIfInBounds_toArray, List.set_cons_zero, List.set_cons_succ]
      simp only [e4]
      simp only [e9]
      clear e4 e9
      go_wp2
      exact ⟨rfl, (by repeat (first | exact Below.refl _ _ | assumption | refine Below.drew ?_ | refine below_drewN ?_ _ | refine bl_alloc ?_ _ | refine Below.setCell ?_ (by first | (simp; done) | omega | (simp; omega)) _ | refine bl_then ?_ (by assumption))), _, rfl, Blk.new _ _ _⟩
    · intro vals w1 hx hd ha
      have e9 : vals 9 = .int .i64 c1 := hd 9 (by decide)
      have r10 : (fun v w1 => ∃ g, v = .slice (some ⟨g, 0, none⟩) 2 2 ∧ Blk w1 g 3 #[.int .i64 c0, .int .i64 c1]) (vals 10) w1 := hd 10 (by decide)
      dsimp only at r10
      clear hd ha
      simp only [Lf, dstAt, Act.put, List.getElem?_toArray, List.getElem?_cons_zero, List.getElem?_cons_succ, Option.bind_some, List.setIfInBounds_toArray, List.set_cons_zero, List.set_cons_succ]
      obtain ⟨g, h1, h2⟩ := r10
      simp only [h1]
      go_wp2_with fail
      refine (or_any [c0, c1] g 2 2 _ rfl (by omega) (h2.ints rfl)).mono ?_
      rintro e w2 ⟨rfl, rfl⟩
      go_wp2
      exact ⟨rfl, Ext.refl _, rfl⟩
  intro vals w5 hx hf
  have e11 : vals 11 = .int .i64 (orL [c0, c1]) := hf 11 (by omega)
  clear hf
  have hB5 : Below w.heap.size w w5 := bl_then hB hx.undrew
  refine tail1 12 _ (by kernel_rfl) (by kernel_rfl) rfl ?_
  simp only [Lf, dstAt, Act.put, List.getElem?_toArray, List.getElem?_cons_zero, List.getElem?_cons_succ, Option.bind_some, List.setIfInBounds_toArray, List.set_cons_zero, List.set_cons_succ]
  rw [e11]
  go_wp2
  go_ret
  exact ⟨rfl, hB5⟩
end Go.Proofs.Ytmlabgmigakcbaa
