/- Passes that are proper. -/
import Derived.Test.YtlmpmhfbjblhnaaA20
import Derived.Test.YtlmpmhfbjblhnaaA15
import Derived.BigGuardPart
namespace Go.Proofs.Ytlmpmhfbjblhnaa
open Go.RowKit

theorem BndR.of_blk2 {w : World} {b : Nat} {t : TypeId} {b0 b1 : Bnd} (h : Blk w b t (bndCells b0 ++ bndCells b1).toArray) : BndR w b [b0, b1] := fun k hk => by
  have hk : k < 2 := hk
  match k, hk with
  | 0, _ => exact ⟨h.cell 0, h.cell 1, h.cell 2⟩
  | 1, _ => exact ⟨h.cell 3, h.cell 4, h.cell 5⟩

set_option maxHeartbeats 4000000 in
theorem isPass_any (sa sn a b c d : Int) (w : World) :
    Calls Try.prog 44 #[.agg #[.int .i64 sa, .int .i64 sn, .int .i64 a, .int .i64 b, .int .i64 c, .int .i64 d]] w fun e w' => e = .returned (.bool (pasOK ⟨sa, sn, ⟨a, b⟩, ⟨c, d⟩⟩)) ∧ Below w.heap.size w w' := by
  have hs : pasOK ⟨sa, sn, ⟨a, b⟩, ⟨c, d⟩⟩ = (([⟨sa, 0, 23⟩, ⟨sn, 0, 11⟩] : List Bnd).all (fun b => inB b.n b.lo b.hi) && decide (0 ≤ c ∧ c < d ∧ d ≤ 1000001) && (decide (a = 0 ∧ b = 0) || decide (c ≤ a ∧ a < b ∧ b ≤ d))) := by
    simp only [pasOK, List.all_cons, List.all_nil, Bool.and_true, splIn, Spl.mk.injEq]
  rw [hs]
  clear hs
  generalize ha : ([⟨sa, 0, 23⟩, ⟨sn, 0, 11⟩] : List Bnd).all (fun b => inB b.n b.lo b.hi) = q
  have HA := Lib.hid ha
  clear ha
  go_enter Try.func44, Try.ntmps44
  go_wp2_with fail
  have K : Blk ((w.alloc (.cells #[.int .i64 sa, .int .i64 sn, .int .i64 a, .int .i64 b, .int .i64 c, .int .i64 d] 47)).alloc (.cells #[.int .i64 sa, .int .i64 0, .int .i64 23, .int .i64 sn, .int .i64 0, .int .i64 11] 89)) w.heap.size 47 #[.int .i64 sa, .int .i64 sn, .int .i64 a, .int .i64 b, .int .i64 c, .int .i64 d] := (Blk.new _ _ _).alloc _
  have K2 : Blk ((w.alloc (.cells #[.int .i64 sa, .int .i64 sn, .int .i64 a, .int .i64 b, .int .i64 c, .int .i64 d] 47)).alloc (.cells #[.int .i64 sa, .int .i64 0, .int .i64 23, .int .i64 sn, .int .i64 0, .int .i64 11] 89)) (w.heap.size + 1) 89 #[.int .i64 sa, .int .i64 0, .int .i64 23, .int .i64 sn, .int .i64 0, .int .i64 11] := Blk.new_at _ _ _ (by simp)
  have hb : Below w.heap.size w ((w.alloc (.cells #[.int .i64 sa, .int .i64 sn, .int .i64 a, .int .i64 b, .int .i64 c, .int .i64 d] 47)).alloc (.cells #[.int .i64 sa, .int .i64 0, .int .i64 23, .int .i64 sn, .int .i64 0, .int .i64 11] 89)) := (by repeat (first | exact Below.refl _ _ | assumption | refine Below.drew ?_ | refine below_drewN ?_ _ | refine bl_alloc ?_ _ | refine Below.setCell ?_ (by first | (simp; done) | omega | (simp; omega)) _ | refine bl_then ?_ (by assumption)))
  generalize (w.alloc (.cells #[.int .i64 sa, .int .i64 sn, .int .i64 a, .int .i64 b, .int .i64 c, .int .i64 d] 47)).alloc (.cells #[.int .i64 sa, .int .i64 0, .int .i64 23, .int .i64 sn, .int .i64 0, .int .i64 11] 89) = W at K K2 hb ⊢
  refine (areIn_any [⟨sa, 0, 23⟩, ⟨sn, 0, 11⟩] (w.heap.size + 1) 2 2 W rfl (BndR.of_blk2 K2) K2.lt (by omega)).mono ?_
  rintro e W2 ⟨rfl, hb2⟩
  have K := K.below hb2 (by have := K.lt; omega)
  have hB2 : Below w.heap.size w W2 := hb.trans (Below.mono hb2 hb.size)
  clear K2 hb hb2
  have g2 : W2.cell? ⟨w.heap.size, 2, none⟩ = some (.int .i64 a) := K.cell 2
  have g3 : W2.cell? ⟨w.heap.size, 3, none⟩ = some (.int .i64 b) := K.cell 3
  have g4 : W2.cell? ⟨w.heap.size, 4, none⟩ = some (.int .i64 c) := K.cell 4
  have g5 : W2.cell? ⟨w.heap.size, 5, none⟩ = some (.int .i64 d) := K.cell 5
  rw [HA.out]
  clear HA K
  go_upto_region 4 with (fail)
  all_goals cases q
  all_goals
    go_wp2
  all_goals
    go_ret
    exact ⟨by first | (simp [*]; done) | (simp [*]; omega), hB2⟩

end Go.Proofs.Ytlmpmhfbjblhnaa
