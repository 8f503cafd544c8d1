/- A station's validity. -/
import Derived.Test.YtlmpmhfbjblhnaaA8
namespace Go.Proofs.Ytlmpmhfbjblhnaa
open Go.RowKit

theorem station_valid (id x y re an sk : Int) (w : World) :
    Calls Try.prog 24 #[.agg #[.int .i64 id, .int .i64 x, .int .i64 y, .int .i64 re, .int .i64 an, .int .i64 sk]] w fun e w' => e = .returned (.bool (stnOK ⟨id, ⟨x, y⟩, re, an, sk⟩)) ∧ Below w.heap.size w w' := by
  have hs : stnOK ⟨id, ⟨x, y⟩, re, an, sk⟩ = (([⟨id, 0, 11⟩, ⟨re, 0, 6⟩, ⟨an, 1, 8⟩, ⟨sk, 0, 30⟩] : List Bnd).all (fun b => inB b.n b.lo b.hi) && celOK ⟨x, y⟩) := by
    simp only [stnOK, List.all_cons, List.all_nil, Bool.and_true]
    generalize inB id 0 11 = a
    generalize inB re 0 6 = b
    generalize inB an 1 8 = c
    generalize inB sk 0 30 = d
    generalize celOK ⟨x, y⟩ = e
    revert a b c d e
    decide
  rw [hs]
  clear hs
  generalize ha : ([⟨id, 0, 11⟩, ⟨re, 0, 6⟩, ⟨an, 1, 8⟩, ⟨sk, 0, 30⟩] : List Bnd).all (fun b => inB b.n b.lo b.hi) = a
  have HA := Lib.hid ha
  clear ha
  have V := validCell_any x y
  generalize celOK ⟨x, y⟩ = q at V ⊢
  have HV := Lib.hid V
  clear V
  go_enter Try.func24, Try.ntmps24
  go_wp2_with fail
  have K : Blk ((w.alloc (.cells #[.int .i64 id, .int .i64 x, .int .i64 y, .int .i64 re, .int .i64 an, .int .i64 sk] 31)).alloc (.cells #[.int .i64 id, .int .i64 0, .int .i64 11, .int .i64 re, .int .i64 0, .int .i64 6, .int .i64 an, .int .i64 1, .int .i64 8, .int .i64 sk, .int .i64 0, .int .i64 30] 89)) w.heap.size 31 #[.int .i64 id, .int .i64 x, .int .i64 y, .int .i64 re, .int .i64 an, .int .i64 sk] := (Blk.new _ _ _).alloc _
  have K2 : Blk ((w.alloc (.cells #[.int .i64 id, .int .i64 x, .int .i64 y, .int .i64 re, .int .i64 an, .int .i64 sk] 31)).alloc (.cells #[.int .i64 id, .int .i64 0, .int .i64 11, .int .i64 re, .int .i64 0, .int .i64 6, .int .i64 an, .int .i64 1, .int .i64 8, .int .i64 sk, .int .i64 0, .int .i64 30] 89)) (w.heap.size + 1) 89 #[.int .i64 id, .int .i64 0, .int .i64 11, .int .i64 re, .int .i64 0, .int .i64 6, .int .i64 an, .int .i64 1, .int .i64 8, .int .i64 sk, .int .i64 0, .int .i64 30] := by
    have k := Blk.new (w.alloc (.cells #[.int .i64 id, .int .i64 x, .int .i64 y, .int .i64 re, .int .i64 an, .int .i64 sk] 31)) 89 #[.int .i64 id, .int .i64 0, .int .i64 11, .int .i64 re, .int .i64 0, .int .i64 6, .int .i64 an, .int .i64 1, .int .i64 8, .int .i64 sk, .int .i64 0, .int .i64 30]
    rw [World.size_alloc] at k
    exact k
  have hb : Below w.heap.size w ((w.alloc (.cells #[.int .i64 id, .int .i64 x, .int .i64 y, .int .i64 re, .int .i64 an, .int .i64 sk] 31)).alloc (.cells #[.int .i64 id, .int .i64 0, .int .i64 11, .int .i64 re, .int .i64 0, .int .i64 6, .int .i64 an, .int .i64 1, .int .i64 8, .int .i64 sk, .int .i64 0, .int .i64 30] 89)) := (by repeat (first | exact Below.refl _ _ | assumption | refine Below.drew ?_ | refine below_drewN ?_ _ | refine bl_alloc ?_ _ | refine Below.setCell ?_ (by first | (simp; done) | omega | (simp; omega)) _ | refine bl_then ?_ (by assumption)))
  generalize (w.alloc (.cells #[.int .i64 id, .int .i64 x, .int .i64 y, .int .i64 re, .int .i64 an, .int .i64 sk] 31)).alloc (.cells #[.int .i64 id, .int .i64 0, .int .i64 11, .int .i64 re, .int .i64 0, .int .i64 6, .int .i64 an, .int .i64 1, .int .i64 8, .int .i64 sk, .int .i64 0, .int .i64 30] 89) = W at K K2 hb ⊢
  refine (areIn_any [⟨id, 0, 11⟩, ⟨re, 0, 6⟩, ⟨an, 1, 8⟩, ⟨sk, 0, 30⟩] (w.heap.size + 1) 4 4 W rfl (BndR.of_blk4 K2) K2.lt (by omega)).mono ?_
  rintro e W2 ⟨rfl, hb2⟩
  have K := K.below hb2 (by have := K.lt; omega)
  have hB2 : Below w.heap.size w W2 := hb.trans (Below.mono hb2 hb.size)
  clear K2 hb hb2
  have g1 : W2.cell? ⟨w.heap.size, 1, none⟩ = some (.int .i64 x) := K.cell 1
  have g2 : W2.cell? ⟨w.heap.size, 2, none⟩ = some (.int .i64 y) := K.cell 2
  clear K
  rw [HA.out]
  clear HA
  cases a
  · go_wp2
    go_ret
    exact ⟨by simp, hB2⟩
  · go_wp2_with fail
    refine (HV.out _).mono ?_
    rintro e W3 ⟨rfl, hb3⟩
    have hB3 : Below w.heap.size w W3 := bl_then hB2 hb3
    go_wp2
    go_ret
    exact ⟨by simp, hB3⟩

end Go.Proofs.Ytlmpmhfbjblhnaa
