/- A satellite's validity. -/
import Derived.Test.YtlmpmhfbjblhnaaA12
namespace Go.Proofs.Ytlmpmhfbjblhnaa
open Go.RowKit

theorem BndR.of_blk6 {w : World} {b : Nat} {t : TypeId} {b0 b1 b2 b3 b4 b5 : Bnd} (h : Blk w b t (bndCells b0 ++ bndCells b1 ++ bndCells b2 ++ bndCells b3 ++ bndCells b4 ++ bndCells b5).toArray) : BndR w b [b0, b1, b2, b3, b4, b5] := fun k hk => by
  have hk : k < 6 := hk
  match k, hk with
  | 0, _ => exact ⟨h.cell 0, h.cell 1, h.cell 2⟩
  | 1, _ => exact ⟨h.cell 3, h.cell 4, h.cell 5⟩
  | 2, _ => exact ⟨h.cell 6, h.cell 7, h.cell 8⟩
  | 3, _ => exact ⟨h.cell 9, h.cell 10, h.cell 11⟩
  | 4, _ => exact ⟨h.cell 12, h.cell 13, h.cell 14⟩
  | 5, _ => exact ⟨h.cell 15, h.cell 16, h.cell 17⟩

theorem BndR.of_blk5 {w : World} {b : Nat} {t : TypeId} {b0 b1 b2 b3 b4 : Bnd} (h : Blk w b t (bndCells b0 ++ bndCells b1 ++ bndCells b2 ++ bndCells b3 ++ bndCells b4).toArray) : BndR w b [b0, b1, b2, b3, b4] := fun k hk => by
  have hk : k < 5 := hk
  match k, hk with
  | 0, _ => exact ⟨h.cell 0, h.cell 1, h.cell 2⟩
  | 1, _ => exact ⟨h.cell 3, h.cell 4, h.cell 5⟩
  | 2, _ => exact ⟨h.cell 6, h.cell 7, h.cell 8⟩
  | 3, _ => exact ⟨h.cell 9, h.cell 10, h.cell 11⟩
  | 4, _ => exact ⟨h.cell 12, h.cell 13, h.cell 14⟩

theorem BndR.of_blk3 {w : World} {b : Nat} {t : TypeId} {b0 b1 b2 : Bnd} (h : Blk w b t (bndCells b0 ++ bndCells b1 ++ bndCells b2).toArray) : BndR w b [b0, b1, b2] := fun k hk => by
  have hk : k < 3 := hk
  match k, hk with
  | 0, _ => exact ⟨h.cell 0, h.cell 1, h.cell 2⟩
  | 1, _ => exact ⟨h.cell 3, h.cell 4, h.cell 5⟩
  | 2, _ => exact ⟨h.cell 6, h.cell 7, h.cell 8⟩

set_option maxHeartbeats 2000000 in
theorem sat_valid (id ow p f lo hi no tu sl wi st ch su idl sh se wa co ho sw ra : Int) (w : World) :
    Calls Try.prog 20 #[.agg #[.int .i64 id, .int .i64 ow, .int .i64 p, .int .i64 f, .int .i64 lo, .int .i64 hi, .int .i64 no, .int .i64 tu, .int .i64 sl, .int .i64 wi, .int .i64 st, .int .i64 ch, .int .i64 su, .int .i64 idl, .int .i64 sh, .int .i64 se, .int .i64 wa, .int .i64 co, .int .i64 ho, .int .i64 sw, .int .i64 ra]] w fun e w' => e = .returned (.bool (satOK ⟨id, ow, ⟨p, f, lo, hi, no, tu, sl⟩, wi, st, ch, su, idl, sh, se, wa, co, ho, sw, ra⟩)) ∧ Below w.heap.size w w' := by
  have hs : satOK ⟨id, ow, ⟨p, f, lo, hi, no, tu, sl⟩, wi, st, ch, su, idl, sh, se, wa, co, ho, sw, ra⟩ = (([⟨id, 0, 23⟩, ⟨ow, 0, 15⟩, ⟨wi, 0, 4⟩, ⟨st, 1, 1000000⟩, ⟨sw, 0, 60⟩, ⟨ra, 1, 1000⟩] : List Bnd).all (fun b => inB b.n b.lo b.hi) && ([⟨ch, 1, 1000000⟩, ⟨su, 0, 10000⟩, ⟨idl, 0, 10000⟩, ⟨sh, 0, 10000⟩, ⟨se, 0, 10000⟩] : List Bnd).all (fun b => inB b.n b.lo b.hi) && ([⟨wa, 0, 10000⟩, ⟨co, 0, 10000⟩, ⟨ho, 1, 1000000⟩] : List Bnd).all (fun b => inB b.n b.lo b.hi) && orbOK ⟨p, f, lo, hi, no, tu, sl⟩) := by
    simp only [satOK, List.all_cons, List.all_nil, Bool.and_true]
    ac_rfl
  rw [hs]
  clear hs
  generalize ha0 : ([⟨id, 0, 23⟩, ⟨ow, 0, 15⟩, ⟨wi, 0, 4⟩, ⟨st, 1, 1000000⟩, ⟨sw, 0, 60⟩, ⟨ra, 1, 1000⟩] : List Bnd).all (fun b => inB b.n b.lo b.hi) = a0
  generalize ha1 : ([⟨ch, 1, 1000000⟩, ⟨su, 0, 10000⟩, ⟨idl, 0, 10000⟩, ⟨sh, 0, 10000⟩, ⟨se, 0, 10000⟩] : List Bnd).all (fun b => inB b.n b.lo b.hi) = a1
  generalize ha2 : ([⟨wa, 0, 10000⟩, ⟨co, 0, 10000⟩, ⟨ho, 1, 1000000⟩] : List Bnd).all (fun b => inB b.n b.lo b.hi) = a2
  have V := orbit_valid p f lo hi no tu sl
  generalize orbOK ⟨p, f, lo, hi, no, tu, sl⟩ = q at V ⊢
  have HA0 := Lib.hid ha0
  have HA1 := Lib.hid ha1
  have HA2 := Lib.hid ha2
  have HV := Lib.hid V
  clear ha0 ha1 ha2 V
  go_enter Try.func20, Try.ntmps20
  go_wp2_with fail
  have K := Blk.new w 27 #[.int .i64 id, .int .i64 ow, .int .i64 p, .int .i64 f, .int .i64 lo, .int .i64 hi, .int .i64 no, .int .i64 tu, .int .i64 sl, .int .i64 wi, .int .i64 st, .int .i64 ch, .int .i64 su, .int .i64 idl, .int .i64 sh, .int .i64 se, .int .i64 wa, .int .i64 co, .int .i64 ho, .int .i64 sw, .int .i64 ra]
  have hb : Below w.heap.size w (w.alloc (.cells #[.int .i64 id, .int .i64 ow, .int .i64 p, .int .i64 f, .int .i64 lo, .int .i64 hi, .int .i64 no, .int .i64 tu, .int .i64 sl, .int .i64 wi, .int .i64 st, .int .i64 ch, .int .i64 su, .int .i64 idl, .int .i64 sh, .int .i64 se, .int .i64 wa, .int .i64 co, .int .i64 ho, .int .i64 sw, .int .i64 ra] 27)) := (by repeat (first | exact Below.refl _ _ | assumption | refine Below.drew ?_ | refine below_drewN ?_ _ | refine bl_alloc ?_ _ | refine Below.setCell ?_ (by first | (simp; done) | omega | (simp; omega)) _ | refine bl_then ?_ (by assumption)))
  have hz0 : (w.alloc (.cells #[.int .i64 id, .int .i64 ow, .int .i64 p, .int .i64 f, .int .i64 lo, .int .i64 hi, .int .i64 no, .int .i64 tu, .int .i64 sl, .int .i64 wi, .int .i64 st, .int .i64 ch, .int .i64 su, .int .i64 idl, .int .i64 sh, .int .i64 se, .int .i64 wa, .int .i64 co, .int .i64 ho, .int .i64 sw, .int .i64 ra] 27)).heap.size = w.heap.size + 1 := World.size_alloc _ _
  generalize w.alloc (.cells #[.int .i64 id, .int .i64 ow, .int .i64 p, .int .i64 f, .int .i64 lo, .int .i64 hi, .int .i64 no, .int .i64 tu, .int .i64 sl, .int .i64 wi, .int .i64 st, .int .i64 ch, .int .i64 su, .int .i64 idl, .int .i64 sh, .int .i64 se, .int .i64 wa, .int .i64 co, .int .i64 ho, .int .i64 sw, .int .i64 ra] 27) = W0 at K hb hz0 ⊢
  have k : BndR (W0.alloc (.cells #[.int .i64 id, .int .i64 0, .int .i64 23, .int .i64 ow, .int .i64 0, .int .i64 15, .int .i64 wi, .int .i64 0, .int .i64 4, .int .i64 st, .int .i64 1, .int .i64 1000000, .int .i64 sw, .int .i64 0, .int .i64 60, .int .i64 ra, .int .i64 1, .int .i64 1000] 89)) W0.heap.size [⟨id, 0, 23⟩, ⟨ow, 0, 15⟩, ⟨wi, 0, 4⟩, ⟨st, 1, 1000000⟩, ⟨sw, 0, 60⟩, ⟨ra, 1, 1000⟩] := BndR.of_blk6 (Blk.new W0 89 #[.int .i64 id, .int .i64 0, .int .i64 23, .int .i64 ow, .int .i64 0, .int .i64 15, .int .i64 wi, .int .i64 0, .int .i64 4, .int .i64 st, .int .i64 1, .int .i64 1000000, .int .i64 sw, .int .i64 0, .int .i64 60, .int .i64 ra, .int .i64 1, .int .i64 1000])
  rw [hz0] at k
  refine (areIn_any [⟨id, 0, 23⟩, ⟨ow, 0, 15⟩, ⟨wi, 0, 4⟩, ⟨st, 1, 1000000⟩, ⟨sw, 0, 60⟩, ⟨ra, 1, 1000⟩] (w.heap.size + 1) 6 6 _ rfl k (by rw [World.size_alloc]; omega) (by omega)).mono ?_
  rintro e W1 ⟨rfl, hb1⟩
  have K := (K.alloc (.cells #[.int .i64 id, .int .i64 0, .int .i64 23, .int .i64 ow, .int .i64 0, .int .i64 15, .int .i64 wi, .int .i64 0, .int .i64 4, .int .i64 st, .int .i64 1, .int .i64 1000000, .int .i64 sw, .int .i64 0, .int .i64 60, .int .i64 ra, .int .i64 1, .int .i64 1000] 89)).below hb1 (by have := K.lt; rw [World.size_alloc]; omega)
  have hb : Below w.heap.size w W1 := bl_then (bl_alloc hb _) hb1
  rw [HA0.out]
  clear k hb1 HA0 
  have g0 : W1.cell? ⟨w.heap.size, 0, none⟩ = some (.int .i64 id) := K.cell 0
  have g1 : W1.cell? ⟨w.heap.size, 1, none⟩ = some (.int .i64 ow) := K.cell 1
  have g2 : W1.cell? ⟨w.heap.size, 2, none⟩ = some (.int .i64 p) := K.cell 2
  have g3 : W1.cell? ⟨w.heap.size, 3, none⟩ = some (.int .i64 f) := K.cell 3
  have g4 : W1.cell? ⟨w.heap.size, 4, none⟩ = some (.int .i64 lo) := K.cell 4
  have g5 : W1.cell? ⟨w.heap.size, 5, none⟩ = some (.int .i64 hi) := K.cell 5
  have g6 : W1.cell? ⟨w.heap.size, 6, none⟩ = some (.int .i64 no) := K.cell 6
  have g7 : W1.cell? ⟨w.heap.size, 7, none⟩ = some (.int .i64 tu) := K.cell 7
  have g8 : W1.cell? ⟨w.heap.size, 8, none⟩ = some (.int .i64 sl) := K.cell 8
  have g9 : W1.cell? ⟨w.heap.size, 9, none⟩ = some (.int .i64 wi) := K.cell 9
  have g10 : W1.cell? ⟨w.heap.size, 10, none⟩ = some (.int .i64 st) := K.cell 10
  have g11 : W1.cell? ⟨w.heap.size, 11, none⟩ = some (.int .i64 ch) := K.cell 11
  have g12 : W1.cell? ⟨w.heap.size, 12, none⟩ = some (.int .i64 su) := K.cell 12
  have g13 : W1.cell? ⟨w.heap.size, 13, none⟩ = some (.int .i64 idl) := K.cell 13
  have g14 : W1.cell? ⟨w.heap.size, 14, none⟩ = some (.int .i64 sh) := K.cell 14
  have g15 : W1.cell? ⟨w.heap.size, 15, none⟩ = some (.int .i64 se) := K.cell 15
  have g16 : W1.cell? ⟨w.heap.size, 16, none⟩ = some (.int .i64 wa) := K.cell 16
  have g17 : W1.cell? ⟨w.heap.size, 17, none⟩ = some (.int .i64 co) := K.cell 17
  have g18 : W1.cell? ⟨w.heap.size, 18, none⟩ = some (.int .i64 ho) := K.cell 18
  have g19 : W1.cell? ⟨w.heap.size, 19, none⟩ = some (.int .i64 sw) := K.cell 19
  have g20 : W1.cell? ⟨w.heap.size, 20, none⟩ = some (.int .i64 ra) := K.cell 20
  go_wp2_with fail
  have k : BndR (W1.alloc (.cells #[.int .i64 ch, .int .i64 1, .int .i64 1000000, .int .i64 su, .int .i64 0, .int .i64 10000, .int .i64 idl, .int .i64 0, .int .i64 10000, .int .i64 sh, .int .i64 0, .int .i64 10000, .int .i64 se, .int .i64 0, .int .i64 10000] 89)) W1.heap.size [⟨ch, 1, 1000000⟩, ⟨su, 0, 10000⟩, ⟨idl, 0, 10000⟩, ⟨sh, 0, 10000⟩, ⟨se, 0, 10000⟩] := BndR.of_blk5 (Blk.new W1 89 #[.int .i64 ch, .int .i64 1, .int .i64 1000000, .int .i64 su, .int .i64 0, .int .i64 10000, .int .i64 idl, .int .i64 0, .int .i64 10000, .int .i64 sh, .int .i64 0, .int .i64 10000, .int .i64 se, .int .i64 0, .int .i64 10000])
  refine (areIn_any [⟨ch, 1, 1000000⟩, ⟨su, 0, 10000⟩, ⟨idl, 0, 10000⟩, ⟨sh, 0, 10000⟩, ⟨se, 0, 10000⟩] W1.heap.size 5 5 _ rfl k (by rw [World.size_alloc]; omega) (by omega)).mono ?_
  rintro e W2 ⟨rfl, hb2⟩
  have K := (K.alloc (.cells #[.int .i64 ch, .int .i64 1, .int .i64 1000000, .int .i64 su, .int .i64 0, .int .i64 10000, .int .i64 idl, .int .i64 0, .int .i64 10000, .int .i64 sh, .int .i64 0, .int .i64 10000, .int .i64 se, .int .i64 0, .int .i64 10000] 89)).below hb2 (by have := K.lt; rw [World.size_alloc]; omega)
  have hb : Below w.heap.size w W2 := bl_then (bl_alloc hb _) hb2
  rw [HA1.out]
  clear k hb2 HA1 g0 g1 g2 g3 g4 g5 g6 g7 g8 g9 g10 g11 g12 g13 g14 g15 g16 g17 g18 g19 g20
  have g0 : W2.cell? ⟨w.heap.size, 0, none⟩ = some (.int .i64 id) := K.cell 0
  have g1 : W2.cell? ⟨w.heap.size, 1, none⟩ = some (.int .i64 ow) := K.cell 1
  have g2 : W2.cell? ⟨w.heap.size, 2, none⟩ = some (.int .i64 p) := K.cell 2
  have g3 : W2.cell? ⟨w.heap.size, 3, none⟩ = some (.int .i64 f) := K.cell 3
  have g4 : W2.cell? ⟨w.heap.size, 4, none⟩ = some (.int .i64 lo) := K.cell 4
  have g5 : W2.cell? ⟨w.heap.size, 5, none⟩ = some (.int .i64 hi) := K.cell 5
  have g6 : W2.cell? ⟨w.heap.size, 6, none⟩ = some (.int .i64 no) := K.cell 6
  have g7 : W2.cell? ⟨w.heap.size, 7, none⟩ = some (.int .i64 tu) := K.cell 7
  have g8 : W2.cell? ⟨w.heap.size, 8, none⟩ = some (.int .i64 sl) := K.cell 8
  have g9 : W2.cell? ⟨w.heap.size, 9, none⟩ = some (.int .i64 wi) := K.cell 9
  have g10 : W2.cell? ⟨w.heap.size, 10, none⟩ = some (.int .i64 st) := K.cell 10
  have g11 : W2.cell? ⟨w.heap.size, 11, none⟩ = some (.int .i64 ch) := K.cell 11
  have g12 : W2.cell? ⟨w.heap.size, 12, none⟩ = some (.int .i64 su) := K.cell 12
  have g13 : W2.cell? ⟨w.heap.size, 13, none⟩ = some (.int .i64 idl) := K.cell 13
  have g14 : W2.cell? ⟨w.heap.size, 14, none⟩ = some (.int .i64 sh) := K.cell 14
  have g15 : W2.cell? ⟨w.heap.size, 15, none⟩ = some (.int .i64 se) := K.cell 15
  have g16 : W2.cell? ⟨w.heap.size, 16, none⟩ = some (.int .i64 wa) := K.cell 16
  have g17 : W2.cell? ⟨w.heap.size, 17, none⟩ = some (.int .i64 co) := K.cell 17
  have g18 : W2.cell? ⟨w.heap.size, 18, none⟩ = some (.int .i64 ho) := K.cell 18
  have g19 : W2.cell? ⟨w.heap.size, 19, none⟩ = some (.int .i64 sw) := K.cell 19
  have g20 : W2.cell? ⟨w.heap.size, 20, none⟩ = some (.int .i64 ra) := K.cell 20
  go_wp2_with fail
  have k : BndR (W2.alloc (.cells #[.int .i64 wa, .int .i64 0, .int .i64 10000, .int .i64 co, .int .i64 0, .int .i64 10000, .int .i64 ho, .int .i64 1, .int .i64 1000000] 89)) W2.heap.size [⟨wa, 0, 10000⟩, ⟨co, 0, 10000⟩, ⟨ho, 1, 1000000⟩] := BndR.of_blk3 (Blk.new W2 89 #[.int .i64 wa, .int .i64 0, .int .i64 10000, .int .i64 co, .int .i64 0, .int .i64 10000, .int .i64 ho, .int .i64 1, .int .i64 1000000])
  refine (areIn_any [⟨wa, 0, 10000⟩, ⟨co, 0, 10000⟩, ⟨ho, 1, 1000000⟩] W2.heap.size 3 3 _ rfl k (by rw [World.size_alloc]; omega) (by omega)).mono ?_
  rintro e W3 ⟨rfl, hb3⟩
  have K := (K.alloc (.cells #[.int .i64 wa, .int .i64 0, .int .i64 10000, .int .i64 co, .int .i64 0, .int .i64 10000, .int .i64 ho, .int .i64 1, .int .i64 1000000] 89)).below hb3 (by have := K.lt; rw [World.size_alloc]; omega)
  have hb : Below w.heap.size w W3 := bl_then (bl_alloc hb _) hb3
  rw [HA2.out]
  clear k hb3 HA2 g0 g1 g2 g3 g4 g5 g6 g7 g8 g9 g10 g11 g12 g13 g14 g15 g16 g17 g18 g19 g20
  have g0 : W3.cell? ⟨w.heap.size, 0, none⟩ = some (.int .i64 id) := K.cell 0
  have g1 : W3.cell? ⟨w.heap.size, 1, none⟩ = some (.int .i64 ow) := K.cell 1
  have g2 : W3.cell? ⟨w.heap.size, 2, none⟩ = some (.int .i64 p) := K.cell 2
  have g3 : W3.cell? ⟨w.heap.size, 3, none⟩ = some (.int .i64 f) := K.cell 3
  have g4 : W3.cell? ⟨w.heap.size, 4, none⟩ = some (.int .i64 lo) := K.cell 4
  have g5 : W3.cell? ⟨w.heap.size, 5, none⟩ = some (.int .i64 hi) := K.cell 5
  have g6 : W3.cell? ⟨w.heap.size, 6, none⟩ = some (.int .i64 no) := K.cell 6
  have g7 : W3.cell? ⟨w.heap.size, 7, none⟩ = some (.int .i64 tu) := K.cell 7
  have g8 : W3.cell? ⟨w.heap.size, 8, none⟩ = some (.int .i64 sl) := K.cell 8
  have g9 : W3.cell? ⟨w.heap.size, 9, none⟩ = some (.int .i64 wi) := K.cell 9
  have g10 : W3.cell? ⟨w.heap.size, 10, none⟩ = some (.int .i64 st) := K.cell 10
  have g11 : W3.cell? ⟨w.heap.size, 11, none⟩ = some (.int .i64 ch) := K.cell 11
  have g12 : W3.cell? ⟨w.heap.size, 12, none⟩ = some (.int .i64 su) := K.cell 12
  have g13 : W3.cell? ⟨w.heap.size, 13, none⟩ = some (.int .i64 idl) := K.cell 13
  have g14 : W3.cell? ⟨w.heap.size, 14, none⟩ = some (.int .i64 sh) := K.cell 14
  have g15 : W3.cell? ⟨w.heap.size, 15, none⟩ = some (.int .i64 se) := K.cell 15
  have g16 : W3.cell? ⟨w.heap.size, 16, none⟩ = some (.int .i64 wa) := K.cell 16
  have g17 : W3.cell? ⟨w.heap.size, 17, none⟩ = some (.int .i64 co) := K.cell 17
  have g18 : W3.cell? ⟨w.heap.size, 18, none⟩ = some (.int .i64 ho) := K.cell 18
  have g19 : W3.cell? ⟨w.heap.size, 19, none⟩ = some (.int .i64 sw) := K.cell 19
  have g20 : W3.cell? ⟨w.heap.size, 20, none⟩ = some (.int .i64 ra) := K.cell 20
  go_wp2_with (go_at_call 50; refine (HV.out _).mono ?_; rintro e W4 ⟨rfl, hb4⟩)
  all_goals
    go_ret
    exact ⟨by simp [*], (by repeat (first | exact Below.refl _ _ | assumption | refine Below.drew ?_ | refine below_drewN ?_ _ | refine bl_alloc ?_ _ | refine Below.setCell ?_ (by first | (simp; done) | omega | (simp; omega)) _ | refine bl_then ?_ (by assumption)))⟩

end Go.Proofs.Ytlmpmhfbjblhnaa
