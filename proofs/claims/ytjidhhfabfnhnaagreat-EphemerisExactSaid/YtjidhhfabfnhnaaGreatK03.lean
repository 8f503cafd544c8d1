/- Comparisons of passes; a spell made longer at both ends (printed by contact_a20.py). -/
import Derived.Test.YtjidhhfabfnhnaaGreatK02
namespace Go.Proofs.YtjidhhfabfnhnaaGreat
open Go.RowKit
theorem Blk.set8 {w : World} {g : Nat} {t : TypeId} {a0 a1 a2 a3 a4 a5 a6 a7 : Value} (h : Blk w g t #[a0,a1,a2,a3,a4,a5,a6,a7]) (b0 b1 b2 b3 b4 b5 b6 b7 : Value) :
  Blk ((((((((w.setCell ⟨g,0,none⟩ b0).setCell ⟨g,1,none⟩ b1).setCell ⟨g,2,none⟩ b2).setCell ⟨g,3,none⟩ b3).setCell ⟨g,4,none⟩ b4).setCell ⟨g,5,none⟩ b5).setCell ⟨g,6,none⟩ b6).setCell ⟨g,7,none⟩ b7) g t #[b0,b1,b2,b3,b4,b5,b6,b7]:=by
 have k:=(((((((h.set_ 0 b0).set_ 1 b1).set_ 2 b2).set_ 3 b3).set_ 4 b4).set_ 5 b5).set_ 6 b6).set_ 7 b7
 simp only [List.setIfInBounds_toArray,List.set_cons_zero,List.set_cons_succ] at k
 exact k
set_option maxHeartbeats 1000000 in
theorem at_any (p f lo hi no tu sl t la : Int) (w : World) :
  Calls Tryz.prog 120 #[.agg #[.int .i64 p,.int .i64 f,.int .i64 lo,.int .i64 hi,.int .i64 no,.int .i64 tu,.int .i64 sl],.int .i64 t,.int .i64 la] w fun e w' => e = .returned (.tuple #[.agg #[.int .i64 p,.int .i64 f,.int .i64 lo,.int .i64 hi,.int .i64 no,.int .i64 tu,.int .i64 sl,.int .i64 (IntKind.i64.wrap (t - la))],.bool (inB t 0 1000000 && inB la (-10) 10 && orbOK ⟨p,f,lo,hi,no,tu,sl⟩)]) ∧ Below w.heap.size w w':=by
 generalize hT : IntKind.i64.wrap (t - la) = T
 generalize e0 : inB t 0 1000000 = b0
 generalize e1 : inB la (-10) 10 = b1
 have V:=orbit_valid p f lo hi no tu sl
 generalize orbOK ⟨p,f,lo,hi,no,tu,sl⟩ = b2 at V ⊢
 have E0:=Lib.hid e0
 have E1:=Lib.hid e1
 have HV:=Lib.hid V
 clear e0 e1 V
 go_enter Tryz.func120,Tryz.ntmps120
 go_wp2_with fail
 have K : Blk ((w.alloc (.cells #[.int .i64 p,.int .i64 f,.int .i64 lo,.int .i64 hi,.int .i64 no,.int .i64 tu,.int .i64 sl] 51)).alloc (.cells #[.int .i64 0,.int .i64 0,.int .i64 0,.int .i64 0,.int .i64 0,.int .i64 0,.int .i64 0,.int .i64 0] 183)) w.heap.size 51 #[.int .i64 p,.int .i64 f,.int .i64 lo,.int .i64 hi,.int .i64 no,.int .i64 tu,.int .i64 sl]:=(Blk.new _ _ _).alloc _
 have K2 : Blk ((w.alloc (.cells #[.int .i64 p,.int .i64 f,.int .i64 lo,.int .i64 hi,.int .i64 no,.int .i64 tu,.int .i64 sl] 51)).alloc (.cells #[.int .i64 0,.int .i64 0,.int .i64 0,.int .i64 0,.int .i64 0,.int .i64 0,.int .i64 0,.int .i64 0] 183)) (w.heap.size + 1) 183 #[.int .i64 0,.int .i64 0,.int .i64 0,.int .i64 0,.int .i64 0,.int .i64 0,.int .i64 0,.int .i64 0]:=by
  have k:=Blk.new (w.alloc (.cells #[.int .i64 p,.int .i64 f,.int .i64 lo,.int .i64 hi,.int .i64 no,.int .i64 tu,.int .i64 sl] 51)) 183 #[.int .i64 0,.int .i64 0,.int .i64 0,.int .i64 0,.int .i64 0,.int .i64 0,.int .i64 0,.int .i64 0]
  rw [World.size_alloc] at k
  exact k
 have hb : Below w.heap.size w ((w.alloc (.cells #[.int .i64 p,.int .i64 f,.int .i64 lo,.int .i64 hi,.int .i64 no,.int .i64 tu,.int .i64 sl] 51)).alloc (.cells #[.int .i64 0,.int .i64 0,.int .i64 0,.int .i64 0,.int .i64 0,.int .i64 0,.int .i64 0,.int .i64 0] 183)):=(by repeat (first | exact Below.refl _ _ | assumption | refine Below.drew ?_ | refine below_drewN ?_ _ | refine bl_alloc ?_ _ | refine Below.setCell ?_ (by first | (simp; done) | omega | (simp; omega)) _ | refine bl_then ?_ (by assumption)))
 generalize (w.alloc (.cells #[.int .i64 p,.int .i64 f,.int .i64 lo,.int .i64 hi,.int .i64 no,.int .i64 tu,.int .i64 sl] 51)).alloc (.cells #[.int .i64 0,.int .i64 0,.int .i64 0,.int .i64 0,.int .i64 0,.int .i64 0,.int .i64 0,.int .i64 0] 183) = W at K K2 hb ⊢
 refine (oin_any _ _ _ _).mono ?_
 rintro e w1 ⟨rfl,rfl⟩
 rw [E0.out]
 cases b0
 ·skip
  have g0 : W.cell? ⟨w.heap.size,0,none⟩ = some (.int .i64 p):=K.cell 0
  have g1 : W.cell? ⟨w.heap.size,1,none⟩ = some (.int .i64 f):=K.cell 1
  have g2 : W.cell? ⟨w.heap.size,2,none⟩ = some (.int .i64 lo):=K.cell 2
  have g3 : W.cell? ⟨w.heap.size,3,none⟩ = some (.int .i64 hi):=K.cell 3
  have g4 : W.cell? ⟨w.heap.size,4,none⟩ = some (.int .i64 no):=K.cell 4
  have g5 : W.cell? ⟨w.heap.size,5,none⟩ = some (.int .i64 tu):=K.cell 5
  have g6 : W.cell? ⟨w.heap.size,6,none⟩ = some (.int .i64 sl):=K.cell 6
  have z0 : W.cell? ⟨w.heap.size + 1,0,none⟩ = some (.int .i64 0):=K2.cell 0
  have y0:=K2.frozen 0
  have z1 : W.cell? ⟨w.heap.size + 1,1,none⟩ = some (.int .i64 0):=K2.cell 1
  have y1:=K2.frozen 1
  have z2 : W.cell? ⟨w.heap.size + 1,2,none⟩ = some (.int .i64 0):=K2.cell 2
  have y2:=K2.frozen 2
  have z3 : W.cell? ⟨w.heap.size + 1,3,none⟩ = some (.int .i64 0):=K2.cell 3
  have y3:=K2.frozen 3
  have z4 : W.cell? ⟨w.heap.size + 1,4,none⟩ = some (.int .i64 0):=K2.cell 4
  have y4:=K2.frozen 4
  have z5 : W.cell? ⟨w.heap.size + 1,5,none⟩ = some (.int .i64 0):=K2.cell 5
  have y5:=K2.frozen 5
  have z6 : W.cell? ⟨w.heap.size + 1,6,none⟩ = some (.int .i64 0):=K2.cell 6
  have y6:=K2.frozen 6
  have z7 : W.cell? ⟨w.heap.size + 1,7,none⟩ = some (.int .i64 0):=K2.cell 7
  have y7:=K2.frozen 7
  go_wp2
  clear z0 y0 z1 y1 z2 y2 z3 y3 z4 y4 z5 y5 z6 y6 z7 y7 g0 g1 g2 g3 g4 g5 g6
  have K4:=K2.set8 (.int .i64 p) (.int .i64 f) (.int .i64 lo) (.int .i64 hi) (.int .i64 no) (.int .i64 tu) (.int .i64 sl) (.int .i64 T)
  have hB4 : Below w.heap.size w ((((((((W.setCell ⟨w.heap.size + 1,0,none⟩ (.int .i64 p)).setCell ⟨w.heap.size + 1,1,none⟩ (.int .i64 f)).setCell ⟨w.heap.size + 1,2,none⟩ (.int .i64 lo)).setCell ⟨w.heap.size + 1,3,none⟩ (.int .i64 hi)).setCell ⟨w.heap.size + 1,4,none⟩ (.int .i64 no)).setCell ⟨w.heap.size + 1,5,none⟩ (.int .i64 tu)).setCell ⟨w.heap.size + 1,6,none⟩ (.int .i64 sl)).setCell ⟨w.heap.size + 1,7,none⟩ (.int .i64 T)):=((((((((hb.setCell (p:=⟨w.heap.size + 1,0,none⟩) (Nat.le_succ _) _).setCell (p:=⟨w.heap.size + 1,1,none⟩) (Nat.le_succ _) _).setCell (p:=⟨w.heap.size + 1,2,none⟩) (Nat.le_succ _) _).setCell (p:=⟨w.heap.size + 1,3,none⟩) (Nat.le_succ _) _).setCell (p:=⟨w.heap.size + 1,4,none⟩) (Nat.le_succ _) _).setCell (p:=⟨w.heap.size + 1,5,none⟩) (Nat.le_succ _) _).setCell (p:=⟨w.heap.size + 1,6,none⟩) (Nat.le_succ _) _).setCell (p:=⟨w.heap.size + 1,7,none⟩) (Nat.le_succ _) _)
  generalize ((((((((W.setCell ⟨w.heap.size + 1,0,none⟩ (.int .i64 p)).setCell ⟨w.heap.size + 1,1,none⟩ (.int .i64 f)).setCell ⟨w.heap.size + 1,2,none⟩ (.int .i64 lo)).setCell ⟨w.heap.size + 1,3,none⟩ (.int .i64 hi)).setCell ⟨w.heap.size + 1,4,none⟩ (.int .i64 no)).setCell ⟨w.heap.size + 1,5,none⟩ (.int .i64 tu)).setCell ⟨w.heap.size + 1,6,none⟩ (.int .i64 sl)).setCell ⟨w.heap.size + 1,7,none⟩ (.int .i64 T)) = w4 at K4 hB4 ⊢
  have c0 : w4.cell? ⟨w.heap.size + 1,0,none⟩ = some (.int .i64 p):=K4.cell 0
  have c1 : w4.cell? ⟨w.heap.size + 1,1,none⟩ = some (.int .i64 f):=K4.cell 1
  have c2 : w4.cell? ⟨w.heap.size + 1,2,none⟩ = some (.int .i64 lo):=K4.cell 2
  have c3 : w4.cell? ⟨w.heap.size + 1,3,none⟩ = some (.int .i64 hi):=K4.cell 3
  have c4 : w4.cell? ⟨w.heap.size + 1,4,none⟩ = some (.int .i64 no):=K4.cell 4
  have c5 : w4.cell? ⟨w.heap.size + 1,5,none⟩ = some (.int .i64 tu):=K4.cell 5
  have c6 : w4.cell? ⟨w.heap.size + 1,6,none⟩ = some (.int .i64 sl):=K4.cell 6
  have c7 : w4.cell? ⟨w.heap.size + 1,7,none⟩ = some (.int .i64 T):=K4.cell 7
  exact bodyPost_ret (v:=.tuple #[.agg #[.int .i64 p,.int .i64 f,.int .i64 lo,.int .i64 hi,.int .i64 no,.int .i64 tu,.int .i64 sl,.int .i64 T],.bool false]) (by simp [results,Tryz.results120,go_sem,c0,c1,c2,c3,c4,c5,c6,c7]) rfl ⟨by simp,hB4⟩
 ·cases b1
  ·skip
   have g0 : W.cell? ⟨w.heap.size,0,none⟩ = some (.int .i64 p):=K.cell 0
   have g1 : W.cell? ⟨w.heap.size,1,none⟩ = some (.int .i64 f):=K.cell 1
   have g2 : W.cell? ⟨w.heap.size,2,none⟩ = some (.int .i64 lo):=K.cell 2
   have g3 : W.cell? ⟨w.heap.size,3,none⟩ = some (.int .i64 hi):=K.cell 3
   have g4 : W.cell? ⟨w.heap.size,4,none⟩ = some (.int .i64 no):=K.cell 4
   have g5 : W.cell? ⟨w.heap.size,5,none⟩ = some (.int .i64 tu):=K.cell 5
   have g6 : W.cell? ⟨w.heap.size,6,none⟩ = some (.int .i64 sl):=K.cell 6
   have z0 : W.cell? ⟨w.heap.size + 1,0,none⟩ = some (.int .i64 0):=K2.cell 0
   have y0:=K2.frozen 0
   have z1 : W.cell? ⟨w.heap.size + 1,1,none⟩ = some (.int .i64 0):=K2.cell 1
   have y1:=K2.frozen 1
   have z2 : W.cell? ⟨w.heap.size + 1,2,none⟩ = some (.int .i64 0):=K2.cell 2
   have y2:=K2.frozen 2
   have z3 : W.cell? ⟨w.heap.size + 1,3,none⟩ = some (.int .i64 0):=K2.cell 3
   have y3:=K2.frozen 3
   have z4 : W.cell? ⟨w.heap.size + 1,4,none⟩ = some (.int .i64 0):=K2.cell 4
   have y4:=K2.frozen 4
   have z5 : W.cell? ⟨w.heap.size + 1,5,none⟩ = some (.int .i64 0):=K2.cell 5
   have y5:=K2.frozen 5
   have z6 : W.cell? ⟨w.heap.size + 1,6,none⟩ = some (.int .i64 0):=K2.cell 6
   have y6:=K2.frozen 6
   have z7 : W.cell? ⟨w.heap.size + 1,7,none⟩ = some (.int .i64 0):=K2.cell 7
   have y7:=K2.frozen 7
   go_wp2_with fail
   refine (oin_any _ _ _ _).mono ?_
   rintro e w1 ⟨rfl,rfl⟩
   rw [E1.out]
   go_wp2
   clear z0 y0 z1 y1 z2 y2 z3 y3 z4 y4 z5 y5 z6 y6 z7 y7 g0 g1 g2 g3 g4 g5 g6
   have K4:=K2.set8 (.int .i64 p) (.int .i64 f) (.int .i64 lo) (.int .i64 hi) (.int .i64 no) (.int .i64 tu) (.int .i64 sl) (.int .i64 T)
   have hB4 : Below w.heap.size w ((((((((W.setCell ⟨w.heap.size + 1,0,none⟩ (.int .i64 p)).setCell ⟨w.heap.size + 1,1,none⟩ (.int .i64 f)).setCell ⟨w.heap.size + 1,2,none⟩ (.int .i64 lo)).setCell ⟨w.heap.size + 1,3,none⟩ (.int .i64 hi)).setCell ⟨w.heap.size + 1,4,none⟩ (.int .i64 no)).setCell ⟨w.heap.size + 1,5,none⟩ (.int .i64 tu)).setCell ⟨w.heap.size + 1,6,none⟩ (.int .i64 sl)).setCell ⟨w.heap.size + 1,7,none⟩ (.int .i64 T)):=((((((((hb.setCell (p:=⟨w.heap.size + 1,0,none⟩) (Nat.le_succ _) _).setCell (p:=⟨w.heap.size + 1,1,none⟩) (Nat.le_succ _) _).setCell (p:=⟨w.heap.size + 1,2,none⟩) (Nat.le_succ _) _).setCell (p:=⟨w.heap.size + 1,3,none⟩) (Nat.le_succ _) _).setCell (p:=⟨w.heap.size + 1,4,none⟩) (Nat.le_succ _) _).setCell (p:=⟨w.heap.size + 1,5,none⟩) (Nat.le_succ _) _).setCell (p:=⟨w.heap.size + 1,6,none⟩) (Nat.le_succ _) _).setCell (p:=⟨w.heap.size + 1,7,none⟩) (Nat.le_succ _) _)
   generalize ((((((((W.setCell ⟨w.heap.size + 1,0,none⟩ (.int .i64 p)).setCell ⟨w.heap.size + 1,1,none⟩ (.int .i64 f)).setCell ⟨w.heap.size + 1,2,none⟩ (.int .i64 lo)).setCell ⟨w.heap.size + 1,3,none⟩ (.int .i64 hi)).setCell ⟨w.heap.size + 1,4,none⟩ (.int .i64 no)).setCell ⟨w.heap.size + 1,5,none⟩ (.int .i64 tu)).setCell ⟨w.heap.size + 1,6,none⟩ (.int .i64 sl)).setCell ⟨w.heap.size + 1,7,none⟩ (.int .i64 T)) = w4 at K4 hB4 ⊢
   have c0 : w4.cell? ⟨w.heap.size + 1,0,none⟩ = some (.int .i64 p):=K4.cell 0
   have c1 : w4.cell? ⟨w.heap.size + 1,1,none⟩ = some (.int .i64 f):=K4.cell 1
   have c2 : w4.cell? ⟨w.heap.size + 1,2,none⟩ = some (.int .i64 lo):=K4.cell 2
   have c3 : w4.cell? ⟨w.heap.size + 1,3,none⟩ = some (.int .i64 hi):=K4.cell 3
   have c4 : w4.cell? ⟨w.heap.size + 1,4,none⟩ = some (.int .i64 no):=K4.cell 4
   have c5 : w4.cell? ⟨w.heap.size + 1,5,none⟩ = some (.int .i64 tu):=K4.cell 5
   have c6 : w4.cell? ⟨w.heap.size + 1,6,none⟩ = some (.int .i64 sl):=K4.cell 6
   have c7 : w4.cell? ⟨w.heap.size + 1,7,none⟩ = some (.int .i64 T):=K4.cell 7
   exact bodyPost_ret (v:=.tuple #[.agg #[.int .i64 p,.int .i64 f,.int .i64 lo,.int .i64 hi,.int .i64 no,.int .i64 tu,.int .i64 sl,.int .i64 T],.bool false]) (by simp [results,Tryz.results120,go_sem,c0,c1,c2,c3,c4,c5,c6,c7]) rfl ⟨by simp,hB4⟩
  ·skip
   have g0 : W.cell? ⟨w.heap.size,0,none⟩ = some (.int .i64 p):=K.cell 0
   have g1 : W.cell? ⟨w.heap.size,1,none⟩ = some (.int .i64 f):=K.cell 1
   have g2 : W.cell? ⟨w.heap.size,2,none⟩ = some (.int .i64 lo):=K.cell 2
   have g3 : W.cell? ⟨w.heap.size,3,none⟩ = some (.int .i64 hi):=K.cell 3
   have g4 : W.cell? ⟨w.heap.size,4,none⟩ = some (.int .i64 no):=K.cell 4
   have g5 : W.cell? ⟨w.heap.size,5,none⟩ = some (.int .i64 tu):=K.cell 5
   have g6 : W.cell? ⟨w.heap.size,6,none⟩ = some (.int .i64 sl):=K.cell 6
   have z0 : W.cell? ⟨w.heap.size + 1,0,none⟩ = some (.int .i64 0):=K2.cell 0
   have y0:=K2.frozen 0
   have z1 : W.cell? ⟨w.heap.size + 1,1,none⟩ = some (.int .i64 0):=K2.cell 1
   have y1:=K2.frozen 1
   have z2 : W.cell? ⟨w.heap.size + 1,2,none⟩ = some (.int .i64 0):=K2.cell 2
   have y2:=K2.frozen 2
   have z3 : W.cell? ⟨w.heap.size + 1,3,none⟩ = some (.int .i64 0):=K2.cell 3
   have y3:=K2.frozen 3
   have z4 : W.cell? ⟨w.heap.size + 1,4,none⟩ = some (.int .i64 0):=K2.cell 4
   have y4:=K2.frozen 4
   have z5 : W.cell? ⟨w.heap.size + 1,5,none⟩ = some (.int .i64 0):=K2.cell 5
   have y5:=K2.frozen 5
   have z6 : W.cell? ⟨w.heap.size + 1,6,none⟩ = some (.int .i64 0):=K2.cell 6
   have y6:=K2.frozen 6
   have z7 : W.cell? ⟨w.heap.size + 1,7,none⟩ = some (.int .i64 0):=K2.cell 7
   have y7:=K2.frozen 7
   go_wp2_with fail
   refine (oin_any _ _ _ _).mono ?_
   rintro e w1 ⟨rfl,rfl⟩
   rw [E1.out]
   go_wp2_with fail
   refine (HV.out _).mono ?_
   rintro e W2 ⟨rfl,hb2⟩
   clear z0 y0 z1 y1 z2 y2 z3 y3 z4 y4 z5 y5 z6 y6 z7 y7 g0 g1 g2 g3 g4 g5 g6
   have K:=K.below hb2 (by have:=K.lt; omega)
   have K2:=K2.below hb2 (by have:=K2.lt; omega)
   have hB2 : Below w.heap.size w W2:=hb.trans (Below.mono hb2 hb.size)
   have g0 : W2.cell? ⟨w.heap.size,0,none⟩ = some (.int .i64 p):=K.cell 0
   have g1 : W2.cell? ⟨w.heap.size,1,none⟩ = some (.int .i64 f):=K.cell 1
   have g2 : W2.cell? ⟨w.heap.size,2,none⟩ = some (.int .i64 lo):=K.cell 2
   have g3 : W2.cell? ⟨w.heap.size,3,none⟩ = some (.int .i64 hi):=K.cell 3
   have g4 : W2.cell? ⟨w.heap.size,4,none⟩ = some (.int .i64 no):=K.cell 4
   have g5 : W2.cell? ⟨w.heap.size,5,none⟩ = some (.int .i64 tu):=K.cell 5
   have g6 : W2.cell? ⟨w.heap.size,6,none⟩ = some (.int .i64 sl):=K.cell 6
   have z0 : W2.cell? ⟨w.heap.size + 1,0,none⟩ = some (.int .i64 0):=K2.cell 0
   have y0:=K2.frozen 0
   have z1 : W2.cell? ⟨w.heap.size + 1,1,none⟩ = some (.int .i64 0):=K2.cell 1
   have y1:=K2.frozen 1
   have z2 : W2.cell? ⟨w.heap.size + 1,2,none⟩ = some (.int .i64 0):=K2.cell 2
   have y2:=K2.frozen 2
   have z3 : W2.cell? ⟨w.heap.size + 1,3,none⟩ = some (.int .i64 0):=K2.cell 3
   have y3:=K2.frozen 3
   have z4 : W2.cell? ⟨w.heap.size + 1,4,none⟩ = some (.int .i64 0):=K2.cell 4
   have y4:=K2.frozen 4
   have z5 : W2.cell? ⟨w.heap.size + 1,5,none⟩ = some (.int .i64 0):=K2.cell 5
   have y5:=K2.frozen 5
   have z6 : W2.cell? ⟨w.heap.size + 1,6,none⟩ = some (.int .i64 0):=K2.cell 6
   have y6:=K2.frozen 6
   have z7 : W2.cell? ⟨w.heap.size + 1,7,none⟩ = some (.int .i64 0):=K2.cell 7
   have y7:=K2.frozen 7
   go_wp2
   clear z0 y0 z1 y1 z2 y2 z3 y3 z4 y4 z5 y5 z6 y6 z7 y7 g0 g1 g2 g3 g4 g5 g6
   have K4:=K2.set8 (.int .i64 p) (.int .i64 f) (.int .i64 lo) (.int .i64 hi) (.int .i64 no) (.int .i64 tu) (.int .i64 sl) (.int .i64 T)
   have hB4 : Below w.heap.size w ((((((((W2.setCell ⟨w.heap.size + 1,0,none⟩ (.int .i64 p)).setCell ⟨w.heap.size + 1,1,none⟩ (.int .i64 f)).setCell ⟨w.heap.size + 1,2,none⟩ (.int .i64 lo)).setCell ⟨w.heap.size + 1,3,none⟩ (.int .i64 hi)).setCell ⟨w.heap.size + 1,4,none⟩ (.int .i64 no)).setCell ⟨w.heap.size + 1,5,none⟩ (.int .i64 tu)).setCell ⟨w.heap.size + 1,6,none⟩ (.int .i64 sl)).setCell ⟨w.heap.size + 1,7,none⟩ (.int .i64 T)):=((((((((hB2.setCell (p:=⟨w.heap.size + 1,0,none⟩) (Nat.le_succ _) _).setCell (p:=⟨w.heap.size + 1,1,none⟩) (Nat.le_succ _) _).setCell (p:=⟨w.heap.size + 1,2,none⟩) (Nat.le_succ _) _).setCell (p:=⟨w.heap.size + 1,3,none⟩) (Nat.le_succ _) _).setCell (p:=⟨w.heap.size + 1,4,none⟩) (Nat.le_succ _) _).setCell (p:=⟨w.heap.size + 1,5,none⟩) (Nat.le_succ _) _).setCell (p:=⟨w.heap.size + 1,6,none⟩) (Nat.le_succ _) _).setCell (p:=⟨w.heap.size + 1,7,none⟩) (Nat.le_succ _) _)
   generalize ((((((((W2.setCell ⟨w.heap.size + 1,0,none⟩ (.int .i64 p)).setCell ⟨w.heap.size + 1,1,none⟩ (.int .i64 f)).setCell ⟨w.heap.size + 1,2,none⟩ (.int .i64 lo)).setCell ⟨w.heap.size + 1,3,none⟩ (.int .i64 hi)).setCell ⟨w.heap.size + 1,4,none⟩ (.int .i64 no)).setCell ⟨w.heap.size + 1,5,none⟩ (.int .i64 tu)).setCell ⟨w.heap.size + 1,6,none⟩ (.int .i64 sl)).setCell ⟨w.heap.size + 1,7,none⟩ (.int .i64 T)) = w4 at K4 hB4 ⊢
   have c0 : w4.cell? ⟨w.heap.size + 1,0,none⟩ = some (.int .i64 p):=K4.cell 0
   have c1 : w4.cell? ⟨w.heap.size + 1,1,none⟩ = some (.int .i64 f):=K4.cell 1
   have c2 : w4.cell? ⟨w.heap.size + 1,2,none⟩ = some (.int .i64 lo):=K4.cell 2
   have c3 : w4.cell? ⟨w.heap.size + 1,3,none⟩ = some (.int .i64 hi):=K4.cell 3
   have c4 : w4.cell? ⟨w.heap.size + 1,4,none⟩ = some (.int .i64 no):=K4.cell 4
   have c5 : w4.cell? ⟨w.heap.size + 1,5,none⟩ = some (.int .i64 tu):=K4.cell 5
   have c6 : w4.cell? ⟨w.heap.size + 1,6,none⟩ = some (.int .i64 sl):=K4.cell 6
   have c7 : w4.cell? ⟨w.heap.size + 1,7,none⟩ = some (.int .i64 T):=K4.cell 7
   exact bodyPost_ret (v:=.tuple #[.agg #[.int .i64 p,.int .i64 f,.int .i64 lo,.int .i64 hi,.int .i64 no,.int .i64 tu,.int .i64 sl,.int .i64 T],.bool b2]) (by simp [results,Tryz.results120,go_sem,c0,c1,c2,c3,c4,c5,c6,c7]) rfl ⟨by simp,hB4⟩
end Go.Proofs.YtjidhhfabfnhnaaGreat
namespace Go.Proofs.YtjidhhfabfnhnaaGreat
open Go.RowKit
def atV : Option Cel → Value
 | none => .tuple #[.agg #[.int .i64 0,.int .i64 0],.int .i64 70]
 | some c => .tuple #[.agg #[.int .i64 c.x,.int .i64 c.y],.int .i64 0]
theorem At_any (p f lo hi no tu sl t la : Int) (w : World) :
  Calls Tryz.prog 61 #[.agg #[.int .i64 p,.int .i64 f,.int .i64 lo,.int .i64 hi,.int .i64 no,.int .i64 tu,.int .i64 sl],.int .i64 t,.int .i64 la] w fun e w' => e = .returned (atV (atP ⟨p,f,lo,hi,no,tu,sl⟩ t la)) ∧ Below w.heap.size w w':=by
 have A1:=at_any p f lo hi no tu sl t la
 generalize hT : IntKind.i64.wrap (t - la) = T at A1
 generalize hok : (inB t 0 1000000 && inB la (-10) 10 && orbOK ⟨p,f,lo,hi,no,tu,sl⟩) = ok at A1
 have HA:=Lib.hid A1
 clear A1
 go_enter Tryz.func61,Tryz.ntmps61
 go_wp2_with fail
 have K : Blk ((w.alloc (.cells #[.int .i64 p,.int .i64 f,.int .i64 lo,.int .i64 hi,.int .i64 no,.int .i64 tu,.int .i64 sl] 51)).alloc (.cells #[.int .i64 0,.int .i64 0] 69)) w.heap.size 51 #[.int .i64 p,.int .i64 f,.int .i64 lo,.int .i64 hi,.int .i64 no,.int .i64 tu,.int .i64 sl]:=(Blk.new _ _ _).alloc _
 have K2 : Blk ((w.alloc (.cells #[.int .i64 p,.int .i64 f,.int .i64 lo,.int .i64 hi,.int .i64 no,.int .i64 tu,.int .i64 sl] 51)).alloc (.cells #[.int .i64 0,.int .i64 0] 69)) (w.heap.size + 1) 69 #[.int .i64 0,.int .i64 0]:=by
  have k:=Blk.new (w.alloc (.cells #[.int .i64 p,.int .i64 f,.int .i64 lo,.int .i64 hi,.int .i64 no,.int .i64 tu,.int .i64 sl] 51)) 69 #[.int .i64 0,.int .i64 0]
  rw [World.size_alloc] at k
  exact k
 have hb : Below w.heap.size w ((w.alloc (.cells #[.int .i64 p,.int .i64 f,.int .i64 lo,.int .i64 hi,.int .i64 no,.int .i64 tu,.int .i64 sl] 51)).alloc (.cells #[.int .i64 0,.int .i64 0] 69)):=(by repeat (first | exact Below.refl _ _ | assumption | refine Below.drew ?_ | refine below_drewN ?_ _ | refine bl_alloc ?_ _ | refine Below.setCell ?_ (by first | (simp; done) | omega | (simp; omega)) _ | refine bl_then ?_ (by assumption)))
 generalize (w.alloc (.cells #[.int .i64 p,.int .i64 f,.int .i64 lo,.int .i64 hi,.int .i64 no,.int .i64 tu,.int .i64 sl] 51)).alloc (.cells #[.int .i64 0,.int .i64 0] 69) = W at K K2 hb ⊢
 refine (HA.out _).mono ?_
 rintro e W2 ⟨rfl,hb2⟩
 have K2:=K2.below hb2 (by have:=K2.lt; omega)
 have hB2 : Below w.heap.size w W2:=hb.trans (Below.mono hb2 hb.size)
 clear K hb hb2
 have hlt : w.heap.size + 1 < W2.heap.size:=K2.lt
 have z0 : W2.cell? ⟨w.heap.size + 1,0,none⟩ = some (.int .i64 0):=K2.cell 0
 have z1 : W2.cell? ⟨w.heap.size + 1,1,none⟩ = some (.int .i64 0):=K2.cell 1
 have y0:=K2.frozen 0
 have y1:=K2.frozen 1
 cases ok
 ·have ha : atP ⟨p,f,lo,hi,no,tu,sl⟩ t la = none:=by rw [atP,hok]; rfl
  have HP:=Lib.hid ha
  clear ha hok
  go_wp2
  have K4:=((K2.set_ 0 (.int .i64 0)).set_ 1 (.int .i64 0)).alloc (.cells #[.int .i64 p,.int .i64 f,.int .i64 lo,.int .i64 hi,.int .i64 no,.int .i64 tu,.int .i64 sl,.int .i64 T] 183)
  have hB4 : Below w.heap.size w (((W2.setCell ⟨w.heap.size + 1,0,none⟩ (.int .i64 0)).setCell ⟨w.heap.size + 1,1,none⟩ (.int .i64 0)).alloc (.cells #[.int .i64 p,.int .i64 f,.int .i64 lo,.int .i64 hi,.int .i64 no,.int .i64 tu,.int .i64 sl,.int .i64 T] 183)):=bl_alloc ((hB2.setCell (p:=⟨w.heap.size + 1,0,none⟩) (Nat.le_succ _) _).setCell (p:=⟨w.heap.size + 1,1,none⟩) (Nat.le_succ _) _) _
  generalize ((W2.setCell ⟨w.heap.size + 1,0,none⟩ (.int .i64 0)).setCell ⟨w.heap.size + 1,1,none⟩ (.int .i64 0)).alloc (.cells #[.int .i64 p,.int .i64 f,.int .i64 lo,.int .i64 hi,.int .i64 no,.int .i64 tu,.int .i64 sl,.int .i64 T] 183) = w4 at K4 hB4 ⊢
  have c0 : w4.cell? ⟨w.heap.size + 1,0,none⟩ = some (.int .i64 0):=K4.cell 0
  have c1 : w4.cell? ⟨w.heap.size + 1,1,none⟩ = some (.int .i64 0):=K4.cell 1
  exact bodyPost_ret (v:=.tuple #[.agg #[.int .i64 0,.int .i64 0],.int .i64 70]) (by simp [results,Tryz.results61,go_sem,c0,c1]) rfl ⟨by rw [HP.out]; rfl,hB4⟩
 ·have ha : atP ⟨p,f,lo,hi,no,tu,sl⟩ t la = some ⟨colP ⟨p,f,lo,hi,no,tu,sl⟩ (t - la) / 1000,rowP ⟨p,f,lo,hi,no,tu,sl⟩ (t - la) / 1000⟩:=by rw [atP,hok]; rfl
  have HP:=Lib.hid ha
  clear ha
  simp only [orbOK,inB,Bool.and_eq_true,decide_eq_true_eq] at hok
  obtain ⟨⟨⟨i1,i2⟩,i3,i4⟩,⟨⟨⟨⟨⟨⟨⟨⟨o1,o2⟩,o3⟩,o4,o5⟩,o6,o7⟩,o8,o9⟩,o10⟩,o11,o12⟩,o13,o14⟩,o15,o16⟩:=hok
  have hT' : T = t - la:=by rw [← hT]; exact IntWalk.i64_in _ (by omega)
  clear hT
  have C:=cell_any p f lo hi no tu sl (t - la) o1 o2 o4 (by omega) o6 o10 o9 (by omega) (by omega) o11 o12 o13 o14
  rw [← hT'] at C HP
  generalize colP ⟨p,f,lo,hi,no,tu,sl⟩ T / 1000 = X at C HP
  generalize rowP ⟨p,f,lo,hi,no,tu,sl⟩ T / 1000 = Y at C HP
  have HC:=Lib.hid C
  clear C o3 hT'
  go_wp2_with fail
  refine (HC.out _).mono ?_
  rintro e W5 ⟨rfl,hb5⟩
  have K5:=(K2.alloc (.cells #[.int .i64 p,.int .i64 f,.int .i64 lo,.int .i64 hi,.int .i64 no,.int .i64 tu,.int .i64 sl,.int .i64 T] 183)).below hb5 (by rw [World.size_alloc]; omega)
  have hB5 : Below w.heap.size w W5:=bl_then (bl_alloc hB2 _) hb5
  clear z0 z1 y0 y1 hb5 K2 hB2 hlt
  have z0 : W5.cell? ⟨w.heap.size + 1,0,none⟩ = some (.int .i64 0):=K5.cell 0
  have z1 : W5.cell? ⟨w.heap.size + 1,1,none⟩ = some (.int .i64 0):=K5.cell 1
  have y0:=K5.frozen 0
  have y1:=K5.frozen 1
  go_wp2
  have K4:=(K5.set_ 0 (.int .i64 X)).set_ 1 (.int .i64 Y)
  have hB4 : Below w.heap.size w ((W5.setCell ⟨w.heap.size + 1,0,none⟩ (.int .i64 X)).setCell ⟨w.heap.size + 1,1,none⟩ (.int .i64 Y)):=(hB5.setCell (p:=⟨w.heap.size + 1,0,none⟩) (Nat.le_succ _) _).setCell (p:=⟨w.heap.size + 1,1,none⟩) (Nat.le_succ _) _
  generalize (W5.setCell ⟨w.heap.size + 1,0,none⟩ (.int .i64 X)).setCell ⟨w.heap.size + 1,1,none⟩ (.int .i64 Y) = w4 at K4 hB4 ⊢
  have c0 : w4.cell? ⟨w.heap.size + 1,0,none⟩ = some (.int .i64 X):=K4.cell 0
  have c1 : w4.cell? ⟨w.heap.size + 1,1,none⟩ = some (.int .i64 Y):=K4.cell 1
  exact bodyPost_ret (v:=.tuple #[.agg #[.int .i64 X,.int .i64 Y],.int .i64 0]) (by simp [results,Tryz.results61,go_sem,c0,c1]) rfl ⟨by rw [HP.out]; rfl,hB4⟩
end Go.Proofs.YtjidhhfabfnhnaaGreat
namespace Go.Proofs.YtjidhhfabfnhnaaGreat
open Go.RowKit
structure Bnd where
 n : Int
 lo : Int
 hi : Int
def bndCells (b : Bnd) : List Value:=[.int .i64 b.n,.int .i64 b.lo,.int .i64 b.hi]
def bndOut (b : Bnd) : Bool:=!inB b.n b.lo b.hi
def idxB (p : Bnd → Bool) : List Bnd → Int → Int
 | [],_ => -1
 | x :: r,k => if p x then k else idxB p r (k + 1)
theorem idxB_any (p : Bnd → Bool) (l : List Bnd) (k : Int) (hk : 0 ≤ k) : (0 ≤ idxB p l k) = (l.any p = true):=by
 induction l generalizing k with
 | nil => simp [idxB]
 | cons x r ih =>
  unfold idxB
  cases hx : p x
  ·simp [hx,ih (k + 1) (by omega)]
  ·simp [hx,hk]
theorem idxB_drop (p : Bnd → Bool) (l : List Bnd) (k : Nat) (h : k < l.length) : idxB p (l.drop k) k = if p l[k] then (k : Int) else idxB p (l.drop (k + 1)) (k + 1 : Nat):=by
 rw [List.drop_eq_getElem_cons h,idxB]
 split <;> simp
def BndR (w : World) (b : Nat) (l : List Bnd) : Prop:=∀ k (h : k < l.length),w.cell? ⟨b,k * 3,none⟩ = some (.int .i64 l[k].n) ∧ w.cell? ⟨b,k * 3 + 1,none⟩ = some (.int .i64 l[k].lo) ∧ w.cell? ⟨b,k * 3 + 2,none⟩ = some (.int .i64 l[k].hi)
theorem BndR.below {w w' : World} {b B : Nat} {l : List Bnd} (h : BndR w b l) (hb : Below B w w') (hB : b < B) : BndR w' b l:=fun k hk => by
 obtain ⟨h1,h2,h3⟩:=h k hk
 exact ⟨(hb.cell (p:=⟨b,k * 3,none⟩) hB).trans h1,(hb.cell (p:=⟨b,k * 3 + 1,none⟩) hB).trans h2,(hb.cell (p:=⟨b,k * 3 + 2,none⟩) hB).trans h3⟩
theorem areIn1_any (x lo hi : Int) (w : World) :
  Calls Tryz.prog 156 #[.agg #[.int .i64 x,.int .i64 lo,.int .i64 hi]] w fun e w' => e = .returned (.bool (!inB x lo hi)) ∧ Below w.heap.size w w':=by
 go_enter Tryz.func156,Tryz.ntmps156
 go_wp2_with (go_at_call 157; refine (isIn_any _ _ _ _).mono ?_; rintro e w' ⟨rfl,rfl⟩)
 go_ret
 exact ⟨by simp,(by repeat (first | exact Below.refl _ _ | assumption | refine Below.drew ?_ | refine below_drewN ?_ _ | refine bl_alloc ?_ _ | refine Below.setCell ?_ (by first | (simp; done) | omega | (simp; omega)) _ | refine bl_then ?_ (by assumption)))⟩
theorem indexBnd (l : List Bnd) (b n c : Nat) (w : World) (hl : l.length = n) (h : BndR w b l) (hb : b < w.heap.size) (hn : n ≤ 1099511627776) :
  Calls Tryz.prog 166 #[.slice (some ⟨b,0,none⟩) n c,.func (.func 156) #[] #[]] w
   fun e w' => e = .returned (.int .i64 (idxB bndOut l 0)) ∧ Below w.heap.size w w':=by
 have HL:=Lib.hid hl
 have HB:=Lib.hid h
 clear hl h
 go_enter Tryz.func166,Tryz.ntmps166
 go_wp2
 go_loopw [8] (fun i wr => ∃ k : Nat,k ≤ n ∧ i = .int .i64 k ∧ Hid (idxB bndOut l 0 = idxB bndOut (l.drop k) k) ∧ Below w.heap.size w wr) (fun i _ => n - (intOf i).toNat)
 case atStart => exact ⟨0,Nat.zero_le _,rfl,rfl,Below.refl _ _⟩
 case round =>
  obtain ⟨k,hk,rfl,H,hB⟩:=hrel
  by_cases hlt : k < n
  ·have hz : k < l.length:=by rw [HL.out]; exact hlt
   obtain ⟨f0,f1,f2⟩:=(HB.out.below hB hb) k hz
   have hst:=idxB_drop bndOut l k hz
   rw [← H.out] at hst
   have he : bndOut l[k] = !inB l[k].n l[k].lo l[k].hi:=rfl
   rw [he] at hst
   have HF:=Lib.hid (areIn1_any l[k].n l[k].lo l[k].hi)
   clear he
   generalize inB l[k].n l[k].lo l[k].hi = q at hst HF
   generalize l[k].n = x at f0 HF
   generalize l[k].lo = lo at f1 HF
   generalize l[k].hi = hi at f2 HF
   have HS:=Lib.hid hst
   clear hst hz
   go_wp2_with fail
   refine (HF.out _).mono ?_
   rintro e w2 ⟨rfl,hb2⟩
   have hB2 : Below w.heap.size w w2:=bl_then hB hb2
   cases q
   ·go_wp2
    go_ret
    exact ⟨by rw [HS.out]; simp,hB2⟩
   ·go_wp2
    go_roundw
    case rel => exact ⟨k + 1,by omega,by go_num,HS.out.trans (by simp),hB2⟩
    case measure => simp [intOf]; omega
  ·go_wp2
   go_ret
   exact ⟨by rw [H.out,List.drop_of_length_le (by rw [HL.out]; omega)]; rfl,hB⟩
end Go.Proofs.YtjidhhfabfnhnaaGreat
namespace Go.Proofs.YtjidhhfabfnhnaaGreat
open Go.RowKit
theorem containsBnd (l : List Bnd) (b n c : Nat) (w : World) (hl : l.length = n) (h : BndR w b l) (hb : b < w.heap.size) (hn : n ≤ 1099511627776) :
  Calls Tryz.prog 155 #[.slice (some ⟨b,0,none⟩) n c,.func (.func 156) #[] #[]] w
   fun e w' => e = .returned (.bool (l.any bndOut)) ∧ Below w.heap.size w w':=by
 have hf:=indexBnd l b n c w hl h hb hn
 have hbb : l.any bndOut = decide (0 ≤ idxB bndOut l 0):=by
  rw [Bool.eq_iff_iff,← idxB_any _ _ 0 (by omega),decide_eq_true_iff]
 rw [hbb]
 generalize idxB bndOut l 0 = r at hf
 have HF:=Lib.hid hf
 clear hf hbb h hl
 go_enter Tryz.func155,Tryz.ntmps155
 go_wp2_with (go_at_call 166; refine HF.out.mono ?_; rintro e w' ⟨rfl,hb'⟩)
 go_ret
 exact ⟨rfl,(by repeat (first | exact Below.refl _ _ | assumption | refine Below.drew ?_ | refine below_drewN ?_ _ | refine bl_alloc ?_ _ | refine Below.setCell ?_ (by first | (simp; done) | omega | (simp; omega)) _ | refine bl_then ?_ (by assumption)))⟩
theorem areIn_any (l : List Bnd) (b n c : Nat) (w : World) (hl : l.length = n) (h : BndR w b l) (hb : b < w.heap.size) (hn : n ≤ 1099511627776) :
  Calls Tryz.prog 122 #[.slice (some ⟨b,0,none⟩) n c] w
   fun e w' => e = .returned (.bool (l.all fun x => inB x.n x.lo x.hi)) ∧ Below w.heap.size w w':=by
 have hf:=containsBnd l b n c w hl h hb hn
 have hbb : (l.all fun x => inB x.n x.lo x.hi) = !(l.any bndOut):=by
  rw [List.any_eq_not_all_not,Bool.not_not]
  simp [bndOut]
 rw [hbb]
 generalize l.any bndOut = r at hf
 have HF:=Lib.hid hf
 clear hf hbb h hl
 go_enter Tryz.func122,Tryz.ntmps122
 go_wp2_with (go_at_call 155; refine HF.out.mono ?_; rintro e w' ⟨rfl,hb'⟩)
 go_ret
 exact ⟨by simp,(by repeat (first | exact Below.refl _ _ | assumption | refine Below.drew ?_ | refine below_drewN ?_ _ | refine bl_alloc ?_ _ | refine Below.setCell ?_ (by first | (simp; done) | omega | (simp; omega)) _ | refine bl_then ?_ (by assumption)))⟩
theorem BndR.of_blk4 {w : World} {b : Nat} {t : TypeId} {b0 b1 b2 b3 : Bnd} (h : Blk w b t (bndCells b0 ++ bndCells b1 ++ bndCells b2 ++ bndCells b3).toArray) : BndR w b [b0,b1,b2,b3]:=fun k hk => by
 have hk : k < 4:=hk
 match k,hk with
 | 0,_ => exact ⟨h.cell 0,h.cell 1,h.cell 2⟩
 | 1,_ => exact ⟨h.cell 3,h.cell 4,h.cell 5⟩
 | 2,_ => exact ⟨h.cell 6,h.cell 7,h.cell 8⟩
 | 3,_ => exact ⟨h.cell 9,h.cell 10,h.cell 11⟩
end Go.Proofs.YtjidhhfabfnhnaaGreat
namespace Go.Proofs.YtjidhhfabfnhnaaGreat
open Go.RowKit
theorem station_valid (id x y re an sk : Int) (w : World) :
  Calls Tryz.prog 62 #[.agg #[.int .i64 id,.int .i64 x,.int .i64 y,.int .i64 re,.int .i64 an,.int .i64 sk]] w fun e w' => e = .returned (.bool (stnOK ⟨id,⟨x,y⟩,re,an,sk⟩)) ∧ Below w.heap.size w w':=by
 have hs : stnOK ⟨id,⟨x,y⟩,re,an,sk⟩ = (([⟨id,0,11⟩,⟨re,0,6⟩,⟨an,1,8⟩,⟨sk,0,30⟩] : List Bnd).all (fun b => inB b.n b.lo b.hi) && celOK ⟨x,y⟩):=by
  simp only [stnOK,List.all_cons,List.all_nil,Bool.and_true]
  generalize inB id 0 11 = a
  generalize inB re 0 6 = b
  generalize inB an 1 8 = c
  generalize inB sk 0 30 = d
  generalize celOK ⟨x,y⟩ = e
  revert a b c d e
  decide
 rw [hs]
 clear hs
 generalize ha : ([⟨id,0,11⟩,⟨re,0,6⟩,⟨an,1,8⟩,⟨sk,0,30⟩] : List Bnd).all (fun b => inB b.n b.lo b.hi) = a
 have HA:=Lib.hid ha
 clear ha
 have V:=validCell_any x y
 generalize celOK ⟨x,y⟩ = q at V ⊢
 have HV:=Lib.hid V
 clear V
 go_enter Tryz.func62,Tryz.ntmps62
 go_wp2_with fail
 have K : Blk ((w.alloc (.cells #[.int .i64 id,.int .i64 x,.int .i64 y,.int .i64 re,.int .i64 an,.int .i64 sk] 71)).alloc (.cells #[.int .i64 id,.int .i64 0,.int .i64 11,.int .i64 re,.int .i64 0,.int .i64 6,.int .i64 an,.int .i64 1,.int .i64 8,.int .i64 sk,.int .i64 0,.int .i64 30] 189)) w.heap.size 71 #[.int .i64 id,.int .i64 x,.int .i64 y,.int .i64 re,.int .i64 an,.int .i64 sk]:=(Blk.new _ _ _).alloc _
 have K2 : Blk ((w.alloc (.cells #[.int .i64 id,.int .i64 x,.int .i64 y,.int .i64 re,.int .i64 an,.int .i64 sk] 71)).alloc (.cells #[.int .i64 id,.int .i64 0,.int .i64 11,.int .i64 re,.int .i64 0,.int .i64 6,.int .i64 an,.int .i64 1,.int .i64 8,.int .i64 sk,.int .i64 0,.int .i64 30] 189)) (w.heap.size + 1) 189 #[.int .i64 id,.int .i64 0,.int .i64 11,.int .i64 re,.int .i64 0,.int .i64 6,.int .i64 an,.int .i64 1,.int .i64 8,.int .i64 sk,.int .i64 0,.int .i64 30]:=by
  have k:=Blk.new (w.alloc (.cells #[.int .i64 id,.int .i64 x,.int .i64 y,.int .i64 re,.int .i64 an,.int .i64 sk] 71)) 189 #[.int .i64 id,.int .i64 0,.int .i64 11,.int .i64 re,.int .i64 0,.int .i64 6,.int .i64 an,.int .i64 1,.int .i64 8,.int .i64 sk,.int .i64 0,.int .i64 30]
  rw [World.size_alloc] at k
  exact k
 have hb : Below w.heap.size w ((w.alloc (.cells #[.int .i64 id,.int .i64 x,.int .i64 y,.int .i64 re,.int .i64 an,.int .i64 sk] 71)).alloc (.cells #[.int .i64 id,.int .i64 0,.int .i64 11,.int .i64 re,.int .i64 0,.int .i64 6,.int .i64 an,.int .i64 1,.int .i64 8,.int .i64 sk,.int .i64 0,.int .i64 30] 189)):=(by repeat (first | exact Below.refl _ _ | assumption | refine Below.drew ?_ | refine below_drewN ?_ _ | refine bl_alloc ?_ _ | refine Below.setCell ?_ (by first | (simp; done) | omega | (simp; omega)) _ | refine bl_then ?_ (by assumption)))
 generalize (w.alloc (.cells #[.int .i64 id,.int .i64 x,.int .i64 y,.int .i64 re,.int .i64 an,.int .i64 sk] 71)).alloc (.cells #[.int .i64 id,.int .i64 0,.int .i64 11,.int .i64 re,.int .i64 0,.int .i64 6,.int .i64 an,.int .i64 1,.int .i64 8,.int .i64 sk,.int .i64 0,.int .i64 30] 189) = W at K K2 hb ⊢
 refine (areIn_any [⟨id,0,11⟩,⟨re,0,6⟩,⟨an,1,8⟩,⟨sk,0,30⟩] (w.heap.size + 1) 4 4 W rfl (BndR.of_blk4 K2) K2.lt (by omega)).mono ?_
 rintro e W2 ⟨rfl,hb2⟩
 have K:=K.below hb2 (by have:=K.lt; omega)
 have hB2 : Below w.heap.size w W2:=hb.trans (Below.mono hb2 hb.size)
 clear K2 hb hb2
 have g1 : W2.cell? ⟨w.heap.size,1,none⟩ = some (.int .i64 x):=K.cell 1
 have g2 : W2.cell? ⟨w.heap.size,2,none⟩ = some (.int .i64 y):=K.cell 2
 clear K
 rw [HA.out]
 clear HA
 cases a
 ·go_wp2
  go_ret
  exact ⟨by simp,hB2⟩
 ·go_wp2_with fail
  refine (HV.out _).mono ?_
  rintro e W3 ⟨rfl,hb3⟩
  have hB3 : Below w.heap.size w W3:=bl_then hB2 hb3
  go_wp2
  go_ret
  exact ⟨by simp,hB3⟩
end Go.Proofs.YtjidhhfabfnhnaaGreat
namespace Go.Proofs.YtjidhhfabfnhnaaGreat
open Go.RowKit
theorem isSpan_any (a b : Int) (w : World) :
  Calls Tryz.prog 88 #[.agg #[.int .i64 a,.int .i64 b]] w fun e w' => e = .returned (.bool (spanOK ⟨a,b⟩)) ∧ Below w.heap.size w w':=by
 by_cases h : 0 ≤ a ∧ a < b ∧ b ≤ 1000001
 ·obtain ⟨h1,h2,h3⟩:=h
  have hs : spanOK ⟨a,b⟩ = decide (b - a ≤ 4320):=by simp [spanOK,h1,h2,h3]
  rw [hs]
  clear hs
  go_enter Tryz.func88,Tryz.ntmps88
  go_wp2
  go_ret
  exact ⟨by simp [*],(by repeat (first | exact Below.refl _ _ | assumption | refine Below.drew ?_ | refine below_drewN ?_ _ | refine bl_alloc ?_ _ | refine Below.setCell ?_ (by first | (simp; done) | omega | (simp; omega)) _ | refine bl_then ?_ (by assumption)))⟩
 ·have hs : spanOK ⟨a,b⟩ = false:=by
   simp only [spanOK,decide_eq_false_iff_not]
   omega
  rw [hs]
  clear hs
  by_cases h1 : 0 ≤ a
  ·by_cases h2 : a < b
   ·have h3 : ¬ b ≤ 1000001:=by omega
    clear h
    go_enter Tryz.func88,Tryz.ntmps88
    go_wp2
    go_ret
    exact ⟨by simp [*],(by repeat (first | exact Below.refl _ _ | assumption | refine Below.drew ?_ | refine below_drewN ?_ _ | refine bl_alloc ?_ _ | refine Below.setCell ?_ (by first | (simp; done) | omega | (simp; omega)) _ | refine bl_then ?_ (by assumption)))⟩
   ·clear h
    go_enter Tryz.func88,Tryz.ntmps88
    go_wp2
    go_ret
    exact ⟨by simp [*],(by repeat (first | exact Below.refl _ _ | assumption | refine Below.drew ?_ | refine below_drewN ?_ _ | refine bl_alloc ?_ _ | refine Below.setCell ?_ (by first | (simp; done) | omega | (simp; omega)) _ | refine bl_then ?_ (by assumption)))⟩
  ·clear h
   go_enter Tryz.func88,Tryz.ntmps88
   go_wp2
   go_ret
   exact ⟨by simp [*],(by repeat (first | exact Below.refl _ _ | assumption | refine Below.drew ?_ | refine below_drewN ?_ _ | refine bl_alloc ?_ _ | refine Below.setCell ?_ (by first | (simp; done) | omega | (simp; omega)) _ | refine bl_then ?_ (by assumption)))⟩
end Go.Proofs.YtjidhhfabfnhnaaGreat
namespace Go.Proofs.YtjidhhfabfnhnaaGreat
open Go.RowKit
def viewV : Option Bool → Value
 | none => .tuple #[.bool false,.int .i64 90]
 | some b => .tuple #[.bool b,.int .i64 0]
end Go.Proofs.YtjidhhfabfnhnaaGreat
namespace Go.Proofs.YtjidhhfabfnhnaaGreat
open Go.RowKit
end Go.Proofs.YtjidhhfabfnhnaaGreat
namespace Go.Proofs.YtjidhhfabfnhnaaGreat
open Go.RowKit Go.Shelf
attribute [local go_sem] Oper.semAt_some
theorem Blk.new_at {g : Nat} (w : World) (t : TypeId) (cs : Array Value) (h : w.heap.size = g) : Blk (w.alloc (.cells cs t)) g t cs:=by subst h; exact Blk.new w t cs
theorem spells_any (a b : Int) (g : Nat) (caps : Array Value) (w : World) :
  Calls Tryz.prog 90 #[.int .i64 a,.int .i64 b,.func (.func g) #[] caps] w fun e w' => e = .returned (.func (.func 141) #[] #[.pointer (some ⟨w.heap.size,0,none⟩),.pointer (some ⟨w.heap.size + 1,0,none⟩),.pointer (some ⟨w.heap.size + 1 + 1,0,none⟩)]) ∧
   w' = ((w.alloc (.cells #[.int .i64 a] 3)).alloc (.cells #[.int .i64 b] 3)).alloc (.cells #[.func (.func g) #[] caps] 147):=by
 go_enter Tryz.func90,Tryz.ntmps90
 go_wp2
 go_ret
 exact ⟨rfl,rfl⟩
def SpellsRet (r : Option (List Spl)) (w : World) (e : Ending) (w' : World) : Prop:=match r with
 | none => e = .returned (.tuple #[.slice none 0 0,.int .i64 90]) ∧ Below w.heap.size w w'
 | some l => ∃ v,e = .returned (.tuple #[v,.int .i64 0]) ∧ w'.ownsRow w.heap.size 32 2 v l.length (l.flatMap splCells) ∧ Below w.heap.size w w'
structure CtI (w : World) (B0 gu : Nat) (pre : List BSpl) (W : World) : Prop where
 row : ∃ v,Blk W gu 82 #[v] ∧ W.ownsRow B0 32 2 v pre.length ((pre.map (·.1)).flatMap splCells) ∧ (pre.length = 0 → v = .slice none 0 0)
 below : Below w.heap.size w W
 size : B0 ≤ W.heap.size
end Go.Proofs.YtjidhhfabfnhnaaGreat
namespace Go.Proofs.YtjidhhfabfnhnaaGreat
open Go.RowKit
theorem isNaN_any (a : Int) (w : World) : Calls Tryz.prog 149 #[.int .i64 a] w fun e w' => e = .returned (.bool false) ∧ w = w':=by
 go_enter Tryz.func149,Tryz.ntmps149
 go_wp2
 go_ret
 exact ⟨rfl,rfl⟩
theorem cmp_any (a b : Int) (w : World) : Calls Tryz.prog 108 #[.int .i64 a,.int .i64 b] w fun e w' => e = .returned (.int .i64 (cmpI a b)) ∧ w = w':=by
 by_cases h1 : a < b
 ·have hc : cmpI a b = -1:=by simp [cmpI,h1]
  rw [hc]
  clear hc
  go_enter Tryz.func108,Tryz.ntmps108
  go_wp2_with (go_at_call 149; refine (isNaN_any _ _).mono ?_; rintro e w' ⟨rfl,rfl⟩)
  go_ret
  exact ⟨rfl,rfl⟩
 ·by_cases h2 : b < a
  ·have hc : cmpI a b = 1:=by simp [cmpI,h1,h2]
   rw [hc]
   clear hc
   go_enter Tryz.func108,Tryz.ntmps108
   go_wp2_with (go_at_call 149; refine (isNaN_any _ _).mono ?_; rintro e w' ⟨rfl,rfl⟩)
   go_ret
   exact ⟨rfl,rfl⟩
  ·have hc : cmpI a b = 0:=by simp [cmpI,h1,h2]
   rw [hc]
   clear hc
   go_enter Tryz.func108,Tryz.ntmps108
   go_wp2_with (go_at_call 149; refine (isNaN_any _ _).mono ?_; rintro e w' ⟨rfl,rfl⟩)
   go_ret
   exact ⟨rfl,rfl⟩
def orL : List Int → Int
 | [] => 0
 | x :: r => if (x != 0) = true then x else orL r
theorem Blk.ints {w : World} {g : Nat} {t : TypeId} {cs : Array Value} {l : List Int} (h : Blk w g t cs) (hc : cs.toList = l.map (Value.int .i64)) : ∀ k (hk : k < l.length),w.cell? ⟨g,k,none⟩ = some (.int .i64 l[k]):=fun k hk => by
 rw [h.cell,← Array.getElem?_toList,hc]
 simp [hk]
theorem or_any (l : List Int) (b n c : Nat) (w : World) (hl : l.length = n) (hn : n ≤ 1000) (hc : ∀ k (hk : k < l.length),w.cell? ⟨b,k,none⟩ = some (.int .i64 l[k])) :
  Calls Tryz.prog 107 #[.slice (some ⟨b,0,none⟩) n c] w fun e w' => e = .returned (.int .i64 (orL l)) ∧ w = w':=by
 have HL:=Lib.hid hl
 have HC:=Lib.hid hc
 clear hl hc
 go_enter Tryz.func107,Tryz.ntmps107
 go_wp2
 go_loop [8] (fun i => ∃ k : Nat,k ≤ n ∧ i = .int .i64 k ∧ Hid (orL l = orL (l.drop k))) (fun i => n - (intOf i).toNat)
 case atStart => exact ⟨0,Nat.zero_le _,rfl,rfl⟩
 case round =>
  obtain ⟨k,hk,rfl,H⟩:=hrel
  by_cases hlt : k < n
  ·have hz : k < l.length:=by rw [HL.out]; exact hlt
   have f0:=HC.out k hz
   have hst : orL l = if (l[k] != 0) = true then l[k] else orL (l.drop (k + 1)):=by rw [H.out,List.drop_eq_getElem_cons hz,orL]
   generalize l[k] = x at f0 hst
   cases hx : (x != 0)
   ·rw [hx] at hst
    have hx2 : (x == 0) = true:=by simpa using hx
    have HS:=Lib.hid hst
    have H0:=Lib.hid hx
    clear hst
    go_wp2
    go_round
    case rel => exact ⟨k + 1,by omega,by go_num,HS.out.trans (if_neg (by simp))⟩
    case measure => simp [intOf]; omega
   ·rw [hx] at hst
    have hx2 : (x == 0) = false:=by simpa using hx
    have HS:=Lib.hid hst
    clear hst
    go_wp2
    go_ret
    exact ⟨by rw [HS.out]; simp,rfl⟩
  ·go_wp2
   go_ret
   exact ⟨by rw [H.out,List.drop_of_length_le (by rw [HL.out]; omega)]; rfl,rfl⟩
theorem orL5 (c0 c1 c2 c3 c4 : Int) : orL [c0,c1,c2,c3,c4] = orI c0 (orI c1 (orI c2 (orI c3 c4))):=by
 simp only [orL,orI,bne_iff_ne]
 by_cases h : c4 = 0 <;> simp [h]
set_option maxHeartbeats 1000000 in
theorem compare_any (asa asn aa ab ac ad bsa bsn ba bb bc bd : Int) (w : World) :
  Calls Tryz.prog 68 #[.agg #[.int .i64 asa,.int .i64 asn,.int .i64 aa,.int .i64 ab,.int .i64 ac,.int .i64 ad],.agg #[.int .i64 bsa,.int .i64 bsn,.int .i64 ba,.int .i64 bb,.int .i64 bc,.int .i64 bd]] w fun e w' => e = .returned (.int .i64 (cmpPas ⟨asa,asn,⟨aa,ab⟩,⟨ac,ad⟩⟩ ⟨bsa,bsn,⟨ba,bb⟩,⟨bc,bd⟩⟩)) ∧ Below w.heap.size w w':=by
 have hr : cmpPas ⟨asa,asn,⟨aa,ab⟩,⟨ac,ad⟩⟩ ⟨bsa,bsn,⟨ba,bb⟩,⟨bc,bd⟩⟩ = orL [cmpI ac bc,cmpI asa bsa,cmpI asn bsn,cmpI aa ba,cmpI ad bd]:=(orL5 _ _ _ _ _).symm
 rw [hr]
 clear hr
 generalize h0 : cmpI ac bc = c0
 generalize h1 : cmpI asa bsa = c1
 generalize h2 : cmpI asn bsn = c2
 generalize h3 : cmpI aa ba = c3
 generalize h4 : cmpI ad bd = c4
 have HC0:=Lib.hid h0
 have HC1:=Lib.hid h1
 have HC2:=Lib.hid h2
 have HC3:=Lib.hid h3
 have HC4:=Lib.hid h4
 clear h0 h1 h2 h3 h4
 go_enter Tryz.func68,Tryz.ntmps68
 go_wp2_with fail
 have K1 : Blk ((w.alloc (.cells #[.int .i64 asa,.int .i64 asn,.int .i64 aa,.int .i64 ab,.int .i64 ac,.int .i64 ad] 75)).alloc (.cells #[.int .i64 bsa,.int .i64 bsn,.int .i64 ba,.int .i64 bb,.int .i64 bc,.int .i64 bd] 75)) w.heap.size 75 #[.int .i64 asa,.int .i64 asn,.int .i64 aa,.int .i64 ab,.int .i64 ac,.int .i64 ad]:=(Blk.new _ _ _).alloc _
 have K2 : Blk ((w.alloc (.cells #[.int .i64 asa,.int .i64 asn,.int .i64 aa,.int .i64 ab,.int .i64 ac,.int .i64 ad] 75)).alloc (.cells #[.int .i64 bsa,.int .i64 bsn,.int .i64 ba,.int .i64 bb,.int .i64 bc,.int .i64 bd] 75)) (w.heap.size + 1) 75 #[.int .i64 bsa,.int .i64 bsn,.int .i64 ba,.int .i64 bb,.int .i64 bc,.int .i64 bd]:=Blk.new_at _ _ _ (by simp)
 have hB : Below w.heap.size w ((w.alloc (.cells #[.int .i64 asa,.int .i64 asn,.int .i64 aa,.int .i64 ab,.int .i64 ac,.int .i64 ad] 75)).alloc (.cells #[.int .i64 bsa,.int .i64 bsn,.int .i64 ba,.int .i64 bb,.int .i64 bc,.int .i64 bd] 75)):=(by repeat (first | exact Below.refl _ _ | assumption | refine Below.drew ?_ | refine below_drewN ?_ _ | refine bl_alloc ?_ _ | refine Below.setCell ?_ (by first | (simp; done) | omega | (simp; omega)) _ | refine bl_then ?_ (by assumption)))
 generalize (w.alloc (.cells #[.int .i64 asa,.int .i64 asn,.int .i64 aa,.int .i64 ab,.int .i64 ac,.int .i64 ad] 75)).alloc (.cells #[.int .i64 bsa,.int .i64 bsn,.int .i64 ba,.int .i64 bb,.int .i64 bc,.int .i64 bd] 75) = W at K1 K2 hB ⊢
 have g0 : W.cell? ⟨w.heap.size,0,none⟩ = some (.int .i64 asa):=K1.cell 0
 have g1 : W.cell? ⟨w.heap.size,1,none⟩ = some (.int .i64 asn):=K1.cell 1
 have g2 : W.cell? ⟨w.heap.size,2,none⟩ = some (.int .i64 aa):=K1.cell 2
 have g3 : W.cell? ⟨w.heap.size,3,none⟩ = some (.int .i64 ab):=K1.cell 3
 have g4 : W.cell? ⟨w.heap.size,4,none⟩ = some (.int .i64 ac):=K1.cell 4
 have g5 : W.cell? ⟨w.heap.size,5,none⟩ = some (.int .i64 ad):=K1.cell 5
 have k0 : W.cell? ⟨(w.heap.size + 1),0,none⟩ = some (.int .i64 bsa):=K2.cell 0
 have k1 : W.cell? ⟨(w.heap.size + 1),1,none⟩ = some (.int .i64 bsn):=K2.cell 1
 have k2 : W.cell? ⟨(w.heap.size + 1),2,none⟩ = some (.int .i64 ba):=K2.cell 2
 have k3 : W.cell? ⟨(w.heap.size + 1),3,none⟩ = some (.int .i64 bb):=K2.cell 3
 have k4 : W.cell? ⟨(w.heap.size + 1),4,none⟩ = some (.int .i64 bc):=K2.cell 4
 have k5 : W.cell? ⟨(w.heap.size + 1),5,none⟩ = some (.int .i64 bd):=K2.cell 5
 refine wp_region_obl 33 (fun ix vals v w1 => match ix with | 0 => v = .pointer (some ⟨w.heap.size,4,none⟩) | 1 => v = .pointer (some ⟨w.heap.size,4,none⟩) | 2 => v = .int .i64 ac | 3 => v = .pointer (some ⟨w.heap.size + 1,4,none⟩) | 4 => v = .pointer (some ⟨w.heap.size + 1,4,none⟩) | 5 => v = .int .i64 bc | 6 => v = .int .i64 c0 | 7 => v = .pointer (some ⟨w.heap.size,0,none⟩) | 8 => v = .int .i64 asa | 9 => v = .pointer (some ⟨w.heap.size + 1,0,none⟩) | 10 => v = .int .i64 bsa | 11 => v = .int .i64 c1 | 12 => v = .pointer (some ⟨w.heap.size,1,none⟩) | 13 => v = .int .i64 asn | 14 => v = .pointer (some ⟨w.heap.size + 1,1,none⟩) | 15 => v = .int .i64 bsn | 16 => v = .int .i64 c2 | 17 => v = .pointer (some ⟨w.heap.size,2,none⟩) | 18 => v = .pointer (some ⟨w.heap.size,2,none⟩) | 19 => v = .int .i64 aa | 20 => v = .pointer (some ⟨w.heap.size + 1,2,none⟩) | 21 => v = .pointer (some ⟨w.heap.size + 1,2,none⟩) | 22 => v = .int .i64 ba | 23 => v = .int .i64 c3 | 24 => v = .pointer (some ⟨w.heap.size,4,none⟩) | 25 => v = .pointer (some ⟨w.heap.size,5,none⟩) | 26 => v = .int .i64 ad | 27 => v = .pointer (some ⟨w.heap.size + 1,4,none⟩) | 28 => v = .pointer (some ⟨w.heap.size + 1,5,none⟩) | 29 => v = .int .i64 bd | 30 => v = .int .i64 c4 | 31 => ∃ g,v = .slice (some ⟨g,0,none⟩) 5 5 ∧ Blk w1 g 3 #[.int .i64 c0,.int .i64 c1,.int .i64 c2,.int .i64 c3,.int .i64 c4] | _ => v = .int .i64 (orL [c0,c1,c2,c3,c4])) (by kernel_rfl) (by kernel_rfl) ?_ ?_ ?_ ?_
 ·intro ix vals v w1 w2 hi hr hx
  match ix,hr with
  | 0,hr => exact hr
  | 1,hr => exact hr
  | 2,hr => exact hr
  | 3,hr => exact hr
  | 4,hr => exact hr
  | 5,hr => exact hr
  | 6,hr => exact hr
  | 7,hr => exact hr
  | 8,hr => exact hr
  | 9,hr => exact hr
  | 10,hr => exact hr
  | 11,hr => exact hr
  | 12,hr => exact hr
  | 13,hr => exact hr
  | 14,hr => exact hr
  | 15,hr => exact hr
  | 16,hr => exact hr
  | 17,hr => exact hr
  | 18,hr => exact hr
  | 19,hr => exact hr
  | 20,hr => exact hr
  | 21,hr => exact hr
  | 22,hr => exact hr
  | 23,hr => exact hr
  | 24,hr => exact hr
  | 25,hr => exact hr
  | 26,hr => exact hr
  | 27,hr => exact hr
  | 28,hr => exact hr
  | 29,hr => exact hr
  | 30,hr => exact hr
  | 31,hr => obtain ⟨g,h1,h2⟩:=hr; exact ⟨g,h1,h2.ext hx⟩
  | (kx + 32),hr => exact hr
 ·intro ix vals vals_ v w1 hi hv hr
  exact hr
 ·refine ⟨?_,?_,?_,?_,?_,?_,?_,?_,?_,?_,?_,?_,?_,?_,?_,?_,?_,?_,?_,?_,?_,?_,?_,?_,?_,?_,?_,?_,?_,?_,?_,?_,?_,trivial⟩
  ·intro vals w1 hx hd ha
   clear hd ha
   simp only [Lf]
   go_wp2
   exact q_
  ·intro vals w1 hx hd ha
   have e0 : vals 0 = .pointer (some ⟨w.heap.size,4,none⟩):=hd 0 (by decide)
   clear hd ha
   simp only [Lf,dstAt,Act.put,FR_,e0]
   clear e0
   go_wp2
   exact q_
  ·intro vals w1 hx hd ha
   have e1 : vals 1 = .pointer (some ⟨w.heap.size,4,none⟩):=hd 1 (by decide)
   clear hd ha
   simp only [Lf,dstAt,Act.put,FR_,e1]
   clear e1
   have g4:=ext_cell hx g4
   go_wp2
   exact q_
  ·intro vals w1 hx hd ha
   clear hd ha
   simp only [Lf,dstAt,Act.put,FR_]
   go_wp2
   exact q_
  ·intro vals w1 hx hd ha
   have e3 : vals 3 = .pointer (some ⟨w.heap.size + 1,4,none⟩):=hd 3 (by decide)
   clear hd ha
   simp only [Lf,dstAt,Act.put,FR_,e3]
   clear e3
   go_wp2
   exact q_
  ·intro vals w1 hx hd ha
   have e4 : vals 4 = .pointer (some ⟨w.heap.size + 1,4,none⟩):=hd 4 (by decide)
   clear hd ha
   simp only [Lf,dstAt,Act.put,FR_,e4]
   clear e4
   have k4:=ext_cell hx k4
   go_wp2
   exact q_
  ·intro vals w1 hx hd ha
   have e2 : vals 2 = .int .i64 ac:=hd 2 (by decide)
   have e5 : vals 5 = .int .i64 bc:=hd 5 (by decide)
   clear hd ha
   simp only [Lf,dstAt,Act.put,FR_,e2]
   simp only [e5]
   clear e2 e5
   go_wp2_with fail
   refine (cmp_any ac bc _).mono ?_
   rintro e w2 ⟨rfl,rfl⟩
   rw [HC0.out]
   go_wp2
   exact q_
  ·intro vals w1 hx hd ha
   clear hd ha
   simp only [Lf,dstAt,Act.put,FR_]
   go_wp2
   exact q_
  ·intro vals w1 hx hd ha
   have e7 : vals 7 = .pointer (some ⟨w.heap.size,0,none⟩):=hd 7 (by decide)
   clear hd ha
   simp only [Lf,dstAt,Act.put,FR_,e7]
   clear e7
   have g0:=ext_cell hx g0
   go_wp2
   exact q_
  ·intro vals w1 hx hd ha
   clear hd ha
   simp only [Lf,dstAt,Act.put,FR_]
   go_wp2
   exact q_
  ·intro vals w1 hx hd ha
   have e9 : vals 9 = .pointer (some ⟨w.heap.size + 1,0,none⟩):=hd 9 (by decide)
   clear hd ha
   simp only [Lf,dstAt,Act.put,FR_,e9]
   clear e9
   have k0:=ext_cell hx k0
   go_wp2
   exact q_
  ·intro vals w1 hx hd ha
   have e6 : vals 6 = .int .i64 c0:=hd 6 (by decide)
   have e8 : vals 8 = .int .i64 asa:=hd 8 (by decide)
   have e10 : vals 10 = .int .i64 bsa:=hd 10 (by decide)
   clear hd ha
   simp only [Lf,dstAt,Act.put,FR_,e6]
   simp only [e8]
   simp only [e10]
   clear e6 e8 e10
   go_wp2_with fail
   refine (cmp_any asa bsa _).mono ?_
   rintro e w2 ⟨rfl,rfl⟩
   rw [HC1.out]
   go_wp2
   exact q_
  ·intro vals w1 hx hd ha
   clear hd ha
   simp only [Lf,dstAt,Act.put,FR_]
   go_wp2
   exact q_
  ·intro vals w1 hx hd ha
   have e12 : vals 12 = .pointer (some ⟨w.heap.size,1,none⟩):=hd 12 (by decide)
   clear hd ha
   simp only [Lf,dstAt,Act.put,FR_,e12]
   clear e12
   have g1:=ext_cell hx g1
   go_wp2
   exact q_
  ·intro vals w1 hx hd ha
   clear hd ha
   simp only [Lf,dstAt,Act.put,FR_]
   go_wp2
   exact q_
  ·intro vals w1 hx hd ha
   have e14 : vals 14 = .pointer (some ⟨w.heap.size + 1,1,none⟩):=hd 14 (by decide)
   clear hd ha
   simp only [Lf,dstAt,Act.put,FR_,e14]
   clear e14
   have k1:=ext_cell hx k1
   go_wp2
   exact q_
  ·intro vals w1 hx hd ha
   have e11 : vals 11 = .int .i64 c1:=hd 11 (by decide)
   have e13 : vals 13 = .int .i64 asn:=hd 13 (by decide)
   have e15 : vals 15 = .int .i64 bsn:=hd 15 (by decide)
   clear hd ha
   simp only [Lf,dstAt,Act.put,FR_,e11]
   simp only [e13]
   simp only [e15]
   clear e11 e13 e15
   go_wp2_with fail
   refine (cmp_any asn bsn _).mono ?_
   rintro e w2 ⟨rfl,rfl⟩
   rw [HC2.out]
   go_wp2
   exact q_
  ·intro vals w1 hx hd ha
   clear hd ha
   simp only [Lf,dstAt,Act.put,FR_]
   go_wp2
   exact q_
  ·intro vals w1 hx hd ha
   have e17 : vals 17 = .pointer (some ⟨w.heap.size,2,none⟩):=hd 17 (by decide)
   clear hd ha
   simp only [Lf,dstAt,Act.put,FR_,e17]
   clear e17
   go_wp2
   exact q_
  ·intro vals w1 hx hd ha
   have e18 : vals 18 = .pointer (some ⟨w.heap.size,2,none⟩):=hd 18 (by decide)
   clear hd ha
   simp only [Lf,dstAt,Act.put,FR_,e18]
   clear e18
   have g2:=ext_cell hx g2
   go_wp2
   exact q_
  ·intro vals w1 hx hd ha
   clear hd ha
   simp only [Lf,dstAt,Act.put,FR_]
   go_wp2
   exact q_
  ·intro vals w1 hx hd ha
   have e20 : vals 20 = .pointer (some ⟨w.heap.size + 1,2,none⟩):=hd 20 (by decide)
   clear hd ha
   simp only [Lf,dstAt,Act.put,FR_,e20]
   clear e20
   go_wp2
   exact q_
  ·intro vals w1 hx hd ha
   have e21 : vals 21 = .pointer (some ⟨w.heap.size + 1,2,none⟩):=hd 21 (by decide)
   clear hd ha
   simp only [Lf,dstAt,Act.put,FR_,e21]
   clear e21
   have k2:=ext_cell hx k2
   go_wp2
   exact q_
  ·intro vals w1 hx hd ha
   have e16 : vals 16 = .int .i64 c2:=hd 16 (by decide)
   have e19 : vals 19 = .int .i64 aa:=hd 19 (by decide)
   have e22 : vals 22 = .int .i64 ba:=hd 22 (by decide)
   clear hd ha
   simp only [Lf,dstAt,Act.put,FR_,e16]
   simp only [e19]
   simp only [e22]
   clear e16 e19 e22
   go_wp2_with fail
   refine (cmp_any aa ba _).mono ?_
   rintro e w2 ⟨rfl,rfl⟩
   rw [HC3.out]
   go_wp2
   exact q_
  ·intro vals w1 hx hd ha
   clear hd ha
   simp only [Lf,dstAt,Act.put,FR_]
   go_wp2
   exact q_
  ·intro vals w1 hx hd ha
   have e24 : vals 24 = .pointer (some ⟨w.heap.size,4,none⟩):=hd 24 (by decide)
   clear hd ha
   simp only [Lf,dstAt,Act.put,FR_,e24]
   clear e24
   go_wp2
   exact q_
  ·intro vals w1 hx hd ha
   have e25 : vals 25 = .pointer (some ⟨w.heap.size,5,none⟩):=hd 25 (by decide)
   clear hd ha
   simp only [Lf,dstAt,Act.put,FR_,e25]
   clear e25
   have g5:=ext_cell hx g5
   go_wp2
   exact q_
  ·intro vals w1 hx hd ha
   clear hd ha
   simp only [Lf,dstAt,Act.put,FR_]
   go_wp2
   exact q_
  ·intro vals w1 hx hd ha
   have e27 : vals 27 = .pointer (some ⟨w.heap.size + 1,4,none⟩):=hd 27 (by decide)
   clear hd ha
   simp only [Lf,dstAt,Act.put,FR_,e27]
   clear e27
   go_wp2
   exact q_
  ·intro vals w1 hx hd ha
   have e28 : vals 28 = .pointer (some ⟨w.heap.size + 1,5,none⟩):=hd 28 (by decide)
   clear hd ha
   simp only [Lf,dstAt,Act.put,FR_,e28]
   clear e28
   have k5:=ext_cell hx k5
   go_wp2
   exact q_
  ·intro vals w1 hx hd ha
   have e23 : vals 23 = .int .i64 c3:=hd 23 (by decide)
   have e26 : vals 26 = .int .i64 ad:=hd 26 (by decide)
   have e29 : vals 29 = .int .i64 bd:=hd 29 (by decide)
   clear hd ha
   simp only [Lf,dstAt,Act.put,FR_,e23]
   simp only [e26]
   simp only [e29]
   clear e23 e26 e29
   go_wp2_with fail
   refine (cmp_any ad bd _).mono ?_
   rintro e w2 ⟨rfl,rfl⟩
   rw [HC4.out]
   go_wp2
   exact q_
  ·intro vals w1 hx hd ha
   have e6 : vals 6 = .int .i64 c0:=hd 6 (by decide)
   have e11 : vals 11 = .int .i64 c1:=hd 11 (by decide)
   have e16 : vals 16 = .int .i64 c2:=hd 16 (by decide)
   have e23 : vals 23 = .int .i64 c3:=hd 23 (by decide)
   have e30 : vals 30 = .int .i64 c4:=hd 30 (by decide)
   clear hd ha
   simp only [Lf,dstAt,Act.put,FR_,e6]
   simp only [e11]
   simp only [e16]
   simp only [e23]
   simp only [e30]
   clear e6 e11 e16 e23 e30
   go_wp2
   exact ⟨rfl,(by repeat (first | exact Below.refl _ _ | assumption | refine Below.drew ?_ | refine below_drewN ?_ _ | refine bl_alloc ?_ _ | refine Below.setCell ?_ (by first | (simp; done) | omega | (simp; omega)) _ | refine bl_then ?_ (by assumption))),_,rfl,Blk.new _ _ _⟩
  ·intro vals w1 hx hd ha
   have e30 : vals 30 = .int .i64 c4:=hd 30 (by decide)
   have r31 : (fun v w1 => ∃ g,v = .slice (some ⟨g,0,none⟩) 5 5 ∧ Blk w1 g 3 #[.int .i64 c0,.int .i64 c1,.int .i64 c2,.int .i64 c3,.int .i64 c4]) (vals 31) w1:=hd 31 (by decide)
   dsimp only at r31
   clear hd ha
   simp only [Lf,dstAt,Act.put,FR_]
   obtain ⟨g,h1,h2⟩:=r31
   simp only [h1]
   go_wp2_with fail
   refine (or_any [c0,c1,c2,c3,c4] g 5 5 _ rfl (by omega) (h2.ints rfl)).mono ?_
   rintro e w2 ⟨rfl,rfl⟩
   go_wp2
   exact q_
 intro vals w5 hx hf
 have e32 : vals 32 = .int .i64 (orL [c0,c1,c2,c3,c4]):=hf 32 (by omega)
 clear hf
 have hB5 : Below w.heap.size w w5:=bl_then hB hx.undrew
 refine tail1 33 _ (by kernel_rfl) (by kernel_rfl) rfl ?_
 simp only [Lf,dstAt,Act.put,FR_]
 rw [e32]
 go_wp2
 go_ret
 exact ⟨rfl,hB5⟩
set_option maxHeartbeats 2000000 in
theorem wider_any (a b d p q : Int) (w : World) (h1 : -1000000 ≤ d ∧ d ≤ 1000000) (h2 : -10000000 ≤ a ∧ a ≤ 10000000) (h3 : -10000000 ≤ b ∧ b ≤ 10000000) :
  Calls Tryz.prog 91 #[.agg #[.int .i64 a,.int .i64 b],.int .i64 d,.agg #[.int .i64 p,.int .i64 q]] w
   fun e w' => e = .returned (.agg #[.int .i64 (widerP ⟨a,b⟩ d ⟨p,q⟩).fr,.int .i64 (widerP ⟨a,b⟩ d ⟨p,q⟩).tt]) ∧ Below w.heap.size w w':=by
 obtain ⟨m,hm⟩ : ∃ m,m = max (a - d) p:=⟨_,rfl⟩
 obtain ⟨n,hn⟩ : ∃ n,n = min (b + d) q:=⟨_,rfl⟩
 have hw : widerP ⟨a,b⟩ d ⟨p,q⟩ = if n ≤ m then ⟨0,0⟩ else ⟨m,n⟩:=by rw [hm,hn]; rfl
 rw [hw]
 clear hw
 have hm2 : (p ≤ a - d ∧ m = a - d) ∨ (a - d < p ∧ m = p):=by omega
 have hn2 : (b + d ≤ q ∧ n = b + d) ∨ (q < b + d ∧ n = q):=by omega
 clear hm hn
 rcases hm2 with ⟨k1,rfl⟩ | ⟨k1,rfl⟩ <;> rcases hn2 with ⟨k2,rfl⟩ | ⟨k2,rfl⟩
 ·by_cases h : b + d ≤ a - d
  ·rw [if_pos h]
   go_enter Tryz.func91,Tryz.ntmps91
   go_wp2
   exact bodyPost_ret (v:=.agg #[.int .i64 0,.int .i64 0]) (by simp [results,Tryz.results91,go_sem]) rfl ⟨rfl,(by repeat (first | exact Below.refl _ _ | assumption | refine Below.drew ?_ | refine below_drewN ?_ _ | refine bl_alloc ?_ _ | refine Below.setCell ?_ (by first | (simp; done) | omega | (simp; omega)) _ | refine bl_then ?_ (by assumption)))⟩
  ·rw [if_neg h]
   go_enter Tryz.func91,Tryz.ntmps91
   go_wp2
   exact bodyPost_ret (v:=.agg #[.int .i64 (a - d),.int .i64 (b + d)]) (by simp [results,Tryz.results91,go_sem]) rfl ⟨rfl,(by repeat (first | exact Below.refl _ _ | assumption | refine Below.drew ?_ | refine below_drewN ?_ _ | refine bl_alloc ?_ _ | refine Below.setCell ?_ (by first | (simp; done) | omega | (simp; omega)) _ | refine bl_then ?_ (by assumption)))⟩
 ·by_cases h : n ≤ a - d
  ·rw [if_pos h]
   go_enter Tryz.func91,Tryz.ntmps91
   go_wp2
   exact bodyPost_ret (v:=.agg #[.int .i64 0,.int .i64 0]) (by simp [results,Tryz.results91,go_sem]) rfl ⟨rfl,(by repeat (first | exact Below.refl _ _ | assumption | refine Below.drew ?_ | refine below_drewN ?_ _ | refine bl_alloc ?_ _ | refine Below.setCell ?_ (by first | (simp; done) | omega | (simp; omega)) _ | refine bl_then ?_ (by assumption)))⟩
  ·rw [if_neg h]
   go_enter Tryz.func91,Tryz.ntmps91
   go_wp2
   exact bodyPost_ret (v:=.agg #[.int .i64 (a - d),.int .i64 (n)]) (by simp [results,Tryz.results91,go_sem]) rfl ⟨rfl,(by repeat (first | exact Below.refl _ _ | assumption | refine Below.drew ?_ | refine below_drewN ?_ _ | refine bl_alloc ?_ _ | refine Below.setCell ?_ (by first | (simp; done) | omega | (simp; omega)) _ | refine bl_then ?_ (by assumption)))⟩
 ·by_cases h : b + d ≤ m
  ·rw [if_pos h]
   go_enter Tryz.func91,Tryz.ntmps91
   go_wp2
   exact bodyPost_ret (v:=.agg #[.int .i64 0,.int .i64 0]) (by simp [results,Tryz.results91,go_sem]) rfl ⟨rfl,(by repeat (first | exact Below.refl _ _ | assumption | refine Below.drew ?_ | refine below_drewN ?_ _ | refine bl_alloc ?_ _ | refine Below.setCell ?_ (by first | (simp; done) | omega | (simp; omega)) _ | refine bl_then ?_ (by assumption)))⟩
  ·rw [if_neg h]
   go_enter Tryz.func91,Tryz.ntmps91
   go_wp2
   exact bodyPost_ret (v:=.agg #[.int .i64 (m),.int .i64 (b + d)]) (by simp [results,Tryz.results91,go_sem]) rfl ⟨rfl,(by repeat (first | exact Below.refl _ _ | assumption | refine Below.drew ?_ | refine below_drewN ?_ _ | refine bl_alloc ?_ _ | refine Below.setCell ?_ (by first | (simp; done) | omega | (simp; omega)) _ | refine bl_then ?_ (by assumption)))⟩
 ·by_cases h : n ≤ m
  ·rw [if_pos h]
   go_enter Tryz.func91,Tryz.ntmps91
   go_wp2
   exact bodyPost_ret (v:=.agg #[.int .i64 0,.int .i64 0]) (by simp [results,Tryz.results91,go_sem]) rfl ⟨rfl,(by repeat (first | exact Below.refl _ _ | assumption | refine Below.drew ?_ | refine below_drewN ?_ _ | refine bl_alloc ?_ _ | refine Below.setCell ?_ (by first | (simp; done) | omega | (simp; omega)) _ | refine bl_then ?_ (by assumption)))⟩
  ·rw [if_neg h]
   go_enter Tryz.func91,Tryz.ntmps91
   go_wp2
   exact bodyPost_ret (v:=.agg #[.int .i64 (m),.int .i64 (n)]) (by simp [results,Tryz.results91,go_sem]) rfl ⟨rfl,(by repeat (first | exact Below.refl _ _ | assumption | refine Below.drew ?_ | refine below_drewN ?_ _ | refine bl_alloc ?_ _ | refine Below.setCell ?_ (by first | (simp; done) | omega | (simp; omega)) _ | refine bl_then ?_ (by assumption)))⟩
end Go.Proofs.YtjidhhfabfnhnaaGreat
