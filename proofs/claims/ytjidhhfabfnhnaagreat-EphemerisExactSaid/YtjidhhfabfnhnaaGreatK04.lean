/- Passes that are proper. -/
import Derived.Test.YtjidhhfabfnhnaaGreatK03
import Derived.Test.YtjidhhfabfnhnaaGreatK01
import Derived.Deep.MidRow
import Derived.BigGuardPart
namespace Go.Proofs.YtjidhhfabfnhnaaGreat
open Go.RowKit
theorem BndR.of_blk6 {w : World} {b : Nat} {t : TypeId} {b0 b1 b2 b3 b4 b5 : Bnd} (h : Blk w b t (bndCells b0 ++ bndCells b1 ++ bndCells b2 ++ bndCells b3 ++ bndCells b4 ++ bndCells b5).toArray) : BndR w b [b0,b1,b2,b3,b4,b5]:=fun k hk => by
 have hk : k < 6:=hk
 match k,hk with
 | 0,_ => exact ⟨h.cell 0,h.cell 1,h.cell 2⟩
 | 1,_ => exact ⟨h.cell 3,h.cell 4,h.cell 5⟩
 | 2,_ => exact ⟨h.cell 6,h.cell 7,h.cell 8⟩
 | 3,_ => exact ⟨h.cell 9,h.cell 10,h.cell 11⟩
 | 4,_ => exact ⟨h.cell 12,h.cell 13,h.cell 14⟩
 | 5,_ => exact ⟨h.cell 15,h.cell 16,h.cell 17⟩
theorem BndR.of_blk5 {w : World} {b : Nat} {t : TypeId} {b0 b1 b2 b3 b4 : Bnd} (h : Blk w b t (bndCells b0 ++ bndCells b1 ++ bndCells b2 ++ bndCells b3 ++ bndCells b4).toArray) : BndR w b [b0,b1,b2,b3,b4]:=fun k hk => by
 have hk : k < 5:=hk
 match k,hk with
 | 0,_ => exact ⟨h.cell 0,h.cell 1,h.cell 2⟩
 | 1,_ => exact ⟨h.cell 3,h.cell 4,h.cell 5⟩
 | 2,_ => exact ⟨h.cell 6,h.cell 7,h.cell 8⟩
 | 3,_ => exact ⟨h.cell 9,h.cell 10,h.cell 11⟩
 | 4,_ => exact ⟨h.cell 12,h.cell 13,h.cell 14⟩
theorem BndR.of_blk3 {w : World} {b : Nat} {t : TypeId} {b0 b1 b2 : Bnd} (h : Blk w b t (bndCells b0 ++ bndCells b1 ++ bndCells b2).toArray) : BndR w b [b0,b1,b2]:=fun k hk => by
 have hk : k < 3:=hk
 match k,hk with
 | 0,_ => exact ⟨h.cell 0,h.cell 1,h.cell 2⟩
 | 1,_ => exact ⟨h.cell 3,h.cell 4,h.cell 5⟩
 | 2,_ => exact ⟨h.cell 6,h.cell 7,h.cell 8⟩
set_option maxHeartbeats 2000000 in
theorem sat_valid (id ow p f lo hi no tu sl wi st ch su idl sh se wa co ho sw ra : Int) (w : World) :
  Calls Tryz.prog 127 #[.agg #[.int .i64 id,.int .i64 ow,.int .i64 p,.int .i64 f,.int .i64 lo,.int .i64 hi,.int .i64 no,.int .i64 tu,.int .i64 sl,.int .i64 wi,.int .i64 st,.int .i64 ch,.int .i64 su,.int .i64 idl,.int .i64 sh,.int .i64 se,.int .i64 wa,.int .i64 co,.int .i64 ho,.int .i64 sw,.int .i64 ra]] w fun e w' => e = .returned (.bool (satOK ⟨id,ow,⟨p,f,lo,hi,no,tu,sl⟩,wi,st,ch,su,idl,sh,se,wa,co,ho,sw,ra⟩)) ∧ Below w.heap.size w w':=by
 have hs : satOK ⟨id,ow,⟨p,f,lo,hi,no,tu,sl⟩,wi,st,ch,su,idl,sh,se,wa,co,ho,sw,ra⟩ = (([⟨id,0,23⟩,⟨ow,0,15⟩,⟨wi,0,4⟩,⟨st,1,1000000⟩,⟨sw,0,60⟩,⟨ra,1,1000⟩] : List Bnd).all (fun b => inB b.n b.lo b.hi) && ([⟨ch,1,1000000⟩,⟨su,0,10000⟩,⟨idl,0,10000⟩,⟨sh,0,10000⟩,⟨se,0,10000⟩] : List Bnd).all (fun b => inB b.n b.lo b.hi) && ([⟨wa,0,10000⟩,⟨co,0,10000⟩,⟨ho,1,1000000⟩] : List Bnd).all (fun b => inB b.n b.lo b.hi) && orbOK ⟨p,f,lo,hi,no,tu,sl⟩):=by
  simp only [satOK,List.all_cons,List.all_nil,Bool.and_true]
  ac_rfl
 rw [hs]
 clear hs
 generalize ha0 : ([⟨id,0,23⟩,⟨ow,0,15⟩,⟨wi,0,4⟩,⟨st,1,1000000⟩,⟨sw,0,60⟩,⟨ra,1,1000⟩] : List Bnd).all (fun b => inB b.n b.lo b.hi) = a0
 generalize ha1 : ([⟨ch,1,1000000⟩,⟨su,0,10000⟩,⟨idl,0,10000⟩,⟨sh,0,10000⟩,⟨se,0,10000⟩] : List Bnd).all (fun b => inB b.n b.lo b.hi) = a1
 generalize ha2 : ([⟨wa,0,10000⟩,⟨co,0,10000⟩,⟨ho,1,1000000⟩] : List Bnd).all (fun b => inB b.n b.lo b.hi) = a2
 have V:=orbit_valid p f lo hi no tu sl
 generalize orbOK ⟨p,f,lo,hi,no,tu,sl⟩ = q at V ⊢
 have HA0:=Lib.hid ha0
 have HA1:=Lib.hid ha1
 have HA2:=Lib.hid ha2
 have HV:=Lib.hid V
 clear ha0 ha1 ha2 V
 go_enter Tryz.func127,Tryz.ntmps127
 go_wp2_with fail
 have K:=Blk.new w 53 #[.int .i64 id,.int .i64 ow,.int .i64 p,.int .i64 f,.int .i64 lo,.int .i64 hi,.int .i64 no,.int .i64 tu,.int .i64 sl,.int .i64 wi,.int .i64 st,.int .i64 ch,.int .i64 su,.int .i64 idl,.int .i64 sh,.int .i64 se,.int .i64 wa,.int .i64 co,.int .i64 ho,.int .i64 sw,.int .i64 ra]
 have hb : Below w.heap.size w (w.alloc (.cells #[.int .i64 id,.int .i64 ow,.int .i64 p,.int .i64 f,.int .i64 lo,.int .i64 hi,.int .i64 no,.int .i64 tu,.int .i64 sl,.int .i64 wi,.int .i64 st,.int .i64 ch,.int .i64 su,.int .i64 idl,.int .i64 sh,.int .i64 se,.int .i64 wa,.int .i64 co,.int .i64 ho,.int .i64 sw,.int .i64 ra] 53)):=(by repeat (first | exact Below.refl _ _ | assumption | refine Below.drew ?_ | refine below_drewN ?_ _ | refine bl_alloc ?_ _ | refine Below.setCell ?_ (by first | (simp; done) | omega | (simp; omega)) _ | refine bl_then ?_ (by assumption)))
 have hz0 : (w.alloc (.cells #[.int .i64 id,.int .i64 ow,.int .i64 p,.int .i64 f,.int .i64 lo,.int .i64 hi,.int .i64 no,.int .i64 tu,.int .i64 sl,.int .i64 wi,.int .i64 st,.int .i64 ch,.int .i64 su,.int .i64 idl,.int .i64 sh,.int .i64 se,.int .i64 wa,.int .i64 co,.int .i64 ho,.int .i64 sw,.int .i64 ra] 53)).heap.size = w.heap.size + 1:=World.size_alloc _ _
 generalize w.alloc (.cells #[.int .i64 id,.int .i64 ow,.int .i64 p,.int .i64 f,.int .i64 lo,.int .i64 hi,.int .i64 no,.int .i64 tu,.int .i64 sl,.int .i64 wi,.int .i64 st,.int .i64 ch,.int .i64 su,.int .i64 idl,.int .i64 sh,.int .i64 se,.int .i64 wa,.int .i64 co,.int .i64 ho,.int .i64 sw,.int .i64 ra] 53) = W0 at K hb hz0 ⊢
 have k : BndR (W0.alloc (.cells #[.int .i64 id,.int .i64 0,.int .i64 23,.int .i64 ow,.int .i64 0,.int .i64 15,.int .i64 wi,.int .i64 0,.int .i64 4,.int .i64 st,.int .i64 1,.int .i64 1000000,.int .i64 sw,.int .i64 0,.int .i64 60,.int .i64 ra,.int .i64 1,.int .i64 1000] 189)) W0.heap.size [⟨id,0,23⟩,⟨ow,0,15⟩,⟨wi,0,4⟩,⟨st,1,1000000⟩,⟨sw,0,60⟩,⟨ra,1,1000⟩]:=BndR.of_blk6 (Blk.new W0 189 #[.int .i64 id,.int .i64 0,.int .i64 23,.int .i64 ow,.int .i64 0,.int .i64 15,.int .i64 wi,.int .i64 0,.int .i64 4,.int .i64 st,.int .i64 1,.int .i64 1000000,.int .i64 sw,.int .i64 0,.int .i64 60,.int .i64 ra,.int .i64 1,.int .i64 1000])
 rw [hz0] at k
 refine (areIn_any [⟨id,0,23⟩,⟨ow,0,15⟩,⟨wi,0,4⟩,⟨st,1,1000000⟩,⟨sw,0,60⟩,⟨ra,1,1000⟩] (w.heap.size + 1) 6 6 _ rfl k (by rw [World.size_alloc]; omega) (by omega)).mono ?_
 rintro e W1 ⟨rfl,hb1⟩
 have K:=(K.alloc (.cells #[.int .i64 id,.int .i64 0,.int .i64 23,.int .i64 ow,.int .i64 0,.int .i64 15,.int .i64 wi,.int .i64 0,.int .i64 4,.int .i64 st,.int .i64 1,.int .i64 1000000,.int .i64 sw,.int .i64 0,.int .i64 60,.int .i64 ra,.int .i64 1,.int .i64 1000] 189)).below hb1 (by have:=K.lt; rw [World.size_alloc]; omega)
 have hb : Below w.heap.size w W1:=bl_then (bl_alloc hb _) hb1
 rw [HA0.out]
 clear k hb1 HA0
 have g0 : W1.cell? ⟨w.heap.size,0,none⟩ = some (.int .i64 id):=K.cell 0
 have g1 : W1.cell? ⟨w.heap.size,1,none⟩ = some (.int .i64 ow):=K.cell 1
 have g2 : W1.cell? ⟨w.heap.size,2,none⟩ = some (.int .i64 p):=K.cell 2
 have g3 : W1.cell? ⟨w.heap.size,3,none⟩ = some (.int .i64 f):=K.cell 3
 have g4 : W1.cell? ⟨w.heap.size,4,none⟩ = some (.int .i64 lo):=K.cell 4
 have g5 : W1.cell? ⟨w.heap.size,5,none⟩ = some (.int .i64 hi):=K.cell 5
 have g6 : W1.cell? ⟨w.heap.size,6,none⟩ = some (.int .i64 no):=K.cell 6
 have g7 : W1.cell? ⟨w.heap.size,7,none⟩ = some (.int .i64 tu):=K.cell 7
 have g8 : W1.cell? ⟨w.heap.size,8,none⟩ = some (.int .i64 sl):=K.cell 8
 have g9 : W1.cell? ⟨w.heap.size,9,none⟩ = some (.int .i64 wi):=K.cell 9
 have g10 : W1.cell? ⟨w.heap.size,10,none⟩ = some (.int .i64 st):=K.cell 10
 have g11 : W1.cell? ⟨w.heap.size,11,none⟩ = some (.int .i64 ch):=K.cell 11
 have g12 : W1.cell? ⟨w.heap.size,12,none⟩ = some (.int .i64 su):=K.cell 12
 have g13 : W1.cell? ⟨w.heap.size,13,none⟩ = some (.int .i64 idl):=K.cell 13
 have g14 : W1.cell? ⟨w.heap.size,14,none⟩ = some (.int .i64 sh):=K.cell 14
 have g15 : W1.cell? ⟨w.heap.size,15,none⟩ = some (.int .i64 se):=K.cell 15
 have g16 : W1.cell? ⟨w.heap.size,16,none⟩ = some (.int .i64 wa):=K.cell 16
 have g17 : W1.cell? ⟨w.heap.size,17,none⟩ = some (.int .i64 co):=K.cell 17
 have g18 : W1.cell? ⟨w.heap.size,18,none⟩ = some (.int .i64 ho):=K.cell 18
 have g19 : W1.cell? ⟨w.heap.size,19,none⟩ = some (.int .i64 sw):=K.cell 19
 have g20 : W1.cell? ⟨w.heap.size,20,none⟩ = some (.int .i64 ra):=K.cell 20
 go_wp2_with fail
 have k : BndR (W1.alloc (.cells #[.int .i64 ch,.int .i64 1,.int .i64 1000000,.int .i64 su,.int .i64 0,.int .i64 10000,.int .i64 idl,.int .i64 0,.int .i64 10000,.int .i64 sh,.int .i64 0,.int .i64 10000,.int .i64 se,.int .i64 0,.int .i64 10000] 189)) W1.heap.size [⟨ch,1,1000000⟩,⟨su,0,10000⟩,⟨idl,0,10000⟩,⟨sh,0,10000⟩,⟨se,0,10000⟩]:=BndR.of_blk5 (Blk.new W1 189 #[.int .i64 ch,.int .i64 1,.int .i64 1000000,.int .i64 su,.int .i64 0,.int .i64 10000,.int .i64 idl,.int .i64 0,.int .i64 10000,.int .i64 sh,.int .i64 0,.int .i64 10000,.int .i64 se,.int .i64 0,.int .i64 10000])
 refine (areIn_any [⟨ch,1,1000000⟩,⟨su,0,10000⟩,⟨idl,0,10000⟩,⟨sh,0,10000⟩,⟨se,0,10000⟩] W1.heap.size 5 5 _ rfl k (by rw [World.size_alloc]; omega) (by omega)).mono ?_
 rintro e W2 ⟨rfl,hb2⟩
 have K:=(K.alloc (.cells #[.int .i64 ch,.int .i64 1,.int .i64 1000000,.int .i64 su,.int .i64 0,.int .i64 10000,.int .i64 idl,.int .i64 0,.int .i64 10000,.int .i64 sh,.int .i64 0,.int .i64 10000,.int .i64 se,.int .i64 0,.int .i64 10000] 189)).below hb2 (by have:=K.lt; rw [World.size_alloc]; omega)
 have hb : Below w.heap.size w W2:=bl_then (bl_alloc hb _) hb2
 rw [HA1.out]
 clear k hb2 HA1 g0 g1 g2 g3 g4 g5 g6 g7 g8 g9 g10 g11 g12 g13 g14 g15 g16 g17 g18 g19 g20
 have g0 : W2.cell? ⟨w.heap.size,0,none⟩ = some (.int .i64 id):=K.cell 0
 have g1 : W2.cell? ⟨w.heap.size,1,none⟩ = some (.int .i64 ow):=K.cell 1
 have g2 : W2.cell? ⟨w.heap.size,2,none⟩ = some (.int .i64 p):=K.cell 2
 have g3 : W2.cell? ⟨w.heap.size,3,none⟩ = some (.int .i64 f):=K.cell 3
 have g4 : W2.cell? ⟨w.heap.size,4,none⟩ = some (.int .i64 lo):=K.cell 4
 have g5 : W2.cell? ⟨w.heap.size,5,none⟩ = some (.int .i64 hi):=K.cell 5
 have g6 : W2.cell? ⟨w.heap.size,6,none⟩ = some (.int .i64 no):=K.cell 6
 have g7 : W2.cell? ⟨w.heap.size,7,none⟩ = some (.int .i64 tu):=K.cell 7
 have g8 : W2.cell? ⟨w.heap.size,8,none⟩ = some (.int .i64 sl):=K.cell 8
 have g9 : W2.cell? ⟨w.heap.size,9,none⟩ = some (.int .i64 wi):=K.cell 9
 have g10 : W2.cell? ⟨w.heap.size,10,none⟩ = some (.int .i64 st):=K.cell 10
 have g11 : W2.cell? ⟨w.heap.size,11,none⟩ = some (.int .i64 ch):=K.cell 11
 have g12 : W2.cell? ⟨w.heap.size,12,none⟩ = some (.int .i64 su):=K.cell 12
 have g13 : W2.cell? ⟨w.heap.size,13,none⟩ = some (.int .i64 idl):=K.cell 13
 have g14 : W2.cell? ⟨w.heap.size,14,none⟩ = some (.int .i64 sh):=K.cell 14
 have g15 : W2.cell? ⟨w.heap.size,15,none⟩ = some (.int .i64 se):=K.cell 15
 have g16 : W2.cell? ⟨w.heap.size,16,none⟩ = some (.int .i64 wa):=K.cell 16
 have g17 : W2.cell? ⟨w.heap.size,17,none⟩ = some (.int .i64 co):=K.cell 17
 have g18 : W2.cell? ⟨w.heap.size,18,none⟩ = some (.int .i64 ho):=K.cell 18
 have g19 : W2.cell? ⟨w.heap.size,19,none⟩ = some (.int .i64 sw):=K.cell 19
 have g20 : W2.cell? ⟨w.heap.size,20,none⟩ = some (.int .i64 ra):=K.cell 20
 go_wp2_with fail
 have k : BndR (W2.alloc (.cells #[.int .i64 wa,.int .i64 0,.int .i64 10000,.int .i64 co,.int .i64 0,.int .i64 10000,.int .i64 ho,.int .i64 1,.int .i64 1000000] 189)) W2.heap.size [⟨wa,0,10000⟩,⟨co,0,10000⟩,⟨ho,1,1000000⟩]:=BndR.of_blk3 (Blk.new W2 189 #[.int .i64 wa,.int .i64 0,.int .i64 10000,.int .i64 co,.int .i64 0,.int .i64 10000,.int .i64 ho,.int .i64 1,.int .i64 1000000])
 refine (areIn_any [⟨wa,0,10000⟩,⟨co,0,10000⟩,⟨ho,1,1000000⟩] W2.heap.size 3 3 _ rfl k (by rw [World.size_alloc]; omega) (by omega)).mono ?_
 rintro e W3 ⟨rfl,hb3⟩
 have K:=(K.alloc (.cells #[.int .i64 wa,.int .i64 0,.int .i64 10000,.int .i64 co,.int .i64 0,.int .i64 10000,.int .i64 ho,.int .i64 1,.int .i64 1000000] 189)).below hb3 (by have:=K.lt; rw [World.size_alloc]; omega)
 have hb : Below w.heap.size w W3:=bl_then (bl_alloc hb _) hb3
 rw [HA2.out]
 clear k hb3 HA2 g0 g1 g2 g3 g4 g5 g6 g7 g8 g9 g10 g11 g12 g13 g14 g15 g16 g17 g18 g19 g20
 have g0 : W3.cell? ⟨w.heap.size,0,none⟩ = some (.int .i64 id):=K.cell 0
 have g1 : W3.cell? ⟨w.heap.size,1,none⟩ = some (.int .i64 ow):=K.cell 1
 have g2 : W3.cell? ⟨w.heap.size,2,none⟩ = some (.int .i64 p):=K.cell 2
 have g3 : W3.cell? ⟨w.heap.size,3,none⟩ = some (.int .i64 f):=K.cell 3
 have g4 : W3.cell? ⟨w.heap.size,4,none⟩ = some (.int .i64 lo):=K.cell 4
 have g5 : W3.cell? ⟨w.heap.size,5,none⟩ = some (.int .i64 hi):=K.cell 5
 have g6 : W3.cell? ⟨w.heap.size,6,none⟩ = some (.int .i64 no):=K.cell 6
 have g7 : W3.cell? ⟨w.heap.size,7,none⟩ = some (.int .i64 tu):=K.cell 7
 have g8 : W3.cell? ⟨w.heap.size,8,none⟩ = some (.int .i64 sl):=K.cell 8
 have g9 : W3.cell? ⟨w.heap.size,9,none⟩ = some (.int .i64 wi):=K.cell 9
 have g10 : W3.cell? ⟨w.heap.size,10,none⟩ = some (.int .i64 st):=K.cell 10
 have g11 : W3.cell? ⟨w.heap.size,11,none⟩ = some (.int .i64 ch):=K.cell 11
 have g12 : W3.cell? ⟨w.heap.size,12,none⟩ = some (.int .i64 su):=K.cell 12
 have g13 : W3.cell? ⟨w.heap.size,13,none⟩ = some (.int .i64 idl):=K.cell 13
 have g14 : W3.cell? ⟨w.heap.size,14,none⟩ = some (.int .i64 sh):=K.cell 14
 have g15 : W3.cell? ⟨w.heap.size,15,none⟩ = some (.int .i64 se):=K.cell 15
 have g16 : W3.cell? ⟨w.heap.size,16,none⟩ = some (.int .i64 wa):=K.cell 16
 have g17 : W3.cell? ⟨w.heap.size,17,none⟩ = some (.int .i64 co):=K.cell 17
 have g18 : W3.cell? ⟨w.heap.size,18,none⟩ = some (.int .i64 ho):=K.cell 18
 have g19 : W3.cell? ⟨w.heap.size,19,none⟩ = some (.int .i64 sw):=K.cell 19
 have g20 : W3.cell? ⟨w.heap.size,20,none⟩ = some (.int .i64 ra):=K.cell 20
 go_wp2_with (go_at_call 71; refine (HV.out _).mono ?_; rintro e W4 ⟨rfl,hb4⟩)
 all_goals
  go_ret
  exact ⟨by simp [*],(by repeat (first | exact Below.refl _ _ | assumption | refine Below.drew ?_ | refine below_drewN ?_ _ | refine bl_alloc ?_ _ | refine Below.setCell ?_ (by first | (simp; done) | omega | (simp; omega)) _ | refine bl_then ?_ (by assumption)))⟩
end Go.Proofs.YtjidhhfabfnhnaaGreat
namespace Go.Proofs.YtjidhhfabfnhnaaGreat
open Go.RowKit
section
variable {α : Type} {cells : α → List Value} {s : Nat}
theorem flat_len (hs : ∀ x,(cells x).length = s) (l : List α) : (l.flatMap cells).length = l.length * s:=by
 induction l with
 | nil => simp
 | cons x r ih => rw [List.flatMap_cons,List.length_append,ih,hs,List.length_cons,Nat.succ_mul]; omega
theorem flat_at (hs : ∀ x,(cells x).length = s) (l : List α) (k : Nat) (h : k < l.length) (j : Nat) (hj : j < s) : (l.flatMap cells)[k * s + j]? = (cells l[k])[j]?:=by
 induction l generalizing k with
 | nil => simp at h
 | cons x r ih =>
  rw [List.flatMap_cons]
  cases k with
  | zero => rw [Nat.zero_mul,Nat.zero_add,List.getElem?_append_left (by rw [hs]; exact hj)]; rfl
  | succ k =>
   rw [List.getElem?_append_right (by rw [hs,Nat.succ_mul]; omega),hs,show (k + 1) * s + j - s = k * s + j by rw [Nat.succ_mul]; omega]
   exact ih k (by simpa using h)
structure RA (cells : α → List Value) (s : Nat) (w : World) (B : Nat) (A : Option Addr) (n c : Nat) (l : List α) : Prop where
 rd : Reads w B s A n (l.flatMap cells)
 len : l.length = n
 cap : n ≤ c
 capM : c ≤ maxLen
 le : n ≤ 9223372036854775807
variable {w w' : World} {B B' n c : Nat} {A : Option Addr} {l : List α}
theorem RA.keep (h : RA cells s w B A n c l) (hk : ∀ p : Addr,p.block < B → w'.cell? p = w.cell? p) : RA cells s w' B A n c l:=⟨h.rd.keep hk,h.len,h.cap,h.capM,h.le⟩
theorem RA.below (h : RA cells s w B A n c l) (hb : Below B w w') : RA cells s w' B A n c l:=⟨h.rd.below hb,h.len,h.cap,h.capM,h.le⟩
theorem RA.more (h : RA cells s w B A n c l) (hb : B ≤ B') : RA cells s w B' A n c l:=⟨h.rd.more hb,h.len,h.cap,h.capM,h.le⟩
theorem RA.alloc (h : RA cells s w B A n c l) (hB : B ≤ w.heap.size) (o : Obj) : RA cells s (w.alloc o) B A n c l:=⟨h.rd.alloc hB o,h.len,h.cap,h.capM,h.le⟩
theorem RA.at_ (hs : ∀ x,(cells x).length = s) (h : RA cells s w B A n c l) {k : Nat} (hk : k < n) :
  ∃ (b o : Nat) (hz : k < l.length),A = some ⟨b,o,none⟩ ∧ b < B ∧ ∀ j,j < s → w.cell? ⟨b,o + k * s + j,none⟩ = (cells l[k])[j]?:=by
 obtain ⟨b,o,e,hb,hc⟩:=h.rd.2 (by omega)
 have hz : k < l.length:=by rw [h.len]; exact hk
 refine ⟨b,o,hz,e,hb,fun j hj => ?_⟩
 have hu : (cells l[k])[j]? = some ((cells l[k])[j]'(by rw [hs]; exact hj)):=List.getElem?_eq_getElem _
 rw [hu,Nat.add_assoc]
 exact hc _ _ (by rw [flat_at hs l k hz j hj]; exact hu)
end
def stnCells (x : Stn) : List Value:=[.int .i64 x.id,.int .i64 x.cell.x,.int .i64 x.cell.y,.int .i64 x.reach,.int .i64 x.antennas,.int .i64 x.skew]
def satCells (x : St) : List Value:=[.int .i64 x.id,.int .i64 x.owner,.int .i64 x.orbit.period,.int .i64 x.orbit.phase,.int .i64 x.orbit.low,.int .i64 x.orbit.high,.int .i64 x.orbit.node,.int .i64 x.orbit.turn,.int .i64 x.orbit.slack,.int .i64 x.wide,.int .i64 x.store,.int .i64 x.charge,.int .i64 x.sunny,.int .i64 x.idle,.int .i64 x.shoot,.int .i64 x.send,.int .i64 x.warm,.int .i64 x.cool,.int .i64 x.hot,.int .i64 x.slew,.int .i64 x.rate]
def pasCells (x : Pas) : List Value:=[.int .i64 x.sat,.int .i64 x.station,.int .i64 x.sure.fr,.int .i64 x.sure.tt,.int .i64 x.can.fr,.int .i64 x.can.tt]
theorem stn_len (x : Stn) : (stnCells x).length = 6:=rfl
theorem sat_len (x : St) : (satCells x).length = 21:=rfl
theorem pas_len (x : Pas) : (pasCells x).length = 6:=rfl
def prevAt {α : Type} (l : List α) (k : Nat) : Option α:=if k = 0 then none else l[k - 1]?
theorem listOK_step {α : Type} (ok : α → Bool) (id : α → Int) (l : List α) (k : Nat) (h : k < l.length) :
  listOK ok id (prevAt l k) (l.drop k) = (ok l[k] && (match prevAt l k with | none => true | some y => decide (id y < id l[k])) && listOK ok id (prevAt l (k + 1)) (l.drop (k + 1))):=by
 have hp : prevAt l (k + 1) = some l[k]:=by simp [prevAt,h]
 rw [List.drop_eq_getElem_cons h,hp]
 cases prevAt l k <;> rfl
end Go.Proofs.YtjidhhfabfnhnaaGreat
namespace Go.Proofs.YtjidhhfabfnhnaaGreat
open Go.RowKit
section
variable {α : Type} {cells : α → List Value} {s : Nat} {w w' : World} {B n c : Nat} {A : Option Addr} {l : List α}
theorem RA.range (hs : ∀ x,(cells x).length = s) (h : RA cells s w B A n c l) {k : Nat} (hk : k < n) :
  ∃ (b o : Nat) (hz : k < l.length),A = some ⟨b,o,none⟩ ∧ b < B ∧ w.rangeAt b (o + k * s) (cells l[k]):=by
 obtain ⟨b,o,hz,hA,hb,hc⟩:=h.at_ hs hk
 refine ⟨b,o,hz,hA,hb,fun j v hv => ?_⟩
 have hj : j < s:=by rw [← hs l[k]]; exact (List.getElem?_eq_some_iff.1 hv).1
 exact (hc j hj).trans hv
theorem RA.range2 {b o : Nat} {cs : List Value} (h : w.rangeAt b o cs) (hx : Ext w w') : w'.rangeAt b o cs:=fun j v hv => ext_cell hx (h j v hv)
theorem Blk.range {g : Nat} {t : TypeId} {cs : Array Value} (h : Blk w g t cs) (l : List Value) (hl : cs.toList = l) : w.rangeAt g 0 l:=fun j v hv => by
 rw [Nat.zero_add,h.cell,← hv,← hl]; simp
end
theorem setRow_new (w : World) (t : TypeId) (zs X : Array Value) : (w.alloc (.cells zs t)).setRow w.heap.size X = w.alloc (.cells X t):=by
 have hw : ∀ (a b : World),a.heap = b.heap → a = { b with heap:=a.heap } → a = b:=fun a b h1 h2 => by rw [h2,h1]
 refine hw _ _ ?_ rfl
 refine Array.ext_getElem? fun j => ?_
 by_cases hj : j = w.heap.size
 ·subst hj
  rw [setRow_heap _ _ _ _ _ _ (heap_alloc_new w _),heap_alloc_new]
 ·rw [setRow_other _ _ _ _ hj]
  rcases Nat.lt_or_ge j w.heap.size with h' | h'
  ·rw [Below.heap_alloc _ _ _ h',Below.heap_alloc _ _ _ h']
  ·rw [Array.getElem?_eq_none (by simp; omega),Array.getElem?_eq_none (by simp; omega)]
theorem wpList_load_st {P : Program} {ops : Array Oper} {rest : List Oper} {op : Oper} {a : Act} {w : World} {Q : Exit → Act → World → Prop} (hgd : op.guard = none) (ty : TypeId) (x : Operand) (ho : op.op = .load ty x)
  (b o : Nat) (hx : a.eval x = .pointer (some ⟨b,o,none⟩)) (X : Array Value) (cs : List Value) (hX : cs.toArray = X) (d : TypeDesc) (hc : w.rangeAt b o cs)
  (hu : P.underlying ty = some d) (hd : d.isRow = true) (hi : (P.info? ty).map (·.size) = some cs.length)
  (h : wpList P ops Q rest (a.put op.dst (.agg X)) w) : wpList P ops Q (op :: rest) a w:=by
 subst hX
 exact wpList_load_mid hgd ty x ho b o hx cs d hc hu hd hi h
theorem wpList_load_stg {P : Program} {ops : Array Oper} {rest : List Oper} {op : Oper} {a : Act} {w : World} {Q : Exit → Act → World → Prop} (hw : Region.wanted op (yielded ops a.tmps) = true) (ty : TypeId) (x : Operand) (ho : op.op = .load ty x)
  (b o : Nat) (hx : a.eval x = .pointer (some ⟨b,o,none⟩)) (X : Array Value) (cs : List Value) (hX : cs.toArray = X) (d : TypeDesc) (hc : w.rangeAt b o cs)
  (hu : P.underlying ty = some d) (hd : d.isRow = true) (hi : (P.info? ty).map (·.size) = some cs.length)
  (h : wpList P ops Q rest (a.put op.dst (.agg X)) w) : wpList P ops Q (op :: rest) a w:=by
 subst hX
 unfold wpList
 rw [if_pos hw]
 exact .inl (wp_load_mid ty x ho b o hx cs d hc hu hd hi h)
theorem wpList_store_new {P : Program} {ops : Array Oper} {rest : List Oper} {op : Oper} {a : Act} {w : World} {Q : Exit → Act → World → Prop} (hgd : op.guard = none) (ty : TypeId) (x y : Operand) (ho : op.op = .store ty x y)
  (zs X : Array Value) (hx : a.eval x = .pointer (some ⟨w.heap.size,0,none⟩)) (hy : a.eval y = .agg X) (hi : (P.info? ty).map (·.size) = some X.size) (hz : zs.size = X.size) (h1 : X.all (·.oneCell') = true)
  (h : wpList P ops Q rest (a.put op.dst undef) (w.alloc (.cells X ty))) : wpList P ops Q (op :: rest) a (w.alloc (.cells zs ty)):=by
 refine wpList_store_row hgd ty x y ho w.heap.size X hx hy ty zs (heap_alloc_new w _) hi hz h1 ?_
 rw [setRow_new]
 exact h
theorem sat_size : (Tryz.prog.info? 53).map (·.size) = some 21:=by kernel_rfl
theorem sat_one (x : St) : (satCells x).toArray.all (·.oneCell') = true:=by simp [satCells,Value.oneCell']
theorem idSt (x : St) (w : World) :
  Calls Tryz.prog 128 #[.agg (satCells x).toArray] w fun e w' => e = .returned (.int .i64 x.id) ∧ Below w.heap.size w w':=by
 obtain ⟨id,ow,⟨p,f,lo,hi,no,tu,sl⟩,wi,st,ch,su,idl,sh,se,wa,co,ho,sw,ra⟩:=x
 show Calls Tryz.prog 128 #[.agg #[.int .i64 id,.int .i64 ow,.int .i64 p,.int .i64 f,.int .i64 lo,.int .i64 hi,.int .i64 no,.int .i64 tu,.int .i64 sl,.int .i64 wi,.int .i64 st,.int .i64 ch,.int .i64 su,.int .i64 idl,.int .i64 sh,.int .i64 se,.int .i64 wa,.int .i64 co,.int .i64 ho,.int .i64 sw,.int .i64 ra]] w _
 go_enter Tryz.func128,Tryz.ntmps128
 go_wp2
 go_ret
 exact ⟨rfl,(by repeat (first | exact Below.refl _ _ | assumption | refine Below.drew ?_ | refine below_drewN ?_ _ | refine bl_alloc ?_ _ | refine Below.setCell ?_ (by first | (simp; done) | omega | (simp; omega)) _ | refine bl_then ?_ (by assumption)))⟩
theorem satVal (x : St) (w : World) : Calls Tryz.prog 127 #[.agg (satCells x).toArray] w fun e w' => e = .returned (.bool (satOK x)) ∧ Below w.heap.size w w':=by
 obtain ⟨id,ow,⟨p,f,lo,hi,no,tu,sl⟩,wi,st,ch,su,idl,sh,se,wa,co,ho,sw,ra⟩:=x
 exact sat_valid id ow p f lo hi no tu sl wi st ch su idl sh se wa co ho sw ra w
set_option maxRecDepth 100000 in
set_option maxHeartbeats 2000000 in
theorem isListSt (l : List St) (A : Option Addr) (n c : Nat) (w : World) (h : RA satCells 21 w w.heap.size A n c l) :
  Calls Tryz.prog 126 #[.slice A n c,.int .i64 24,.func (.func 127) #[] #[],.func (.func 128) #[] #[]] w fun e w' => e = .returned (.bool (satsOK l)) ∧ Below w.heap.size w w':=by
 have HR:=Lib.hid h
 have hle:=h.le
 have hlen:=h.len
 have HL:=Lib.hid hlen
 have hs : satsOK l = (decide (n ≤ 24) && listOK satOK (·.id) none l):=by rw [satsOK,hlen]
 rw [hs]
 clear h hs hlen
 by_cases hm : n ≤ 24
 ·have hd : decide (n ≤ 24) = true:=by simpa using hm
  rw [hd,Bool.true_and]
  clear hd
  have hrl : listOK satOK (·.id) none l = listOK satOK (·.id) (prevAt l 0) (l.drop 0):=by simp [prevAt]
  have HQ:=Lib.hid hrl
  clear hrl
  go_enter Tryz.func126,Tryz.ntmps126
  go_wp2
  go_loopw [17] (fun i wr => ∃ k : Nat,k ≤ n ∧ i = .int .i64 k ∧ Hid (listOK satOK (·.id) none l = listOK satOK (·.id) (prevAt l k) (l.drop k)) ∧ Below w.heap.size w wr) (fun i _ => n - (intOf i).toNat)
  case atStart => exact ⟨0,Nat.zero_le _,rfl,HQ,Below.refl _ _⟩
  case round =>
   clear HQ
   obtain ⟨k,hk,rfl,HK,hB⟩:=hrel
   by_cases hlt : k < n
   ·obtain ⟨b,o,hz,hA,hbl,hc⟩:=RA.range sat_len (HR.out.below hB) hlt
    have hst:=listOK_step satOK (fun x => x.id) l k hz
    rw [← HK.out] at hst
    generalize l[k] = x at hst hc
    have hv:=satVal x
    have hid:=idSt x
    have h1:=sat_one x
    have hsx : (satCells x).toArray.size = 21:=rfl
    have HC:=Lib.hid hc
    have KX : Blk (wr.alloc (.cells (satCells x).toArray 53)) wr.heap.size 53 (satCells x).toArray:=Blk.new _ _ _
    obtain ⟨X,hX⟩ : ∃ X,(satCells x).toArray = X:=⟨_,rfl⟩
    rw [hX] at hv hid h1 hsx KX
    have HON:=Lib.hid h1
    have HSX:=Lib.hid hsx
    have HV:=Lib.hid hv
    have HIX:=Lib.hid hid
    have HXX:=Lib.hid hX
    generalize satOK x = q at hst HV
    have HS:=Lib.hid hst
    clear hst hc HK hX hv hid h1 hsx
    subst hA
    have hblt : b < w.heap.size:=hbl
    go_wp2_with (first | (refine wpList_load_st rfl _ _ rfl b (o + k * 21) rfl X (satCells x) HXX.out _ HC.out Tryz.underlying53 rfl sat_size ?_) | (refine wpList_store_new rfl 53 _ _ rfl _ X rfl rfl (by rw [HSX.out]; exact sat_size) (by rw [HSX.out]; rfl) HON.out ?_))
    have hB1 : Below w.heap.size w (wr.alloc (.cells X 53)):=bl_alloc hB _
    have hx1 : Ext wr (wr.alloc (.cells X 53)):=bl_alloc (Below.refl _ _) _
    obtain ⟨gb,hgb⟩ : ∃ g,g = wr.heap.size:=⟨_,rfl⟩
    rw [← hgb] at KX ⊢
    generalize wr.alloc (.cells X 53) = W at KX hB1 hx1 ⊢
    have HX1:=Lib.hid hx1
    have K:=Lib.hid KX
    have K : Blk W gb 53 (satCells x).toArray:=by rw [HXX.out]; exact KX
    clear hx1 hgb KX
    cases q
    ·skip
     refine wp_region_obl 21 (fun ix vals v w1 => match ix with | 0 => v = .func (.func 127) #[] #[] | 1 => v = .agg X | 2 => v = .bool false | 3 => v = .bool true | 4 => v = .bool true | 5 => v = undef | 6 => v = undef | 7 => v = undef | 8 => v = undef | 9 => v = undef | 10 => v = undef | 11 => v = undef | 12 => v = undef | 13 => v = undef | 14 => v = undef | 15 => v = undef | 16 => v = undef | 17 => v = undef | 18 => v = undef | 19 => v = undef | _ => v = .bool true) (by kernel_rfl) (by kernel_rfl) ?_ ?_ ?_ ?_
     ·intro ix vals v w1 w2 hi hr hx; exact hr
     ·intro ix vals vals_ v w1 hi hv hr
      exact hr
     ·refine ⟨?_,?_,?_,?_,?_,?_,?_,?_,?_,?_,?_,?_,?_,?_,?_,?_,?_,?_,?_,?_,?_,trivial⟩
      ·intro vals w1 hx hd ha
       clear hd ha
       simp only [Lf]
       go_wp2
       exact q_
      ·intro vals w1 hx hd ha
       clear hd ha
       simp only [Lf,dstAt,Act.put,FR_]
       refine wpList_load_st rfl _ _ rfl gb 0 rfl X (satCells x) HXX.out _ (Blk.range (K.ext (hx.undrew)) (satCells x) (by simp)) Tryz.underlying53 rfl sat_size ?_
       go_wp2
       exact q_
      ·intro vals w1 hx hd ha
       have e0 : vals 0 = .func (.func 127) #[] #[]:=hd 0 (by decide)
       have e1 : vals 1 = .agg X:=hd 1 (by decide)
       clear hd ha
       simp only [Lf,dstAt,Act.put,FR_,e0]
       simp only [e1]
       clear e0 e1
       go_wp2_with fail
       refine (HV.out _).mono ?_
       rintro e w2 ⟨rfl,hb2⟩
       go_wp2
       exact ⟨rfl,hb2,rfl⟩
      ·intro vals w1 hx hd ha
       have e2 : vals 2 = .bool false:=hd 2 (by decide)
       clear hd ha
       simp only [Lf,dstAt,Act.put,FR_,e2]
       clear e2
       go_wp2
       exact q_
      ·intro vals w1 hx hd ha
       have e2 : vals 2 = .bool false:=hd 2 (by decide)
       have e3 : vals 3 = .bool true:=hd 3 (by decide)
       clear hd ha
       simp only [Lf,dstAt,Act.put,FR_,e2,e3]
       clear e2 e3
       go_wp2
       exact q_
      ·intro vals w1 hx hd ha
       have e4 : vals 4 = .bool true:=hd 4 (by decide)
       clear hd ha
       simp only [Lf,dstAt,Act.put,FR_,e4]
       clear e4
       go_wp2
       exact q_
      ·intro vals w1 hx hd ha
       have e4 : vals 4 = .bool true:=hd 4 (by decide)
       have e5 : vals 5 = undef:=hd 5 (by decide)
       clear hd ha
       simp only [Lf,dstAt,Act.put,FR_,e4,e5]
       clear e4 e5
       go_wp2
       exact q_
      ·intro vals w1 hx hd ha
       have e4 : vals 4 = .bool true:=hd 4 (by decide)
       have e6 : vals 6 = undef:=hd 6 (by decide)
       clear hd ha
       simp only [Lf,dstAt,Act.put,FR_,e4,e6]
       clear e4 e6
       go_wp2
       exact q_
      ·intro vals w1 hx hd ha
       have e7 : vals 7 = undef:=hd 7 (by decide)
       clear hd ha
       simp only [Lf,dstAt,Act.put,FR_,e7]
       clear e7
       go_wp2
       exact q_
      ·intro vals w1 hx hd ha
       have e7 : vals 7 = undef:=hd 7 (by decide)
       clear hd ha
       simp only [Lf,dstAt,Act.put,FR_,e7]
       clear e7
       go_wp2
       exact q_
      ·intro vals w1 hx hd ha
       have e7 : vals 7 = undef:=hd 7 (by decide)
       have e8 : vals 8 = undef:=hd 8 (by decide)
       have e9 : vals 9 = undef:=hd 9 (by decide)
       clear hd ha
       simp only [Lf,dstAt,Act.put,FR_,e7,e8,e9]
       clear e7 e8 e9
       go_wp2
       exact q_
      ·intro vals w1 hx hd ha
       have e7 : vals 7 = undef:=hd 7 (by decide)
       clear hd ha
       simp only [Lf,dstAt,Act.put,FR_,e7]
       clear e7
       go_wp2
       exact q_
      ·intro vals w1 hx hd ha
       have e7 : vals 7 = undef:=hd 7 (by decide)
       clear hd ha
       simp only [Lf,dstAt,Act.put,FR_,e7]
       clear e7
       go_wp2
       exact q_
      ·intro vals w1 hx hd ha
       have e7 : vals 7 = undef:=hd 7 (by decide)
       clear hd ha
       simp only [Lf,dstAt,Act.put,FR_,e7]
       clear e7
       go_wp2
       exact q_
      ·intro vals w1 hx hd ha
       have e7 : vals 7 = undef:=hd 7 (by decide)
       have e13 : vals 13 = undef:=hd 13 (by decide)
       clear hd ha
       simp only [Lf,dstAt,Act.put,FR_,e7,e13]
       clear e7 e13
       go_wp2
       exact q_
      ·intro vals w1 hx hd ha
       have e7 : vals 7 = undef:=hd 7 (by decide)
       have e12 : vals 12 = undef:=hd 12 (by decide)
       have e14 : vals 14 = undef:=hd 14 (by decide)
       clear hd ha
       simp only [Lf,dstAt,Act.put,FR_,e7,e12,e14]
       clear e7 e12 e14
       go_wp2
       exact q_
      ·intro vals w1 hx hd ha
       have e7 : vals 7 = undef:=hd 7 (by decide)
       have e15 : vals 15 = undef:=hd 15 (by decide)
       clear hd ha
       simp only [Lf,dstAt,Act.put,FR_,e7,e15]
       clear e7 e15
       go_wp2
       exact q_
      ·intro vals w1 hx hd ha
       have e7 : vals 7 = undef:=hd 7 (by decide)
       have e10 : vals 10 = undef:=hd 10 (by decide)
       have e11 : vals 11 = undef:=hd 11 (by decide)
       have e16 : vals 16 = undef:=hd 16 (by decide)
       clear hd ha
       simp only [Lf,dstAt,Act.put,FR_,e7,e10,e11,e16]
       clear e7 e10 e11 e16
       go_wp2
       exact q_
      ·intro vals w1 hx hd ha
       have e7 : vals 7 = undef:=hd 7 (by decide)
       have e10 : vals 10 = undef:=hd 10 (by decide)
       have e17 : vals 17 = undef:=hd 17 (by decide)
       clear hd ha
       simp only [Lf,dstAt,Act.put,FR_,e7,e10,e17]
       clear e7 e10 e17
       go_wp2
       exact q_
      ·intro vals w1 hx hd ha
       have e4 : vals 4 = .bool true:=hd 4 (by decide)
       have e7 : vals 7 = undef:=hd 7 (by decide)
       have e18 : vals 18 = undef:=hd 18 (by decide)
       clear hd ha
       simp only [Lf,dstAt,Act.put,FR_,e4,e7,e18]
       clear e4 e7 e18
       go_wp2
       exact q_
      ·intro vals w1 hx hd ha
       have e4 : vals 4 = .bool true:=hd 4 (by decide)
       have e19 : vals 19 = undef:=hd 19 (by decide)
       clear hd ha
       simp only [Lf,dstAt,Act.put,FR_,e4,e19]
       clear e4 e19
       go_wp2
       exact q_
     intro vals w5 hx hf
     have e20 : vals 20 = .bool true:=hf 20 (by omega)
     clear hf
     have hx:=hx.undrew
     have hB5:=bl_then hB1 hx
     refine tail0 (by kernel_rfl) ?_
     simp only [Lf,dstAt,Act.put,FR_]
     rw [e20]
     clear e20
     go_wp2
     go_ret
     exact ⟨by rw [HS.out]; rfl,hB5⟩
    ·by_cases hk0 : k = 0
     ·have hk0' : (k : Int) ≤ 0:=by omega
      have hpv : prevAt l k = none:=by simp [prevAt,hk0]
      have HP:=Lib.hid hpv
      have hk0h:=Lib.hid hk0
      have hkd : decide (0 < k) = false:=by simp; omega
      clear hpv hk0
      refine wp_region_obl 21 (fun ix vals v w1 => match ix with | 0 => v = .func (.func 127) #[] #[] | 1 => v = .agg X | 2 => v = .bool true | 3 => v = .bool false | 4 => v = .bool false | 5 => v = .int .i64 (k : Int) | 6 => v = .bool false | 7 => v = .bool false | 8 => v = undef | 9 => v = undef | 10 => v = undef | 11 => v = undef | 12 => v = undef | 13 => v = undef | 14 => v = undef | 15 => v = undef | 16 => v = undef | 17 => v = undef | 18 => v = undef | 19 => v = .bool false | _ => v = .bool false) (by kernel_rfl) (by kernel_rfl) ?_ ?_ ?_ ?_
      ·intro ix vals v w1 w2 hi hr hx; exact hr
      ·intro ix vals vals_ v w1 hi hv hr
       exact hr
      ·refine ⟨?_,?_,?_,?_,?_,?_,?_,?_,?_,?_,?_,?_,?_,?_,?_,?_,?_,?_,?_,?_,?_,trivial⟩
       ·intro vals w1 hx hd ha
        clear hd ha
        simp only [Lf]
        go_wp2
        exact q_
       ·intro vals w1 hx hd ha
        clear hd ha
        simp only [Lf,dstAt,Act.put,FR_]
        refine wpList_load_st rfl _ _ rfl gb 0 rfl X (satCells x) HXX.out _ (Blk.range (K.ext (hx.undrew)) (satCells x) (by simp)) Tryz.underlying53 rfl sat_size ?_
        go_wp2
        exact q_
       ·intro vals w1 hx hd ha
        have e0 : vals 0 = .func (.func 127) #[] #[]:=hd 0 (by decide)
        have e1 : vals 1 = .agg X:=hd 1 (by decide)
        clear hd ha
        simp only [Lf,dstAt,Act.put,FR_,e0]
        simp only [e1]
        clear e0 e1
        go_wp2_with fail
        refine (HV.out _).mono ?_
        rintro e w2 ⟨rfl,hb2⟩
        go_wp2
        exact ⟨rfl,hb2,rfl⟩
       ·intro vals w1 hx hd ha
        have e2 : vals 2 = .bool true:=hd 2 (by decide)
        clear hd ha
        simp only [Lf,dstAt,Act.put,FR_,e2]
        clear e2
        go_wp2
        exact q_
       ·intro vals w1 hx hd ha
        have e2 : vals 2 = .bool true:=hd 2 (by decide)
        have e3 : vals 3 = .bool false:=hd 3 (by decide)
        clear hd ha
        simp only [Lf,dstAt,Act.put,FR_,e2,e3]
        clear e2 e3
        go_wp2
        exact q_
       ·intro vals w1 hx hd ha
        have e4 : vals 4 = .bool false:=hd 4 (by decide)
        clear hd ha
        simp only [Lf,dstAt,Act.put,FR_,e4]
        clear e4
        go_wp2
        exact q_
       ·intro vals w1 hx hd ha
        have e4 : vals 4 = .bool false:=hd 4 (by decide)
        have e5 : vals 5 = .int .i64 (k : Int):=hd 5 (by decide)
        clear hd ha
        simp only [Lf,dstAt,Act.put,FR_,e4,e5]
        clear e4 e5
        go_wp2
        exact q_
       ·intro vals w1 hx hd ha
        have e4 : vals 4 = .bool false:=hd 4 (by decide)
        have e6 : vals 6 = .bool false:=hd 6 (by decide)
        clear hd ha
        simp only [Lf,dstAt,Act.put,FR_,e4,e6]
        clear e4 e6
        go_wp2
        exact q_
       ·intro vals w1 hx hd ha
        have e7 : vals 7 = .bool false:=hd 7 (by decide)
        clear hd ha
        simp only [Lf,dstAt,Act.put,FR_,e7]
        clear e7
        go_wp2
        exact q_
       ·intro vals w1 hx hd ha
        have e7 : vals 7 = .bool false:=hd 7 (by decide)
        clear hd ha
        simp only [Lf,dstAt,Act.put,FR_,e7]
        clear e7
        go_wp2
        exact q_
       ·intro vals w1 hx hd ha
        have e7 : vals 7 = .bool false:=hd 7 (by decide)
        have e8 : vals 8 = undef:=hd 8 (by decide)
        have e9 : vals 9 = undef:=hd 9 (by decide)
        clear hd ha
        simp only [Lf,dstAt,Act.put,FR_,e7,e8,e9]
        clear e7 e8 e9
        go_wp2
        exact q_
       ·intro vals w1 hx hd ha
        have e7 : vals 7 = .bool false:=hd 7 (by decide)
        clear hd ha
        simp only [Lf,dstAt,Act.put,FR_,e7]
        clear e7
        go_wp2
        exact q_
       ·intro vals w1 hx hd ha
        have e7 : vals 7 = .bool false:=hd 7 (by decide)
        clear hd ha
        simp only [Lf,dstAt,Act.put,FR_,e7]
        clear e7
        go_wp2
        exact q_
       ·intro vals w1 hx hd ha
        have e7 : vals 7 = .bool false:=hd 7 (by decide)
        clear hd ha
        simp only [Lf,dstAt,Act.put,FR_,e7]
        clear e7
        go_wp2
        exact q_
       ·intro vals w1 hx hd ha
        have e7 : vals 7 = .bool false:=hd 7 (by decide)
        have e13 : vals 13 = undef:=hd 13 (by decide)
        clear hd ha
        simp only [Lf,dstAt,Act.put,FR_,e7,e13]
        clear e7 e13
        go_wp2
        exact q_
       ·intro vals w1 hx hd ha
        have e7 : vals 7 = .bool false:=hd 7 (by decide)
        have e12 : vals 12 = undef:=hd 12 (by decide)
        have e14 : vals 14 = undef:=hd 14 (by decide)
        clear hd ha
        simp only [Lf,dstAt,Act.put,FR_,e7,e12,e14]
        clear e7 e12 e14
        go_wp2
        exact q_
       ·intro vals w1 hx hd ha
        have e7 : vals 7 = .bool false:=hd 7 (by decide)
        have e15 : vals 15 = undef:=hd 15 (by decide)
        clear hd ha
        simp only [Lf,dstAt,Act.put,FR_,e7,e15]
        clear e7 e15
        go_wp2
        exact q_
       ·intro vals w1 hx hd ha
        have e7 : vals 7 = .bool false:=hd 7 (by decide)
        have e10 : vals 10 = undef:=hd 10 (by decide)
        have e11 : vals 11 = undef:=hd 11 (by decide)
        have e16 : vals 16 = undef:=hd 16 (by decide)
        clear hd ha
        simp only [Lf,dstAt,Act.put,FR_,e7,e10,e11,e16]
        clear e7 e10 e11 e16
        go_wp2
        exact q_
       ·intro vals w1 hx hd ha
        have e7 : vals 7 = .bool false:=hd 7 (by decide)
        have e10 : vals 10 = undef:=hd 10 (by decide)
        have e17 : vals 17 = undef:=hd 17 (by decide)
        clear hd ha
        simp only [Lf,dstAt,Act.put,FR_,e7,e10,e17]
        clear e7 e10 e17
        go_wp2
        exact q_
       ·intro vals w1 hx hd ha
        have e4 : vals 4 = .bool false:=hd 4 (by decide)
        have e7 : vals 7 = .bool false:=hd 7 (by decide)
        have e18 : vals 18 = undef:=hd 18 (by decide)
        clear hd ha
        simp only [Lf,dstAt,Act.put,FR_,e4,e7,e18]
        clear e4 e7 e18
        go_wp2
        exact q_
       ·intro vals w1 hx hd ha
        have e4 : vals 4 = .bool false:=hd 4 (by decide)
        have e19 : vals 19 = .bool false:=hd 19 (by decide)
        clear hd ha
        simp only [Lf,dstAt,Act.put,FR_,e4,e19]
        clear e4 e19
        go_wp2
        exact q_
      intro vals w5 hx hf
      have e20 : vals 20 = .bool false:=hf 20 (by omega)
      clear hf
      have hx:=hx.undrew
      have hB5:=bl_then hB1 hx
      refine tail0 (by kernel_rfl) ?_
      simp only [Lf,dstAt,Act.put,FR_]
      rw [e20]
      clear e20
      go_wp2
      go_roundw
      case rel => exact ⟨k + 1,by omega,by go_num,Lib.hid (by rw [HS.out,HP.out]; rfl),hB5⟩
      case measure => simp [intOf]; omega
     ·have hk1 : (0 : Int) < (k : Int):=by omega
      obtain ⟨b',o',hz',hA',hbl',hc'⟩:=RA.range sat_len (HR.out.below hB) (k:=k - 1) (by omega)
      obtain ⟨rfl,rfl⟩ : b' = b ∧ o' = o:=by injection hA' with hA'; injection hA' with h1 h2; exact ⟨h1.symm,h2.symm⟩
      have hpv : prevAt l k = some l[k - 1]:=by unfold prevAt; rw [if_neg hk0,List.getElem?_eq_getElem hz']
      generalize l[k - 1] = y at hpv hc'
      have hry:=hc'
      have hid:=idSt y
      obtain ⟨Y,hY⟩ : ∃ Y,(satCells y).toArray = Y:=⟨_,rfl⟩
      rw [hY] at hid
      have HIY:=Lib.hid hid
      have HYY:=Lib.hid hY
      have HP:=Lib.hid hpv
      have hk0h:=Lib.hid hk0
      clear hpv hc' hA' hbl' hk0 hid hY
      have hki : IntKind.i64.wrap ((k : Int) - 1) = (k : Int) - 1:=IntWalk.i64_in _ (by omega)
      have hkn : ((k : Int) - 1).toNat = k - 1:=by omega
      have hkd : decide (0 < k) = true:=by simp; omega
      refine wp_region_obl 21 (fun ix vals v w1 => match ix with | 0 => v = .func (.func 127) #[] #[] | 1 => v = .agg X | 2 => v = .bool true | 3 => v = .bool false | 4 => v = .bool false | 5 => v = .int .i64 (k : Int) | 6 => v = .bool true | 7 => v = .bool true | 8 => v = .func (.func 128) #[] #[] | 9 => v = .agg X | 10 => v = .int .i64 x.id | 11 => v = .func (.func 128) #[] #[] | 12 => v = .slice (some ⟨b',o',none⟩) n c | 13 => v = .int .i64 (k : Int) | 14 => v = .int .i64 ((k : Int) - 1) | 15 => v = .pointer (some ⟨b',o' + (k - 1) * 21,none⟩) | 16 => v = .agg Y | 17 => v = .int .i64 y.id | 18 => v = .bool (decide (x.id ≤ y.id)) | 19 => v = .bool (decide (x.id ≤ y.id)) | _ => v = .bool (decide (x.id ≤ y.id))) (by kernel_rfl) (by kernel_rfl) ?_ ?_ ?_ ?_
      ·intro ix vals v w1 w2 hi hr hx; exact hr
      ·intro ix vals vals_ v w1 hi hv hr
       exact hr
      ·refine ⟨?_,?_,?_,?_,?_,?_,?_,?_,?_,?_,?_,?_,?_,?_,?_,?_,?_,?_,?_,?_,?_,trivial⟩
       ·intro vals w1 hx hd ha
        clear hd ha
        simp only [Lf]
        go_wp2
        exact q_
       ·intro vals w1 hx hd ha
        clear hd ha
        simp only [Lf,dstAt,Act.put,FR_]
        refine wpList_load_st rfl _ _ rfl gb 0 rfl X (satCells x) HXX.out _ (Blk.range (K.ext (hx.undrew)) (satCells x) (by simp)) Tryz.underlying53 rfl sat_size ?_
        go_wp2
        exact q_
       ·intro vals w1 hx hd ha
        have e0 : vals 0 = .func (.func 127) #[] #[]:=hd 0 (by decide)
        have e1 : vals 1 = .agg X:=hd 1 (by decide)
        clear hd ha
        simp only [Lf,dstAt,Act.put,FR_,e0]
        simp only [e1]
        clear e0 e1
        go_wp2_with fail
        refine (HV.out _).mono ?_
        rintro e w2 ⟨rfl,hb2⟩
        go_wp2
        exact ⟨rfl,hb2,rfl⟩
       ·intro vals w1 hx hd ha
        have e2 : vals 2 = .bool true:=hd 2 (by decide)
        clear hd ha
        simp only [Lf,dstAt,Act.put,FR_,e2]
        clear e2
        go_wp2
        exact q_
       ·intro vals w1 hx hd ha
        have e2 : vals 2 = .bool true:=hd 2 (by decide)
        have e3 : vals 3 = .bool false:=hd 3 (by decide)
        clear hd ha
        simp only [Lf,dstAt,Act.put,FR_,e2,e3]
        clear e2 e3
        go_wp2
        exact q_
       ·intro vals w1 hx hd ha
        have e4 : vals 4 = .bool false:=hd 4 (by decide)
        clear hd ha
        simp only [Lf,dstAt,Act.put,FR_,e4]
        clear e4
        go_wp2
        exact q_
       ·intro vals w1 hx hd ha
        have e4 : vals 4 = .bool false:=hd 4 (by decide)
        have e5 : vals 5 = .int .i64 (k : Int):=hd 5 (by decide)
        clear hd ha
        simp only [Lf,dstAt,Act.put,FR_,e4,e5]
        clear e4 e5
        go_wp2
        exact q_
       ·intro vals w1 hx hd ha
        have e4 : vals 4 = .bool false:=hd 4 (by decide)
        have e6 : vals 6 = .bool true:=hd 6 (by decide)
        clear hd ha
        simp only [Lf,dstAt,Act.put,FR_,e4,e6]
        clear e4 e6
        go_wp2
        exact q_
       ·intro vals w1 hx hd ha
        have e7 : vals 7 = .bool true:=hd 7 (by decide)
        clear hd ha
        simp only [Lf,dstAt,Act.put,FR_,e7]
        clear e7
        go_wp2
        exact q_
       ·intro vals w1 hx hd ha
        have e7 : vals 7 = .bool true:=hd 7 (by decide)
        clear hd ha
        simp only [Lf,dstAt,Act.put,FR_,e7]
        clear e7
        refine wpList_load_stg rfl _ _ rfl gb 0 rfl X (satCells x) HXX.out _ (Blk.range (K.ext (hx.undrew)) (satCells x) (by simp)) Tryz.underlying53 rfl sat_size ?_
        go_wp2
        exact q_
       ·intro vals w1 hx hd ha
        have e7 : vals 7 = .bool true:=hd 7 (by decide)
        have e8 : vals 8 = .func (.func 128) #[] #[]:=hd 8 (by decide)
        have e9 : vals 9 = .agg X:=hd 9 (by decide)
        clear hd ha
        simp only [Lf,dstAt,Act.put,FR_,e7]
        simp only [e8]
        simp only [e9]
        clear e7 e8 e9
        go_wp2_with fail
        refine (HIX.out _).mono ?_
        rintro e w2 ⟨rfl,hb2⟩
        go_wp2
        exact ⟨rfl,hb2,rfl⟩
       ·intro vals w1 hx hd ha
        have e7 : vals 7 = .bool true:=hd 7 (by decide)
        clear hd ha
        simp only [Lf,dstAt,Act.put,FR_,e7]
        clear e7
        go_wp2
        exact q_
       ·intro vals w1 hx hd ha
        have e7 : vals 7 = .bool true:=hd 7 (by decide)
        clear hd ha
        simp only [Lf,dstAt,Act.put,FR_,e7]
        clear e7
        go_wp2
        exact q_
       ·intro vals w1 hx hd ha
        have e7 : vals 7 = .bool true:=hd 7 (by decide)
        clear hd ha
        simp only [Lf,dstAt,Act.put,FR_,e7]
        clear e7
        go_wp2
        exact q_
       ·intro vals w1 hx hd ha
        have e7 : vals 7 = .bool true:=hd 7 (by decide)
        have e13 : vals 13 = .int .i64 (k : Int):=hd 13 (by decide)
        clear hd ha
        simp only [Lf,dstAt,Act.put,FR_,e7,e13]
        clear e7 e13
        go_wp2
        exact q_
       ·intro vals w1 hx hd ha
        have e7 : vals 7 = .bool true:=hd 7 (by decide)
        have e12 : vals 12 = .slice (some ⟨b',o',none⟩) n c:=hd 12 (by decide)
        have e14 : vals 14 = .int .i64 ((k : Int) - 1):=hd 14 (by decide)
        clear hd ha
        simp only [Lf,dstAt,Act.put,FR_,e7,e12,e14]
        clear e7 e12 e14
        go_wp2
        exact q_
       ·intro vals w1 hx hd ha
        have e7 : vals 7 = .bool true:=hd 7 (by decide)
        have e15 : vals 15 = .pointer (some ⟨b',o' + (k - 1) * 21,none⟩):=hd 15 (by decide)
        clear hd ha
        simp only [Lf,dstAt,Act.put,FR_,e7]
        simp only [e15]
        clear e7 e15
        refine wpList_load_stg rfl _ _ rfl b' (o' + (k - 1) * 21) rfl Y (satCells y) HYY.out _ (RA.range2 hry (Ext.trans HX1.out hx.undrew)) Tryz.underlying53 rfl sat_size ?_
        go_wp2
        exact q_
       ·intro vals w1 hx hd ha
        have e7 : vals 7 = .bool true:=hd 7 (by decide)
        have e10 : vals 10 = .int .i64 x.id:=hd 10 (by decide)
        have e11 : vals 11 = .func (.func 128) #[] #[]:=hd 11 (by decide)
        have e16 : vals 16 = .agg Y:=hd 16 (by decide)
        clear hd ha
        simp only [Lf,dstAt,Act.put,FR_,e7]
        simp only [e10]
        simp only [e11]
        simp only [e16]
        clear e7 e10 e11 e16
        go_wp2_with fail
        refine (HIY.out _).mono ?_
        rintro e w2 ⟨rfl,hb2⟩
        go_wp2
        exact ⟨rfl,hb2,rfl⟩
       ·intro vals w1 hx hd ha
        have e7 : vals 7 = .bool true:=hd 7 (by decide)
        have e10 : vals 10 = .int .i64 x.id:=hd 10 (by decide)
        have e17 : vals 17 = .int .i64 y.id:=hd 17 (by decide)
        clear hd ha
        simp only [Lf,dstAt,Act.put,FR_,e7,e10,e17]
        clear e7 e10 e17
        go_wp2
        exact q_
       ·intro vals w1 hx hd ha
        have e4 : vals 4 = .bool false:=hd 4 (by decide)
        have e7 : vals 7 = .bool true:=hd 7 (by decide)
        have e18 : vals 18 = .bool (decide (x.id ≤ y.id)):=hd 18 (by decide)
        clear hd ha
        simp only [Lf,dstAt,Act.put,FR_,e4,e7,e18]
        clear e4 e7 e18
        go_wp2
        exact q_
       ·intro vals w1 hx hd ha
        have e4 : vals 4 = .bool false:=hd 4 (by decide)
        have e19 : vals 19 = .bool (decide (x.id ≤ y.id)):=hd 19 (by decide)
        clear hd ha
        simp only [Lf,dstAt,Act.put,FR_,e4,e19]
        clear e4 e19
        go_wp2
        exact q_
      intro vals w5 hx hf
      have e20 : vals 20 = .bool (decide (x.id ≤ y.id)):=hf 20 (by omega)
      clear hf
      have hx:=hx.undrew
      have hB5:=bl_then hB1 hx
      refine tail0 (by kernel_rfl) ?_
      simp only [Lf,dstAt,Act.put,FR_]
      rw [e20]
      clear e20
      by_cases hid : x.id ≤ y.id
      ·have hid2 : decide (y.id < x.id) = false:=by simp; omega
       have HI:=Lib.hid hid2
       clear hid2
       go_wp2
       go_ret
       exact ⟨by rw [HS.out,HP.out]; simp [HI.out],hB5⟩
      ·have hid2 : decide (y.id < x.id) = true:=by simp; omega
       have HI:=Lib.hid hid2
       clear hid2
       go_wp2
       go_roundw
       case rel => exact ⟨k + 1,by omega,by go_num,Lib.hid (by rw [HS.out,HP.out]; simp [HI.out]),hB5⟩
       case measure => simp [intOf]; omega
   ·go_wp2
    go_ret
    exact ⟨by rw [HK.out,List.drop_of_length_le (by rw [HL.out]; omega)]; rfl,hB⟩
 ·have hd : decide (n ≤ 24) = false:=by simpa using hm
  rw [hd,Bool.false_and]
  clear hd
  go_enter Tryz.func126,Tryz.ntmps126
  go_wp2
  go_ret
  exact ⟨rfl,(by repeat (first | exact Below.refl _ _ | assumption | refine Below.drew ?_ | refine below_drewN ?_ _ | refine bl_alloc ?_ _ | refine Below.setCell ?_ (by first | (simp; done) | omega | (simp; omega)) _ | refine bl_then ?_ (by assumption)))⟩
theorem validSats_any (l : List St) (A : Option Addr) (n c : Nat) (w : World) (h : RA satCells 21 w w.heap.size A n c l) :
  Calls Tryz.prog 72 #[.slice A n c] w fun e w' => e = .returned (.bool (satsOK l)) ∧ Below w.heap.size w w':=by
 have hc:=isListSt l A n c w h
 generalize satsOK l = r at hc ⊢
 have HC:=Lib.hid hc
 clear hc h
 go_enter Tryz.func72,Tryz.ntmps72
 go_wp2_with fail
 refine HC.out.mono ?_
 rintro e w' ⟨rfl,hb⟩
 go_wp2
 go_ret
 exact ⟨rfl,hb⟩
end Go.Proofs.YtjidhhfabfnhnaaGreat
namespace Go.Proofs.YtjidhhfabfnhnaaGreat
open Go.RowKit
theorem BndR.of_blk2 {w : World} {b : Nat} {t : TypeId} {b0 b1 : Bnd} (h : Blk w b t (bndCells b0 ++ bndCells b1).toArray) : BndR w b [b0,b1]:=fun k hk => by
 have hk : k < 2:=hk
 match k,hk with
 | 0,_ => exact ⟨h.cell 0,h.cell 1,h.cell 2⟩
 | 1,_ => exact ⟨h.cell 3,h.cell 4,h.cell 5⟩
set_option maxHeartbeats 4000000 in
theorem isPass_any (sa sn a b c d : Int) (w : World) :
  Calls Tryz.prog 66 #[.agg #[.int .i64 sa,.int .i64 sn,.int .i64 a,.int .i64 b,.int .i64 c,.int .i64 d]] w fun e w' => e = .returned (.bool (pasOK ⟨sa,sn,⟨a,b⟩,⟨c,d⟩⟩)) ∧ Below w.heap.size w w':=by
 have hs : pasOK ⟨sa,sn,⟨a,b⟩,⟨c,d⟩⟩ = (([⟨sa,0,23⟩,⟨sn,0,11⟩] : List Bnd).all (fun b => inB b.n b.lo b.hi) && decide (0 ≤ c ∧ c < d ∧ d ≤ 1000001) && (decide (a = 0 ∧ b = 0) || decide (c ≤ a ∧ a < b ∧ b ≤ d))):=by
  simp only [pasOK,List.all_cons,List.all_nil,Bool.and_true,splIn,Spl.mk.injEq]
 rw [hs]
 clear hs
 generalize ha : ([⟨sa,0,23⟩,⟨sn,0,11⟩] : List Bnd).all (fun b => inB b.n b.lo b.hi) = q
 have HA:=Lib.hid ha
 clear ha
 go_enter Tryz.func66,Tryz.ntmps66
 go_wp2_with fail
 have K : Blk ((w.alloc (.cells #[.int .i64 sa,.int .i64 sn,.int .i64 a,.int .i64 b,.int .i64 c,.int .i64 d] 75)).alloc (.cells #[.int .i64 sa,.int .i64 0,.int .i64 23,.int .i64 sn,.int .i64 0,.int .i64 11] 189)) w.heap.size 75 #[.int .i64 sa,.int .i64 sn,.int .i64 a,.int .i64 b,.int .i64 c,.int .i64 d]:=(Blk.new _ _ _).alloc _
 have K2 : Blk ((w.alloc (.cells #[.int .i64 sa,.int .i64 sn,.int .i64 a,.int .i64 b,.int .i64 c,.int .i64 d] 75)).alloc (.cells #[.int .i64 sa,.int .i64 0,.int .i64 23,.int .i64 sn,.int .i64 0,.int .i64 11] 189)) (w.heap.size + 1) 189 #[.int .i64 sa,.int .i64 0,.int .i64 23,.int .i64 sn,.int .i64 0,.int .i64 11]:=Blk.new_at _ _ _ (by simp)
 have hb : Below w.heap.size w ((w.alloc (.cells #[.int .i64 sa,.int .i64 sn,.int .i64 a,.int .i64 b,.int .i64 c,.int .i64 d] 75)).alloc (.cells #[.int .i64 sa,.int .i64 0,.int .i64 23,.int .i64 sn,.int .i64 0,.int .i64 11] 189)):=(by repeat (first | exact Below.refl _ _ | assumption | refine Below.drew ?_ | refine below_drewN ?_ _ | refine bl_alloc ?_ _ | refine Below.setCell ?_ (by first | (simp; done) | omega | (simp; omega)) _ | refine bl_then ?_ (by assumption)))
 generalize (w.alloc (.cells #[.int .i64 sa,.int .i64 sn,.int .i64 a,.int .i64 b,.int .i64 c,.int .i64 d] 75)).alloc (.cells #[.int .i64 sa,.int .i64 0,.int .i64 23,.int .i64 sn,.int .i64 0,.int .i64 11] 189) = W at K K2 hb ⊢
 refine (areIn_any [⟨sa,0,23⟩,⟨sn,0,11⟩] (w.heap.size + 1) 2 2 W rfl (BndR.of_blk2 K2) K2.lt (by omega)).mono ?_
 rintro e W2 ⟨rfl,hb2⟩
 have K:=K.below hb2 (by have:=K.lt; omega)
 have hB2 : Below w.heap.size w W2:=hb.trans (Below.mono hb2 hb.size)
 clear K2 hb hb2
 have g2 : W2.cell? ⟨w.heap.size,2,none⟩ = some (.int .i64 a):=K.cell 2
 have g3 : W2.cell? ⟨w.heap.size,3,none⟩ = some (.int .i64 b):=K.cell 3
 have g4 : W2.cell? ⟨w.heap.size,4,none⟩ = some (.int .i64 c):=K.cell 4
 have g5 : W2.cell? ⟨w.heap.size,5,none⟩ = some (.int .i64 d):=K.cell 5
 rw [HA.out]
 clear HA K
 go_upto_region 4 with (fail)
 all_goals cases q
 all_goals
  go_wp2
 all_goals
  go_ret
  exact ⟨by first | (simp [*]; done) | (simp [*]; omega),hB2⟩
end Go.Proofs.YtjidhhfabfnhnaaGreat
