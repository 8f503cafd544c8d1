/- Satellites and stations that integers determine are valid; a satellite without Slack; in plain Lean. -/
import Derived.Test.YtjidhhfabfnhnaaGreatK27
import Derived.Test.YtjidhhfabfnhnaaGreatK13
import Derived.Test.YtjidhhfabfnhnaaGreatK08
import Derived.Test.YtjidhhfabfnhnaaGreatK05
import Derived.Test.YtjidhhfabfnhnaaGreatK09
namespace Go.Proofs.YtjidhhfabfnhnaaGreat
open Go.RowKit
attribute [local go_sem] Oper.semAt_some
def Tru (w : World) (e : Ending) (w' : World) : Prop:=e = .returned (.bool true) ∧ Ext w w'
theorem three_vars (W : World) (X T U : Array Value) : Ext W ((((((W.alloc (.cells #[.int .i64 0,.int .i64 0,.int .i64 0,.int .i64 0,.int .i64 0,.int .i64 0,.int .i64 0,.int .i64 0,.int .i64 0,.int .i64 0,.int .i64 0,.int .i64 0,.int .i64 0,.int .i64 0,.int .i64 0,.int .i64 0,.int .i64 0,.int .i64 0,.int .i64 0,.int .i64 0,.int .i64 0] 53)).alloc (.cells #[.int .i64 0,.int .i64 0,.int .i64 0,.int .i64 0,.int .i64 0,.int .i64 0] 71)).alloc (.cells #[.int .i64 0,.int .i64 0,.int .i64 0,.int .i64 0,.int .i64 0,.int .i64 0,.int .i64 0,.int .i64 0,.int .i64 0,.int .i64 0] 66)).setRow W.heap.size X).setRow (W.heap.size + 1) T).setRow (W.heap.size + 1 + 1) U) ∧ Blk ((((((W.alloc (.cells #[.int .i64 0,.int .i64 0,.int .i64 0,.int .i64 0,.int .i64 0,.int .i64 0,.int .i64 0,.int .i64 0,.int .i64 0,.int .i64 0,.int .i64 0,.int .i64 0,.int .i64 0,.int .i64 0,.int .i64 0,.int .i64 0,.int .i64 0,.int .i64 0,.int .i64 0,.int .i64 0,.int .i64 0] 53)).alloc (.cells #[.int .i64 0,.int .i64 0,.int .i64 0,.int .i64 0,.int .i64 0,.int .i64 0] 71)).alloc (.cells #[.int .i64 0,.int .i64 0,.int .i64 0,.int .i64 0,.int .i64 0,.int .i64 0,.int .i64 0,.int .i64 0,.int .i64 0,.int .i64 0] 66)).setRow W.heap.size X).setRow (W.heap.size + 1) T).setRow (W.heap.size + 1 + 1) U) W.heap.size 53 X ∧ Blk ((((((W.alloc (.cells #[.int .i64 0,.int .i64 0,.int .i64 0,.int .i64 0,.int .i64 0,.int .i64 0,.int .i64 0,.int .i64 0,.int .i64 0,.int .i64 0,.int .i64 0,.int .i64 0,.int .i64 0,.int .i64 0,.int .i64 0,.int .i64 0,.int .i64 0,.int .i64 0,.int .i64 0,.int .i64 0,.int .i64 0] 53)).alloc (.cells #[.int .i64 0,.int .i64 0,.int .i64 0,.int .i64 0,.int .i64 0,.int .i64 0] 71)).alloc (.cells #[.int .i64 0,.int .i64 0,.int .i64 0,.int .i64 0,.int .i64 0,.int .i64 0,.int .i64 0,.int .i64 0,.int .i64 0,.int .i64 0] 66)).setRow W.heap.size X).setRow (W.heap.size + 1) T).setRow (W.heap.size + 1 + 1) U) (W.heap.size + 1) 71 T ∧ Blk ((((((W.alloc (.cells #[.int .i64 0,.int .i64 0,.int .i64 0,.int .i64 0,.int .i64 0,.int .i64 0,.int .i64 0,.int .i64 0,.int .i64 0,.int .i64 0,.int .i64 0,.int .i64 0,.int .i64 0,.int .i64 0,.int .i64 0,.int .i64 0,.int .i64 0,.int .i64 0,.int .i64 0,.int .i64 0,.int .i64 0] 53)).alloc (.cells #[.int .i64 0,.int .i64 0,.int .i64 0,.int .i64 0,.int .i64 0,.int .i64 0] 71)).alloc (.cells #[.int .i64 0,.int .i64 0,.int .i64 0,.int .i64 0,.int .i64 0,.int .i64 0,.int .i64 0,.int .i64 0,.int .i64 0,.int .i64 0] 66)).setRow W.heap.size X).setRow (W.heap.size + 1) T).setRow (W.heap.size + 1 + 1) U) (W.heap.size + 1 + 1) 66 U:=by
 have J0 : Blk (((W.alloc (.cells #[.int .i64 0,.int .i64 0,.int .i64 0,.int .i64 0,.int .i64 0,.int .i64 0,.int .i64 0,.int .i64 0,.int .i64 0,.int .i64 0,.int .i64 0,.int .i64 0,.int .i64 0,.int .i64 0,.int .i64 0,.int .i64 0,.int .i64 0,.int .i64 0,.int .i64 0,.int .i64 0,.int .i64 0] 53)).alloc (.cells #[.int .i64 0,.int .i64 0,.int .i64 0,.int .i64 0,.int .i64 0,.int .i64 0] 71)).alloc (.cells #[.int .i64 0,.int .i64 0,.int .i64 0,.int .i64 0,.int .i64 0,.int .i64 0,.int .i64 0,.int .i64 0,.int .i64 0,.int .i64 0] 66)) W.heap.size 53 #[.int .i64 0,.int .i64 0,.int .i64 0,.int .i64 0,.int .i64 0,.int .i64 0,.int .i64 0,.int .i64 0,.int .i64 0,.int .i64 0,.int .i64 0,.int .i64 0,.int .i64 0,.int .i64 0,.int .i64 0,.int .i64 0,.int .i64 0,.int .i64 0,.int .i64 0,.int .i64 0,.int .i64 0]:=((Blk.new _ _ _).alloc _).alloc _
 have J1 : Blk (((W.alloc (.cells #[.int .i64 0,.int .i64 0,.int .i64 0,.int .i64 0,.int .i64 0,.int .i64 0,.int .i64 0,.int .i64 0,.int .i64 0,.int .i64 0,.int .i64 0,.int .i64 0,.int .i64 0,.int .i64 0,.int .i64 0,.int .i64 0,.int .i64 0,.int .i64 0,.int .i64 0,.int .i64 0,.int .i64 0] 53)).alloc (.cells #[.int .i64 0,.int .i64 0,.int .i64 0,.int .i64 0,.int .i64 0,.int .i64 0] 71)).alloc (.cells #[.int .i64 0,.int .i64 0,.int .i64 0,.int .i64 0,.int .i64 0,.int .i64 0,.int .i64 0,.int .i64 0,.int .i64 0,.int .i64 0] 66)) (W.heap.size + 1) 71 #[.int .i64 0,.int .i64 0,.int .i64 0,.int .i64 0,.int .i64 0,.int .i64 0]:=(Blk.new_at _ _ _ (by simp)).alloc _
 have J2 : Blk (((W.alloc (.cells #[.int .i64 0,.int .i64 0,.int .i64 0,.int .i64 0,.int .i64 0,.int .i64 0,.int .i64 0,.int .i64 0,.int .i64 0,.int .i64 0,.int .i64 0,.int .i64 0,.int .i64 0,.int .i64 0,.int .i64 0,.int .i64 0,.int .i64 0,.int .i64 0,.int .i64 0,.int .i64 0,.int .i64 0] 53)).alloc (.cells #[.int .i64 0,.int .i64 0,.int .i64 0,.int .i64 0,.int .i64 0,.int .i64 0] 71)).alloc (.cells #[.int .i64 0,.int .i64 0,.int .i64 0,.int .i64 0,.int .i64 0,.int .i64 0,.int .i64 0,.int .i64 0,.int .i64 0,.int .i64 0] 66)) (W.heap.size + 1 + 1) 66 #[.int .i64 0,.int .i64 0,.int .i64 0,.int .i64 0,.int .i64 0,.int .i64 0,.int .i64 0,.int .i64 0,.int .i64 0,.int .i64 0]:=Blk.new_at _ _ _ (by simp)
 refine ⟨below_setRow (below_setRow (below_setRow (bl_alloc (bl_alloc (bl_alloc (Below.refl _ _) _) _) _) (Nat.le_refl _) _) (by omega) _) (by omega) _,?_,?_,?_⟩
 ·exact ((J0.row X).rowFar (by omega) T).rowFar (by omega) U
 ·exact ((J1.rowFar (by omega) X).row T).rowFar (by omega) U
 ·exact ((J2.rowFar (by omega) X).rowFar (by omega) T).row U
section
variable {W : World} {g1 g4 g5 g6 : Nat}
theorem orb_ex (t kn : Int) (R : Option Orb) (hev : orbitE xSat [xUpd] t kn = R) (J6 : Blk W g6 66 (updCells xUpd).toArray) :
  Calls Tryz.prog 17 #[.agg (satCells xSat).toArray,.slice (some ⟨g6,0,none⟩) 1 1,.int .i64 t,.int .i64 kn] W fun e w' => e = .returned (orbR R) ∧ Ext W w':=by
 have h:=orbit_any xSat [xUpd] (some ⟨g6,0,none⟩) 1 1 t kn W (RA.one rfl J6) (by omega)
 rw [hev] at h
 exact h
theorem str_ex (J6 : Blk W g6 66 (updCells xUpd).toArray) :
  Calls Tryz.prog 27 #[.agg (satCells xSat).toArray,.slice (some ⟨g6,0,none⟩) 1 1,.agg #[.int .i64 0,.int .i64 96],.int .i64 40] W (StrRet (some xStr) W):=by
 have h:=stretches_any xSat [xUpd] (some ⟨g6,0,none⟩) 1 1 0 96 40 W (RA.one rfl J6) (by omega)
 rw [show stretchesE xSat [xUpd] ⟨0,96⟩ 40 = some xStr from ex_s] at h
 exact h
theorem pas_ex (kn : Int) (l : List Pas) (hev : passesE [xSat] [exStn] [xUpd] xSp kn = some l) (J4 : Blk W g4 53 (satCells xSat).toArray) (J5 : Blk W g5 71 (stnCells exStn).toArray) (J6 : Blk W g6 66 (updCells xUpd).toArray) :
  Calls Tryz.prog 15 #[.slice (some ⟨g4,0,none⟩) 1 1,.slice (some ⟨g5,0,none⟩) 1 1,.slice (some ⟨g6,0,none⟩) 1 1,.agg #[.int .i64 0,.int .i64 96],.int .i64 kn] W (EPRet (some l) W):=by
 have h:=epasses_any [xSat] [exStn] [xUpd] (some ⟨g4,0,none⟩) (some ⟨g5,0,none⟩) (some ⟨g6,0,none⟩) 1 1 1 1 1 1 0 96 kn W (RA.one rfl J4) (RA.one rfl J5) (RA.one rfl J6)
 rw [show passesE [xSat] [exStn] [xUpd] ⟨0,96⟩ kn = some l from hev] at h
 exact h
theorem chg_ex (J4 : Blk W g4 53 (satCells xSat).toArray) (J5 : Blk W g5 71 (stnCells exStn).toArray) (J6 : Blk W g6 66 (updCells xUpd).toArray) :
  Calls Tryz.prog 31 #[.slice (some ⟨g4,0,none⟩) 1 1,.slice (some ⟨g5,0,none⟩) 1 1,.slice (some ⟨g6,0,none⟩) 1 1,.agg #[.int .i64 0,.int .i64 96],.int .i64 39,.int .i64 40] W (ChRet (some ([xPass 70 73],[xPass 50 53])) W):=by
 have h:=changes_any [xSat] [exStn] [xUpd] (some ⟨g4,0,none⟩) (some ⟨g5,0,none⟩) (some ⟨g6,0,none⟩) 1 1 1 1 1 1 0 96 39 40 W (RA.one rfl J4) (RA.one rfl J5) (RA.one rfl J6)
 rw [show changesE [xSat] [exStn] [xUpd] ⟨0,96⟩ 39 40 = some ([xPass 70 73],[xPass 50 53]) from ex_c] at h
 exact h
theorem aff_ex {ga gb gc c : Nat} {OA : Option Addr} (J4 : Blk W g4 53 (satCells xSat).toArray) (J5 : Blk W g5 71 (stnCells exStn).toArray) (J6 : Blk W g6 66 (updCells xUpd).toArray)
  (Ja : Blk W ga 103 #[.int .i64 0,.int .i64 24,.int .i64 26]) (Jb : Blk W gb 103 #[.int .i64 1,.int .i64 70,.int .i64 72])
  (Jc : Blk W gc 49 #[.int .i64 0,.int .i64 0,.int .i64 0,.int .i64 1,.int .i64 10,.int .i64 12,.int .i64 0,.int .i64 0,.slice (some ⟨ga,0,none⟩) 1 1,.int .i64 0,.int .i64 0,.int .i64 0,.int .i64 1,.int .i64 10,.int .i64 12,.int .i64 0,.int .i64 0,.slice (some ⟨gb,0,none⟩) 1 1])
  (hO : RA pasCells 6 W W.heap.size OA 2 c xOld) :
  Calls Tryz.prog 14 #[.slice (some ⟨g4,0,none⟩) 1 1,.slice (some ⟨g5,0,none⟩) 1 1,.slice (some ⟨g6,0,none⟩) 1 1,.slice (some ⟨gc,0,none⟩) 2 2,.slice OA 2 c,.agg #[.int .i64 0,.int .i64 96],.int .i64 39,.int .i64 40] W (AffRet (some [1]) W):=by
 have h:=affected_any [xSat] [exStn] [xUpd] [xOpt 0 24 26 (some ⟨ga,0,none⟩),xOpt 1 70 72 (some ⟨gb,0,none⟩)] xOld (some ⟨g4,0,none⟩) (some ⟨g5,0,none⟩) (some ⟨g6,0,none⟩) (some ⟨gc,0,none⟩) OA 1 1 1 1 1 1 2 2 2 c 0 96 39 40 W (RA.one rfl J4) (RA.one rfl J5) (RA.one rfl J6) (RA.two rfl rfl Jc) (fun o ho => by
  rcases List.mem_cons.1 ho with rfl | ho
  ·exact RA.one (x:=(⟨0,24,26⟩ : Slt)) rfl Ja
  ·obtain rfl:=List.mem_singleton.1 ho
   exact RA.one (x:=(⟨1,70,72⟩ : Slt)) rfl Jb) hO
 rw [show affE [xSat] [exStn] [xUpd] [xOpt 0 24 26 (some ⟨ga,0,none⟩),xOpt 1 70 72 (some ⟨gb,0,none⟩)] xOld ⟨0,96⟩ 39 40 = some [1] from ex_a _ _] at h
 exact h
theorem val_ex (J4 : Blk W g4 53 (satCells xSat).toArray) (J6 : Blk W g6 66 (updCells xUpd).toArray) :
  Calls Tryz.prog 24 #[.slice (some ⟨g4,0,none⟩) 1 1,.slice (some ⟨g6,0,none⟩) 1 1] W fun e w' => e = .returned (.bool true) ∧ Ext W w':=by
 have h:=validE_any [xSat] [xUpd] (some ⟨g4,0,none⟩) (some ⟨g6,0,none⟩) 1 1 1 1 W (RA.one rfl J4) (RA.one rfl J6)
 rw [ex_v1] at h
 exact h
theorem ra_nil {α : Type} {cells : α → List Value} {s : Nat} (W : World) : RA cells s W W.heap.size none 0 0 ([] : List α):=RA.of_own (base:=0) (e:=0) (World.ownsRow_nil _ _ _ _) rfl (by omega)
theorem val0_ex (J6 : Blk W g6 66 (updCells xUpd).toArray) :
  Calls Tryz.prog 24 #[.slice none 0 0,.slice (some ⟨g6,0,none⟩) 1 1] W fun e w' => e = .returned (.bool false) ∧ Ext W w':=by
 have h:=validE_any [] [xUpd] none (some ⟨g6,0,none⟩) 0 0 1 1 W (ra_nil W) (RA.one rfl J6)
 rw [ex_v2] at h
 exact h
theorem ra_snd {α : Type} {cells : α → List Value} {s : Nat} {x y : α} {W : World} {g c : Nat} (hs : ∀ x,(cells x).length = s) (h : RA cells s W W.heap.size (some ⟨g,0,none⟩) 2 c [x,y]) : RA cells s W W.heap.size (some ⟨g,s,none⟩) 1 (c - 1) [y]:=by
 have hc:=h.cap
 have hm:=h.capM
 obtain ⟨b,o,hz,hA,hb,hc2⟩:=RA.range hs h (k:=1) (by omega)
 injection hA with hA
 injection hA with h1 h2
 subst h1 h2
 refine ⟨⟨by simp [hs],fun _ => ⟨g,s,rfl,hb,fun j u hu => ?_⟩⟩,rfl,by omega,by omega,by omega⟩
 have h5:=hc2 j u (by simpa using hu)
 simpa using h5
end
set_option maxHeartbeats 8000000 in
set_option maxRecDepth 100000 in
theorem sane36_any (w : World) : Calls Tryz.prog 10 #[] w (Tru w):=by
 obtain ⟨SX,hSX⟩ : ∃ X,X = (satCells xSat).toArray:=⟨_,rfl⟩
 obtain ⟨TX,hTX⟩ : ∃ X,X = (stnCells exStn).toArray:=⟨_,rfl⟩
 obtain ⟨UX,hUX⟩ : ∃ X,X = (updCells xUpd).toArray:=⟨_,rfl⟩
 have HS1 : Hid (SX.all (·.oneCell') = true):=Lib.hid (by rw [hSX]; exact sat_one _)
 have HS2 : Hid (SX.size = 21):=Lib.hid (by rw [hSX]; rfl)
 have HT1 : Hid (TX.all (·.oneCell') = true):=Lib.hid (by rw [hTX]; exact stn_one _)
 have HT2 : Hid (TX.size = 6):=Lib.hid (by rw [hTX]; rfl)
 have HU1 : Hid (UX.all (·.oneCell') = true):=Lib.hid (by rw [hUX]; exact upd_one _)
 have HU2 : Hid (UX.size = 10):=Lib.hid (by rw [hUX]; rfl)
 have HEX : Hid (∀ w,Calls Tryz.prog 37 #[] w fun e w' => e = .returned (.tuple #[.agg SX,.agg TX,.agg UX]) ∧ Ext w w'):=Lib.hid (by rw [hSX,hTX,hUX]; exact example36_any)
 have HO1 : Hid (∀ (W : World) (g6 : Nat),Blk W g6 66 UX → Calls Tryz.prog 17 #[.agg SX,.slice (some ⟨g6,0,none⟩) 1 1,.int .i64 49,.int .i64 40] W fun e w' => e = .returned (.tuple #[.agg #[.int .i64 96,.int .i64 0,.int .i64 4000,.int .i64 20000,.int .i64 0,.int .i64 0,.int .i64 0],.int .i64 0]) ∧ Ext W w'):=Lib.hid (by rw [hSX,hUX]; exact fun W g6 J => orb_ex 49 40 _ ex_o1 J)
 have HO2 : Hid (∀ (W : World) (g6 : Nat),Blk W g6 66 UX → Calls Tryz.prog 17 #[.agg SX,.slice (some ⟨g6,0,none⟩) 1 1,.int .i64 50,.int .i64 39] W fun e w' => e = .returned (.tuple #[.agg #[.int .i64 96,.int .i64 0,.int .i64 4000,.int .i64 20000,.int .i64 0,.int .i64 0,.int .i64 0],.int .i64 0]) ∧ Ext W w'):=Lib.hid (by rw [hSX,hUX]; exact fun W g6 J => orb_ex 50 39 _ ex_o2 J)
 have HO3 : Hid (∀ (W : World) (g6 : Nat),Blk W g6 66 UX → Calls Tryz.prog 17 #[.agg SX,.slice (some ⟨g6,0,none⟩) 1 1,.int .i64 50,.int .i64 40] W fun e w' => e = .returned (.tuple #[.agg #[.int .i64 96,.int .i64 20,.int .i64 4000,.int .i64 20000,.int .i64 0,.int .i64 0,.int .i64 0],.int .i64 0]) ∧ Ext W w'):=Lib.hid (by rw [hSX,hUX]; exact fun W g6 J => orb_ex 50 40 _ ex_o3 J)
 have HO4 : Hid (∀ (W : World) (g6 : Nat),Blk W g6 66 UX → Calls Tryz.prog 17 #[.agg SX,.slice (some ⟨g6,0,none⟩) 1 1,.int .i64 (-1),.int .i64 40] W fun e w' => e = .returned (.tuple #[.agg #[.int .i64 0,.int .i64 0,.int .i64 0,.int .i64 0,.int .i64 0,.int .i64 0,.int .i64 0],.int .i64 360]) ∧ Ext W w'):=Lib.hid (by rw [hSX,hUX]; exact fun W g6 J => orb_ex (-1) 40 _ ex_o4 J)
 have HSTR : Hid (∀ (W : World) (g6 : Nat),Blk W g6 66 UX → Calls Tryz.prog 27 #[.agg SX,.slice (some ⟨g6,0,none⟩) 1 1,.agg #[.int .i64 0,.int .i64 96],.int .i64 40] W (StrRet (some xStr) W)):=Lib.hid (by rw [hSX,hUX]; exact fun W g6 J => str_ex J)
 have HP1 : Hid (∀ (W : World) (g4 g5 g6 : Nat),Blk W g4 53 SX → Blk W g5 71 TX → Blk W g6 66 UX → Calls Tryz.prog 15 #[.slice (some ⟨g4,0,none⟩) 1 1,.slice (some ⟨g5,0,none⟩) 1 1,.slice (some ⟨g6,0,none⟩) 1 1,.agg #[.int .i64 0,.int .i64 96],.int .i64 39] W (EPRet (some xOld) W)):=Lib.hid (by rw [hSX,hTX,hUX]; exact fun W g4 g5 g6 a b c => pas_ex 39 xOld ex_p1 a b c)
 have HP2 : Hid (∀ (W : World) (g4 g5 g6 : Nat),Blk W g4 53 SX → Blk W g5 71 TX → Blk W g6 66 UX → Calls Tryz.prog 15 #[.slice (some ⟨g4,0,none⟩) 1 1,.slice (some ⟨g5,0,none⟩) 1 1,.slice (some ⟨g6,0,none⟩) 1 1,.agg #[.int .i64 0,.int .i64 96],.int .i64 40] W (EPRet (some xNow) W)):=Lib.hid (by rw [hSX,hTX,hUX]; exact fun W g4 g5 g6 a b c => pas_ex 40 xNow ex_p2 a b c)
 have HCH : Hid (∀ (W : World) (g4 g5 g6 : Nat),Blk W g4 53 SX → Blk W g5 71 TX → Blk W g6 66 UX → Calls Tryz.prog 31 #[.slice (some ⟨g4,0,none⟩) 1 1,.slice (some ⟨g5,0,none⟩) 1 1,.slice (some ⟨g6,0,none⟩) 1 1,.agg #[.int .i64 0,.int .i64 96],.int .i64 39,.int .i64 40] W (ChRet (some ([xPass 70 73],[xPass 50 53])) W)):=Lib.hid (by rw [hSX,hTX,hUX]; exact fun W g4 g5 g6 a b c => chg_ex a b c)
 have HAF : Hid (∀ (W : World) (g4 g5 g6 ga gb gc c : Nat) (OA : Option Addr),Blk W g4 53 SX → Blk W g5 71 TX → Blk W g6 66 UX → Blk W ga 103 #[.int .i64 0,.int .i64 24,.int .i64 26] → Blk W gb 103 #[.int .i64 1,.int .i64 70,.int .i64 72] → Blk W gc 49 #[.int .i64 0,.int .i64 0,.int .i64 0,.int .i64 1,.int .i64 10,.int .i64 12,.int .i64 0,.int .i64 0,.slice (some ⟨ga,0,none⟩) 1 1,.int .i64 0,.int .i64 0,.int .i64 0,.int .i64 1,.int .i64 10,.int .i64 12,.int .i64 0,.int .i64 0,.slice (some ⟨gb,0,none⟩) 1 1] → RA pasCells 6 W W.heap.size OA 2 c xOld → Calls Tryz.prog 14 #[.slice (some ⟨g4,0,none⟩) 1 1,.slice (some ⟨g5,0,none⟩) 1 1,.slice (some ⟨g6,0,none⟩) 1 1,.slice (some ⟨gc,0,none⟩) 2 2,.slice OA 2 c,.agg #[.int .i64 0,.int .i64 96],.int .i64 39,.int .i64 40] W (AffRet (some [1]) W)):=Lib.hid (by rw [hSX,hTX,hUX]; exact fun W g4 g5 g6 ga gb gc c OA a b d e f h i => aff_ex a b d e f h i)
 have HV1 : Hid (∀ (W : World) (g4 g6 : Nat),Blk W g4 53 SX → Blk W g6 66 UX → Calls Tryz.prog 24 #[.slice (some ⟨g4,0,none⟩) 1 1,.slice (some ⟨g6,0,none⟩) 1 1] W fun e w' => e = .returned (.bool true) ∧ Ext W w'):=Lib.hid (by rw [hSX,hUX]; exact fun W g4 g6 a b => val_ex a b)
 have HV2 : Hid (∀ (W : World) (g6 : Nat),Blk W g6 66 UX → Calls Tryz.prog 24 #[.slice none 0 0,.slice (some ⟨g6,0,none⟩) 1 1] W fun e w' => e = .returned (.bool false) ∧ Ext W w'):=Lib.hid (by rw [hUX]; exact fun W g6 b => val0_ex b)
 have HEQ1 : Hid (∀ w : World,(binOp .eql 51 (.agg #[.int .i64 96,.int .i64 0,.int .i64 4000,.int .i64 20000,.int .i64 0,.int .i64 0,.int .i64 0]) (.agg #[.int .i64 96,.int .i64 0,.int .i64 4000,.int .i64 20000,.int .i64 0,.int .i64 0,.int .i64 0])).run Tryz.prog w = .ok (.bool true) w):=Lib.hid (fun w => eq_orb xSat.orbit xSat.orbit w)
 have HEQ2 : Hid (∀ w : World,(binOp .eql 51 (.agg #[.int .i64 96,.int .i64 20,.int .i64 4000,.int .i64 20000,.int .i64 0,.int .i64 0,.int .i64 0]) (.agg #[.int .i64 96,.int .i64 20,.int .i64 4000,.int .i64 20000,.int .i64 0,.int .i64 0,.int .i64 0])).run Tryz.prog w = .ok (.bool true) w):=Lib.hid (fun w => eq_orb xUpd.orb xUpd.orb w)
 have HPS : Hid (∀ (a b : Int) (w : World),Calls Tryz.prog 38 #[.int .i64 a,.int .i64 b] w fun e w' => e = .returned (.agg #[.int .i64 1,.int .i64 2,.int .i64 a,.int .i64 b,.int .i64 a,.int .i64 b]) ∧ Ext w w'):=Lib.hid (fun a b w => pass36_any a b w)
 have HSX:=Lib.hid hSX
 have HTX:=Lib.hid hTX
 have HUX:=Lib.hid hUX
 clear hSX hTX hUX
 go_enter Tryz.func10,Tryz.ntmps10
 go_wp2_with fail
 refine (HEX.out _).mono ?_
 rintro e W1 ⟨rfl,hx⟩
 have hB:=hx
 clear hx
 have K0 : Blk (((W1.alloc (.cells #[.int .i64 0,.int .i64 0,.int .i64 0,.int .i64 0,.int .i64 0,.int .i64 0,.int .i64 0,.int .i64 0,.int .i64 0,.int .i64 0,.int .i64 0,.int .i64 0,.int .i64 0,.int .i64 0,.int .i64 0,.int .i64 0,.int .i64 0,.int .i64 0,.int .i64 0,.int .i64 0,.int .i64 0] 53)).alloc (.cells #[.int .i64 0,.int .i64 0,.int .i64 0,.int .i64 0,.int .i64 0,.int .i64 0] 71)).alloc (.cells #[.int .i64 0,.int .i64 0,.int .i64 0,.int .i64 0,.int .i64 0,.int .i64 0,.int .i64 0,.int .i64 0,.int .i64 0,.int .i64 0] 66)) W1.heap.size 53 #[.int .i64 0,.int .i64 0,.int .i64 0,.int .i64 0,.int .i64 0,.int .i64 0,.int .i64 0,.int .i64 0,.int .i64 0,.int .i64 0,.int .i64 0,.int .i64 0,.int .i64 0,.int .i64 0,.int .i64 0,.int .i64 0,.int .i64 0,.int .i64 0,.int .i64 0,.int .i64 0,.int .i64 0]:=((Blk.new _ _ _).alloc _).alloc _
 have K1 : Blk ((((W1.alloc (.cells #[.int .i64 0,.int .i64 0,.int .i64 0,.int .i64 0,.int .i64 0,.int .i64 0,.int .i64 0,.int .i64 0,.int .i64 0,.int .i64 0,.int .i64 0,.int .i64 0,.int .i64 0,.int .i64 0,.int .i64 0,.int .i64 0,.int .i64 0,.int .i64 0,.int .i64 0,.int .i64 0,.int .i64 0] 53)).alloc (.cells #[.int .i64 0,.int .i64 0,.int .i64 0,.int .i64 0,.int .i64 0,.int .i64 0] 71)).alloc (.cells #[.int .i64 0,.int .i64 0,.int .i64 0,.int .i64 0,.int .i64 0,.int .i64 0,.int .i64 0,.int .i64 0,.int .i64 0,.int .i64 0] 66)).setRow W1.heap.size SX) (W1.heap.size + 1) 71 #[.int .i64 0,.int .i64 0,.int .i64 0,.int .i64 0,.int .i64 0,.int .i64 0]:=((Blk.new_at _ _ _ (by simp)).alloc _).rowFar (by omega) _
 have K2 : Blk (((((W1.alloc (.cells #[.int .i64 0,.int .i64 0,.int .i64 0,.int .i64 0,.int .i64 0,.int .i64 0,.int .i64 0,.int .i64 0,.int .i64 0,.int .i64 0,.int .i64 0,.int .i64 0,.int .i64 0,.int .i64 0,.int .i64 0,.int .i64 0,.int .i64 0,.int .i64 0,.int .i64 0,.int .i64 0,.int .i64 0] 53)).alloc (.cells #[.int .i64 0,.int .i64 0,.int .i64 0,.int .i64 0,.int .i64 0,.int .i64 0] 71)).alloc (.cells #[.int .i64 0,.int .i64 0,.int .i64 0,.int .i64 0,.int .i64 0,.int .i64 0,.int .i64 0,.int .i64 0,.int .i64 0,.int .i64 0] 66)).setRow W1.heap.size SX).setRow (W1.heap.size + 1) TX) (W1.heap.size + 1 + 1) 66 #[.int .i64 0,.int .i64 0,.int .i64 0,.int .i64 0,.int .i64 0,.int .i64 0,.int .i64 0,.int .i64 0,.int .i64 0,.int .i64 0]:=((Blk.new_at _ _ _ (by simp)).rowFar (by omega) _).rowFar (by omega) _
 go_upto_region 2 with (first | (refine wpList_store_row rfl 53 _ _ rfl W1.heap.size SX rfl rfl 53 _ K0 (by rw [HS2.out]; exact sat_size) (by rw [HS2.out]; rfl) HS1.out ?_) | (refine wpList_store_row rfl 71 _ _ rfl (W1.heap.size + 1) TX rfl rfl 71 _ K1 (by rw [HT2.out]; exact stn_size) (by rw [HT2.out]; rfl) HT1.out ?_) | (refine wpList_store_row rfl 66 _ _ rfl (W1.heap.size + 1 + 1) UX rfl rfl 66 _ K2 (by rw [HU2.out]; exact upd_size_) (by rw [HU2.out]; rfl) HU1.out ?_))
 clear K0 K1 K2
 obtain ⟨hx,J1,J2,J3⟩:=three_vars W1 SX TX UX
 obtain ⟨g1,hg1⟩ : ∃ g,g = W1.heap.size:=⟨_,rfl⟩
 obtain ⟨g2,hg2⟩ : ∃ g,g = W1.heap.size + 1:=⟨_,rfl⟩
 obtain ⟨g3,hg3⟩ : ∃ g,g = W1.heap.size + 1 + 1:=⟨_,rfl⟩
 rw [← hg3] at hx J1 J2 J3 ⊢
 rw [← hg2] at hx J1 J2 J3 ⊢
 rw [← hg1] at hx J1 J2 J3 ⊢
 generalize (((((W1.alloc (.cells #[.int .i64 0,.int .i64 0,.int .i64 0,.int .i64 0,.int .i64 0,.int .i64 0,.int .i64 0,.int .i64 0,.int .i64 0,.int .i64 0,.int .i64 0,.int .i64 0,.int .i64 0,.int .i64 0,.int .i64 0,.int .i64 0,.int .i64 0,.int .i64 0,.int .i64 0,.int .i64 0,.int .i64 0] 53)).alloc (.cells #[.int .i64 0,.int .i64 0,.int .i64 0,.int .i64 0,.int .i64 0,.int .i64 0] 71)).alloc (.cells #[.int .i64 0,.int .i64 0,.int .i64 0,.int .i64 0,.int .i64 0,.int .i64 0,.int .i64 0,.int .i64 0,.int .i64 0,.int .i64 0] 66)).setRow g1 SX).setRow g2 TX).setRow g3 UX = W2 at hx J1 J2 J3 ⊢
 clear hg1 hg2 hg3
 have hB:=bl_then hB hx
 clear hx
 go_upto_region 3 with (first | (refine wpList_load_st rfl 53 _ rfl g1 0 rfl SX SX.toList (by simp) _ (Blk.range J1 _ rfl) Tryz.underlying53 rfl (by rw [Array.length_toList,HS2.out]; exact sat_size) ?_) | (refine wpList_buildOne rfl _ _ _ rfl SX rfl Tryz.underlying28 21 info_sat2 HS2.out (by omega) (by omega) ?_))
 have hx : Ext W2 (W2.alloc (.cells SX 53)):=bl_alloc (Below.refl _ _) _
 have J4 : Blk (W2.alloc (.cells SX 53)) W2.heap.size 53 SX:=Blk.new _ _ _
 obtain ⟨g4,hg⟩ : ∃ g,g = W2.heap.size:=⟨_,rfl⟩
 rw [← hg] at J4 ⊢
 clear hg
 generalize W2.alloc (.cells SX 53) = W3 at J4 hx ⊢
 have hB:=bl_then hB hx
 have J1:=J1.ext hx
 have J2:=J2.ext hx
 have J3:=J3.ext hx
 clear hx
 go_upto_region 4 with (first | (refine wpList_load_st rfl 71 _ rfl g2 0 rfl TX TX.toList (by simp) _ (Blk.range J2 _ rfl) Tryz.underlying71 rfl (by rw [Array.length_toList,HT2.out]; exact stn_size) ?_) | (refine wpList_buildOne rfl _ _ _ rfl TX rfl Tryz.underlying29 6 info_stn2 HT2.out (by omega) (by omega) ?_))
 have hx : Ext W3 (W3.alloc (.cells TX 71)):=bl_alloc (Below.refl _ _) _
 have J5 : Blk (W3.alloc (.cells TX 71)) W3.heap.size 71 TX:=Blk.new _ _ _
 obtain ⟨g5,hg⟩ : ∃ g,g = W3.heap.size:=⟨_,rfl⟩
 rw [← hg] at J5 ⊢
 clear hg
 generalize W3.alloc (.cells TX 71) = W4 at J5 hx ⊢
 have hB:=bl_then hB hx
 have J1:=J1.ext hx
 have J2:=J2.ext hx
 have J3:=J3.ext hx
 have J4:=J4.ext hx
 clear hx
 go_upto_region 5 with (first | (refine wpList_load_st rfl 66 _ rfl g3 0 rfl UX UX.toList (by simp) _ (Blk.range J3 _ rfl) Tryz.underlying66 rfl (by rw [Array.length_toList,HU2.out]; exact upd_size_) ?_) | (refine wpList_buildOne rfl _ _ _ rfl UX rfl Tryz.underlying30 10 info_upd2 HU2.out (by omega) (by omega) ?_))
 have hx : Ext W4 (W4.alloc (.cells UX 66)):=bl_alloc (Below.refl _ _) _
 have J6 : Blk (W4.alloc (.cells UX 66)) W4.heap.size 66 UX:=Blk.new _ _ _
 obtain ⟨g6,hg⟩ : ∃ g,g = W4.heap.size:=⟨_,rfl⟩
 rw [← hg] at J6 ⊢
 clear hg
 generalize W4.alloc (.cells UX 66) = W5 at J6 hx ⊢
 have hB:=bl_then hB hx
 have J1:=J1.ext hx
 have J2:=J2.ext hx
 have J3:=J3.ext hx
 have J4:=J4.ext hx
 have J5:=J5.ext hx
 clear hx
 go_upto_region 6 with (fail)
 have hx : Ext W5 (W5.alloc (.cells #[.int .i64 0,.int .i64 96] 32)):=bl_alloc (Below.refl _ _) _
 have J7 : Blk (W5.alloc (.cells #[.int .i64 0,.int .i64 96] 32)) W5.heap.size 32 #[.int .i64 0,.int .i64 96]:=Blk.new _ _ _
 obtain ⟨g7,hg⟩ : ∃ g,g = W5.heap.size:=⟨_,rfl⟩
 rw [← hg] at J7 ⊢
 clear hg
 generalize W5.alloc (.cells #[.int .i64 0,.int .i64 96] 32) = W6 at J7 hx ⊢
 have hB:=bl_then hB hx
 have J1:=J1.ext hx
 have J2:=J2.ext hx
 have J3:=J3.ext hx
 have J4:=J4.ext hx
 have J5:=J5.ext hx
 have J6:=J6.ext hx
 clear hx
 go_wp2_with (refine wpList_load_st rfl 53 _ rfl g1 0 rfl SX SX.toList (by simp) _ (Blk.range J1 _ rfl) Tryz.underlying53 rfl (by rw [Array.length_toList,HS2.out]; exact sat_size) ?_)
 refine (HO1.out _ _ J6).mono ?_
 rintro e W7 ⟨rfl,hx⟩
 have hB:=bl_then hB hx
 have J1:=J1.ext hx
 have J2:=J2.ext hx
 have J3:=J3.ext hx
 have J4:=J4.ext hx
 have J5:=J5.ext hx
 have J6:=J6.ext hx
 have J7:=J7.ext hx
 clear hx
 go_upto_region 7 with (refine wpList_store_new rfl 51 _ _ rfl _ #[.int .i64 96,.int .i64 0,.int .i64 4000,.int .i64 20000,.int .i64 0,.int .i64 0,.int .i64 0] rfl rfl orb_size rfl (by simp [Value.oneCell']) ?_)
 have hx : Ext W7 (W7.alloc (.cells #[.int .i64 96,.int .i64 0,.int .i64 4000,.int .i64 20000,.int .i64 0,.int .i64 0,.int .i64 0] 51)):=bl_alloc (Below.refl _ _) _
 have J8 : Blk (W7.alloc (.cells #[.int .i64 96,.int .i64 0,.int .i64 4000,.int .i64 20000,.int .i64 0,.int .i64 0,.int .i64 0] 51)) W7.heap.size 51 #[.int .i64 96,.int .i64 0,.int .i64 4000,.int .i64 20000,.int .i64 0,.int .i64 0,.int .i64 0]:=Blk.new _ _ _
 obtain ⟨g8,hg⟩ : ∃ g,g = W7.heap.size:=⟨_,rfl⟩
 rw [← hg] at J8 ⊢
 clear hg
 generalize W7.alloc (.cells #[.int .i64 96,.int .i64 0,.int .i64 4000,.int .i64 20000,.int .i64 0,.int .i64 0,.int .i64 0] 51) = W8 at J8 hx ⊢
 have hB:=bl_then hB hx
 have J1:=J1.ext hx
 have J2:=J2.ext hx
 have J3:=J3.ext hx
 have J4:=J4.ext hx
 have J5:=J5.ext hx
 have J6:=J6.ext hx
 have J7:=J7.ext hx
 clear hx
 go_wp2_with (refine wpList_load_st rfl 53 _ rfl g1 0 rfl SX SX.toList (by simp) _ (Blk.range J1 _ rfl) Tryz.underlying53 rfl (by rw [Array.length_toList,HS2.out]; exact sat_size) ?_)
 refine (HO2.out _ _ J6).mono ?_
 rintro e W9 ⟨rfl,hx⟩
 have hB:=bl_then hB hx
 have J1:=J1.ext hx
 have J2:=J2.ext hx
 have J3:=J3.ext hx
 have J4:=J4.ext hx
 have J5:=J5.ext hx
 have J6:=J6.ext hx
 have J7:=J7.ext hx
 have J8:=J8.ext hx
 clear hx
 go_upto_region 8 with (refine wpList_store_new rfl 51 _ _ rfl _ #[.int .i64 96,.int .i64 0,.int .i64 4000,.int .i64 20000,.int .i64 0,.int .i64 0,.int .i64 0] rfl rfl orb_size rfl (by simp [Value.oneCell']) ?_)
 have hx : Ext W9 (W9.alloc (.cells #[.int .i64 96,.int .i64 0,.int .i64 4000,.int .i64 20000,.int .i64 0,.int .i64 0,.int .i64 0] 51)):=bl_alloc (Below.refl _ _) _
 have J10 : Blk (W9.alloc (.cells #[.int .i64 96,.int .i64 0,.int .i64 4000,.int .i64 20000,.int .i64 0,.int .i64 0,.int .i64 0] 51)) W9.heap.size 51 #[.int .i64 96,.int .i64 0,.int .i64 4000,.int .i64 20000,.int .i64 0,.int .i64 0,.int .i64 0]:=Blk.new _ _ _
 obtain ⟨g10,hg⟩ : ∃ g,g = W9.heap.size:=⟨_,rfl⟩
 rw [← hg] at J10 ⊢
 clear hg
 generalize W9.alloc (.cells #[.int .i64 96,.int .i64 0,.int .i64 4000,.int .i64 20000,.int .i64 0,.int .i64 0,.int .i64 0] 51) = W10 at J10 hx ⊢
 have hB:=bl_then hB hx
 have J1:=J1.ext hx
 have J2:=J2.ext hx
 have J3:=J3.ext hx
 have J4:=J4.ext hx
 have J5:=J5.ext hx
 have J6:=J6.ext hx
 have J7:=J7.ext hx
 have J8:=J8.ext hx
 clear hx
 go_wp2_with (refine wpList_load_st rfl 53 _ rfl g1 0 rfl SX SX.toList (by simp) _ (Blk.range J1 _ rfl) Tryz.underlying53 rfl (by rw [Array.length_toList,HS2.out]; exact sat_size) ?_)
 refine (HO3.out _ _ J6).mono ?_
 rintro e W11 ⟨rfl,hx⟩
 have hB:=bl_then hB hx
 have J1:=J1.ext hx
 have J2:=J2.ext hx
 have J3:=J3.ext hx
 have J4:=J4.ext hx
 have J5:=J5.ext hx
 have J6:=J6.ext hx
 have J7:=J7.ext hx
 have J8:=J8.ext hx
 have J10:=J10.ext hx
 clear hx
 go_upto_region 9 with (refine wpList_store_new rfl 51 _ _ rfl _ #[.int .i64 96,.int .i64 20,.int .i64 4000,.int .i64 20000,.int .i64 0,.int .i64 0,.int .i64 0] rfl rfl orb_size rfl (by simp [Value.oneCell']) ?_)
 have hx : Ext W11 (W11.alloc (.cells #[.int .i64 96,.int .i64 20,.int .i64 4000,.int .i64 20000,.int .i64 0,.int .i64 0,.int .i64 0] 51)):=bl_alloc (Below.refl _ _) _
 have J12 : Blk (W11.alloc (.cells #[.int .i64 96,.int .i64 20,.int .i64 4000,.int .i64 20000,.int .i64 0,.int .i64 0,.int .i64 0] 51)) W11.heap.size 51 #[.int .i64 96,.int .i64 20,.int .i64 4000,.int .i64 20000,.int .i64 0,.int .i64 0,.int .i64 0]:=Blk.new _ _ _
 obtain ⟨g12,hg⟩ : ∃ g,g = W11.heap.size:=⟨_,rfl⟩
 rw [← hg] at J12 ⊢
 clear hg
 generalize W11.alloc (.cells #[.int .i64 96,.int .i64 20,.int .i64 4000,.int .i64 20000,.int .i64 0,.int .i64 0,.int .i64 0] 51) = W12 at J12 hx ⊢
 have hB:=bl_then hB hx
 have J1:=J1.ext hx
 have J2:=J2.ext hx
 have J3:=J3.ext hx
 have J4:=J4.ext hx
 have J5:=J5.ext hx
 have J6:=J6.ext hx
 have J7:=J7.ext hx
 have J8:=J8.ext hx
 have J10:=J10.ext hx
 clear hx
 have p0 : W12.cell? ⟨g7,0,none⟩ = some (.int .i64 0):=J7.cell 0
 have p1 : W12.cell? ⟨g7,1,none⟩ = some (.int .i64 96):=J7.cell 1
 go_wp2_with (refine wpList_load_st rfl 53 _ rfl g1 0 rfl SX SX.toList (by simp) _ (Blk.range J1 _ rfl) Tryz.underlying53 rfl (by rw [Array.length_toList,HS2.out]; exact sat_size) ?_)
 refine (HSTR.out _ _ J6).mono ?_
 rintro e W13 ⟨⟨v14,rfl,hown⟩,hx⟩
 clear p0 p1
 have hB:=bl_then hB hx
 have J1:=J1.ext hx
 have J2:=J2.ext hx
 have J3:=J3.ext hx
 have J4:=J4.ext hx
 have J5:=J5.ext hx
 have J6:=J6.ext hx
 have J7:=J7.ext hx
 have J8:=J8.ext hx
 have J10:=J10.ext hx
 have J12:=J12.ext hx
 clear hx
 obtain ⟨A14,c14,hv,_,_⟩:=own_slice hown
 subst hv
 have R14:=RA.of_own hown rfl (by decide)
 clear hown
 have p0 : W13.cell? ⟨g7,0,none⟩ = some (.int .i64 0):=J7.cell 0
 have p1 : W13.cell? ⟨g7,1,none⟩ = some (.int .i64 96):=J7.cell 1
 go_wp2_with fail
 refine (HP1.out _ _ _ _ J4 J5 J6).mono ?_
 rintro e W14 ⟨⟨v16,rfl,hown⟩,hx⟩
 clear p0 p1
 have hB:=bl_then hB hx
 have J1:=J1.ext hx
 have J2:=J2.ext hx
 have J3:=J3.ext hx
 have J4:=J4.ext hx
 have J5:=J5.ext hx
 have J6:=J6.ext hx
 have J7:=J7.ext hx
 have J8:=J8.ext hx
 have J10:=J10.ext hx
 have J12:=J12.ext hx
 have R14:=ra_ext R14 hx
 clear hx
 obtain ⟨g16,c16,hv,_,_⟩:=World.ownsRow.form hown (by decide)
 subst hv
 have R16 : RA pasCells 6 W14 W14.heap.size (some ⟨g16,0,none⟩) 2 c16 xOld:=RA.of_own hown rfl (by decide)
 have hc16:=R16.cap
 clear hown
 have p0 : W14.cell? ⟨g7,0,none⟩ = some (.int .i64 0):=J7.cell 0
 have p1 : W14.cell? ⟨g7,1,none⟩ = some (.int .i64 96):=J7.cell 1
 go_wp2_with fail
 refine (HP2.out _ _ _ _ J4 J5 J6).mono ?_
 rintro e W15 ⟨⟨v18,rfl,hown⟩,hx⟩
 clear p0 p1
 have hB:=bl_then hB hx
 have J1:=J1.ext hx
 have J2:=J2.ext hx
 have J3:=J3.ext hx
 have J4:=J4.ext hx
 have J5:=J5.ext hx
 have J6:=J6.ext hx
 have J7:=J7.ext hx
 have J8:=J8.ext hx
 have J10:=J10.ext hx
 have J12:=J12.ext hx
 have R14:=ra_ext R14 hx
 have R16:=ra_ext R16 hx
 clear hx
 obtain ⟨g18,c18,hv,_,_⟩:=World.ownsRow.form hown (by decide)
 subst hv
 have R18 : RA pasCells 6 W15 W15.heap.size (some ⟨g18,0,none⟩) 2 c18 xNow:=RA.of_own hown rfl (by decide)
 have hc18:=R18.cap
 clear hown
 have p0 : W15.cell? ⟨g7,0,none⟩ = some (.int .i64 0):=J7.cell 0
 have p1 : W15.cell? ⟨g7,1,none⟩ = some (.int .i64 96):=J7.cell 1
 go_wp2_with fail
 refine (HCH.out _ _ _ _ J4 J5 J6).mono ?_
 rintro e W16 ⟨⟨A20,c20,A21,c21,rfl,R20,R21⟩,hx⟩
 clear p0 p1
 have hB:=bl_then hB hx
 have J1:=J1.ext hx
 have J2:=J2.ext hx
 have J3:=J3.ext hx
 have J4:=J4.ext hx
 have J5:=J5.ext hx
 have J6:=J6.ext hx
 have J7:=J7.ext hx
 have J8:=J8.ext hx
 have J10:=J10.ext hx
 have J12:=J12.ext hx
 have R14:=ra_ext R14 hx
 have R16:=ra_ext R16 hx
 have R18:=ra_ext R18 hx
 clear hx
 go_wp2_with (refine wpList_load_st rfl 53 _ rfl g1 0 rfl SX SX.toList (by simp) _ (Blk.range J1 _ rfl) Tryz.underlying53 rfl (by rw [Array.length_toList,HS2.out]; exact sat_size) ?_)
 refine (HO4.out _ _ J6).mono ?_
 rintro e W17 ⟨rfl,hx⟩
 have hB:=bl_then hB hx
 have J1:=J1.ext hx
 have J2:=J2.ext hx
 have J3:=J3.ext hx
 have J4:=J4.ext hx
 have J5:=J5.ext hx
 have J6:=J6.ext hx
 have J7:=J7.ext hx
 have J8:=J8.ext hx
 have J10:=J10.ext hx
 have J12:=J12.ext hx
 have R14:=ra_ext R14 hx
 have R16:=ra_ext R16 hx
 have R18:=ra_ext R18 hx
 have R20:=ra_ext R20 hx
 have R21:=ra_ext R21 hx
 clear hx
 go_upto_region 14 with (refine wpList_store_new rfl 51 _ _ rfl _ #[.int .i64 0,.int .i64 0,.int .i64 0,.int .i64 0,.int .i64 0,.int .i64 0,.int .i64 0] rfl rfl orb_size rfl (by simp [Value.oneCell']) ?_)
 have hx : Ext W17 (W17.alloc (.cells #[.int .i64 0,.int .i64 0,.int .i64 0,.int .i64 0,.int .i64 0,.int .i64 0,.int .i64 0] 51)):=bl_alloc (Below.refl _ _) _
 have J23 : Blk (W17.alloc (.cells #[.int .i64 0,.int .i64 0,.int .i64 0,.int .i64 0,.int .i64 0,.int .i64 0,.int .i64 0] 51)) W17.heap.size 51 #[.int .i64 0,.int .i64 0,.int .i64 0,.int .i64 0,.int .i64 0,.int .i64 0,.int .i64 0]:=Blk.new _ _ _
 obtain ⟨g23,hg⟩ : ∃ g,g = W17.heap.size:=⟨_,rfl⟩
 rw [← hg] at J23 ⊢
 clear hg
 generalize W17.alloc (.cells #[.int .i64 0,.int .i64 0,.int .i64 0,.int .i64 0,.int .i64 0,.int .i64 0,.int .i64 0] 51) = W18 at J23 hx ⊢
 have hB:=bl_then hB hx
 have J1:=J1.ext hx
 have J2:=J2.ext hx
 have J3:=J3.ext hx
 have J4:=J4.ext hx
 have J5:=J5.ext hx
 have J6:=J6.ext hx
 have J7:=J7.ext hx
 have J8:=J8.ext hx
 have J10:=J10.ext hx
 have J12:=J12.ext hx
 have R14:=ra_ext R14 hx
 have R16:=ra_ext R16 hx
 have R18:=ra_ext R18 hx
 have R20:=ra_ext R20 hx
 have R21:=ra_ext R21 hx
 clear hx
 go_upto_region 17 with (fail)
 have hx : Ext W18 (((W18.alloc (.cells #[.int .i64 0,.int .i64 24,.int .i64 26] 103)).alloc (.cells #[.int .i64 1,.int .i64 70,.int .i64 72] 103)).alloc (.cells #[.int .i64 0,.int .i64 0,.int .i64 0,.int .i64 1,.int .i64 10,.int .i64 12,.int .i64 0,.int .i64 0,.slice (some ⟨W18.heap.size,0,none⟩) 1 1,.int .i64 0,.int .i64 0,.int .i64 0,.int .i64 1,.int .i64 10,.int .i64 12,.int .i64 0,.int .i64 0,.slice (some ⟨W18.heap.size + 1,0,none⟩) 1 1] 49)):=bl_alloc (bl_alloc (bl_alloc (Below.refl _ _) _) _) _
 have Ja : Blk (((W18.alloc (.cells #[.int .i64 0,.int .i64 24,.int .i64 26] 103)).alloc (.cells #[.int .i64 1,.int .i64 70,.int .i64 72] 103)).alloc (.cells #[.int .i64 0,.int .i64 0,.int .i64 0,.int .i64 1,.int .i64 10,.int .i64 12,.int .i64 0,.int .i64 0,.slice (some ⟨W18.heap.size,0,none⟩) 1 1,.int .i64 0,.int .i64 0,.int .i64 0,.int .i64 1,.int .i64 10,.int .i64 12,.int .i64 0,.int .i64 0,.slice (some ⟨W18.heap.size + 1,0,none⟩) 1 1] 49)) W18.heap.size 103 #[.int .i64 0,.int .i64 24,.int .i64 26]:=((Blk.new _ _ _).alloc _).alloc _
 have Jb : Blk (((W18.alloc (.cells #[.int .i64 0,.int .i64 24,.int .i64 26] 103)).alloc (.cells #[.int .i64 1,.int .i64 70,.int .i64 72] 103)).alloc (.cells #[.int .i64 0,.int .i64 0,.int .i64 0,.int .i64 1,.int .i64 10,.int .i64 12,.int .i64 0,.int .i64 0,.slice (some ⟨W18.heap.size,0,none⟩) 1 1,.int .i64 0,.int .i64 0,.int .i64 0,.int .i64 1,.int .i64 10,.int .i64 12,.int .i64 0,.int .i64 0,.slice (some ⟨W18.heap.size + 1,0,none⟩) 1 1] 49)) (W18.heap.size + 1) 103 #[.int .i64 1,.int .i64 70,.int .i64 72]:=(Blk.new_at _ _ _ (by simp)).alloc _
 have Jc : Blk (((W18.alloc (.cells #[.int .i64 0,.int .i64 24,.int .i64 26] 103)).alloc (.cells #[.int .i64 1,.int .i64 70,.int .i64 72] 103)).alloc (.cells #[.int .i64 0,.int .i64 0,.int .i64 0,.int .i64 1,.int .i64 10,.int .i64 12,.int .i64 0,.int .i64 0,.slice (some ⟨W18.heap.size,0,none⟩) 1 1,.int .i64 0,.int .i64 0,.int .i64 0,.int .i64 1,.int .i64 10,.int .i64 12,.int .i64 0,.int .i64 0,.slice (some ⟨W18.heap.size + 1,0,none⟩) 1 1] 49)) (W18.heap.size + 1 + 1) 49 #[.int .i64 0,.int .i64 0,.int .i64 0,.int .i64 1,.int .i64 10,.int .i64 12,.int .i64 0,.int .i64 0,.slice (some ⟨W18.heap.size,0,none⟩) 1 1,.int .i64 0,.int .i64 0,.int .i64 0,.int .i64 1,.int .i64 10,.int .i64 12,.int .i64 0,.int .i64 0,.slice (some ⟨W18.heap.size + 1,0,none⟩) 1 1]:=Blk.new_at _ _ _ (by simp)
 obtain ⟨ga,hga⟩ : ∃ g,g = W18.heap.size:=⟨_,rfl⟩
 obtain ⟨gb,hgb⟩ : ∃ g,g = W18.heap.size + 1:=⟨_,rfl⟩
 obtain ⟨gc,hgc⟩ : ∃ g,g = W18.heap.size + 1 + 1:=⟨_,rfl⟩
 rw [← hgc] at Jc ⊢
 rw [← hgb] at hx Ja Jb Jc ⊢
 rw [← hga] at hx Ja Jb Jc ⊢
 clear hga hgb hgc
 generalize ((W18.alloc (.cells #[.int .i64 0,.int .i64 24,.int .i64 26] 103)).alloc (.cells #[.int .i64 1,.int .i64 70,.int .i64 72] 103)).alloc (.cells #[.int .i64 0,.int .i64 0,.int .i64 0,.int .i64 1,.int .i64 10,.int .i64 12,.int .i64 0,.int .i64 0,.slice (some ⟨ga,0,none⟩) 1 1,.int .i64 0,.int .i64 0,.int .i64 0,.int .i64 1,.int .i64 10,.int .i64 12,.int .i64 0,.int .i64 0,.slice (some ⟨gb,0,none⟩) 1 1] 49) = W19 at hx Ja Jb Jc ⊢
 have hB:=bl_then hB hx
 have J1:=J1.ext hx
 have J2:=J2.ext hx
 have J3:=J3.ext hx
 have J4:=J4.ext hx
 have J5:=J5.ext hx
 have J6:=J6.ext hx
 have J7:=J7.ext hx
 have J8:=J8.ext hx
 have J10:=J10.ext hx
 have J12:=J12.ext hx
 have R14:=ra_ext R14 hx
 have R16:=ra_ext R16 hx
 have R18:=ra_ext R18 hx
 have R20:=ra_ext R20 hx
 have R21:=ra_ext R21 hx
 have J23:=J23.ext hx
 clear hx
 have p0 : W19.cell? ⟨g7,0,none⟩ = some (.int .i64 0):=J7.cell 0
 have p1 : W19.cell? ⟨g7,1,none⟩ = some (.int .i64 96):=J7.cell 1
 go_wp2_with fail
 refine (HAF.out _ _ _ _ _ _ _ _ _ J4 J5 J6 Ja Jb Jc R16).mono ?_
 rintro e W20 ⟨⟨v26,rfl,hown⟩,hx⟩
 clear p0 p1
 have hB:=bl_then hB hx
 have J1:=J1.ext hx
 have J2:=J2.ext hx
 have J3:=J3.ext hx
 have J4:=J4.ext hx
 have J5:=J5.ext hx
 have J6:=J6.ext hx
 have J7:=J7.ext hx
 have J8:=J8.ext hx
 have J10:=J10.ext hx
 have J12:=J12.ext hx
 have R14:=ra_ext R14 hx
 have R16:=ra_ext R16 hx
 have R18:=ra_ext R18 hx
 have R20:=ra_ext R20 hx
 have R21:=ra_ext R21 hx
 have J23:=J23.ext hx
 have Ja:=Ja.ext hx
 have Jb:=Jb.ext hx
 have Jc:=Jc.ext hx
 clear hx
 obtain ⟨A26,c26,hv,_,_⟩:=own_slice hown
 subst hv
 have R26:=RA.of_own (l:=([1] : List Int)) hown rfl (by decide)
 clear hown Ja Jb Jc J7 J23
 have a0 : W20.cell? ⟨g8,0,none⟩ = some (.int .i64 96):=J8.cell 0
 have a1 : W20.cell? ⟨g8,1,none⟩ = some (.int .i64 0):=J8.cell 1
 have a2 : W20.cell? ⟨g8,2,none⟩ = some (.int .i64 4000):=J8.cell 2
 have a3 : W20.cell? ⟨g8,3,none⟩ = some (.int .i64 20000):=J8.cell 3
 have a4 : W20.cell? ⟨g8,4,none⟩ = some (.int .i64 0):=J8.cell 4
 have a5 : W20.cell? ⟨g8,5,none⟩ = some (.int .i64 0):=J8.cell 5
 have a6 : W20.cell? ⟨g8,6,none⟩ = some (.int .i64 0):=J8.cell 6
 have b0 : W20.cell? ⟨g10,0,none⟩ = some (.int .i64 96):=J10.cell 0
 have b1 : W20.cell? ⟨g10,1,none⟩ = some (.int .i64 0):=J10.cell 1
 have b2 : W20.cell? ⟨g10,2,none⟩ = some (.int .i64 4000):=J10.cell 2
 have b3 : W20.cell? ⟨g10,3,none⟩ = some (.int .i64 20000):=J10.cell 3
 have b4 : W20.cell? ⟨g10,4,none⟩ = some (.int .i64 0):=J10.cell 4
 have b5 : W20.cell? ⟨g10,5,none⟩ = some (.int .i64 0):=J10.cell 5
 have b6 : W20.cell? ⟨g10,6,none⟩ = some (.int .i64 0):=J10.cell 6
 have c0 : W20.cell? ⟨g12,0,none⟩ = some (.int .i64 96):=J12.cell 0
 have c1 : W20.cell? ⟨g12,1,none⟩ = some (.int .i64 20):=J12.cell 1
 have c2 : W20.cell? ⟨g12,2,none⟩ = some (.int .i64 4000):=J12.cell 2
 have c3 : W20.cell? ⟨g12,3,none⟩ = some (.int .i64 20000):=J12.cell 3
 have c4 : W20.cell? ⟨g12,4,none⟩ = some (.int .i64 0):=J12.cell 4
 have c5 : W20.cell? ⟨g12,5,none⟩ = some (.int .i64 0):=J12.cell 5
 have c6 : W20.cell? ⟨g12,6,none⟩ = some (.int .i64 0):=J12.cell 6
 have d0 : W20.cell? ⟨g1,2,none⟩ = some (.int .i64 96):=(J1.cell 2).trans (by rw [HSX.out]; rfl)
 have d1 : W20.cell? ⟨g1,3,none⟩ = some (.int .i64 0):=(J1.cell 3).trans (by rw [HSX.out]; rfl)
 have d2 : W20.cell? ⟨g1,4,none⟩ = some (.int .i64 4000):=(J1.cell 4).trans (by rw [HSX.out]; rfl)
 have d3 : W20.cell? ⟨g1,5,none⟩ = some (.int .i64 20000):=(J1.cell 5).trans (by rw [HSX.out]; rfl)
 have d4 : W20.cell? ⟨g1,6,none⟩ = some (.int .i64 0):=(J1.cell 6).trans (by rw [HSX.out]; rfl)
 have d5 : W20.cell? ⟨g1,7,none⟩ = some (.int .i64 0):=(J1.cell 7).trans (by rw [HSX.out]; rfl)
 have d6 : W20.cell? ⟨g1,8,none⟩ = some (.int .i64 0):=(J1.cell 8).trans (by rw [HSX.out]; rfl)
 have f0 : W20.cell? ⟨g3,3,none⟩ = some (.int .i64 96):=(J3.cell 3).trans (by rw [HUX.out]; rfl)
 have f1 : W20.cell? ⟨g3,4,none⟩ = some (.int .i64 20):=(J3.cell 4).trans (by rw [HUX.out]; rfl)
 have f2 : W20.cell? ⟨g3,5,none⟩ = some (.int .i64 4000):=(J3.cell 5).trans (by rw [HUX.out]; rfl)
 have f3 : W20.cell? ⟨g3,6,none⟩ = some (.int .i64 20000):=(J3.cell 6).trans (by rw [HUX.out]; rfl)
 have f4 : W20.cell? ⟨g3,7,none⟩ = some (.int .i64 0):=(J3.cell 7).trans (by rw [HUX.out]; rfl)
 have f5 : W20.cell? ⟨g3,8,none⟩ = some (.int .i64 0):=(J3.cell 8).trans (by rw [HUX.out]; rfl)
 have f6 : W20.cell? ⟨g3,9,none⟩ = some (.int .i64 0):=(J3.cell 9).trans (by rw [HUX.out]; rfl)
 have heq1:=HEQ1.out
 have heq2:=HEQ2.out
 go_wp2_with fail
 clear heq1 heq2 a0 a1 a2 a3 a4 a5 a6 b0 b1 b2 b3 b4 b5 b6 c0 c1 c2 c3 c4 c5 c6 d0 d1 d2 d3 d4 d5 d6 f0 f1 f2 f3 f4 f5 f6
 have hx : Ext W20 (W20.alloc (.cells #[.int .i64 0,.int .i64 50,.int .i64 96,.int .i64 0,.int .i64 4000,.int .i64 20000,.int .i64 0,.int .i64 0,.int .i64 0,.int .i64 50,.int .i64 96,.int .i64 96,.int .i64 20,.int .i64 4000,.int .i64 20000,.int .i64 0,.int .i64 0,.int .i64 0] 96)):=bl_alloc (Below.refl _ _) _
 have JN : Blk (W20.alloc (.cells #[.int .i64 0,.int .i64 50,.int .i64 96,.int .i64 0,.int .i64 4000,.int .i64 20000,.int .i64 0,.int .i64 0,.int .i64 0,.int .i64 50,.int .i64 96,.int .i64 96,.int .i64 20,.int .i64 4000,.int .i64 20000,.int .i64 0,.int .i64 0,.int .i64 0] 96)) W20.heap.size 96 #[.int .i64 0,.int .i64 50,.int .i64 96,.int .i64 0,.int .i64 4000,.int .i64 20000,.int .i64 0,.int .i64 0,.int .i64 0,.int .i64 50,.int .i64 96,.int .i64 96,.int .i64 20,.int .i64 4000,.int .i64 20000,.int .i64 0,.int .i64 0,.int .i64 0]:=Blk.new _ _ _
 obtain ⟨JNg,hg⟩ : ∃ g,g = W20.heap.size:=⟨_,rfl⟩
 rw [← hg] at JN ⊢
 clear hg
 generalize W20.alloc (.cells #[.int .i64 0,.int .i64 50,.int .i64 96,.int .i64 0,.int .i64 4000,.int .i64 20000,.int .i64 0,.int .i64 0,.int .i64 0,.int .i64 50,.int .i64 96,.int .i64 96,.int .i64 20,.int .i64 4000,.int .i64 20000,.int .i64 0,.int .i64 0,.int .i64 0] 96) = W21 at JN hx ⊢
 have hB:=bl_then hB hx
 have J1:=J1.ext hx
 have J2:=J2.ext hx
 have J3:=J3.ext hx
 have J4:=J4.ext hx
 have J5:=J5.ext hx
 have J6:=J6.ext hx
 have J8:=J8.ext hx
 have J10:=J10.ext hx
 have J12:=J12.ext hx
 have R14:=ra_ext R14 hx
 have R16:=ra_ext R16 hx
 have R18:=ra_ext R18 hx
 have R20:=ra_ext R20 hx
 have R21:=ra_ext R21 hx
 have R26:=ra_ext R26 hx
 clear hx
 have hsm:=sameStr_any A14 (some ⟨JNg,0,none⟩) 2 2 c14 2 xStr xStr _ R14 (RA.two (cells:=strCells) (x:=⟨⟨0,50⟩,xSat.orbit⟩) (y:=⟨⟨50,96⟩,xUpd.orb⟩) rfl rfl JN)
 rw [decide_eq_true (by first | rfl | decide)] at hsm
 refine hsm.mono ?_
 rintro e W22 ⟨rfl,hx⟩
 have hB:=bl_then hB hx
 have J1:=J1.ext hx
 have J2:=J2.ext hx
 have J3:=J3.ext hx
 have J4:=J4.ext hx
 have J5:=J5.ext hx
 have J6:=J6.ext hx
 have J8:=J8.ext hx
 have J10:=J10.ext hx
 have J12:=J12.ext hx
 have R14:=ra_ext R14 hx
 have R16:=ra_ext R16 hx
 have R18:=ra_ext R18 hx
 have R20:=ra_ext R20 hx
 have R21:=ra_ext R21 hx
 have R26:=ra_ext R26 hx
 clear hx
 clear hsm
 clear JN
 go_wp2_with fail
 refine (HPS.out 24 27 _).mono ?_
 rintro e W23 ⟨rfl,hx⟩
 have hB:=bl_then hB hx
 have J1:=J1.ext hx
 have J2:=J2.ext hx
 have J3:=J3.ext hx
 have J4:=J4.ext hx
 have J5:=J5.ext hx
 have J6:=J6.ext hx
 have J8:=J8.ext hx
 have J10:=J10.ext hx
 have J12:=J12.ext hx
 have R14:=ra_ext R14 hx
 have R16:=ra_ext R16 hx
 have R18:=ra_ext R18 hx
 have R20:=ra_ext R20 hx
 have R21:=ra_ext R21 hx
 have R26:=ra_ext R26 hx
 clear hx
 go_wp2_with fail
 refine (HPS.out 70 73 _).mono ?_
 rintro e W24 ⟨rfl,hx⟩
 have hB:=bl_then hB hx
 have J1:=J1.ext hx
 have J2:=J2.ext hx
 have J3:=J3.ext hx
 have J4:=J4.ext hx
 have J5:=J5.ext hx
 have J6:=J6.ext hx
 have J8:=J8.ext hx
 have J10:=J10.ext hx
 have J12:=J12.ext hx
 have R14:=ra_ext R14 hx
 have R16:=ra_ext R16 hx
 have R18:=ra_ext R18 hx
 have R20:=ra_ext R20 hx
 have R21:=ra_ext R21 hx
 have R26:=ra_ext R26 hx
 clear hx
 go_wp2_with fail
 have hx : Ext W24 (W24.alloc (.cells #[.int .i64 1,.int .i64 2,.int .i64 24,.int .i64 27,.int .i64 24,.int .i64 27,.int .i64 1,.int .i64 2,.int .i64 70,.int .i64 73,.int .i64 70,.int .i64 73] 75)):=bl_alloc (Below.refl _ _) _
 have JN : Blk (W24.alloc (.cells #[.int .i64 1,.int .i64 2,.int .i64 24,.int .i64 27,.int .i64 24,.int .i64 27,.int .i64 1,.int .i64 2,.int .i64 70,.int .i64 73,.int .i64 70,.int .i64 73] 75)) W24.heap.size 75 #[.int .i64 1,.int .i64 2,.int .i64 24,.int .i64 27,.int .i64 24,.int .i64 27,.int .i64 1,.int .i64 2,.int .i64 70,.int .i64 73,.int .i64 70,.int .i64 73]:=Blk.new _ _ _
 obtain ⟨JNg,hg⟩ : ∃ g,g = W24.heap.size:=⟨_,rfl⟩
 rw [← hg] at JN ⊢
 clear hg
 generalize W24.alloc (.cells #[.int .i64 1,.int .i64 2,.int .i64 24,.int .i64 27,.int .i64 24,.int .i64 27,.int .i64 1,.int .i64 2,.int .i64 70,.int .i64 73,.int .i64 70,.int .i64 73] 75) = W25 at JN hx ⊢
 have hB:=bl_then hB hx
 have J1:=J1.ext hx
 have J2:=J2.ext hx
 have J3:=J3.ext hx
 have J4:=J4.ext hx
 have J5:=J5.ext hx
 have J6:=J6.ext hx
 have J8:=J8.ext hx
 have J10:=J10.ext hx
 have J12:=J12.ext hx
 have R14:=ra_ext R14 hx
 have R16:=ra_ext R16 hx
 have R18:=ra_ext R18 hx
 have R20:=ra_ext R20 hx
 have R21:=ra_ext R21 hx
 have R26:=ra_ext R26 hx
 clear hx
 have hsm:=samePas_any (some ⟨g16,0,none⟩) (some ⟨JNg,0,none⟩) 2 2 c16 2 xOld xOld _ R16 (RA.two (cells:=pasCells) (x:=xPass 24 27) (y:=xPass 70 73) rfl rfl JN)
 rw [decide_eq_true (by first | rfl | decide)] at hsm
 refine hsm.mono ?_
 rintro e W26 ⟨rfl,hx⟩
 have hB:=bl_then hB hx
 have J1:=J1.ext hx
 have J2:=J2.ext hx
 have J3:=J3.ext hx
 have J4:=J4.ext hx
 have J5:=J5.ext hx
 have J6:=J6.ext hx
 have J8:=J8.ext hx
 have J10:=J10.ext hx
 have J12:=J12.ext hx
 have R14:=ra_ext R14 hx
 have R16:=ra_ext R16 hx
 have R18:=ra_ext R18 hx
 have R20:=ra_ext R20 hx
 have R21:=ra_ext R21 hx
 have R26:=ra_ext R26 hx
 clear hx
 clear hsm
 clear JN
 go_wp2_with fail
 refine (HPS.out 24 27 _).mono ?_
 rintro e W27 ⟨rfl,hx⟩
 have hB:=bl_then hB hx
 have J1:=J1.ext hx
 have J2:=J2.ext hx
 have J3:=J3.ext hx
 have J4:=J4.ext hx
 have J5:=J5.ext hx
 have J6:=J6.ext hx
 have J8:=J8.ext hx
 have J10:=J10.ext hx
 have J12:=J12.ext hx
 have R14:=ra_ext R14 hx
 have R16:=ra_ext R16 hx
 have R18:=ra_ext R18 hx
 have R20:=ra_ext R20 hx
 have R21:=ra_ext R21 hx
 have R26:=ra_ext R26 hx
 clear hx
 go_wp2_with fail
 refine (HPS.out 50 53 _).mono ?_
 rintro e W28 ⟨rfl,hx⟩
 have hB:=bl_then hB hx
 have J1:=J1.ext hx
 have J2:=J2.ext hx
 have J3:=J3.ext hx
 have J4:=J4.ext hx
 have J5:=J5.ext hx
 have J6:=J6.ext hx
 have J8:=J8.ext hx
 have J10:=J10.ext hx
 have J12:=J12.ext hx
 have R14:=ra_ext R14 hx
 have R16:=ra_ext R16 hx
 have R18:=ra_ext R18 hx
 have R20:=ra_ext R20 hx
 have R21:=ra_ext R21 hx
 have R26:=ra_ext R26 hx
 clear hx
 go_wp2_with fail
 have hx : Ext W28 (W28.alloc (.cells #[.int .i64 1,.int .i64 2,.int .i64 24,.int .i64 27,.int .i64 24,.int .i64 27,.int .i64 1,.int .i64 2,.int .i64 50,.int .i64 53,.int .i64 50,.int .i64 53] 75)):=bl_alloc (Below.refl _ _) _
 have JN : Blk (W28.alloc (.cells #[.int .i64 1,.int .i64 2,.int .i64 24,.int .i64 27,.int .i64 24,.int .i64 27,.int .i64 1,.int .i64 2,.int .i64 50,.int .i64 53,.int .i64 50,.int .i64 53] 75)) W28.heap.size 75 #[.int .i64 1,.int .i64 2,.int .i64 24,.int .i64 27,.int .i64 24,.int .i64 27,.int .i64 1,.int .i64 2,.int .i64 50,.int .i64 53,.int .i64 50,.int .i64 53]:=Blk.new _ _ _
 obtain ⟨JNg,hg⟩ : ∃ g,g = W28.heap.size:=⟨_,rfl⟩
 rw [← hg] at JN ⊢
 clear hg
 generalize W28.alloc (.cells #[.int .i64 1,.int .i64 2,.int .i64 24,.int .i64 27,.int .i64 24,.int .i64 27,.int .i64 1,.int .i64 2,.int .i64 50,.int .i64 53,.int .i64 50,.int .i64 53] 75) = W29 at JN hx ⊢
 have hB:=bl_then hB hx
 have J1:=J1.ext hx
 have J2:=J2.ext hx
 have J3:=J3.ext hx
 have J4:=J4.ext hx
 have J5:=J5.ext hx
 have J6:=J6.ext hx
 have J8:=J8.ext hx
 have J10:=J10.ext hx
 have J12:=J12.ext hx
 have R14:=ra_ext R14 hx
 have R16:=ra_ext R16 hx
 have R18:=ra_ext R18 hx
 have R20:=ra_ext R20 hx
 have R21:=ra_ext R21 hx
 have R26:=ra_ext R26 hx
 clear hx
 have hsm:=samePas_any (some ⟨g18,0,none⟩) (some ⟨JNg,0,none⟩) 2 2 c18 2 xNow xNow _ R18 (RA.two (cells:=pasCells) (x:=xPass 24 27) (y:=xPass 50 53) rfl rfl JN)
 rw [decide_eq_true (by first | rfl | decide)] at hsm
 refine hsm.mono ?_
 rintro e W30 ⟨rfl,hx⟩
 have hB:=bl_then hB hx
 have J1:=J1.ext hx
 have J2:=J2.ext hx
 have J3:=J3.ext hx
 have J4:=J4.ext hx
 have J5:=J5.ext hx
 have J6:=J6.ext hx
 have J8:=J8.ext hx
 have J10:=J10.ext hx
 have J12:=J12.ext hx
 have R14:=ra_ext R14 hx
 have R16:=ra_ext R16 hx
 have R18:=ra_ext R18 hx
 have R20:=ra_ext R20 hx
 have R21:=ra_ext R21 hx
 have R26:=ra_ext R26 hx
 clear hx
 clear hsm
 clear JN
 go_wp2_with fail
 have hsm:=samePas_any A20 (some ⟨g16,6,none⟩) 1 1 c20 (c16 - 1) [xPass 70 73] [xPass 70 73] _ R20 (ra_snd (x:=xPass 24 27) (y:=xPass 70 73) pas_len R16)
 rw [decide_eq_true rfl] at hsm
 refine hsm.mono ?_
 rintro e W31 ⟨rfl,hx⟩
 have hB:=bl_then hB hx
 have J1:=J1.ext hx
 have J2:=J2.ext hx
 have J3:=J3.ext hx
 have J4:=J4.ext hx
 have J5:=J5.ext hx
 have J6:=J6.ext hx
 have J8:=J8.ext hx
 have J10:=J10.ext hx
 have J12:=J12.ext hx
 have R14:=ra_ext R14 hx
 have R16:=ra_ext R16 hx
 have R18:=ra_ext R18 hx
 have R20:=ra_ext R20 hx
 have R21:=ra_ext R21 hx
 have R26:=ra_ext R26 hx
 clear hx
 clear hsm
 go_wp2_with fail
 have hsm:=samePas_any A21 (some ⟨g18,6,none⟩) 1 1 c21 (c18 - 1) [xPass 50 53] [xPass 50 53] _ R21 (ra_snd (x:=xPass 24 27) (y:=xPass 50 53) pas_len R18)
 rw [decide_eq_true rfl] at hsm
 refine hsm.mono ?_
 rintro e W32 ⟨rfl,hx⟩
 have hB:=bl_then hB hx
 have J1:=J1.ext hx
 have J2:=J2.ext hx
 have J3:=J3.ext hx
 have J4:=J4.ext hx
 have J5:=J5.ext hx
 have J6:=J6.ext hx
 have J8:=J8.ext hx
 have J10:=J10.ext hx
 have J12:=J12.ext hx
 have R14:=ra_ext R14 hx
 have R16:=ra_ext R16 hx
 have R18:=ra_ext R18 hx
 have R20:=ra_ext R20 hx
 have R21:=ra_ext R21 hx
 have R26:=ra_ext R26 hx
 clear hx
 clear hsm
 go_wp2_with fail
 have hx : Ext W32 (W32.alloc (.cells #[.int .i64 1] 3)):=bl_alloc (Below.refl _ _) _
 have JN : Blk (W32.alloc (.cells #[.int .i64 1] 3)) W32.heap.size 3 #[.int .i64 1]:=Blk.new _ _ _
 obtain ⟨JNg,hg⟩ : ∃ g,g = W32.heap.size:=⟨_,rfl⟩
 rw [← hg] at JN ⊢
 clear hg
 generalize W32.alloc (.cells #[.int .i64 1] 3) = W33 at JN hx ⊢
 have hB:=bl_then hB hx
 have J1:=J1.ext hx
 have J2:=J2.ext hx
 have J3:=J3.ext hx
 have J4:=J4.ext hx
 have J5:=J5.ext hx
 have J6:=J6.ext hx
 have J8:=J8.ext hx
 have J10:=J10.ext hx
 have J12:=J12.ext hx
 have R14:=ra_ext R14 hx
 have R16:=ra_ext R16 hx
 have R18:=ra_ext R18 hx
 have R20:=ra_ext R20 hx
 have R21:=ra_ext R21 hx
 have R26:=ra_ext R26 hx
 clear hx
 have hsm:=ints18_any A26 (some ⟨JNg,0,none⟩) 1 1 c26 1 [1] [1] _ R26 (RA.one (cells:=icell) (x:=1) rfl JN)
 rw [decide_eq_true (by first | rfl | decide)] at hsm
 refine hsm.mono ?_
 rintro e W34 ⟨rfl,hx⟩
 have hB:=bl_then hB hx
 have J1:=J1.ext hx
 have J2:=J2.ext hx
 have J3:=J3.ext hx
 have J4:=J4.ext hx
 have J5:=J5.ext hx
 have J6:=J6.ext hx
 have J8:=J8.ext hx
 have J10:=J10.ext hx
 have J12:=J12.ext hx
 have R14:=ra_ext R14 hx
 have R16:=ra_ext R16 hx
 have R18:=ra_ext R18 hx
 have R20:=ra_ext R20 hx
 have R21:=ra_ext R21 hx
 have R26:=ra_ext R26 hx
 clear hx
 clear hsm
 go_wp2_with fail
 refine (HV1.out _ _ _ J4 J6).mono ?_
 rintro e W35 ⟨rfl,hx⟩
 have hB:=bl_then hB hx
 have J1:=J1.ext hx
 have J2:=J2.ext hx
 have J3:=J3.ext hx
 have J4:=J4.ext hx
 have J5:=J5.ext hx
 have J6:=J6.ext hx
 have J8:=J8.ext hx
 have J10:=J10.ext hx
 have J12:=J12.ext hx
 have R14:=ra_ext R14 hx
 have R16:=ra_ext R16 hx
 have R18:=ra_ext R18 hx
 have R20:=ra_ext R20 hx
 have R21:=ra_ext R21 hx
 have R26:=ra_ext R26 hx
 clear hx
 go_wp2_with fail
 refine (HV2.out _ _ J6).mono ?_
 rintro e W36 ⟨rfl,hx⟩
 have hB:=bl_then hB hx
 have J1:=J1.ext hx
 have J2:=J2.ext hx
 have J3:=J3.ext hx
 have J4:=J4.ext hx
 have J5:=J5.ext hx
 have J6:=J6.ext hx
 have J8:=J8.ext hx
 have J10:=J10.ext hx
 have J12:=J12.ext hx
 have R14:=ra_ext R14 hx
 have R16:=ra_ext R16 hx
 have R18:=ra_ext R18 hx
 have R20:=ra_ext R20 hx
 have R21:=ra_ext R21 hx
 have R26:=ra_ext R26 hx
 clear hx
 go_wp2
 go_ret
 exact ⟨rfl,hB⟩
end Go.Proofs.YtjidhhfabfnhnaaGreat
namespace Go.Proofs.YtjidhhfabfnhnaaGreat
open Go.RowKit
def pushS : List Spl → Int → List Spl
 | [],m => [⟨m,m + 1⟩]
 | [s],m => if s.tt = m then [⟨s.fr,m + 1⟩] else [s,⟨m,m + 1⟩]
 | s :: x :: r,m => s :: pushS (x :: r) m
def consS (t : Int) : List Spl → List Spl
 | [] => [⟨t,t + 1⟩]
 | s :: r => if s.fr = t + 1 then ⟨t,s.tt⟩ :: r else ⟨t,t + 1⟩ :: s :: r
end Go.Proofs.YtjidhhfabfnhnaaGreat
namespace Go.Proofs.YtjidhhfabfnhnaaGreat
def SpOK (is : Int → Bool) (a e : Int) : List Spl → Prop
 | [] => ∀ t,a ≤ t → t < e → is t = false
 | s :: r => (a ≤ s.fr ∧ s.fr < s.tt ∧ s.tt ≤ e) ∧ (∀ t,a ≤ t → t < s.fr → is t = false) ∧ (∀ t,s.fr ≤ t → t < s.tt → is t = true) ∧ (s.tt = e ∨ is s.tt = false) ∧ SpOK is s.tt e r
variable {is : Int → Bool} {e : Int}
end Go.Proofs.YtjidhhfabfnhnaaGreat
namespace Go.Proofs.YtjidhhfabfnhnaaGreat
theorem made_ok (x0 x1 x2 x3 x4 x5 x6 : Int) : orbOK (madeO x0 x1 x2 x3 x4 x5 x6) = true:=by
 have q0:=pickI_bd x0 90 (by omega)
 have q1:=pickI_bd x1 (2 * (10 + pickI x0 90)) (by omega)
 have q2:=pickI_bd x2 10000 (by omega)
 have q3:=pickI_bd x3 10000 (by omega)
 have q4:=pickI_bd x4 48000 (by omega)
 have q5:=pickI_bd x5 1601 (by omega)
 have q6:=pickI_bd x6 4 (by omega)
 simp only [orbOK,madeO,Bool.and_eq_true,inB_iff,beq_iff_eq]
 refine ⟨⟨⟨⟨⟨⟨⟨⟨?_,?_⟩,?_⟩,?_⟩,?_⟩,?_⟩,?_⟩,?_⟩,?_⟩ <;> first | omega | exact decide_eq_true (by omega)
end Go.Proofs.YtjidhhfabfnhnaaGreat
namespace Go.Proofs.YtjidhhfabfnhnaaGreat
theorem satP_ok (id x0 x1 x2 x3 x4 x5 x6 y0 y1 y2 y3 : Int) : satOK (satP id x0 x1 x2 x3 x4 x5 x6 y0 y1 y2 y3) = true:=by
 have h0:=made_ok x0 x1 x2 x3 x4 x5 x6
 have q0:=pickI_bd id 24 (by omega)
 have q1:=pickI_bd y0 4 (by omega)
 have q2:=pickI_bd y1 200 (by omega)
 have q3:=pickI_bd y1 2000 (by omega)
 have q4:=pickI_bd y2 12 (by omega)
 have q5:=pickI_bd y2 4 (by omega)
 have q6:=pickI_bd y2 30 (by omega)
 have q7:=pickI_bd y3 20 (by omega)
 have q8:=pickI_bd y3 9 (by omega)
 have q9:=pickI_bd y3 4 (by omega)
 have qa:=pickI_bd y1 60 (by omega)
 have qb:=pickI_bd (y0.tdiv 4) 4 (by omega)
 have qc:=pickI_bd y2 9 (by omega)
 unfold satP
 generalize madeO x0 x1 x2 x3 x4 x5 x6 = o at h0 ⊢
 simp only [satOK,h0,Bool.true_and,Bool.and_eq_true,inB_iff]
 omega
def noSlack (s : St) : St:={ s with orbit:={ s.orbit with slack:=0 } }
theorem pickI_small {c n : Int} (h : 0 ≤ c ∧ c < n) : pickI c n = c:=by
 unfold pickI
 rw [if_neg (by omega)]
 exact Int.emod_eq_of_lt h.1 h.2
theorem satA_ok (i : Nat) (a : A7) (b : A4) : satOK (satA i a b) = true:=satP_ok _ _ _ _ _ _ _ _ _ _ _ _
theorem satA_id (i : Nat) (a : A7) (b : A4) (h : i < 3) : (satA i a b).id = 2 * (i : Int) + 1:=pickI_small ⟨by omega,by omega⟩
end Go.Proofs.YtjidhhfabfnhnaaGreat
