/- The reference: satellites that integers determine (printed by contact_c7.py). -/
import Derived.Test.YtjidhhfabfnhnaaGreatK06
import Derived.Laws.Rows
namespace Go.Proofs.YtjidhhfabfnhnaaGreat
open Go.RowKit
theorem load_blk {P : Program} {w : World} {g : Nat} {t : TypeId} {X : Array Value} (J : Blk w g t X) (d : TypeDesc) (hu : P.underlying t = some d) (hd : d.isRow = true) (hi : (P.info? t).map (·.size) = some X.size) : (loadVar t ⟨g,0,none⟩).run P w = .ok (.agg X) w :=
 run_loadVar_row w g t t X (0,0) d J hu (by cases d <;> first | rfl | exact hd) hi
theorem results_row {P : Program} {fn : Func} {p : Tmp} {t : TypeId} (h : fn.results = #[.cell p t]) (tmps : Array Value) (w : World) (g : Nat) (X : Array Value) (hp : tmps.getD p undef = .pointer (some ⟨g,0,none⟩)) (J : Blk w g t X) (d : TypeDesc) (hu : P.underlying t = some d) (hd : d.isRow = true) (hi : (P.info? t).map (·.size) = some X.size) :
  (results fn tmps).run P w = .ok (.agg X) w:=by
 have hl:=load_blk J d hu hd hi
 have hp' : tmps[p]?.getD undef = .pointer (some ⟨g,0,none⟩):=by simpa using hp
 simp only [results,h]
 simp [hp',asAddr,hl]
def satP (id x0 x1 x2 x3 x4 x5 x6 y0 y1 y2 y3 : Int) : St:=⟨pickI id 24,pickI y0 4,madeO x0 x1 x2 x3 x4 x5 x6,pickI y0 4,20 + pickI y1 200,100 + pickI y1 2000,pickI y2 12,pickI y2 4,2 + pickI y2 30,1 + pickI y3 20,1 + pickI y3 9,1 + pickI y3 4,5 + pickI y1 60,pickI (y0.tdiv 4) 4,1 + pickI y2 9⟩
set_option maxHeartbeats 4000000 in
set_option maxRecDepth 100000 in
theorem sat_any (id x0 x1 x2 x3 x4 x5 x6 y0 y1 y2 y3 : Int) (w : World) (bid : I64ok id) (bx0 : I64ok x0) (bx1 : I64ok x1) (bx2 : I64ok x2) (bx3 : I64ok x3) (bx4 : I64ok x4) (bx5 : I64ok x5) (bx6 : I64ok x6) (by0 : I64ok y0) (by1 : I64ok y1) (by2 : I64ok y2) (by3 : I64ok y3) :
  Calls Tryz.prog 92 #[.int .i64 id,.agg #[.int .i64 x0,.int .i64 x1,.int .i64 x2,.int .i64 x3,.int .i64 x4,.int .i64 x5,.int .i64 x6],.agg #[.int .i64 y0,.int .i64 y1,.int .i64 y2,.int .i64 y3]] w fun e w' => e = .returned (.agg (satCells (satP id x0 x1 x2 x3 x4 x5 x6 y0 y1 y2 y3)).toArray) ∧ Below w.heap.size w w':=by
 have hm:=fun w => made_any x0 x1 x2 x3 x4 x5 x6 w bx0 bx1 bx2 bx3 bx4 bx5 bx6
 unfold satP satCells
 dsimp only
 generalize madeO x0 x1 x2 x3 x4 x5 x6 = om at hm ⊢
 obtain ⟨o0,o1,o2,o3,o4,o5,o6⟩:=om
 unfold orbV at hm
 dsimp only [I64] at hm ⊢
 have HM:=Lib.hid hm
 clear hm
 obtain ⟨byd,hwd⟩:=tdiv_ok by0 (n:=4) (by omega)
 obtain ⟨yd,hyd⟩ : ∃ y,y = y0.tdiv 4:=⟨_,rfl⟩
 rw [← hyd] at byd hwd ⊢
 have P0:=fun w => pick9_any id 24 w bid.1 bid.2 (by omega) (by omega)
 have q0:=pickI_bd id 24 (by omega)
 generalize pickI id 24 = p0 at P0 q0 ⊢
 obtain ⟨q0a,q0b⟩:=q0
 have HP0:=Lib.hid P0
 clear P0
 have P1:=fun w => pick9_any y0 4 w by0.1 by0.2 (by omega) (by omega)
 have q1:=pickI_bd y0 4 (by omega)
 generalize pickI y0 4 = p1 at P1 q1 ⊢
 obtain ⟨q1a,q1b⟩:=q1
 have HP1:=Lib.hid P1
 clear P1
 have P2:=fun w => pick9_any y1 200 w by1.1 by1.2 (by omega) (by omega)
 have q2:=pickI_bd y1 200 (by omega)
 generalize pickI y1 200 = p2 at P2 q2 ⊢
 obtain ⟨q2a,q2b⟩:=q2
 have HP2:=Lib.hid P2
 clear P2
 have P3:=fun w => pick9_any y1 2000 w by1.1 by1.2 (by omega) (by omega)
 have q3:=pickI_bd y1 2000 (by omega)
 generalize pickI y1 2000 = p3 at P3 q3 ⊢
 obtain ⟨q3a,q3b⟩:=q3
 have HP3:=Lib.hid P3
 clear P3
 have P4:=fun w => pick9_any y2 12 w by2.1 by2.2 (by omega) (by omega)
 have q4:=pickI_bd y2 12 (by omega)
 generalize pickI y2 12 = p4 at P4 q4 ⊢
 obtain ⟨q4a,q4b⟩:=q4
 have HP4:=Lib.hid P4
 clear P4
 have P5:=fun w => pick9_any y2 4 w by2.1 by2.2 (by omega) (by omega)
 have q5:=pickI_bd y2 4 (by omega)
 generalize pickI y2 4 = p5 at P5 q5 ⊢
 obtain ⟨q5a,q5b⟩:=q5
 have HP5:=Lib.hid P5
 clear P5
 have P6:=fun w => pick9_any y2 30 w by2.1 by2.2 (by omega) (by omega)
 have q6:=pickI_bd y2 30 (by omega)
 generalize pickI y2 30 = p6 at P6 q6 ⊢
 obtain ⟨q6a,q6b⟩:=q6
 have HP6:=Lib.hid P6
 clear P6
 have P7:=fun w => pick9_any y3 20 w by3.1 by3.2 (by omega) (by omega)
 have q7:=pickI_bd y3 20 (by omega)
 generalize pickI y3 20 = p7 at P7 q7 ⊢
 obtain ⟨q7a,q7b⟩:=q7
 have HP7:=Lib.hid P7
 clear P7
 have P8:=fun w => pick9_any y3 9 w by3.1 by3.2 (by omega) (by omega)
 have q8:=pickI_bd y3 9 (by omega)
 generalize pickI y3 9 = p8 at P8 q8 ⊢
 obtain ⟨q8a,q8b⟩:=q8
 have HP8:=Lib.hid P8
 clear P8
 have P9:=fun w => pick9_any y3 4 w by3.1 by3.2 (by omega) (by omega)
 have q9:=pickI_bd y3 4 (by omega)
 generalize pickI y3 4 = p9 at P9 q9 ⊢
 obtain ⟨q9a,q9b⟩:=q9
 have HP9:=Lib.hid P9
 clear P9
 have P10:=fun w => pick9_any y1 60 w by1.1 by1.2 (by omega) (by omega)
 have q10:=pickI_bd y1 60 (by omega)
 generalize pickI y1 60 = p10 at P10 q10 ⊢
 obtain ⟨q10a,q10b⟩:=q10
 have HP10:=Lib.hid P10
 clear P10
 have P11:=fun w => pick9_any yd 4 w byd.1 byd.2 (by omega) (by omega)
 have q11:=pickI_bd yd 4 (by omega)
 generalize pickI yd 4 = p11 at P11 q11 ⊢
 obtain ⟨q11a,q11b⟩:=q11
 have HP11:=Lib.hid P11
 clear P11
 have P12:=fun w => pick9_any y2 9 w by2.1 by2.2 (by omega) (by omega)
 have q12:=pickI_bd y2 9 (by omega)
 generalize pickI y2 9 = p12 at P12 q12 ⊢
 obtain ⟨q12a,q12b⟩:=q12
 have HP12:=Lib.hid P12
 clear P12
 have z2 : IntKind.i64.wrap (20 + p2) = 20 + p2:=IntWalk.i64_in _ (by omega)
 have z3 : IntKind.i64.wrap (100 + p3) = 100 + p3:=IntWalk.i64_in _ (by omega)
 have z6 : IntKind.i64.wrap (2 + p6) = 2 + p6:=IntWalk.i64_in _ (by omega)
 have z7 : IntKind.i64.wrap (1 + p7) = 1 + p7:=IntWalk.i64_in _ (by omega)
 have z8 : IntKind.i64.wrap (1 + p8) = 1 + p8:=IntWalk.i64_in _ (by omega)
 have z9 : IntKind.i64.wrap (1 + p9) = 1 + p9:=IntWalk.i64_in _ (by omega)
 have z10 : IntKind.i64.wrap (5 + p10) = 5 + p10:=IntWalk.i64_in _ (by omega)
 have z12 : IntKind.i64.wrap (1 + p12) = 1 + p12:=IntWalk.i64_in _ (by omega)
 have hq : IntKind.i64.wrap (y0.tdiv 4) = yd:=by rw [← hyd]; exact hwd
 clear hwd
 have HYD:=Lib.hid hyd
 clear hyd
 go_enter Tryz.func92,Tryz.ntmps92
 go_upto_region 1 with (fail)
 obtain ⟨g1,hg1⟩ : ∃ g,g = w.heap.size:=⟨_,rfl⟩
 obtain ⟨g2,hg2⟩ : ∃ g,g = w.heap.size + 1:=⟨_,rfl⟩
 obtain ⟨g3,hg3⟩ : ∃ g,g = w.heap.size + 1 + 1:=⟨_,rfl⟩
 have J1 : Blk (((w.alloc (.cells #[.int .i64 x0,.int .i64 x1,.int .i64 x2,.int .i64 x3,.int .i64 x4,.int .i64 x5,.int .i64 x6] 153)).alloc (.cells #[.int .i64 y0,.int .i64 y1,.int .i64 y2,.int .i64 y3] 151)).alloc (.cells #[.int .i64 0,.int .i64 0,.int .i64 0,.int .i64 0,.int .i64 0,.int .i64 0,.int .i64 0,.int .i64 0,.int .i64 0,.int .i64 0,.int .i64 0,.int .i64 0,.int .i64 0,.int .i64 0,.int .i64 0,.int .i64 0,.int .i64 0,.int .i64 0,.int .i64 0,.int .i64 0,.int .i64 0] 53)) g1 153 #[.int .i64 x0,.int .i64 x1,.int .i64 x2,.int .i64 x3,.int .i64 x4,.int .i64 x5,.int .i64 x6]:=((Blk.new_at _ _ _ hg1.symm).alloc _).alloc _
 have J2 : Blk (((w.alloc (.cells #[.int .i64 x0,.int .i64 x1,.int .i64 x2,.int .i64 x3,.int .i64 x4,.int .i64 x5,.int .i64 x6] 153)).alloc (.cells #[.int .i64 y0,.int .i64 y1,.int .i64 y2,.int .i64 y3] 151)).alloc (.cells #[.int .i64 0,.int .i64 0,.int .i64 0,.int .i64 0,.int .i64 0,.int .i64 0,.int .i64 0,.int .i64 0,.int .i64 0,.int .i64 0,.int .i64 0,.int .i64 0,.int .i64 0,.int .i64 0,.int .i64 0,.int .i64 0,.int .i64 0,.int .i64 0,.int .i64 0,.int .i64 0,.int .i64 0] 53)) g2 151 #[.int .i64 y0,.int .i64 y1,.int .i64 y2,.int .i64 y3]:=(Blk.new_at _ _ _ (by simp [hg2])).alloc _
 have J3 : Blk (((w.alloc (.cells #[.int .i64 x0,.int .i64 x1,.int .i64 x2,.int .i64 x3,.int .i64 x4,.int .i64 x5,.int .i64 x6] 153)).alloc (.cells #[.int .i64 y0,.int .i64 y1,.int .i64 y2,.int .i64 y3] 151)).alloc (.cells #[.int .i64 0,.int .i64 0,.int .i64 0,.int .i64 0,.int .i64 0,.int .i64 0,.int .i64 0,.int .i64 0,.int .i64 0,.int .i64 0,.int .i64 0,.int .i64 0,.int .i64 0,.int .i64 0,.int .i64 0,.int .i64 0,.int .i64 0,.int .i64 0,.int .i64 0,.int .i64 0,.int .i64 0] 53)) g3 53 #[.int .i64 0,.int .i64 0,.int .i64 0,.int .i64 0,.int .i64 0,.int .i64 0,.int .i64 0,.int .i64 0,.int .i64 0,.int .i64 0,.int .i64 0,.int .i64 0,.int .i64 0,.int .i64 0,.int .i64 0,.int .i64 0,.int .i64 0,.int .i64 0,.int .i64 0,.int .i64 0,.int .i64 0]:=Blk.new_at _ _ _ (by simp [hg3])
 have hB : Below w.heap.size w (((w.alloc (.cells #[.int .i64 x0,.int .i64 x1,.int .i64 x2,.int .i64 x3,.int .i64 x4,.int .i64 x5,.int .i64 x6] 153)).alloc (.cells #[.int .i64 y0,.int .i64 y1,.int .i64 y2,.int .i64 y3] 151)).alloc (.cells #[.int .i64 0,.int .i64 0,.int .i64 0,.int .i64 0,.int .i64 0,.int .i64 0,.int .i64 0,.int .i64 0,.int .i64 0,.int .i64 0,.int .i64 0,.int .i64 0,.int .i64 0,.int .i64 0,.int .i64 0,.int .i64 0,.int .i64 0,.int .i64 0,.int .i64 0,.int .i64 0,.int .i64 0] 53)):=(by repeat (first | exact Below.refl _ _ | assumption | refine Below.drew ?_ | refine below_drewN ?_ _ | refine bl_alloc ?_ _ | refine Below.setCell ?_ (by first | (simp; done) | omega | (simp; omega)) _ | refine bl_then ?_ (by assumption)))
 have hl3 : w.heap.size ≤ g3:=by omega
 rw [← hg3,← hg2,← hg1]
 generalize ((w.alloc (.cells #[.int .i64 x0,.int .i64 x1,.int .i64 x2,.int .i64 x3,.int .i64 x4,.int .i64 x5,.int .i64 x6] 153)).alloc (.cells #[.int .i64 y0,.int .i64 y1,.int .i64 y2,.int .i64 y3] 151)).alloc (.cells #[.int .i64 0,.int .i64 0,.int .i64 0,.int .i64 0,.int .i64 0,.int .i64 0,.int .i64 0,.int .i64 0,.int .i64 0,.int .i64 0,.int .i64 0,.int .i64 0,.int .i64 0,.int .i64 0,.int .i64 0,.int .i64 0,.int .i64 0,.int .i64 0,.int .i64 0,.int .i64 0,.int .i64 0] 53) = W at J1 J2 J3 hB ⊢
 clear hg1 hg2 hg3
 have hl3W : g3 < W.heap.size:=J3.lt
 have k0 : W.cell? ⟨g1,0,none⟩ = some (.int .i64 x0):=J1.cell 0
 have k1 : W.cell? ⟨g1,1,none⟩ = some (.int .i64 x1):=J1.cell 1
 have k2 : W.cell? ⟨g1,2,none⟩ = some (.int .i64 x2):=J1.cell 2
 have k3 : W.cell? ⟨g1,3,none⟩ = some (.int .i64 x3):=J1.cell 3
 have k4 : W.cell? ⟨g1,4,none⟩ = some (.int .i64 x4):=J1.cell 4
 have k5 : W.cell? ⟨g1,5,none⟩ = some (.int .i64 x5):=J1.cell 5
 have k6 : W.cell? ⟨g1,6,none⟩ = some (.int .i64 x6):=J1.cell 6
 have m0 : W.cell? ⟨g2,0,none⟩ = some (.int .i64 y0):=J2.cell 0
 have m1 : W.cell? ⟨g2,1,none⟩ = some (.int .i64 y1):=J2.cell 1
 have m2 : W.cell? ⟨g2,2,none⟩ = some (.int .i64 y2):=J2.cell 2
 have m3 : W.cell? ⟨g2,3,none⟩ = some (.int .i64 y3):=J2.cell 3
 obtain ⟨SX,hSX⟩ : ∃ X,X = (#[.int .i64 p0,.int .i64 p1,.int .i64 o0,.int .i64 o1,.int .i64 o2,.int .i64 o3,.int .i64 o4,.int .i64 o5,.int .i64 o6,.int .i64 p1,.int .i64 (20 + p2),.int .i64 (100 + p3),.int .i64 p4,.int .i64 p5,.int .i64 (2 + p6),.int .i64 (1 + p7),.int .i64 (1 + p8),.int .i64 (1 + p9),.int .i64 (5 + p10),.int .i64 p11,.int .i64 (1 + p12)] : Array Value):=⟨_,rfl⟩
 have hS1 : SX.all (·.oneCell') = true:=by rw [hSX]; simp [Value.oneCell']
 have hS2 : SX.size = 21:=by rw [hSX]; rfl
 have HSX:=Lib.hid hSX
 have HS1:=Lib.hid hS1
 have HS2:=Lib.hid hS2
 clear hSX hS1 hS2
 refine wp_region_obl 54 (fun ix vals v w1 => match ix with | 0 => v = .int .i64 id | 1 => v = .int .i64 p0 | 2 => v = .pointer (some ⟨g2,0,none⟩) | 3 => v = .int .i64 y0 | 4 => v = .int .i64 p1 | 5 => v = .agg #[.int .i64 x0,.int .i64 x1,.int .i64 x2,.int .i64 x3,.int .i64 x4,.int .i64 x5,.int .i64 x6] | 6 => v = .agg #[.int .i64 o0,.int .i64 o1,.int .i64 o2,.int .i64 o3,.int .i64 o4,.int .i64 o5,.int .i64 o6] | 7 => v = .pointer (some ⟨g2,0,none⟩) | 8 => v = .int .i64 y0 | 9 => v = .int .i64 p1 | 10 => v = .pointer (some ⟨g2,1,none⟩) | 11 => v = .int .i64 y1 | 12 => v = .int .i64 p2 | 13 => v = .int .i64 (20 + p2) | 14 => v = .pointer (some ⟨g2,1,none⟩) | 15 => v = .int .i64 y1 | 16 => v = .int .i64 p3 | 17 => v = .int .i64 (100 + p3) | 18 => v = .pointer (some ⟨g2,2,none⟩) | 19 => v = .int .i64 y2 | 20 => v = .int .i64 p4 | 21 => v = .pointer (some ⟨g2,2,none⟩) | 22 => v = .int .i64 y2 | 23 => v = .int .i64 p5 | 24 => v = .pointer (some ⟨g2,2,none⟩) | 25 => v = .int .i64 y2 | 26 => v = .int .i64 p6 | 27 => v = .int .i64 (2 + p6) | 28 => v = .pointer (some ⟨g2,3,none⟩) | 29 => v = .int .i64 y3 | 30 => v = .int .i64 p7 | 31 => v = .int .i64 (1 + p7) | 32 => v = .pointer (some ⟨g2,3,none⟩) | 33 => v = .int .i64 y3 | 34 => v = .int .i64 p8 | 35 => v = .int .i64 (1 + p8) | 36 => v = .pointer (some ⟨g2,3,none⟩) | 37 => v = .int .i64 y3 | 38 => v = .int .i64 p9 | 39 => v = .int .i64 (1 + p9) | 40 => v = .pointer (some ⟨g2,1,none⟩) | 41 => v = .int .i64 y1 | 42 => v = .int .i64 p10 | 43 => v = .int .i64 (5 + p10) | 44 => v = .pointer (some ⟨g2,0,none⟩) | 45 => v = .int .i64 y0 | 46 => v = .int .i64 yd | 47 => v = .int .i64 p11 | 48 => v = .pointer (some ⟨g2,2,none⟩) | 49 => v = .int .i64 y2 | 50 => v = .int .i64 p12 | 51 => v = .int .i64 (1 + p12) | 52 => v = .agg SX | _ => ∃ g Z,v = .pointer (some ⟨g,0,none⟩) ∧ W.heap.size ≤ g ∧ Z.size = 21 ∧ Blk w1 g 53 Z) (by kernel_rfl) (by kernel_rfl) ?_ ?_ ?_ ?_
 ·intro ix vals v w1 w2 hi hr hx
  match ix,hr with
  | 0,hr => exact hr
  | 1,hr => exact hr
  | 2,hr => exact hr
  | 3,hr => exact hr
  | 4,hr => exact hr
  | 5,hr => exact hr
  | 6,hr => exact hr
  | 7,hr => exact hr
  | 8,hr => exact hr
  | 9,hr => exact hr
  | 10,hr => exact hr
  | 11,hr => exact hr
  | 12,hr => exact hr
  | 13,hr => exact hr
  | 14,hr => exact hr
  | 15,hr => exact hr
  | 16,hr => exact hr
  | 17,hr => exact hr
  | 18,hr => exact hr
  | 19,hr => exact hr
  | 20,hr => exact hr
  | 21,hr => exact hr
  | 22,hr => exact hr
  | 23,hr => exact hr
  | 24,hr => exact hr
  | 25,hr => exact hr
  | 26,hr => exact hr
  | 27,hr => exact hr
  | 28,hr => exact hr
  | 29,hr => exact hr
  | 30,hr => exact hr
  | 31,hr => exact hr
  | 32,hr => exact hr
  | 33,hr => exact hr
  | 34,hr => exact hr
  | 35,hr => exact hr
  | 36,hr => exact hr
  | 37,hr => exact hr
  | 38,hr => exact hr
  | 39,hr => exact hr
  | 40,hr => exact hr
  | 41,hr => exact hr
  | 42,hr => exact hr
  | 43,hr => exact hr
  | 44,hr => exact hr
  | 45,hr => exact hr
  | 46,hr => exact hr
  | 47,hr => exact hr
  | 48,hr => exact hr
  | 49,hr => exact hr
  | 50,hr => exact hr
  | 51,hr => exact hr
  | 52,hr => exact hr
  | (kx + 53),hr => obtain ⟨g,Z,h1,h2,h3,h4⟩:=hr; exact ⟨g,Z,h1,h2,h3,h4.ext hx⟩
 ·intro ix vals vals_ v w1 hi hv hr
  exact hr
 ·refine ⟨?_,?_,?_,?_,?_,?_,?_,?_,?_,?_,?_,?_,?_,?_,?_,?_,?_,?_,?_,?_,?_,?_,?_,?_,?_,?_,?_,?_,?_,?_,?_,?_,?_,?_,?_,?_,?_,?_,?_,?_,?_,?_,?_,?_,?_,?_,?_,?_,?_,?_,?_,?_,?_,?_,trivial⟩
  ·intro vals w1 hx hd ha
   clear hd ha
   simp only [Lf]
   go_wp2
   exact q_
  ·intro vals w1 hx hd ha
   have e0 : vals 0 = .int .i64 id:=hd 0 (by decide)
   clear hd ha
   simp only [Lf,dstAt,Act.put,FR_,e0]
   clear e0
   go_wp2_with fail
   refine (HP0.out _).mono ?_
   rintro e w2 ⟨rfl,rfl⟩
   go_wp2
   exact q_
  ·intro vals w1 hx hd ha
   clear hd ha
   simp only [Lf,dstAt,Act.put,FR_]
   go_wp2
   exact q_
  ·intro vals w1 hx hd ha
   have e2 : vals 2 = .pointer (some ⟨g2,0,none⟩):=hd 2 (by decide)
   clear hd ha
   simp only [Lf,dstAt,Act.put,FR_,e2]
   clear e2
   have m0:=ext_cell hx m0
   go_wp2
   exact q_
  ·intro vals w1 hx hd ha
   have e1 : vals 1 = .int .i64 p0:=hd 1 (by decide)
   have e3 : vals 3 = .int .i64 y0:=hd 3 (by decide)
   clear hd ha
   simp only [Lf,dstAt,Act.put,FR_,e1]
   simp only [e3]
   clear e1 e3
   go_wp2_with fail
   refine (HP1.out _).mono ?_
   rintro e w2 ⟨rfl,rfl⟩
   go_wp2
   exact q_
  ·intro vals w1 hx hd ha
   clear hd ha
   simp only [Lf,dstAt,Act.put,FR_]
   have k0:=ext_cell hx k0
   have k1:=ext_cell hx k1
   have k2:=ext_cell hx k2
   have k3:=ext_cell hx k3
   have k4:=ext_cell hx k4
   have k5:=ext_cell hx k5
   have k6:=ext_cell hx k6
   go_wp2
   exact q_
  ·intro vals w1 hx hd ha
   have e4 : vals 4 = .int .i64 p1:=hd 4 (by decide)
   have e5 : vals 5 = .agg #[.int .i64 x0,.int .i64 x1,.int .i64 x2,.int .i64 x3,.int .i64 x4,.int .i64 x5,.int .i64 x6]:=hd 5 (by decide)
   clear hd ha
   simp only [Lf,dstAt,Act.put,FR_,e4]
   simp only [e5]
   clear e4 e5
   go_wp2_with fail
   refine (HM.out _).mono ?_
   rintro e w2 ⟨rfl,hb2⟩
   go_wp2
   exact ⟨rfl,hb2,rfl⟩
  ·intro vals w1 hx hd ha
   clear hd ha
   simp only [Lf,dstAt,Act.put,FR_]
   go_wp2
   exact q_
  ·intro vals w1 hx hd ha
   have e7 : vals 7 = .pointer (some ⟨g2,0,none⟩):=hd 7 (by decide)
   clear hd ha
   simp only [Lf,dstAt,Act.put,FR_,e7]
   clear e7
   have m0:=ext_cell hx m0
   go_wp2
   exact q_
  ·intro vals w1 hx hd ha
   have e6 : vals 6 = .agg #[.int .i64 o0,.int .i64 o1,.int .i64 o2,.int .i64 o3,.int .i64 o4,.int .i64 o5,.int .i64 o6]:=hd 6 (by decide)
   have e8 : vals 8 = .int .i64 y0:=hd 8 (by decide)
   clear hd ha
   simp only [Lf,dstAt,Act.put,FR_,e6]
   simp only [e8]
   clear e6 e8
   go_wp2_with fail
   refine (HP1.out _).mono ?_
   rintro e w2 ⟨rfl,rfl⟩
   go_wp2
   exact q_
  ·intro vals w1 hx hd ha
   clear hd ha
   simp only [Lf,dstAt,Act.put,FR_]
   go_wp2
   exact q_
  ·intro vals w1 hx hd ha
   have e10 : vals 10 = .pointer (some ⟨g2,1,none⟩):=hd 10 (by decide)
   clear hd ha
   simp only [Lf,dstAt,Act.put,FR_,e10]
   clear e10
   have m1:=ext_cell hx m1
   go_wp2
   exact q_
  ·intro vals w1 hx hd ha
   have e9 : vals 9 = .int .i64 p1:=hd 9 (by decide)
   have e11 : vals 11 = .int .i64 y1:=hd 11 (by decide)
   clear hd ha
   simp only [Lf,dstAt,Act.put,FR_,e9]
   simp only [e11]
   clear e9 e11
   go_wp2_with fail
   refine (HP2.out _).mono ?_
   rintro e w2 ⟨rfl,rfl⟩
   go_wp2
   exact q_
  ·intro vals w1 hx hd ha
   have e12 : vals 12 = .int .i64 p2:=hd 12 (by decide)
   clear hd ha
   simp only [Lf,dstAt,Act.put,FR_,e12]
   clear e12
   go_wp2
   exact q_
  ·intro vals w1 hx hd ha
   clear hd ha
   simp only [Lf,dstAt,Act.put,FR_]
   go_wp2
   exact q_
  ·intro vals w1 hx hd ha
   have e14 : vals 14 = .pointer (some ⟨g2,1,none⟩):=hd 14 (by decide)
   clear hd ha
   simp only [Lf,dstAt,Act.put,FR_,e14]
   clear e14
   have m1:=ext_cell hx m1
   go_wp2
   exact q_
  ·intro vals w1 hx hd ha
   have e12 : vals 12 = .int .i64 p2:=hd 12 (by decide)
   have e15 : vals 15 = .int .i64 y1:=hd 15 (by decide)
   clear hd ha
   simp only [Lf,dstAt,Act.put,FR_,e12]
   simp only [e15]
   clear e12 e15
   go_wp2_with fail
   refine (HP3.out _).mono ?_
   rintro e w2 ⟨rfl,rfl⟩
   go_wp2
   exact q_
  ·intro vals w1 hx hd ha
   have e16 : vals 16 = .int .i64 p3:=hd 16 (by decide)
   clear hd ha
   simp only [Lf,dstAt,Act.put,FR_,e16]
   clear e16
   go_wp2
   exact q_
  ·intro vals w1 hx hd ha
   clear hd ha
   simp only [Lf,dstAt,Act.put,FR_]
   go_wp2
   exact q_
  ·intro vals w1 hx hd ha
   have e18 : vals 18 = .pointer (some ⟨g2,2,none⟩):=hd 18 (by decide)
   clear hd ha
   simp only [Lf,dstAt,Act.put,FR_,e18]
   clear e18
   have m2:=ext_cell hx m2
   go_wp2
   exact q_
  ·intro vals w1 hx hd ha
   have e16 : vals 16 = .int .i64 p3:=hd 16 (by decide)
   have e19 : vals 19 = .int .i64 y2:=hd 19 (by decide)
   clear hd ha
   simp only [Lf,dstAt,Act.put,FR_,e16]
   simp only [e19]
   clear e16 e19
   go_wp2_with fail
   refine (HP4.out _).mono ?_
   rintro e w2 ⟨rfl,rfl⟩
   go_wp2
   exact q_
  ·intro vals w1 hx hd ha
   clear hd ha
   simp only [Lf,dstAt,Act.put,FR_]
   go_wp2
   exact q_
  ·intro vals w1 hx hd ha
   have e21 : vals 21 = .pointer (some ⟨g2,2,none⟩):=hd 21 (by decide)
   clear hd ha
   simp only [Lf,dstAt,Act.put,FR_,e21]
   clear e21
   have m2:=ext_cell hx m2
   go_wp2
   exact q_
  ·intro vals w1 hx hd ha
   have e20 : vals 20 = .int .i64 p4:=hd 20 (by decide)
   have e22 : vals 22 = .int .i64 y2:=hd 22 (by decide)
   clear hd ha
   simp only [Lf,dstAt,Act.put,FR_,e20]
   simp only [e22]
   clear e20 e22
   go_wp2_with fail
   refine (HP5.out _).mono ?_
   rintro e w2 ⟨rfl,rfl⟩
   go_wp2
   exact q_
  ·intro vals w1 hx hd ha
   clear hd ha
   simp only [Lf,dstAt,Act.put,FR_]
   go_wp2
   exact q_
  ·intro vals w1 hx hd ha
   have e24 : vals 24 = .pointer (some ⟨g2,2,none⟩):=hd 24 (by decide)
   clear hd ha
   simp only [Lf,dstAt,Act.put,FR_,e24]
   clear e24
   have m2:=ext_cell hx m2
   go_wp2
   exact q_
  ·intro vals w1 hx hd ha
   have e23 : vals 23 = .int .i64 p5:=hd 23 (by decide)
   have e25 : vals 25 = .int .i64 y2:=hd 25 (by decide)
   clear hd ha
   simp only [Lf,dstAt,Act.put,FR_,e23]
   simp only [e25]
   clear e23 e25
   go_wp2_with fail
   refine (HP6.out _).mono ?_
   rintro e w2 ⟨rfl,rfl⟩
   go_wp2
   exact q_
  ·intro vals w1 hx hd ha
   have e26 : vals 26 = .int .i64 p6:=hd 26 (by decide)
   clear hd ha
   simp only [Lf,dstAt,Act.put,FR_,e26]
   clear e26
   go_wp2
   exact q_
  ·intro vals w1 hx hd ha
   clear hd ha
   simp only [Lf,dstAt,Act.put,FR_]
   go_wp2
   exact q_
  ·intro vals w1 hx hd ha
   have e28 : vals 28 = .pointer (some ⟨g2,3,none⟩):=hd 28 (by decide)
   clear hd ha
   simp only [Lf,dstAt,Act.put,FR_,e28]
   clear e28
   have m3:=ext_cell hx m3
   go_wp2
   exact q_
  ·intro vals w1 hx hd ha
   have e26 : vals 26 = .int .i64 p6:=hd 26 (by decide)
   have e29 : vals 29 = .int .i64 y3:=hd 29 (by decide)
   clear hd ha
   simp only [Lf,dstAt,Act.put,FR_,e26]
   simp only [e29]
   clear e26 e29
   go_wp2_with fail
   refine (HP7.out _).mono ?_
   rintro e w2 ⟨rfl,rfl⟩
   go_wp2
   exact q_
  ·intro vals w1 hx hd ha
   have e30 : vals 30 = .int .i64 p7:=hd 30 (by decide)
   clear hd ha
   simp only [Lf,dstAt,Act.put,FR_,e30]
   clear e30
   go_wp2
   exact q_
  ·intro vals w1 hx hd ha
   clear hd ha
   simp only [Lf,dstAt,Act.put,FR_]
   go_wp2
   exact q_
  ·intro vals w1 hx hd ha
   have e32 : vals 32 = .pointer (some ⟨g2,3,none⟩):=hd 32 (by decide)
   clear hd ha
   simp only [Lf,dstAt,Act.put,FR_,e32]
   clear e32
   have m3:=ext_cell hx m3
   go_wp2
   exact q_
  ·intro vals w1 hx hd ha
   have e30 : vals 30 = .int .i64 p7:=hd 30 (by decide)
   have e33 : vals 33 = .int .i64 y3:=hd 33 (by decide)
   clear hd ha
   simp only [Lf,dstAt,Act.put,FR_,e30]
   simp only [e33]
   clear e30 e33
   go_wp2_with fail
   refine (HP8.out _).mono ?_
   rintro e w2 ⟨rfl,rfl⟩
   go_wp2
   exact q_
  ·intro vals w1 hx hd ha
   have e34 : vals 34 = .int .i64 p8:=hd 34 (by decide)
   clear hd ha
   simp only [Lf,dstAt,Act.put,FR_,e34]
   clear e34
   go_wp2
   exact q_
  ·intro vals w1 hx hd ha
   clear hd ha
   simp only [Lf,dstAt,Act.put,FR_]
   go_wp2
   exact q_
  ·intro vals w1 hx hd ha
   have e36 : vals 36 = .pointer (some ⟨g2,3,none⟩):=hd 36 (by decide)
   clear hd ha
   simp only [Lf,dstAt,Act.put,FR_,e36]
   clear e36
   have m3:=ext_cell hx m3
   go_wp2
   exact q_
  ·intro vals w1 hx hd ha
   have e34 : vals 34 = .int .i64 p8:=hd 34 (by decide)
   have e37 : vals 37 = .int .i64 y3:=hd 37 (by decide)
   clear hd ha
   simp only [Lf,dstAt,Act.put,FR_,e34]
   simp only [e37]
   clear e34 e37
   go_wp2_with fail
   refine (HP9.out _).mono ?_
   rintro e w2 ⟨rfl,rfl⟩
   go_wp2
   exact q_
  ·intro vals w1 hx hd ha
   have e38 : vals 38 = .int .i64 p9:=hd 38 (by decide)
   clear hd ha
   simp only [Lf,dstAt,Act.put,FR_,e38]
   clear e38
   go_wp2
   exact q_
  ·intro vals w1 hx hd ha
   clear hd ha
   simp only [Lf,dstAt,Act.put,FR_]
   go_wp2
   exact q_
  ·intro vals w1 hx hd ha
   have e40 : vals 40 = .pointer (some ⟨g2,1,none⟩):=hd 40 (by decide)
   clear hd ha
   simp only [Lf,dstAt,Act.put,FR_,e40]
   clear e40
   have m1:=ext_cell hx m1
   go_wp2
   exact q_
  ·intro vals w1 hx hd ha
   have e38 : vals 38 = .int .i64 p9:=hd 38 (by decide)
   have e41 : vals 41 = .int .i64 y1:=hd 41 (by decide)
   clear hd ha
   simp only [Lf,dstAt,Act.put,FR_,e38]
   simp only [e41]
   clear e38 e41
   go_wp2_with fail
   refine (HP10.out _).mono ?_
   rintro e w2 ⟨rfl,rfl⟩
   go_wp2
   exact q_
  ·intro vals w1 hx hd ha
   have e42 : vals 42 = .int .i64 p10:=hd 42 (by decide)
   clear hd ha
   simp only [Lf,dstAt,Act.put,FR_,e42]
   clear e42
   go_wp2
   exact q_
  ·intro vals w1 hx hd ha
   clear hd ha
   simp only [Lf,dstAt,Act.put,FR_]
   go_wp2
   exact q_
  ·intro vals w1 hx hd ha
   have e44 : vals 44 = .pointer (some ⟨g2,0,none⟩):=hd 44 (by decide)
   clear hd ha
   simp only [Lf,dstAt,Act.put,FR_,e44]
   clear e44
   have m0:=ext_cell hx m0
   go_wp2
   exact q_
  ·intro vals w1 hx hd ha
   have e45 : vals 45 = .int .i64 y0:=hd 45 (by decide)
   clear hd ha
   simp only [Lf,dstAt,Act.put,FR_,e45]
   clear e45
   go_wp2
   exact q_
  ·intro vals w1 hx hd ha
   have e42 : vals 42 = .int .i64 p10:=hd 42 (by decide)
   have e46 : vals 46 = .int .i64 yd:=hd 46 (by decide)
   clear hd ha
   simp only [Lf,dstAt,Act.put,FR_,e42]
   simp only [e46]
   clear e42 e46
   go_wp2_with fail
   refine (HP11.out _).mono ?_
   rintro e w2 ⟨rfl,rfl⟩
   go_wp2
   exact q_
  ·intro vals w1 hx hd ha
   clear hd ha
   simp only [Lf,dstAt,Act.put,FR_]
   go_wp2
   exact q_
  ·intro vals w1 hx hd ha
   have e48 : vals 48 = .pointer (some ⟨g2,2,none⟩):=hd 48 (by decide)
   clear hd ha
   simp only [Lf,dstAt,Act.put,FR_,e48]
   clear e48
   have m2:=ext_cell hx m2
   go_wp2
   exact q_
  ·intro vals w1 hx hd ha
   have e47 : vals 47 = .int .i64 p11:=hd 47 (by decide)
   have e49 : vals 49 = .int .i64 y2:=hd 49 (by decide)
   clear hd ha
   simp only [Lf,dstAt,Act.put,FR_,e47]
   simp only [e49]
   clear e47 e49
   go_wp2_with fail
   refine (HP12.out _).mono ?_
   rintro e w2 ⟨rfl,rfl⟩
   go_wp2
   exact q_
  ·intro vals w1 hx hd ha
   have e50 : vals 50 = .int .i64 p12:=hd 50 (by decide)
   clear hd ha
   simp only [Lf,dstAt,Act.put,FR_,e50]
   clear e50
   go_wp2
   exact q_
  ·intro vals w1 hx hd ha
   have e1 : vals 1 = .int .i64 p0:=hd 1 (by decide)
   have e4 : vals 4 = .int .i64 p1:=hd 4 (by decide)
   have e6 : vals 6 = .agg #[.int .i64 o0,.int .i64 o1,.int .i64 o2,.int .i64 o3,.int .i64 o4,.int .i64 o5,.int .i64 o6]:=hd 6 (by decide)
   have e9 : vals 9 = .int .i64 p1:=hd 9 (by decide)
   have e13 : vals 13 = .int .i64 (20 + p2):=hd 13 (by decide)
   have e17 : vals 17 = .int .i64 (100 + p3):=hd 17 (by decide)
   have e20 : vals 20 = .int .i64 p4:=hd 20 (by decide)
   have e23 : vals 23 = .int .i64 p5:=hd 23 (by decide)
   have e27 : vals 27 = .int .i64 (2 + p6):=hd 27 (by decide)
   have e31 : vals 31 = .int .i64 (1 + p7):=hd 31 (by decide)
   have e35 : vals 35 = .int .i64 (1 + p8):=hd 35 (by decide)
   have e39 : vals 39 = .int .i64 (1 + p9):=hd 39 (by decide)
   have e43 : vals 43 = .int .i64 (5 + p10):=hd 43 (by decide)
   have e47 : vals 47 = .int .i64 p11:=hd 47 (by decide)
   have e51 : vals 51 = .int .i64 (1 + p12):=hd 51 (by decide)
   clear hd ha
   simp only [Lf,dstAt,Act.put,FR_,e1]
   simp only [e4]
   simp only [e6]
   simp only [e9]
   simp only [e13]
   simp only [e17]
   simp only [e20]
   simp only [e23]
   simp only [e27]
   simp only [e31]
   simp only [e35]
   simp only [e39]
   simp only [e43]
   simp only [e47]
   simp only [e51]
   clear e1 e4 e6 e9 e13 e17 e20 e23 e27 e31 e35 e39 e43 e47 e51
   go_wp2
   exact ⟨rfl,Ext.refl _,by rw [HSX.out]; rfl⟩
  ·intro vals w1 hx hd ha
   clear hd ha
   simp only [Lf,dstAt,Act.put,FR_]
   have hz:=Below.size hx.undrew
   go_wp2
   exact ⟨rfl,(by repeat (first | exact Below.refl _ _ | assumption | refine Below.drew ?_ | refine below_drewN ?_ _ | refine bl_alloc ?_ _ | refine Below.setCell ?_ (by first | (simp; done) | omega | (simp; omega)) _ | refine bl_then ?_ (by assumption))),_,_,rfl,by omega,rfl,Blk.new _ _ _⟩
 intro vals w3 hx hf
 have e52 : vals 52 = .agg SX:=hf 52 (by omega)
 obtain ⟨g4,Z4,e53,hg4,hZ4,J4⟩ : ∃ g Z,vals 53 = .pointer (some ⟨g,0,none⟩) ∧ W.heap.size ≤ g ∧ Z.size = 21 ∧ Blk w3 g 53 Z:=hf 53 (by omega)
 have hx:=hx.undrew
 have J3:=J3.ext hx
 have hWl:=hB.size
 have hB3:=bl_then hB hx
 have n34 : g3 ≠ g4:=by omega
 clear hf hx J1 J2 k0 k1 k2 k3 k4 k5 k6 m0 m1 m2 m3
 refine tail1 54 _ (by kernel_rfl) (by kernel_rfl) rfl ?_
 simp only [Lf,dstAt,Act.put,FR_]
 rw [e52,e53]
 clear e52 e53
 refine wpList_store_row rfl 53 _ _ rfl g4 SX rfl rfl 53 _ J4 (by rw [HS2.out]; exact sat_size) (by rw [HS2.out]; exact hZ4) HS1.out ?_
 have J3:=J3.rowFar (k:=g4) n34 SX
 have J4:=J4.row SX
 have hB3:=below_setRow hB3 (g:=g4) (by omega) SX
 generalize w3.setRow g4 SX = w4 at J3 J4 hB3 ⊢
 go_wp2_with (first | (refine wpList_load_st rfl _ _ rfl g4 0 rfl SX SX.toList (by simp) _ (Blk.range J4 _ rfl) Tryz.underlying53 rfl (by rw [Array.length_toList,HS2.out]; exact sat_size) ?_) | (refine wpList_store_row rfl 53 _ _ rfl g3 SX rfl rfl 53 _ J3 (by rw [HS2.out]; exact sat_size) (by rw [HS2.out]; rfl) HS1.out ?_))
 have J3:=J3.row SX
 have hB3:=below_setRow hB3 (g:=g3) hl3 SX
 generalize w4.setRow g3 SX = w9 at J3 hB3 ⊢
 exact bodyPost_ret (results_row Tryz.results92 _ _ g3 SX rfl J3 _ Tryz.underlying53 rfl (by rw [HS2.out]; exact sat_size)) rfl ⟨by rw [HSX.out],hB3⟩
end Go.Proofs.YtjidhhfabfnhnaaGreat
