/- The reference: pick, orbits and stations that integers determine (printed by contact_c6.py). -/
import Derived.Test.YtjidhhfabfnhnaaGreatK05
import Derived.Test.YtjidhhfabfnhnaaGreatK04
import Derived.Test.YtjidhhfabfnhnaaGreatK01
namespace Go.Proofs.YtjidhhfabfnhnaaGreat
open Go.RowKit
def pickI (c n : Int) : Int:=(if c < 0 then -(c + 1) else c) % n
theorem pickI_bd (c n : Int) (hn : 0 < n) : 0 ≤ pickI c n ∧ pickI c n < n:=⟨Int.emod_nonneg _ (by omega),Int.emod_lt_of_pos _ hn⟩
def I64ok (n : Int) : Prop:=-9223372036854775808 ≤ n ∧ n ≤ 9223372036854775807
theorem pick9_any (c n : Int) (w : World) (h1 : -9223372036854775808 ≤ c) (h2 : c ≤ 9223372036854775807) (hn : 0 < n) (hn2 : n ≤ 1000000) :
  Calls Tryz.prog 142 #[.int .i64 c,.int .i64 n] w fun e w' => e = .returned (.int .i64 (pickI c n)) ∧ w = w':=by
 have hn0 : ¬ n = 0:=by omega
 have hn1 : (n == 0) = false:=by simp; omega
 by_cases hc : c < 0
 ·have hp : pickI c n = -((c + 1).tmod n):=by unfold pickI; rw [if_pos hc,← Int.tmod_eq_emod_of_nonneg (by omega),Int.neg_tmod]
  have hb:=pickI_bd c n hn
  rw [hp] at hb ⊢
  have hb1:=hb.1
  have hb2:=hb.2
  clear hb hp
  go_enter Tryz.func142,Tryz.ntmps142
  go_wp2
  go_ret
  exact ⟨rfl,rfl⟩
 ·have hp : pickI c n = c % n:=by unfold pickI; rw [if_neg hc]
  have hb:=pickI_bd c n hn
  rw [hp] at hb ⊢
  have hb1:=hb.1
  have hb2:=hb.2
  clear hb hp
  go_enter Tryz.func142,Tryz.ntmps142
  go_wp2
  go_ret
  exact ⟨rfl,rfl⟩
theorem pick7_any (c n : Int) (w : World) (h1 : -9223372036854775808 ≤ c) (h2 : c ≤ 9223372036854775807) (hn : 0 < n) (hn2 : n ≤ 1000000) :
  Calls Tryz.prog 163 #[.int .i64 c,.int .i64 n] w fun e w' => e = .returned (.int .i64 (pickI c n)) ∧ w = w':=by
 have hn0 : ¬ n = 0:=by omega
 have hn1 : (n == 0) = false:=by simp; omega
 by_cases hc : c < 0
 ·have hp : pickI c n = -((c + 1).tmod n):=by unfold pickI; rw [if_pos hc,← Int.tmod_eq_emod_of_nonneg (by omega),Int.neg_tmod]
  have hb:=pickI_bd c n hn
  rw [hp] at hb ⊢
  have hb1:=hb.1
  have hb2:=hb.2
  clear hb hp
  go_enter Tryz.func163,Tryz.ntmps163
  go_wp2
  go_ret
  exact ⟨rfl,rfl⟩
 ·have hp : pickI c n = c % n:=by unfold pickI; rw [if_neg hc]
  have hb:=pickI_bd c n hn
  rw [hp] at hb ⊢
  have hb1:=hb.1
  have hb2:=hb.2
  clear hb hp
  go_enter Tryz.func163,Tryz.ntmps163
  go_wp2
  go_ret
  exact ⟨rfl,rfl⟩
theorem Blk.row {w : World} {g : Nat} {t : TypeId} {cs : Array Value} (h : Blk w g t cs) (X : Array Value) : Blk (w.setRow g X) g t X:=setRow_heap w g cs X t (0,0) h
theorem Blk.rowFar {w : World} {g k : Nat} {t : TypeId} {cs : Array Value} (h : Blk w g t cs) (hk : g ≠ k) (X : Array Value) : Blk (w.setRow k X) g t cs:=(setRow_other w k g X hk).trans h
theorem below_setRow {B : Nat} {a w : World} (h : Below B a w) {g : Nat} (hg : B ≤ g) (X : Array Value) : Below B a (w.setRow g X) :=
 ⟨h.os,h.tape,h.output,by simpa [World.setRow] using h.size,fun k hk => (setRow_other w g k X (by omega)).trans (h.block k hk)⟩
theorem orb_size : (Tryz.prog.info? 51).map (·.size) = some 7:=by kernel_rfl
def madeO (x0 x1 x2 x3 x4 x5 x6 : Int) : Orb:=⟨2 * (10 + pickI x0 90),pickI x1 (2 * (10 + pickI x0 90)),pickI x2 10000,pickI x2 10000 + 4000 + pickI x3 10000,pickI x4 48000,pickI x5 1601 - 800,pickI x6 4⟩
set_option maxHeartbeats 2000000 in
set_option maxRecDepth 100000 in
theorem made_any (x0 x1 x2 x3 x4 x5 x6 : Int) (w : World) (bx0 : I64ok x0) (bx1 : I64ok x1) (bx2 : I64ok x2) (bx3 : I64ok x3) (bx4 : I64ok x4) (bx5 : I64ok x5) (bx6 : I64ok x6) :
  Calls Tryz.prog 143 #[.agg #[.int .i64 x0,.int .i64 x1,.int .i64 x2,.int .i64 x3,.int .i64 x4,.int .i64 x5,.int .i64 x6]] w fun e w' => e = .returned (orbV (madeO x0 x1 x2 x3 x4 x5 x6)) ∧ Below w.heap.size w w':=by
 unfold madeO orbV
 dsimp only [I64]
 have P0:=fun w => pick7_any x0 90 w bx0.1 bx0.2 (by omega) (by omega)
 have q0:=pickI_bd x0 90 (by omega)
 generalize pickI x0 90 = p0 at P0 q0 ⊢
 obtain ⟨q0a,q0b⟩:=q0
 have HP0:=Lib.hid P0
 clear P0
 obtain ⟨pe,hpe⟩ : ∃ p,p = 2 * (10 + p0):=⟨_,rfl⟩
 rw [← hpe]
 have hpe1 : 20 ≤ pe ∧ pe ≤ 200:=by omega
 obtain ⟨hpe1,hpe2⟩:=hpe1
 have P1:=fun w => pick7_any x1 pe w bx1.1 bx1.2 (by omega) (by omega)
 have q1:=pickI_bd x1 pe (by omega)
 generalize pickI x1 pe = p1 at P1 q1 ⊢
 obtain ⟨q1a,q1b⟩:=q1
 have HP1:=Lib.hid P1
 clear P1
 have P2:=fun w => pick7_any x2 10000 w bx2.1 bx2.2 (by omega) (by omega)
 have q2:=pickI_bd x2 10000 (by omega)
 generalize pickI x2 10000 = p2 at P2 q2 ⊢
 obtain ⟨q2a,q2b⟩:=q2
 have HP2:=Lib.hid P2
 clear P2
 have P3:=fun w => pick7_any x3 10000 w bx3.1 bx3.2 (by omega) (by omega)
 have q3:=pickI_bd x3 10000 (by omega)
 generalize pickI x3 10000 = p3 at P3 q3 ⊢
 obtain ⟨q3a,q3b⟩:=q3
 have HP3:=Lib.hid P3
 clear P3
 have P4:=fun w => pick7_any x4 48000 w bx4.1 bx4.2 (by omega) (by omega)
 have q4:=pickI_bd x4 48000 (by omega)
 generalize pickI x4 48000 = p4 at P4 q4 ⊢
 obtain ⟨q4a,q4b⟩:=q4
 have HP4:=Lib.hid P4
 clear P4
 have P5:=fun w => pick7_any x5 1601 w bx5.1 bx5.2 (by omega) (by omega)
 have q5:=pickI_bd x5 1601 (by omega)
 generalize pickI x5 1601 = p5 at P5 q5 ⊢
 obtain ⟨q5a,q5b⟩:=q5
 have HP5:=Lib.hid P5
 clear P5
 have P6:=fun w => pick7_any x6 4 w bx6.1 bx6.2 (by omega) (by omega)
 have q6:=pickI_bd x6 4 (by omega)
 generalize pickI x6 4 = p6 at P6 q6 ⊢
 obtain ⟨q6a,q6b⟩:=q6
 have HP6:=Lib.hid P6
 clear P6
 have w1 : IntKind.i64.wrap (10 + p0) = 10 + p0:=IntWalk.i64_in _ (by omega)
 have w2 : IntKind.i64.wrap (2 * (10 + p0)) = pe:=by rw [← hpe]; exact IntWalk.i64_in _ (by omega)
 have w3 : IntKind.i64.wrap (p5 - 800) = p5 - 800:=IntWalk.i64_in _ (by omega)
 have HPE:=Lib.hid hpe
 clear hpe
 go_enter Tryz.func143,Tryz.ntmps143
 go_upto_region 1 with (fail)
 obtain ⟨g1,hg1⟩ : ∃ g,g = w.heap.size:=⟨_,rfl⟩
 obtain ⟨g2,hg2⟩ : ∃ g,g = w.heap.size + 1:=⟨_,rfl⟩
 have J1 : Blk ((w.alloc (.cells #[.int .i64 x0,.int .i64 x1,.int .i64 x2,.int .i64 x3,.int .i64 x4,.int .i64 x5,.int .i64 x6] 153)).alloc (.cells #[.int .i64 0,.int .i64 0,.int .i64 0,.int .i64 0,.int .i64 0,.int .i64 0,.int .i64 0] 51)) g1 153 #[.int .i64 x0,.int .i64 x1,.int .i64 x2,.int .i64 x3,.int .i64 x4,.int .i64 x5,.int .i64 x6]:=(Blk.new_at _ _ _ hg1.symm).alloc _
 have J2 : Blk ((w.alloc (.cells #[.int .i64 x0,.int .i64 x1,.int .i64 x2,.int .i64 x3,.int .i64 x4,.int .i64 x5,.int .i64 x6] 153)).alloc (.cells #[.int .i64 0,.int .i64 0,.int .i64 0,.int .i64 0,.int .i64 0,.int .i64 0,.int .i64 0] 51)) g2 51 #[.int .i64 0,.int .i64 0,.int .i64 0,.int .i64 0,.int .i64 0,.int .i64 0,.int .i64 0]:=Blk.new_at _ _ _ (by simp [hg2])
 have hB : Below w.heap.size w ((w.alloc (.cells #[.int .i64 x0,.int .i64 x1,.int .i64 x2,.int .i64 x3,.int .i64 x4,.int .i64 x5,.int .i64 x6] 153)).alloc (.cells #[.int .i64 0,.int .i64 0,.int .i64 0,.int .i64 0,.int .i64 0,.int .i64 0,.int .i64 0] 51)):=(by repeat (first | exact Below.refl _ _ | assumption | refine Below.drew ?_ | refine below_drewN ?_ _ | refine bl_alloc ?_ _ | refine Below.setCell ?_ (by first | (simp; done) | omega | (simp; omega)) _ | refine bl_then ?_ (by assumption)))
 have hl2 : w.heap.size ≤ g2:=by omega
 rw [← hg2,← hg1]
 generalize (w.alloc (.cells #[.int .i64 x0,.int .i64 x1,.int .i64 x2,.int .i64 x3,.int .i64 x4,.int .i64 x5,.int .i64 x6] 153)).alloc (.cells #[.int .i64 0,.int .i64 0,.int .i64 0,.int .i64 0,.int .i64 0,.int .i64 0,.int .i64 0] 51) = W at J1 J2 hB ⊢
 clear hg1 hg2
 have k0 : W.cell? ⟨g1,0,none⟩ = some (.int .i64 x0):=J1.cell 0
 have k1 : W.cell? ⟨g1,1,none⟩ = some (.int .i64 x1):=J1.cell 1
 have k2 : W.cell? ⟨g1,2,none⟩ = some (.int .i64 x2):=J1.cell 2
 have k3 : W.cell? ⟨g1,3,none⟩ = some (.int .i64 x3):=J1.cell 3
 have k4 : W.cell? ⟨g1,4,none⟩ = some (.int .i64 x4):=J1.cell 4
 have k5 : W.cell? ⟨g1,5,none⟩ = some (.int .i64 x5):=J1.cell 5
 have k6 : W.cell? ⟨g1,6,none⟩ = some (.int .i64 x6):=J1.cell 6
 refine wp_region_obl 20 (fun ix vals v w1 => match ix with | 0 => v = .pointer (some ⟨g1,0,none⟩) | 1 => v = .int .i64 x0 | 2 => v = .int .i64 p0 | 3 => v = .int .i64 (10 + p0) | 4 => v = .int .i64 pe | 5 => v = .pointer (some ⟨g1,2,none⟩) | 6 => v = .int .i64 x2 | 7 => v = .int .i64 p2 | 8 => v = .pointer (some ⟨g1,4,none⟩) | 9 => v = .int .i64 x4 | 10 => v = .int .i64 p4 | 11 => v = .pointer (some ⟨g1,5,none⟩) | 12 => v = .int .i64 x5 | 13 => v = .int .i64 p5 | 14 => v = .int .i64 (p5 - 800) | 15 => v = .pointer (some ⟨g1,6,none⟩) | 16 => v = .int .i64 x6 | 17 => v = .int .i64 p6 | 18 => v = .agg #[.int .i64 pe,.int .i64 0,.int .i64 p2,.int .i64 0,.int .i64 p4,.int .i64 (p5 - 800),.int .i64 p6] | _ => ∃ g,v = .pointer (some ⟨g,0,none⟩) ∧ W.heap.size ≤ g ∧ Blk w1 g 51 #[.int .i64 0,.int .i64 0,.int .i64 0,.int .i64 0,.int .i64 0,.int .i64 0,.int .i64 0]) (by kernel_rfl) (by kernel_rfl) ?_ ?_ ?_ ?_
 ·intro ix vals v w1 w2 hi hr hx
  match ix,hr with
  | 0,hr => exact hr
  | 1,hr => exact hr
  | 2,hr => exact hr
  | 3,hr => exact hr
  | 4,hr => exact hr
  | 5,hr => exact hr
  | 6,hr => exact hr
  | 7,hr => exact hr
  | 8,hr => exact hr
  | 9,hr => exact hr
  | 10,hr => exact hr
  | 11,hr => exact hr
  | 12,hr => exact hr
  | 13,hr => exact hr
  | 14,hr => exact hr
  | 15,hr => exact hr
  | 16,hr => exact hr
  | 17,hr => exact hr
  | 18,hr => exact hr
  | (kx + 19),hr => obtain ⟨g,h1,h2,h3⟩:=hr; exact ⟨g,h1,h2,h3.ext hx⟩
 ·intro ix vals vals_ v w1 hi hv hr
  exact hr
 ·refine ⟨?_,?_,?_,?_,?_,?_,?_,?_,?_,?_,?_,?_,?_,?_,?_,?_,?_,?_,?_,?_,trivial⟩
  ·intro vals w1 hx hd ha
   clear hd ha
   simp only [Lf]
   go_wp2
   exact q_
  ·intro vals w1 hx hd ha
   have e0 : vals 0 = .pointer (some ⟨g1,0,none⟩):=hd 0 (by decide)
   clear hd ha
   simp only [Lf,dstAt,Act.put,FR_,e0]
   clear e0
   have k0:=ext_cell hx k0
   go_wp2
   exact q_
  ·intro vals w1 hx hd ha
   have e1 : vals 1 = .int .i64 x0:=hd 1 (by decide)
   clear hd ha
   simp only [Lf,dstAt,Act.put,FR_,e1]
   clear e1
   go_wp2_with fail
   refine (HP0.out _).mono ?_
   rintro e w2 ⟨rfl,rfl⟩
   go_wp2
   exact q_
  ·intro vals w1 hx hd ha
   have e2 : vals 2 = .int .i64 p0:=hd 2 (by decide)
   clear hd ha
   simp only [Lf,dstAt,Act.put,FR_,e2]
   clear e2
   go_wp2
   exact q_
  ·intro vals w1 hx hd ha
   have e3 : vals 3 = .int .i64 (10 + p0):=hd 3 (by decide)
   clear hd ha
   simp only [Lf,dstAt,Act.put,FR_,e3]
   clear e3
   go_wp2
   exact q_
  ·intro vals w1 hx hd ha
   clear hd ha
   simp only [Lf,dstAt,Act.put,FR_]
   go_wp2
   exact q_
  ·intro vals w1 hx hd ha
   have e5 : vals 5 = .pointer (some ⟨g1,2,none⟩):=hd 5 (by decide)
   clear hd ha
   simp only [Lf,dstAt,Act.put,FR_,e5]
   clear e5
   have k2:=ext_cell hx k2
   go_wp2
   exact q_
  ·intro vals w1 hx hd ha
   have e2 : vals 2 = .int .i64 p0:=hd 2 (by decide)
   have e6 : vals 6 = .int .i64 x2:=hd 6 (by decide)
   clear hd ha
   simp only [Lf,dstAt,Act.put,FR_,e2]
   simp only [e6]
   clear e2 e6
   go_wp2_with fail
   refine (HP2.out _).mono ?_
   rintro e w2 ⟨rfl,rfl⟩
   go_wp2
   exact q_
  ·intro vals w1 hx hd ha
   clear hd ha
   simp only [Lf,dstAt,Act.put,FR_]
   go_wp2
   exact q_
  ·intro vals w1 hx hd ha
   have e8 : vals 8 = .pointer (some ⟨g1,4,none⟩):=hd 8 (by decide)
   clear hd ha
   simp only [Lf,dstAt,Act.put,FR_,e8]
   clear e8
   have k4:=ext_cell hx k4
   go_wp2
   exact q_
  ·intro vals w1 hx hd ha
   have e7 : vals 7 = .int .i64 p2:=hd 7 (by decide)
   have e9 : vals 9 = .int .i64 x4:=hd 9 (by decide)
   clear hd ha
   simp only [Lf,dstAt,Act.put,FR_,e7]
   simp only [e9]
   clear e7 e9
   go_wp2_with fail
   refine (HP4.out _).mono ?_
   rintro e w2 ⟨rfl,rfl⟩
   go_wp2
   exact q_
  ·intro vals w1 hx hd ha
   clear hd ha
   simp only [Lf,dstAt,Act.put,FR_]
   go_wp2
   exact q_
  ·intro vals w1 hx hd ha
   have e11 : vals 11 = .pointer (some ⟨g1,5,none⟩):=hd 11 (by decide)
   clear hd ha
   simp only [Lf,dstAt,Act.put,FR_,e11]
   clear e11
   have k5:=ext_cell hx k5
   go_wp2
   exact q_
  ·intro vals w1 hx hd ha
   have e10 : vals 10 = .int .i64 p4:=hd 10 (by decide)
   have e12 : vals 12 = .int .i64 x5:=hd 12 (by decide)
   clear hd ha
   simp only [Lf,dstAt,Act.put,FR_,e10]
   simp only [e12]
   clear e10 e12
   go_wp2_with fail
   refine (HP5.out _).mono ?_
   rintro e w2 ⟨rfl,rfl⟩
   go_wp2
   exact q_
  ·intro vals w1 hx hd ha
   have e13 : vals 13 = .int .i64 p5:=hd 13 (by decide)
   clear hd ha
   simp only [Lf,dstAt,Act.put,FR_,e13]
   clear e13
   go_wp2
   exact q_
  ·intro vals w1 hx hd ha
   clear hd ha
   simp only [Lf,dstAt,Act.put,FR_]
   go_wp2
   exact q_
  ·intro vals w1 hx hd ha
   have e15 : vals 15 = .pointer (some ⟨g1,6,none⟩):=hd 15 (by decide)
   clear hd ha
   simp only [Lf,dstAt,Act.put,FR_,e15]
   clear e15
   have k6:=ext_cell hx k6
   go_wp2
   exact q_
  ·intro vals w1 hx hd ha
   have e13 : vals 13 = .int .i64 p5:=hd 13 (by decide)
   have e16 : vals 16 = .int .i64 x6:=hd 16 (by decide)
   clear hd ha
   simp only [Lf,dstAt,Act.put,FR_,e13]
   simp only [e16]
   clear e13 e16
   go_wp2_with fail
   refine (HP6.out _).mono ?_
   rintro e w2 ⟨rfl,rfl⟩
   go_wp2
   exact q_
  ·intro vals w1 hx hd ha
   have e4 : vals 4 = .int .i64 pe:=hd 4 (by decide)
   have e7 : vals 7 = .int .i64 p2:=hd 7 (by decide)
   have e10 : vals 10 = .int .i64 p4:=hd 10 (by decide)
   have e14 : vals 14 = .int .i64 (p5 - 800):=hd 14 (by decide)
   have e17 : vals 17 = .int .i64 p6:=hd 17 (by decide)
   clear hd ha
   simp only [Lf,dstAt,Act.put,FR_,e4,e7,e10,e14,e17]
   clear e4 e7 e10 e14 e17
   go_wp2
   exact q_
  ·intro vals w1 hx hd ha
   clear hd ha
   simp only [Lf,dstAt,Act.put,FR_]
   have hz:=Below.size hx.undrew
   go_wp2
   exact ⟨rfl,(by repeat (first | exact Below.refl _ _ | assumption | refine Below.drew ?_ | refine below_drewN ?_ _ | refine bl_alloc ?_ _ | refine Below.setCell ?_ (by first | (simp; done) | omega | (simp; omega)) _ | refine bl_then ?_ (by assumption))),_,rfl,by omega,Blk.new _ _ _⟩
 have hl2W : g2 < W.heap.size:=J2.lt
 intro vals w3 hx hf
 have e18 : vals 18 = .agg #[.int .i64 pe,.int .i64 0,.int .i64 p2,.int .i64 0,.int .i64 p4,.int .i64 (p5 - 800),.int .i64 p6]:=hf 18 (by omega)
 obtain ⟨g3,e19,hg3,J3⟩ : ∃ g,vals 19 = .pointer (some ⟨g,0,none⟩) ∧ W.heap.size ≤ g ∧ Blk w3 g 51 #[.int .i64 0,.int .i64 0,.int .i64 0,.int .i64 0,.int .i64 0,.int .i64 0,.int .i64 0]:=hf 19 (by omega)
 have hx:=hx.undrew
 have J1:=J1.ext hx
 have J2:=J2.ext hx
 have hWl:=hB.size
 have n23 : g2 ≠ g3:=by omega
 have hB3:=bl_then hB hx
 clear hf hx k0 k1 k2 k3 k4 k5 k6
 refine tail1 20 _ (by kernel_rfl) (by kernel_rfl) rfl ?_
 simp only [Lf,dstAt,Act.put,FR_]
 rw [e18,e19]
 clear e18 e19
 refine wpList_store_row rfl 51 _ _ rfl g3 #[.int .i64 pe,.int .i64 0,.int .i64 p2,.int .i64 0,.int .i64 p4,.int .i64 (p5 - 800),.int .i64 p6] rfl rfl 51 _ J3 orb_size rfl (by simp [Value.oneCell']) ?_
 have J1:=J1.rowFar (k:=g3) (Blk.ne_ J1 J3 (by decide)) #[.int .i64 pe,.int .i64 0,.int .i64 p2,.int .i64 0,.int .i64 p4,.int .i64 (p5 - 800),.int .i64 p6]
 have J2:=J2.rowFar (k:=g3) n23 #[.int .i64 pe,.int .i64 0,.int .i64 p2,.int .i64 0,.int .i64 p4,.int .i64 (p5 - 800),.int .i64 p6]
 have J3:=J3.row #[.int .i64 pe,.int .i64 0,.int .i64 p2,.int .i64 0,.int .i64 p4,.int .i64 (p5 - 800),.int .i64 p6]
 have hB3:=below_setRow hB3 (g:=g3) (by omega) #[.int .i64 pe,.int .i64 0,.int .i64 p2,.int .i64 0,.int .i64 p4,.int .i64 (p5 - 800),.int .i64 p6]
 generalize w3.setRow g3 #[.int .i64 pe,.int .i64 0,.int .i64 p2,.int .i64 0,.int .i64 p4,.int .i64 (p5 - 800),.int .i64 p6] = w4 at J1 J2 J3 hB3 ⊢
 have k1 : w4.cell? ⟨g1,1,none⟩ = some (.int .i64 x1):=J1.cell 1
 have k3 : w4.cell? ⟨g1,3,none⟩ = some (.int .i64 x3):=J1.cell 3
 have o0 : w4.cell? ⟨g3,0,none⟩ = some (.int .i64 pe):=J3.cell 0
 have o1 : w4.cell? ⟨g3,1,none⟩ = some (.int .i64 0):=J3.cell 1
 have f1 : w4.frozen? ⟨g3,1,none⟩ = false:=J3.frozen 1
 go_wp2_with fail
 refine (HP1.out _).mono ?_
 rintro e w5 ⟨rfl,rfl⟩
 go_wp2
 clear k1 k3 o0 o1 f1
 have J1:=J1.far (p:=⟨g3,1,none⟩) (Blk.ne_ J1 J3 (by decide)) (.int .i64 p1)
 have J3:=J3.set_ 1 (.int .i64 p1)
 have J2:=J2.far (p:=⟨g3,1,none⟩) n23 (.int .i64 p1)
 have hB3:=hB3.setCell (p:=⟨g3,1,none⟩) (by show w.heap.size ≤ g3; omega) (.int .i64 p1)
 simp only [List.setIfInBounds_toArray,List.set_cons_zero,List.set_cons_succ] at J3
 generalize w4.setCell ⟨g3,1,none⟩ (.int .i64 p1) = w6 at J1 J2 J3 hB3 ⊢
 have k3 : w6.cell? ⟨g1,3,none⟩ = some (.int .i64 x3):=J1.cell 3
 have o2 : w6.cell? ⟨g3,2,none⟩ = some (.int .i64 p2):=J3.cell 2
 have w4_ : IntKind.i64.wrap (p2 + 4000) = p2 + 4000:=IntWalk.i64_in _ (by omega)
 have w5_ : IntKind.i64.wrap (p2 + 4000 + p3) = p2 + 4000 + p3:=IntWalk.i64_in _ (by omega)
 refine wp_region_obl 8 (fun ix vals v w1 => match ix with | 0 => v = .pointer (some ⟨g3,2,none⟩) | 1 => v = .int .i64 p2 | 2 => v = .int .i64 (p2 + 4000) | 3 => v = .pointer (some ⟨g1,3,none⟩) | 4 => v = .int .i64 x3 | 5 => v = .int .i64 p3 | 6 => v = .int .i64 (p2 + 4000 + p3) | _ => v = .pointer (some ⟨g3,3,none⟩)) (by kernel_rfl) (by kernel_rfl) ?_ ?_ ?_ ?_
 ·intro ix vals v w1 w2 hi hr hx; exact hr
 ·intro ix vals vals_ v w1 hi hv hr
  exact hr
 ·refine ⟨?_,?_,?_,?_,?_,?_,?_,?_,trivial⟩
  ·intro vals w1 hx hd ha
   clear hd ha
   simp only [Lf]
   go_wp2
   exact q_
  ·intro vals w1 hx hd ha
   have e0 : vals 0 = .pointer (some ⟨g3,2,none⟩):=hd 0 (by decide)
   clear hd ha
   simp only [Lf,dstAt,Act.put,FR_,e0]
   clear e0
   have o2:=ext_cell hx o2
   go_wp2
   exact q_
  ·intro vals w1 hx hd ha
   have e1 : vals 1 = .int .i64 p2:=hd 1 (by decide)
   clear hd ha
   simp only [Lf,dstAt,Act.put,FR_,e1]
   clear e1
   go_wp2
   exact q_
  ·intro vals w1 hx hd ha
   clear hd ha
   simp only [Lf,dstAt,Act.put,FR_]
   go_wp2
   exact q_
  ·intro vals w1 hx hd ha
   have e3 : vals 3 = .pointer (some ⟨g1,3,none⟩):=hd 3 (by decide)
   clear hd ha
   simp only [Lf,dstAt,Act.put,FR_,e3]
   clear e3
   have k3:=ext_cell hx k3
   go_wp2
   exact q_
  ·intro vals w1 hx hd ha
   have e4 : vals 4 = .int .i64 x3:=hd 4 (by decide)
   clear hd ha
   simp only [Lf,dstAt,Act.put,FR_,e4]
   clear e4
   go_wp2_with fail
   refine (HP3.out _).mono ?_
   rintro e w2 ⟨rfl,rfl⟩
   go_wp2
   exact q_
  ·intro vals w1 hx hd ha
   have e2 : vals 2 = .int .i64 (p2 + 4000):=hd 2 (by decide)
   have e5 : vals 5 = .int .i64 p3:=hd 5 (by decide)
   clear hd ha
   simp only [Lf,dstAt,Act.put,FR_,e2,e5]
   clear e2 e5
   go_wp2
   exact q_
  ·intro vals w1 hx hd ha
   have e0 : vals 0 = .pointer (some ⟨g3,2,none⟩):=hd 0 (by decide)
   have e1 : vals 1 = .int .i64 p2:=hd 1 (by decide)
   have e2 : vals 2 = .int .i64 (p2 + 4000):=hd 2 (by decide)
   have e3 : vals 3 = .pointer (some ⟨g1,3,none⟩):=hd 3 (by decide)
   have e4 : vals 4 = .int .i64 x3:=hd 4 (by decide)
   have e5 : vals 5 = .int .i64 p3:=hd 5 (by decide)
   have e6 : vals 6 = .int .i64 (p2 + 4000 + p3):=hd 6 (by decide)
   clear hd ha
   simp only [Lf,dstAt,Act.put,FR_,e0,e1,e2,e3,e4,e5,e6]
   clear e0 e1 e2 e3 e4 e5 e6
   go_wp2
   exact q_
 intro vals w7 hx hf
 have e6 : vals 6 = .int .i64 (p2 + 4000 + p3):=hf 6 (by omega)
 have e7 : vals 7 = .pointer (some ⟨g3,3,none⟩):=hf 7 (by omega)
 have hx:=hx.undrew
 have J2:=J2.ext hx
 have J3:=J3.ext hx
 have hB3:=bl_then hB3 hx
 clear hf hx k3 o2 J1
 refine tail1 8 _ (by kernel_rfl) (by kernel_rfl) rfl ?_
 simp only [Lf,dstAt,Act.put,FR_]
 rw [e6,e7]
 clear e6 e7
 have f3 : w7.frozen? ⟨g3,3,none⟩ = false:=J3.frozen 3
 have o3 : w7.cell? ⟨g3,3,none⟩ = some (.int .i64 0):=J3.cell 3
 go_upto_region 4 with (fail)
 clear f3 o3
 have J3:=J3.set_ 3 (.int .i64 (p2 + 4000 + p3))
 have J2:=J2.far (p:=⟨g3,3,none⟩) n23 (.int .i64 (p2 + 4000 + p3))
 have hB3:=hB3.setCell (p:=⟨g3,3,none⟩) (by show w.heap.size ≤ g3; omega) (.int .i64 (p2 + 4000 + p3))
 simp only [List.setIfInBounds_toArray,List.set_cons_zero,List.set_cons_succ] at J3
 generalize w7.setCell ⟨g3,3,none⟩ (.int .i64 (p2 + 4000 + p3)) = w8 at J2 J3 hB3 ⊢
 go_wp2_with (first | (refine wpList_load_st rfl _ _ rfl g3 0 rfl #[.int .i64 pe,.int .i64 p1,.int .i64 p2,.int .i64 (p2 + 4000 + p3),.int .i64 p4,.int .i64 (p5 - 800),.int .i64 p6] [.int .i64 pe,.int .i64 p1,.int .i64 p2,.int .i64 (p2 + 4000 + p3),.int .i64 p4,.int .i64 (p5 - 800),.int .i64 p6] rfl _ (Blk.range J3 _ rfl) Tryz.underlying51 rfl orb_size ?_) | (refine wpList_store_row rfl 51 _ _ rfl g2 #[.int .i64 pe,.int .i64 p1,.int .i64 p2,.int .i64 (p2 + 4000 + p3),.int .i64 p4,.int .i64 (p5 - 800),.int .i64 p6] rfl rfl 51 _ J2 orb_size rfl (by simp [Value.oneCell']) ?_))
 have J2:=J2.row #[.int .i64 pe,.int .i64 p1,.int .i64 p2,.int .i64 (p2 + 4000 + p3),.int .i64 p4,.int .i64 (p5 - 800),.int .i64 p6]
 have hB3:=below_setRow hB3 (g:=g2) hl2 #[.int .i64 pe,.int .i64 p1,.int .i64 p2,.int .i64 (p2 + 4000 + p3),.int .i64 p4,.int .i64 (p5 - 800),.int .i64 p6]
 generalize w8.setRow g2 #[.int .i64 pe,.int .i64 p1,.int .i64 p2,.int .i64 (p2 + 4000 + p3),.int .i64 p4,.int .i64 (p5 - 800),.int .i64 p6] = w9 at J2 hB3 ⊢
 have c0:=J2.cell 0
 have c1:=J2.cell 1
 have c2:=J2.cell 2
 have c3:=J2.cell 3
 have c4:=J2.cell 4
 have c5:=J2.cell 5
 have c6:=J2.cell 6
 exact bodyPost_ret (v:=.agg #[.int .i64 pe,.int .i64 p1,.int .i64 p2,.int .i64 (p2 + 4000 + p3),.int .i64 p4,.int .i64 (p5 - 800),.int .i64 p6]) (by simp [results,Tryz.results143,go_sem,c0,c1,c2,c3,c4,c5,c6]) rfl ⟨rfl,hB3⟩
def stnP (id x0 x1 x2 x3 : Int) : Stn:=⟨pickI id 12,⟨pickI x0 48,pickI x1 24⟩,pickI x2 5,1 + pickI x3 2,pickI (x3.tdiv 2) 9⟩
theorem tdiv_ok {x n : Int} (h : I64ok x) (hn : 1 < n) : I64ok (x.tdiv n) ∧ IntKind.i64.wrap (x.tdiv n) = x.tdiv n:=by
 have h1 : I64ok (x.tdiv n):=by
  obtain ⟨h1,h2⟩:=h
  have:=Int.natAbs_tdiv_le_natAbs x n
  have : (x.tdiv n).natAbs ≤ x.natAbs:=this
  by_cases hx : x.natAbs = 9223372036854775808
  ·have e : (x.tdiv n).natAbs = x.natAbs / n.natAbs:=Int.natAbs_tdiv x n
   have : x.natAbs / n.natAbs ≤ x.natAbs / 2:=Nat.div_le_div_left (by omega) (by omega)
   unfold I64ok
   omega
  ·unfold I64ok
   omega
 exact ⟨h1,IntWalk.i64_in _ (by unfold I64ok at h1; omega)⟩
theorem stn_size_ : (Tryz.prog.info? 71).map (·.size) = some 6:=by kernel_rfl
set_option maxHeartbeats 2000000 in
set_option maxRecDepth 100000 in
theorem station_any (id x0 x1 x2 x3 : Int) (w : World) (bid : I64ok id) (bx0 : I64ok x0) (bx1 : I64ok x1) (bx2 : I64ok x2) (bx3 : I64ok x3) :
  Calls Tryz.prog 93 #[.int .i64 id,.agg #[.int .i64 x0,.int .i64 x1,.int .i64 x2,.int .i64 x3]] w fun e w' => e = .returned (.agg (stnCells (stnP id x0 x1 x2 x3)).toArray) ∧ Below w.heap.size w w':=by
 unfold stnP stnCells
 dsimp only
 obtain ⟨bxd,hwd⟩:=tdiv_ok bx3 (n:=2) (by omega)
 obtain ⟨xd,hxd⟩ : ∃ y,y = x3.tdiv 2:=⟨_,rfl⟩
 rw [← hxd] at bxd hwd ⊢
 have P0:=fun w => pick9_any id 12 w bid.1 bid.2 (by omega) (by omega)
 have q0:=pickI_bd id 12 (by omega)
 generalize pickI id 12 = p0 at P0 q0 ⊢
 obtain ⟨q0a,q0b⟩:=q0
 have HP0:=Lib.hid P0
 clear P0
 have P1:=fun w => pick9_any x0 48 w bx0.1 bx0.2 (by omega) (by omega)
 have q1:=pickI_bd x0 48 (by omega)
 generalize pickI x0 48 = p1 at P1 q1 ⊢
 obtain ⟨q1a,q1b⟩:=q1
 have HP1:=Lib.hid P1
 clear P1
 have P2:=fun w => pick9_any x1 24 w bx1.1 bx1.2 (by omega) (by omega)
 have q2:=pickI_bd x1 24 (by omega)
 generalize pickI x1 24 = p2 at P2 q2 ⊢
 obtain ⟨q2a,q2b⟩:=q2
 have HP2:=Lib.hid P2
 clear P2
 have P3:=fun w => pick9_any x2 5 w bx2.1 bx2.2 (by omega) (by omega)
 have q3:=pickI_bd x2 5 (by omega)
 generalize pickI x2 5 = p3 at P3 q3 ⊢
 obtain ⟨q3a,q3b⟩:=q3
 have HP3:=Lib.hid P3
 clear P3
 have P4:=fun w => pick9_any x3 2 w bx3.1 bx3.2 (by omega) (by omega)
 have q4:=pickI_bd x3 2 (by omega)
 generalize pickI x3 2 = p4 at P4 q4 ⊢
 obtain ⟨q4a,q4b⟩:=q4
 have HP4:=Lib.hid P4
 clear P4
 have P5:=fun w => pick9_any xd 9 w bxd.1 bxd.2 (by omega) (by omega)
 have q5:=pickI_bd xd 9 (by omega)
 generalize pickI xd 9 = p5 at P5 q5 ⊢
 obtain ⟨q5a,q5b⟩:=q5
 have HP5:=Lib.hid P5
 clear P5
 have w1 : IntKind.i64.wrap (1 + p4) = 1 + p4:=IntWalk.i64_in _ (by omega)
 have hq : IntKind.i64.wrap (x3.tdiv 2) = xd:=by rw [← hxd]; exact hwd
 clear hwd
 have HXD:=Lib.hid hxd
 clear hxd
 go_enter Tryz.func93,Tryz.ntmps93
 go_upto_region 1 with (fail)
 obtain ⟨g1,hg1⟩ : ∃ g,g = w.heap.size:=⟨_,rfl⟩
 obtain ⟨g2,hg2⟩ : ∃ g,g = w.heap.size + 1:=⟨_,rfl⟩
 have J1 : Blk ((w.alloc (.cells #[.int .i64 x0,.int .i64 x1,.int .i64 x2,.int .i64 x3] 151)).alloc (.cells #[.int .i64 0,.int .i64 0,.int .i64 0,.int .i64 0,.int .i64 0,.int .i64 0] 71)) g1 151 #[.int .i64 x0,.int .i64 x1,.int .i64 x2,.int .i64 x3]:=(Blk.new_at _ _ _ hg1.symm).alloc _
 have J2 : Blk ((w.alloc (.cells #[.int .i64 x0,.int .i64 x1,.int .i64 x2,.int .i64 x3] 151)).alloc (.cells #[.int .i64 0,.int .i64 0,.int .i64 0,.int .i64 0,.int .i64 0,.int .i64 0] 71)) g2 71 #[.int .i64 0,.int .i64 0,.int .i64 0,.int .i64 0,.int .i64 0,.int .i64 0]:=Blk.new_at _ _ _ (by simp [hg2])
 have hB : Below w.heap.size w ((w.alloc (.cells #[.int .i64 x0,.int .i64 x1,.int .i64 x2,.int .i64 x3] 151)).alloc (.cells #[.int .i64 0,.int .i64 0,.int .i64 0,.int .i64 0,.int .i64 0,.int .i64 0] 71)):=(by repeat (first | exact Below.refl _ _ | assumption | refine Below.drew ?_ | refine below_drewN ?_ _ | refine bl_alloc ?_ _ | refine Below.setCell ?_ (by first | (simp; done) | omega | (simp; omega)) _ | refine bl_then ?_ (by assumption)))
 have hl2 : w.heap.size ≤ g2:=by omega
 rw [← hg2,← hg1]
 generalize (w.alloc (.cells #[.int .i64 x0,.int .i64 x1,.int .i64 x2,.int .i64 x3] 151)).alloc (.cells #[.int .i64 0,.int .i64 0,.int .i64 0,.int .i64 0,.int .i64 0,.int .i64 0] 71) = W at J1 J2 hB ⊢
 clear hg1 hg2
 have k0 : W.cell? ⟨g1,0,none⟩ = some (.int .i64 x0):=J1.cell 0
 have k1 : W.cell? ⟨g1,1,none⟩ = some (.int .i64 x1):=J1.cell 1
 have k2 : W.cell? ⟨g1,2,none⟩ = some (.int .i64 x2):=J1.cell 2
 have k3 : W.cell? ⟨g1,3,none⟩ = some (.int .i64 x3):=J1.cell 3
 refine wp_region_obl 21 (fun ix vals v w1 => match ix with | 0 => v = .int .i64 id | 1 => v = .int .i64 p0 | 2 => v = .pointer (some ⟨g1,0,none⟩) | 3 => v = .int .i64 x0 | 4 => v = .int .i64 p1 | 5 => v = .pointer (some ⟨g1,1,none⟩) | 6 => v = .int .i64 x1 | 7 => v = .int .i64 p2 | 8 => v = .agg #[.int .i64 p1,.int .i64 p2] | 9 => v = .pointer (some ⟨g1,2,none⟩) | 10 => v = .int .i64 x2 | 11 => v = .int .i64 p3 | 12 => v = .pointer (some ⟨g1,3,none⟩) | 13 => v = .int .i64 x3 | 14 => v = .int .i64 p4 | 15 => v = .int .i64 (1 + p4) | 16 => v = .pointer (some ⟨g1,3,none⟩) | 17 => v = .int .i64 x3 | 18 => v = .int .i64 xd | 19 => v = .int .i64 p5 | _ => v = .agg #[.int .i64 p0,.int .i64 p1,.int .i64 p2,.int .i64 p3,.int .i64 (1 + p4),.int .i64 p5]) (by kernel_rfl) (by kernel_rfl) ?_ ?_ ?_ ?_
 ·intro ix vals v w1 w2 hi hr hx; exact hr
 ·intro ix vals vals_ v w1 hi hv hr
  exact hr
 ·refine ⟨?_,?_,?_,?_,?_,?_,?_,?_,?_,?_,?_,?_,?_,?_,?_,?_,?_,?_,?_,?_,?_,trivial⟩
  ·intro vals w1 hx hd ha
   clear hd ha
   simp only [Lf]
   go_wp2
   exact q_
  ·intro vals w1 hx hd ha
   have e0 : vals 0 = .int .i64 id:=hd 0 (by decide)
   clear hd ha
   simp only [Lf,dstAt,Act.put,FR_,e0]
   clear e0
   go_wp2_with fail
   refine (HP0.out _).mono ?_
   rintro e w2 ⟨rfl,rfl⟩
   go_wp2
   exact q_
  ·intro vals w1 hx hd ha
   clear hd ha
   simp only [Lf,dstAt,Act.put,FR_]
   go_wp2
   exact q_
  ·intro vals w1 hx hd ha
   have e2 : vals 2 = .pointer (some ⟨g1,0,none⟩):=hd 2 (by decide)
   clear hd ha
   simp only [Lf,dstAt,Act.put,FR_,e2]
   clear e2
   have k0:=ext_cell hx k0
   go_wp2
   exact q_
  ·intro vals w1 hx hd ha
   have e1 : vals 1 = .int .i64 p0:=hd 1 (by decide)
   have e3 : vals 3 = .int .i64 x0:=hd 3 (by decide)
   clear hd ha
   simp only [Lf,dstAt,Act.put,FR_,e1]
   simp only [e3]
   clear e1 e3
   go_wp2_with fail
   refine (HP1.out _).mono ?_
   rintro e w2 ⟨rfl,rfl⟩
   go_wp2
   exact q_
  ·intro vals w1 hx hd ha
   clear hd ha
   simp only [Lf,dstAt,Act.put,FR_]
   go_wp2
   exact q_
  ·intro vals w1 hx hd ha
   have e5 : vals 5 = .pointer (some ⟨g1,1,none⟩):=hd 5 (by decide)
   clear hd ha
   simp only [Lf,dstAt,Act.put,FR_,e5]
   clear e5
   have k1:=ext_cell hx k1
   go_wp2
   exact q_
  ·intro vals w1 hx hd ha
   have e4 : vals 4 = .int .i64 p1:=hd 4 (by decide)
   have e6 : vals 6 = .int .i64 x1:=hd 6 (by decide)
   clear hd ha
   simp only [Lf,dstAt,Act.put,FR_,e4]
   simp only [e6]
   clear e4 e6
   go_wp2_with fail
   refine (HP2.out _).mono ?_
   rintro e w2 ⟨rfl,rfl⟩
   go_wp2
   exact q_
  ·intro vals w1 hx hd ha
   have e4 : vals 4 = .int .i64 p1:=hd 4 (by decide)
   have e7 : vals 7 = .int .i64 p2:=hd 7 (by decide)
   clear hd ha
   simp only [Lf,dstAt,Act.put,FR_,e4,e7]
   clear e4 e7
   go_wp2
   exact q_
  ·intro vals w1 hx hd ha
   clear hd ha
   simp only [Lf,dstAt,Act.put,FR_]
   go_wp2
   exact q_
  ·intro vals w1 hx hd ha
   have e9 : vals 9 = .pointer (some ⟨g1,2,none⟩):=hd 9 (by decide)
   clear hd ha
   simp only [Lf,dstAt,Act.put,FR_,e9]
   clear e9
   have k2:=ext_cell hx k2
   go_wp2
   exact q_
  ·intro vals w1 hx hd ha
   have e7 : vals 7 = .int .i64 p2:=hd 7 (by decide)
   have e10 : vals 10 = .int .i64 x2:=hd 10 (by decide)
   clear hd ha
   simp only [Lf,dstAt,Act.put,FR_,e7]
   simp only [e10]
   clear e7 e10
   go_wp2_with fail
   refine (HP3.out _).mono ?_
   rintro e w2 ⟨rfl,rfl⟩
   go_wp2
   exact q_
  ·intro vals w1 hx hd ha
   clear hd ha
   simp only [Lf,dstAt,Act.put,FR_]
   go_wp2
   exact q_
  ·intro vals w1 hx hd ha
   have e12 : vals 12 = .pointer (some ⟨g1,3,none⟩):=hd 12 (by decide)
   clear hd ha
   simp only [Lf,dstAt,Act.put,FR_,e12]
   clear e12
   have k3:=ext_cell hx k3
   go_wp2
   exact q_
  ·intro vals w1 hx hd ha
   have e11 : vals 11 = .int .i64 p3:=hd 11 (by decide)
   have e13 : vals 13 = .int .i64 x3:=hd 13 (by decide)
   clear hd ha
   simp only [Lf,dstAt,Act.put,FR_,e11]
   simp only [e13]
   clear e11 e13
   go_wp2_with fail
   refine (HP4.out _).mono ?_
   rintro e w2 ⟨rfl,rfl⟩
   go_wp2
   exact q_
  ·intro vals w1 hx hd ha
   have e14 : vals 14 = .int .i64 p4:=hd 14 (by decide)
   clear hd ha
   simp only [Lf,dstAt,Act.put,FR_,e14]
   clear e14
   go_wp2
   exact q_
  ·intro vals w1 hx hd ha
   clear hd ha
   simp only [Lf,dstAt,Act.put,FR_]
   go_wp2
   exact q_
  ·intro vals w1 hx hd ha
   have e16 : vals 16 = .pointer (some ⟨g1,3,none⟩):=hd 16 (by decide)
   clear hd ha
   simp only [Lf,dstAt,Act.put,FR_,e16]
   clear e16
   have k3:=ext_cell hx k3
   go_wp2
   exact q_
  ·intro vals w1 hx hd ha
   have e17 : vals 17 = .int .i64 x3:=hd 17 (by decide)
   clear hd ha
   simp only [Lf,dstAt,Act.put,FR_,e17]
   clear e17
   go_wp2
   exact q_
  ·intro vals w1 hx hd ha
   have e14 : vals 14 = .int .i64 p4:=hd 14 (by decide)
   have e18 : vals 18 = .int .i64 xd:=hd 18 (by decide)
   clear hd ha
   simp only [Lf,dstAt,Act.put,FR_,e14]
   simp only [e18]
   clear e14 e18
   go_wp2_with fail
   refine (HP5.out _).mono ?_
   rintro e w2 ⟨rfl,rfl⟩
   go_wp2
   exact q_
  ·intro vals w1 hx hd ha
   have e1 : vals 1 = .int .i64 p0:=hd 1 (by decide)
   have e8 : vals 8 = .agg #[.int .i64 p1,.int .i64 p2]:=hd 8 (by decide)
   have e11 : vals 11 = .int .i64 p3:=hd 11 (by decide)
   have e15 : vals 15 = .int .i64 (1 + p4):=hd 15 (by decide)
   have e19 : vals 19 = .int .i64 p5:=hd 19 (by decide)
   clear hd ha
   simp only [Lf,dstAt,Act.put,FR_,e1,e8,e11,e15,e19]
   clear e1 e8 e11 e15 e19
   go_wp2
   exact q_
 intro vals w3 hx hf
 have e20 : vals 20 = .agg #[.int .i64 p0,.int .i64 p1,.int .i64 p2,.int .i64 p3,.int .i64 (1 + p4),.int .i64 p5]:=hf 20 (by omega)
 have hx:=hx.undrew
 have J2:=J2.ext hx
 have hB3:=bl_then hB hx
 clear hf hx J1 k0 k1 k2 k3
 refine tail1 21 _ (by kernel_rfl) (by kernel_rfl) rfl ?_
 simp only [Lf,dstAt,Act.put,FR_]
 rw [e20]
 clear e20
 refine wpList_store_row rfl 71 _ _ rfl g2 #[.int .i64 p0,.int .i64 p1,.int .i64 p2,.int .i64 p3,.int .i64 (1 + p4),.int .i64 p5] rfl rfl 71 _ J2 stn_size_ rfl (by simp [Value.oneCell']) ?_
 have J2:=J2.row #[.int .i64 p0,.int .i64 p1,.int .i64 p2,.int .i64 p3,.int .i64 (1 + p4),.int .i64 p5]
 have hB3:=below_setRow hB3 (g:=g2) hl2 #[.int .i64 p0,.int .i64 p1,.int .i64 p2,.int .i64 p3,.int .i64 (1 + p4),.int .i64 p5]
 generalize w3.setRow g2 #[.int .i64 p0,.int .i64 p1,.int .i64 p2,.int .i64 p3,.int .i64 (1 + p4),.int .i64 p5] = w9 at J2 hB3 ⊢
 have c0:=J2.cell 0
 have c1:=J2.cell 1
 have c2:=J2.cell 2
 have c3:=J2.cell 3
 have c4:=J2.cell 4
 have c5:=J2.cell 5
 go_wp2
 exact bodyPost_ret (v:=.agg #[.int .i64 p0,.int .i64 p1,.int .i64 p2,.int .i64 p3,.int .i64 (1 + p4),.int .i64 p5]) (by simp [results,Tryz.results93,go_sem,c0,c1,c2,c3,c4,c5]) rfl ⟨rfl,hB3⟩
end Go.Proofs.YtjidhhfabfnhnaaGreat
