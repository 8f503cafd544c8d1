/- The orbit at a minute. -/
import Derived.Test.YtjidhhfabfnhnaaGreatK08
import Derived.Test.YtjidhhfabfnhnaaGreatK09
namespace Go.Proofs.YtjidhhfabfnhnaaGreat
open Go.RowKit
attribute [local go_sem] Oper.semAt_some
theorem pick36_any (c n : Int) (w : World) (h1 : -9223372036854775808 ≤ c) (h2 : c ≤ 9223372036854775807) (hn : 0 < n) (hn2 : n ≤ 1000000) :
  Calls Tryz.prog 94 #[.int .i64 c,.int .i64 n] w fun e w' => e = .returned (.int .i64 (pickI c n)) ∧ w = w':=by
 have hn0 : ¬ n = 0:=by omega
 have hn1 : (n == 0) = false:=by simp; omega
 by_cases hc : c < 0
 ·have hp : pickI c n = -((c + 1).tmod n):=by unfold pickI; rw [if_pos hc,← Int.tmod_eq_emod_of_nonneg (by omega),Int.neg_tmod]
  have hb:=pickI_bd c n hn
  rw [hp] at hb ⊢
  have hb1:=hb.1
  have hb2:=hb.2
  clear hb hp
  go_enter Tryz.func94,Tryz.ntmps94
  go_wp2
  go_ret
  exact ⟨rfl,rfl⟩
 ·have hp : pickI c n = c % n:=by unfold pickI; rw [if_neg hc]
  have hb:=pickI_bd c n hn
  rw [hp] at hb ⊢
  have hb1:=hb.1
  have hb2:=hb.2
  clear hb hp
  go_enter Tryz.func94,Tryz.ntmps94
  go_wp2
  go_ret
  exact ⟨rfl,rfl⟩
def knA (fr : Int) (x : List A4) : Nat → Int
 | 0 => fr
 | k + 1 => if knA fr x k + pickI (x.getD k z4).a2 60 < 1000000 then knA fr x k + pickI (x.getD k z4).a2 60 else 1000000
def updO (o : Orb) (c : Int) : Orb:=⟨o.period,(o.phase + pickI c 7) % o.period,o.low,o.high,(o.node + 1000 * pickI (c.tdiv 7) 4) % 48000,o.turn,if o.slack + pickI (c.tdiv 28) 2 < 10 then o.slack + pickI (c.tdiv 28) 2 else 10⟩
def zS : St:=⟨0,0,⟨0,0,0,0,0,0,0⟩,0,0,0,0,0,0,0,0,0,0,0,0⟩
def updS (s : St) (fr kn : Int) (a : A4) : Upd:=⟨s.id,if fr + pickI a.a1 300 < 1000000 then fr + pickI a.a1 300 else 1000000,kn,updO s.orbit a.a3⟩
def updA (sats : List St) (fr : Int) (x : List A4) (k : Nat) : Upd:=updS (sats.getD (pickI (x.getD k z4).a0 sats.length).toNat zS) fr (knA fr x (k + 1)) (x.getD k z4)
def updsK (sats : List St) (fr : Int) (x : List A4) (k : Nat) : List Upd:=(List.range k).map (updA sats fr x)
def updsP (sats : List St) (fr : Int) (x : List A4) : List Upd:=if sats.length = 0 then [] else updsK sats fr x (min x.length 6)
theorem updsK_succ (sats : List St) (fr : Int) (x : List A4) (k : Nat) : updsK sats fr x (k + 1) = updsK sats fr x k ++ [updA sats fr x k]:=by simp [updsK,List.range_succ]
theorem updsK_len (sats : List St) (fr : Int) (x : List A4) (k : Nat) : (updsK sats fr x k).length = k:=by simp [updsK]
theorem knA_bd (fr : Int) (x : List A4) (h : 0 ≤ fr ∧ fr ≤ 1000000) (k : Nat) : fr ≤ knA fr x k ∧ knA fr x k ≤ 1000000:=by
 induction k with
 | zero => exact ⟨Int.le_refl _,h.2⟩
 | succ k ih =>
  rw [knA]
  have:=pickI_bd (x.getD k z4).a2 60 (by omega)
  split <;> omega
theorem info_upd : (Tryz.prog.info? 66).map (fun i => (i.zero,i.size,i.bytes)) = some (some (.agg #[.int .i64 0,.int .i64 0,.int .i64 0,.int .i64 0,.int .i64 0,.int .i64 0,.int .i64 0,.int .i64 0,.int .i64 0,.int .i64 0]),10,80):=by kernel_rfl
theorem info_upd2 : (Tryz.prog.info? 66).map (fun i => (i.zero.map (fun z => z.cells.size),i.size)) = some (some 10,10):=by kernel_rfl
theorem upd_size_ : (Tryz.prog.info? 66).map (·.size) = some 10:=by kernel_rfl
theorem upd_ones (x : Upd) : ∀ u ∈ updCells x,u.oneCell' = true:=by simp [updCells,Value.oneCell']
theorem app_upd {W0 w : World} (ty : TypeId) (v : Value) (acc : List Upd) (x : Upd) (U : Array Value) (hU : (updCells x).toArray = U) (hx : Ext W0 w) (h : w.ownsRow W0.heap.size 66 10 v acc.length (acc.flatMap updCells)) (hn : acc.length ≤ 100000) :
  ∃ v' w',(Builtin.append_ #[30,30] ty #[v,.slice (some ⟨w.heap.size,0,none⟩) 1 1]).run Tryz.prog (w.alloc (.cells U 66)) = .ok v' w' ∧ w'.ownsRow W0.heap.size 66 10 v' (acc.length + 1) ((acc ++ [x]).flatMap updCells) ∧ Ext W0 w':=by
 obtain ⟨i0,hi0,hz0,hz1,hz2⟩:=info_parts info_upd
 have jx:=Blk.new w 66 U
 have hx5 : Ext w (w.alloc (.cells U 66)):=bl_alloc (Below.refl _ _) _
 have hrow:=own_ext h hx5
 have hx6:=Ext.trans hx hx5
 have hBs:=Below.size hx6
 obtain ⟨v2,W7,hr,hrow2,hg2,-⟩:=run_append_own (P:=Tryz.prog) (w.alloc (.cells U 66)) W0.heap.size 30 ty 66 i0 _ 10 80 Tryz.underlying30 hi0 hz0 hz1 hz2 rfl (by omega) _ _ _ hrow ⟨w.heap.size,0,none⟩ 1 1 (updCells x) rfl (by intro i u hu; rw [Addr.add_lit,Nat.zero_add,jx.cell,← hU]; simpa using hu) (upd_ones x) (by unfold maxLen; omega) (by omega) (by omega)
 exact ⟨v2,W7,hr,by rw [List.flatMap_append]; simpa using hrow2,hx6.grown hg2 hBs (fun q e => (World.ownsRow.lt hrow q e).1)⟩
set_option maxHeartbeats 4000000 in
set_option maxRecDepth 100000 in
theorem upds_any (sats : List St) (fr : Int) (x : List A4) (SA AX : Option Addr) (sn sc n c : Nat) (w : World) (hS : RA satCells 21 w w.heap.size SA sn sc sats) (hX : RA a4Cells 4 w w.heap.size AX n c x) (okx : ∀ a ∈ x,a.ok) (hsn : sn ≤ 1000000) (hfr : 0 ≤ fr ∧ fr ≤ 1000000) (hso : ∀ s ∈ sats,orbOK s.orbit = true) :
  Calls Tryz.prog 41 #[.slice SA sn sc,.int .i64 fr,.slice AX n c] w (ListRet updCells 10 66 (updsP sats fr x) w):=by
 have hle:=hX.le
 have hxl:=hX.len
 have hsl:=hS.len
 have hk0:=knA_bd fr x hfr
 obtain ⟨hfr1,hfr2⟩:=hfr
 by_cases h0 : sn = 0
 ·have hp : updsP sats fr x = []:=if_pos (by omega)
  rw [hp]
  obtain rfl : sn = 0:=h0
  clear hX hS hso hxl hsl hp hk0
  go_enter Tryz.func41,Tryz.ntmps41
  go_wp2
  go_loopw [7,8,9] (fun v kn i wr => v = .slice none 0 0 ∧ kn = .int .i64 fr ∧ i = .int .i64 0 ∧ wr = w) (fun _ _ i _ => 0)
  case atStart => exact ⟨rfl,rfl,rfl,rfl⟩
  case round =>
   obtain ⟨rfl,rfl,rfl,rfl⟩:=hrel
   by_cases hn0 : 0 < n
   all_goals
    go_wp2
    go_ret
    exact ⟨_,rfl,World.ownsRow_nil _ _ _ _,Ext.refl _⟩
 ·have hps : updsP sats fr x = updsK sats fr x (min n 6):=by rw [updsP,hxl,if_neg (by omega)]
  rw [hps]
  have hsp : 0 < sn:=by omega
  obtain ⟨m,hm⟩ : ∃ m,m = min n 6:=⟨_,rfl⟩
  rw [← hm]
  have HX:=Lib.hid hX
  have HS:=Lib.hid hS
  have HOX:=Lib.hid okx
  have HSO:=Lib.hid hso
  have HM:=Lib.hid hm
  have HSL:=Lib.hid hsl
  have HK0:=Lib.hid hk0
  clear hX hS okx hso hps hxl hsl hm hk0 h0
  go_enter Tryz.func41,Tryz.ntmps41
  go_wp2
  go_loopw [7,8,9] (fun v kn i wr => ∃ k : Nat,k ≤ m ∧ kn = .int .i64 (knA fr x k) ∧ i = .int .i64 k ∧ Hid (wr.ownsRow w.heap.size 66 10 v k ((updsK sats fr x k).flatMap updCells)) ∧ Ext w wr) (fun _ _ i _ => m - (intOf i).toNat)
  case atStart => exact ⟨0,Nat.zero_le _,rfl,rfl,Lib.hid (World.ownsRow_nil _ _ _ _),Ext.refl _⟩
  case round =>
   obtain ⟨k,hk,rfl,rfl,HR,hB⟩:=hrel
   have hkb:=HK0.out k
   have hkb2:=HK0.out (k + 1)
   have hkn1 : knA fr x (k + 1) = if knA fr x k + pickI (x.getD k z4).a2 60 < 1000000 then knA fr x k + pickI (x.getD k z4).a2 60 else 1000000:=rfl
   have hua : updA sats fr x k = updS (sats.getD (pickI (x.getD k z4).a0 sats.length).toNat zS) fr (knA fr x (k + 1)) (x.getD k z4):=rfl
   have hus:=updsK_succ sats fr x k
   have hul:=updsK_len sats fr x k
   rw [hua] at hus
   clear hua
   generalize hg2 : knA fr x (k + 1) = kn2 at hkb2 hkn1 hus
   have HG2:=Lib.hid hg2
   clear hg2
   generalize knA fr x k = kn at hkb hkn1
   by_cases hlt : k < m
   ·have hkn : k < n:=by have:=HM.out; omega
    have hk6 : (k : Int) < 6:=by have:=HM.out; omega
    obtain ⟨bx,ox,hz,hA,hbl,hc⟩:=(HX.out.below hB).at_ a4_len hkn
    have hxk : x.getD k z4 = x[k]:=by simp [hz]
    have hokx:=HOX.out x[k] (List.getElem_mem _)
    rw [hxk] at hkn1 hus
    generalize x[k] = a at hc hkn1 hus hokx
    obtain ⟨a0,a1,a2,a3⟩:=a
    obtain ⟨ba0,ba1,ba2,ba3⟩:=hokx
    dsimp only at ba0 ba1 ba2 ba3 hkn1 hus
    have v0 : wr.cell? ⟨bx,ox + k * 4,none⟩ = some (.int .i64 a0):=hc 0 (by omega)
    have v1 : wr.cell? ⟨bx,ox + k * 4 + 1,none⟩ = some (.int .i64 a1):=hc 1 (by omega)
    have v2 : wr.cell? ⟨bx,ox + k * 4 + 2,none⟩ = some (.int .i64 a2):=hc 2 (by omega)
    have v3 : wr.cell? ⟨bx,ox + k * 4 + 3,none⟩ = some (.int .i64 a3):=hc 3 (by omega)
    subst hA
    clear hc hxk hz
    have P0:=fun w => pick36_any a0 sn w ba0.1 ba0.2 (by omega) (by omega)
    have q0:=pickI_bd a0 sn (by omega)
    rw [show ((sats.length : Nat) : Int) = (sn : Int) by rw [HSL.out]] at hus
    generalize pickI a0 sn = p0 at P0 q0 hus
    obtain ⟨q0a,q0b⟩:=q0
    obtain ⟨i0,rfl⟩:=Int.eq_ofNat_of_zero_le q0a
    have hi0 : i0 < sn:=by omega
    have HP0:=Lib.hid P0
    clear P0 q0b q0a
    obtain ⟨bs,os,hzs,hAs,hbs,hcs⟩:=RA.range sat_len (HS.out.below hB) hi0
    have hxs : sats.getD (i0 : Int).toNat zS = sats[i0]:=by simp [hzs]
    rw [hxs] at hus
    have hso:=HSO.out sats[i0] (List.getElem_mem _)
    generalize sats[i0] = s at hcs hus hso
    clear hxs hzs
    obtain ⟨sid,own,⟨pe,ph,lo,hi,no,tu,sl⟩,wi,st,ch,su,idl,sh,se,wa,co,ho,sw,ra⟩:=s
    have hso2 : 2 ≤ pe ∧ pe ≤ 10000 ∧ 0 ≤ ph ∧ ph < pe ∧ 0 ≤ no ∧ no < 48000 ∧ 0 ≤ sl ∧ sl ≤ 10:=by simp [orbOK,inB] at hso; omega
    clear hso
    obtain ⟨hpe1,hpe2,hph1,hph2,hno1,hno2,hsl1,hsl2⟩:=hso2
    subst hAs
    obtain ⟨SX,hSX⟩ : ∃ X,(satCells ⟨sid,own,⟨pe,ph,lo,hi,no,tu,sl⟩,wi,st,ch,su,idl,sh,se,wa,co,ho,sw,ra⟩).toArray = X:=⟨_,rfl⟩
    have HSX:=Lib.hid hSX
    have HS2 : Hid (SX.size = 21):=Lib.hid (by rw [← hSX]; rfl)
    have HS1 : Hid (SX.all (·.oneCell') = true):=Lib.hid (by rw [← hSX]; exact sat_one _)
    have HCS:=Lib.hid hcs
    clear hSX hcs
    obtain ⟨bd7,hwd7⟩:=tdiv_ok ba3 (n:=7) (by omega)
    obtain ⟨bd28,hwd28⟩:=tdiv_ok ba3 (n:=28) (by omega)
    obtain ⟨xd7,hxd7⟩ : ∃ y,y = a3.tdiv 7:=⟨_,rfl⟩
    obtain ⟨xd28,hxd28⟩ : ∃ y,y = a3.tdiv 28:=⟨_,rfl⟩
    simp only [updS,updO] at hus
    rw [← hxd7] at bd7 hwd7 hus
    rw [← hxd28] at bd28 hwd28 hus
    have HQ7 : Hid (IntKind.i64.wrap (a3.tdiv 7) = xd7):=Lib.hid (by rw [← hxd7]; exact hwd7)
    have HQ28 : Hid (IntKind.i64.wrap (a3.tdiv 28) = xd28):=Lib.hid (by rw [← hxd28]; exact hwd28)
    clear hwd7 hwd28 hxd7 hxd28
    have P1:=fun w => pick36_any a1 300 w ba1.1 ba1.2 (by omega) (by omega)
    have q1:=pickI_bd a1 300 (by omega)
    generalize pickI a1 300 = p1 at P1 q1 hus
    obtain ⟨q1a,q1b⟩:=q1
    have HP1:=Lib.hid P1
    clear P1
    have P2:=fun w => pick36_any a2 60 w ba2.1 ba2.2 (by omega) (by omega)
    have q2:=pickI_bd a2 60 (by omega)
    generalize pickI a2 60 = p2 at P2 q2 hus hkn1
    obtain ⟨q2a,q2b⟩:=q2
    have HP2:=Lib.hid P2
    clear P2
    have P3:=fun w => pick36_any a3 7 w ba3.1 ba3.2 (by omega) (by omega)
    have q3:=pickI_bd a3 7 (by omega)
    generalize pickI a3 7 = p3 at P3 q3 hus
    obtain ⟨q3a,q3b⟩:=q3
    have HP3:=Lib.hid P3
    clear P3
    have P4:=fun w => pick36_any xd7 4 w bd7.1 bd7.2 (by omega) (by omega)
    have q4:=pickI_bd xd7 4 (by omega)
    generalize pickI xd7 4 = p4 at P4 q4 hus
    obtain ⟨q4a,q4b⟩:=q4
    have HP4:=Lib.hid P4
    clear P4
    have P5:=fun w => pick36_any xd28 2 w bd28.1 bd28.2 (by omega) (by omega)
    have q5:=pickI_bd xd28 2 (by omega)
    generalize pickI xd28 2 = p5 at P5 q5 hus
    obtain ⟨q5a,q5b⟩:=q5
    have HP5:=Lib.hid P5
    clear P5
    obtain ⟨fr2,hfr3⟩ : ∃ y,(if fr + p1 < 1000000 then fr + p1 else 1000000) = y:=⟨_,rfl⟩
    obtain ⟨sl2,hsl3⟩ : ∃ y,(if sl + p5 < 10 then sl + p5 else 10) = y:=⟨_,rfl⟩
    obtain ⟨ph2,hph3⟩ : ∃ y,(ph + p3) % pe = y:=⟨_,rfl⟩
    obtain ⟨no2,hno3⟩ : ∃ y,(no + 1000 * p4) % 48000 = y:=⟨_,rfl⟩
    rw [hfr3,hsl3,hph3,hno3] at hus
    have hph5 : 0 ≤ ph2 ∧ ph2 < pe:=by rw [← hph3]; exact ⟨Int.emod_nonneg _ (by omega),Int.emod_lt_of_pos _ (by omega)⟩
    have hno5 : 0 ≤ no2 ∧ no2 < 48000:=by rw [← hno3]; exact ⟨Int.emod_nonneg _ (by omega),Int.emod_lt_of_pos _ (by omega)⟩
    have hph4 : IntKind.i64.wrap ((ph + p3).tmod pe) = ph2:=by rw [Int.tmod_eq_emod_of_nonneg (by omega),hph3]; exact IntWalk.i64_in _ (by omega)
    have hno4 : IntKind.i64.wrap ((no + 1000 * p4).tmod 48000) = no2:=by rw [Int.tmod_eq_emod_of_nonneg (by omega),hno3]; exact IntWalk.i64_in _ (by omega)
    have hfr4 : 0 ≤ fr2 ∧ fr2 ≤ 1000000:=by rw [← hfr3]; split <;> omega
    have hsl4 : 0 ≤ sl2 ∧ sl2 ≤ 10:=by rw [← hsl3]; split <;> omega
    have HUS:=Lib.hid hus
    have HUL:=Lib.hid hul
    have HKN1 : Hid ((if kn + p2 < 1000000 then kn + p2 else 1000000) = kn2):=Lib.hid hkn1.symm
    have HFR3:=Lib.hid hfr3
    have HSL3:=Lib.hid hsl3
    have HPH4:=Lib.hid hph4
    have HNO4:=Lib.hid hno4
    have HPH3:=Lib.hid hph3
    have HNO3:=Lib.hid hno3
    clear hus hul hkn1 hfr3 hsl3 hph3 hph4 hno3 hno4
    have K10:=Blk.new wr 53 SX
    have hx10 : Ext wr (wr.alloc (.cells SX 53)):=bl_alloc (Below.refl _ _) _
    go_upto_region 6 with (fail)
    go_upto_region 7 with (first | ((with_reducible refine (HP0.out _).mono ?_); rintro e w2 ⟨rfl,rfl⟩) | (refine wpList_load_st rfl _ _ rfl bs (os + i0 * 21) rfl SX (satCells ⟨sid,own,⟨pe,ph,lo,hi,no,tu,sl⟩,wi,st,ch,su,idl,sh,se,wa,co,ho,sw,ra⟩) HSX.out _ HCS.out Tryz.underlying53 rfl sat_size ?_) | (refine wpList_store_new rfl 53 _ _ rfl _ SX rfl rfl (by rw [HS2.out]; exact sat_size) (by rw [HS2.out]; rfl) HS1.out ?_))
    dsimp only [Act.put]
    obtain ⟨g10,hg10⟩ : ∃ k,k = wr.heap.size:=⟨_,rfl⟩
    rw [← hg10] at K10 ⊢
    generalize wr.alloc (.cells SX 53) = W at K10 hx10 ⊢
    have hB:=Ext.trans hB hx10
    have HR:=Lib.hid (own_ext HR.out hx10)
    have v1:=ext_cell hx10 v1
    have v2:=ext_cell hx10 v2
    have v3:=ext_cell hx10 v3
    have s0 : W.cell? ⟨g10,0,none⟩ = some (.int .i64 sid):=(K10.cell 0).trans (by rw [← HSX.out]; rfl)
    have s2 : W.cell? ⟨g10,2,none⟩ = some (.int .i64 pe):=(K10.cell 2).trans (by rw [← HSX.out]; rfl)
    have s3 : W.cell? ⟨g10,3,none⟩ = some (.int .i64 ph):=(K10.cell 3).trans (by rw [← HSX.out]; rfl)
    have s4 : W.cell? ⟨g10,4,none⟩ = some (.int .i64 lo):=(K10.cell 4).trans (by rw [← HSX.out]; rfl)
    have s5 : W.cell? ⟨g10,5,none⟩ = some (.int .i64 hi):=(K10.cell 5).trans (by rw [← HSX.out]; rfl)
    have s6 : W.cell? ⟨g10,6,none⟩ = some (.int .i64 no):=(K10.cell 6).trans (by rw [← HSX.out]; rfl)
    have s7 : W.cell? ⟨g10,7,none⟩ = some (.int .i64 tu):=(K10.cell 7).trans (by rw [← HSX.out]; rfl)
    have s8 : W.cell? ⟨g10,8,none⟩ = some (.int .i64 sl):=(K10.cell 8).trans (by rw [← HSX.out]; rfl)
    clear hx10 hg10 HCS
    have hkn1:=HKN1.out
    go_wp2_with fail
    refine (HP2.out _).mono ?_
    rintro e w2 ⟨rfl,rfl⟩
    go_upto_region 8 with (fail)
    clear hkn1 v2
    have w1_ : IntKind.i64.wrap (fr + p1) = fr + p1:=IntWalk.i64_in _ (by omega)
    refine wp_region_obl 16 (fun ix vals v w1 => match ix with | 0 => v = .pointer (some ⟨g10,0,none⟩) | 1 => v = .int .i64 sid | 2 => v = .int .i64 fr | 3 => v = .slice (some ⟨bx,ox,none⟩) n c | 4 => v = .int .i64 (k : Int) | 5 => v = .pointer (some ⟨bx,ox + k * 4,none⟩) | 6 => v = .pointer (some ⟨bx,ox + k * 4 + 1,none⟩) | 7 => v = .int .i64 a1 | 8 => v = .int .i64 p1 | 9 => v = .int .i64 (fr + p1) | 10 => v = .int .i64 fr2 | 11 => v = .int .i64 kn2 | 12 => v = .pointer (some ⟨g10,2,none⟩) | 13 => v = .agg #[.int .i64 pe,.int .i64 ph,.int .i64 lo,.int .i64 hi,.int .i64 no,.int .i64 tu,.int .i64 sl] | 14 => v = .agg #[.int .i64 sid,.int .i64 fr2,.int .i64 kn2,.int .i64 pe,.int .i64 ph,.int .i64 lo,.int .i64 hi,.int .i64 no,.int .i64 tu,.int .i64 sl] | _ => ∃ g,v = .pointer (some ⟨g,0,none⟩) ∧ W.heap.size ≤ g ∧ Blk w1 g 66 #[.int .i64 0,.int .i64 0,.int .i64 0,.int .i64 0,.int .i64 0,.int .i64 0,.int .i64 0,.int .i64 0,.int .i64 0,.int .i64 0]) (by kernel_rfl) (by kernel_rfl) ?_ ?_ ?_ ?_
    ·intro ix vals v w1 w2 hi hr hx
     match ix,hr with
     | 0,hr => exact hr
     | 1,hr => exact hr
     | 2,hr => exact hr
     | 3,hr => exact hr
     | 4,hr => exact hr
     | 5,hr => exact hr
     | 6,hr => exact hr
     | 7,hr => exact hr
     | 8,hr => exact hr
     | 9,hr => exact hr
     | 10,hr => exact hr
     | 11,hr => exact hr
     | 12,hr => exact hr
     | 13,hr => exact hr
     | 14,hr => exact hr
     | (kx + 15),hr => obtain ⟨g,h1,h2,h3⟩:=hr; exact ⟨g,h1,h2,h3.ext hx⟩
    ·intro ix vals vals_ v w1 hi hv hr
     exact hr
    ·refine ⟨?_,?_,?_,?_,?_,?_,?_,?_,?_,?_,?_,?_,?_,?_,?_,?_,trivial⟩
     ·intro vals w1 hx hd ha
      clear hd ha
      simp only [Lf]
      go_wp2
      exact q_
     ·intro vals w1 hx hd ha
      have e0 : vals 0 = .pointer (some ⟨g10,0,none⟩):=hd 0 (by decide)
      clear hd ha
      simp only [Lf,dstAt,Act.put,FR_,e0]
      clear e0
      have s0:=ext_cell hx s0
      go_wp2
      exact q_
     ·intro vals w1 hx hd ha
      clear hd ha
      simp only [Lf,dstAt,Act.put,FR_]
      go_wp2
      exact q_
     ·intro vals w1 hx hd ha
      clear hd ha
      simp only [Lf,dstAt,Act.put,FR_]
      go_wp2
      exact q_
     ·intro vals w1 hx hd ha
      clear hd ha
      simp only [Lf,dstAt,Act.put,FR_]
      go_wp2
      exact q_
     ·intro vals w1 hx hd ha
      have e3 : vals 3 = .slice (some ⟨bx,ox,none⟩) n c:=hd 3 (by decide)
      have e4 : vals 4 = .int .i64 (k : Int):=hd 4 (by decide)
      clear hd ha
      simp only [Lf,dstAt,Act.put,FR_,e3,e4]
      clear e3 e4
      go_wp2
      exact q_
     ·intro vals w1 hx hd ha
      have e5 : vals 5 = .pointer (some ⟨bx,ox + k * 4,none⟩):=hd 5 (by decide)
      clear hd ha
      simp only [Lf,dstAt,Act.put,FR_,e5]
      clear e5
      go_wp2
      exact q_
     ·intro vals w1 hx hd ha
      have e6 : vals 6 = .pointer (some ⟨bx,ox + k * 4 + 1,none⟩):=hd 6 (by decide)
      clear hd ha
      simp only [Lf,dstAt,Act.put,FR_,e6]
      clear e6
      have v1:=ext_cell hx v1
      go_wp2
      exact q_
     ·intro vals w1 hx hd ha
      have e7 : vals 7 = .int .i64 a1:=hd 7 (by decide)
      clear hd ha
      simp only [Lf,dstAt,Act.put,FR_,e7]
      clear e7
      go_wp2_with fail
      refine (HP1.out _).mono ?_
      rintro e w2 ⟨rfl,rfl⟩
      go_wp2
      exact q_
     ·intro vals w1 hx hd ha
      have e2 : vals 2 = .int .i64 fr:=hd 2 (by decide)
      have e8 : vals 8 = .int .i64 p1:=hd 8 (by decide)
      clear hd ha
      simp only [Lf,dstAt,Act.put,FR_,e2,e8]
      clear e2 e8
      go_wp2
      exact q_
     ·intro vals w1 hx hd ha
      have e9 : vals 9 = .int .i64 (fr + p1):=hd 9 (by decide)
      clear hd ha
      simp only [Lf,dstAt,Act.put,FR_,e9]
      clear e9
      have hfr3:=HFR3.out
      go_wp2
      exact q_
     ·intro vals w1 hx hd ha
      clear hd ha
      simp only [Lf,dstAt,Act.put,FR_]
      go_wp2
      exact q_
     ·intro vals w1 hx hd ha
      clear hd ha
      simp only [Lf,dstAt,Act.put,FR_]
      go_wp2
      exact q_
     ·intro vals w1 hx hd ha
      have e12 : vals 12 = .pointer (some ⟨g10,2,none⟩):=hd 12 (by decide)
      clear hd ha
      simp only [Lf,dstAt,Act.put,FR_,e12]
      clear e12
      have s2:=ext_cell hx s2
      have s3:=ext_cell hx s3
      have s4:=ext_cell hx s4
      have s5:=ext_cell hx s5
      have s6:=ext_cell hx s6
      have s7:=ext_cell hx s7
      have s8:=ext_cell hx s8
      go_wp2
      exact q_
     ·intro vals w1 hx hd ha
      have e1 : vals 1 = .int .i64 sid:=hd 1 (by decide)
      have e10 : vals 10 = .int .i64 fr2:=hd 10 (by decide)
      have e11 : vals 11 = .int .i64 kn2:=hd 11 (by decide)
      have e13 : vals 13 = .agg #[.int .i64 pe,.int .i64 ph,.int .i64 lo,.int .i64 hi,.int .i64 no,.int .i64 tu,.int .i64 sl]:=hd 13 (by decide)
      clear hd ha
      simp only [Lf,dstAt,Act.put,FR_,e1,e10,e11,e13]
      clear e1 e10 e11 e13
      go_wp2
      exact q_
     ·intro vals w1 hx hd ha
      clear hd ha
      simp only [Lf,dstAt,Act.put,FR_]
      have hz:=Below.size hx.undrew
      go_wp2
      exact ⟨rfl,(by repeat (first | exact Below.refl _ _ | assumption | refine Below.drew ?_ | refine below_drewN ?_ _ | refine bl_alloc ?_ _ | refine Below.setCell ?_ (by first | (simp; done) | omega | (simp; omega)) _ | refine bl_then ?_ (by assumption))),_,rfl,by omega,Blk.new _ _ _⟩
    intro vals w3 hx hf
    have e14 : vals 14 = .agg #[.int .i64 sid,.int .i64 fr2,.int .i64 kn2,.int .i64 pe,.int .i64 ph,.int .i64 lo,.int .i64 hi,.int .i64 no,.int .i64 tu,.int .i64 sl]:=hf 14 (by omega)
    obtain ⟨g11,e15,hg11,J⟩ : ∃ g,vals 15 = .pointer (some ⟨g,0,none⟩) ∧ W.heap.size ≤ g ∧ Blk w3 g 66 #[.int .i64 0,.int .i64 0,.int .i64 0,.int .i64 0,.int .i64 0,.int .i64 0,.int .i64 0,.int .i64 0,.int .i64 0,.int .i64 0]:=hf 15 (by omega)
    have hE:=hx.undrew
    clear hf hx v1 w1_ s0 s2 s3 s4 s5 s6 s7 s8
    refine tail1 16 _ (by kernel_rfl) (by kernel_rfl) rfl ?_
    simp only [Lf,dstAt,Act.put,FR_]
    rw [e14,e15]
    clear e14 e15
    refine wpList_store_row rfl 66 _ _ rfl g11 #[.int .i64 sid,.int .i64 fr2,.int .i64 kn2,.int .i64 pe,.int .i64 ph,.int .i64 lo,.int .i64 hi,.int .i64 no,.int .i64 tu,.int .i64 sl] rfl rfl 66 _ J upd_size_ rfl (by simp [Value.oneCell']) ?_
    have J:=J.row #[.int .i64 sid,.int .i64 fr2,.int .i64 kn2,.int .i64 pe,.int .i64 ph,.int .i64 lo,.int .i64 hi,.int .i64 no,.int .i64 tu,.int .i64 sl]
    have hE:=below_setRow hE hg11 #[.int .i64 sid,.int .i64 fr2,.int .i64 kn2,.int .i64 pe,.int .i64 ph,.int .i64 lo,.int .i64 hi,.int .i64 no,.int .i64 tu,.int .i64 sl]
    generalize w3.setRow g11 #[.int .i64 sid,.int .i64 fr2,.int .i64 kn2,.int .i64 pe,.int .i64 ph,.int .i64 lo,.int .i64 hi,.int .i64 no,.int .i64 tu,.int .i64 sl] = w4 at J hE ⊢
    go_upto_region 9 with (fail)
    have v3_:=ext_cell hE v3
    have o4 : w4.cell? ⟨g11,4,none⟩ = some (.int .i64 ph):=J.cell 4
    have o3 : w4.cell? ⟨g11,3,none⟩ = some (.int .i64 pe):=J.cell 3
    have u1_ : IntKind.i64.wrap (ph + p3) = ph + p3:=IntWalk.i64_in _ (by omega)
    refine wp_region_obl 16 (fun ix vals v w1 => match ix with | 0 => v = .pointer (some ⟨g11,3,none⟩) | 1 => v = .pointer (some ⟨g11,4,none⟩) | 2 => v = .int .i64 ph | 3 => v = .slice (some ⟨bx,ox,none⟩) n c | 4 => v = .int .i64 (k : Int) | 5 => v = .pointer (some ⟨bx,ox + k * 4,none⟩) | 6 => v = .pointer (some ⟨bx,ox + k * 4 + 3,none⟩) | 7 => v = .int .i64 a3 | 8 => v = .int .i64 p3 | 9 => v = .int .i64 (ph + p3) | 10 => v = .pointer (some ⟨g11,3,none⟩) | 11 => v = .pointer (some ⟨g11,3,none⟩) | 12 => v = .int .i64 pe | 13 => v = .int .i64 ph2 | 14 => v = .pointer (some ⟨g11,3,none⟩) | _ => v = .pointer (some ⟨g11,4,none⟩)) (by kernel_rfl) (by kernel_rfl) ?_ ?_ ?_ ?_
    ·intro ix vals v w1 w2 hi hr hx; exact hr
    ·intro ix vals vals_ v w1 hi hv hr
     exact hr
    ·refine ⟨?_,?_,?_,?_,?_,?_,?_,?_,?_,?_,?_,?_,?_,?_,?_,?_,trivial⟩
     ·intro vals w1 hx hd ha
      clear hd ha
      simp only [Lf]
      go_wp2
      exact q_
     ·intro vals w1 hx hd ha
      have e0 : vals 0 = .pointer (some ⟨g11,3,none⟩):=hd 0 (by decide)
      clear hd ha
      simp only [Lf,dstAt,Act.put,FR_,e0]
      clear e0
      go_wp2
      exact q_
     ·intro vals w1 hx hd ha
      have e1 : vals 1 = .pointer (some ⟨g11,4,none⟩):=hd 1 (by decide)
      clear hd ha
      simp only [Lf,dstAt,Act.put,FR_,e1]
      clear e1
      have o4:=ext_cell hx o4
      go_wp2
      exact q_
     ·intro vals w1 hx hd ha
      clear hd ha
      simp only [Lf,dstAt,Act.put,FR_]
      go_wp2
      exact q_
     ·intro vals w1 hx hd ha
      clear hd ha
      simp only [Lf,dstAt,Act.put,FR_]
      go_wp2
      exact q_
     ·intro vals w1 hx hd ha
      have e3 : vals 3 = .slice (some ⟨bx,ox,none⟩) n c:=hd 3 (by decide)
      have e4 : vals 4 = .int .i64 (k : Int):=hd 4 (by decide)
      clear hd ha
      simp only [Lf,dstAt,Act.put,FR_,e3,e4]
      clear e3 e4
      go_wp2
      exact q_
     ·intro vals w1 hx hd ha
      have e5 : vals 5 = .pointer (some ⟨bx,ox + k * 4,none⟩):=hd 5 (by decide)
      clear hd ha
      simp only [Lf,dstAt,Act.put,FR_,e5]
      clear e5
      go_wp2
      exact q_
     ·intro vals w1 hx hd ha
      have e6 : vals 6 = .pointer (some ⟨bx,ox + k * 4 + 3,none⟩):=hd 6 (by decide)
      clear hd ha
      simp only [Lf,dstAt,Act.put,FR_,e6]
      clear e6
      have v3_:=ext_cell hx v3_
      go_wp2
      exact q_
     ·intro vals w1 hx hd ha
      have e7 : vals 7 = .int .i64 a3:=hd 7 (by decide)
      clear hd ha
      simp only [Lf,dstAt,Act.put,FR_,e7]
      clear e7
      go_wp2_with fail
      refine (HP3.out _).mono ?_
      rintro e w2 ⟨rfl,rfl⟩
      go_wp2
      exact q_
     ·intro vals w1 hx hd ha
      have e2 : vals 2 = .int .i64 ph:=hd 2 (by decide)
      have e8 : vals 8 = .int .i64 p3:=hd 8 (by decide)
      clear hd ha
      simp only [Lf,dstAt,Act.put,FR_,e2,e8]
      clear e2 e8
      go_wp2
      exact q_
     ·intro vals w1 hx hd ha
      clear hd ha
      simp only [Lf,dstAt,Act.put,FR_]
      go_wp2
      exact q_
     ·intro vals w1 hx hd ha
      have e10 : vals 10 = .pointer (some ⟨g11,3,none⟩):=hd 10 (by decide)
      clear hd ha
      simp only [Lf,dstAt,Act.put,FR_,e10]
      clear e10
      go_wp2
      exact q_
     ·intro vals w1 hx hd ha
      have e11 : vals 11 = .pointer (some ⟨g11,3,none⟩):=hd 11 (by decide)
      clear hd ha
      simp only [Lf,dstAt,Act.put,FR_,e11]
      clear e11
      have o3:=ext_cell hx o3
      go_wp2
      exact q_
     ·intro vals w1 hx hd ha
      have e9 : vals 9 = .int .i64 (ph + p3):=hd 9 (by decide)
      have e12 : vals 12 = .int .i64 pe:=hd 12 (by decide)
      clear hd ha
      simp only [Lf,dstAt,Act.put,FR_,e9,e12]
      clear e9 e12
      have hq1:=HPH4.out
      have hq2:=HPH3.out
      go_wp2
      exact q_
     ·intro vals w1 hx hd ha
      have e0 : vals 0 = .pointer (some ⟨g11,3,none⟩):=hd 0 (by decide)
      have e1 : vals 1 = .pointer (some ⟨g11,4,none⟩):=hd 1 (by decide)
      have e2 : vals 2 = .int .i64 ph:=hd 2 (by decide)
      have e3 : vals 3 = .slice (some ⟨bx,ox,none⟩) n c:=hd 3 (by decide)
      have e4 : vals 4 = .int .i64 (k : Int):=hd 4 (by decide)
      have e5 : vals 5 = .pointer (some ⟨bx,ox + k * 4,none⟩):=hd 5 (by decide)
      have e6 : vals 6 = .pointer (some ⟨bx,ox + k * 4 + 3,none⟩):=hd 6 (by decide)
      have e7 : vals 7 = .int .i64 a3:=hd 7 (by decide)
      have e8 : vals 8 = .int .i64 p3:=hd 8 (by decide)
      have e9 : vals 9 = .int .i64 (ph + p3):=hd 9 (by decide)
      have e10 : vals 10 = .pointer (some ⟨g11,3,none⟩):=hd 10 (by decide)
      have e11 : vals 11 = .pointer (some ⟨g11,3,none⟩):=hd 11 (by decide)
      have e12 : vals 12 = .int .i64 pe:=hd 12 (by decide)
      have e13 : vals 13 = .int .i64 ph2:=hd 13 (by decide)
      clear hd ha
      simp only [Lf,dstAt,Act.put,FR_,e0,e1,e2,e3,e4,e5,e6,e7,e8,e9,e10,e11,e12,e13]
      clear e0 e1 e2 e3 e4 e5 e6 e7 e8 e9 e10 e11 e12 e13
      go_wp2
      exact q_
     ·intro vals w1 hx hd ha
      have e0 : vals 0 = .pointer (some ⟨g11,3,none⟩):=hd 0 (by decide)
      have e1 : vals 1 = .pointer (some ⟨g11,4,none⟩):=hd 1 (by decide)
      have e2 : vals 2 = .int .i64 ph:=hd 2 (by decide)
      have e3 : vals 3 = .slice (some ⟨bx,ox,none⟩) n c:=hd 3 (by decide)
      have e4 : vals 4 = .int .i64 (k : Int):=hd 4 (by decide)
      have e5 : vals 5 = .pointer (some ⟨bx,ox + k * 4,none⟩):=hd 5 (by decide)
      have e6 : vals 6 = .pointer (some ⟨bx,ox + k * 4 + 3,none⟩):=hd 6 (by decide)
      have e7 : vals 7 = .int .i64 a3:=hd 7 (by decide)
      have e8 : vals 8 = .int .i64 p3:=hd 8 (by decide)
      have e9 : vals 9 = .int .i64 (ph + p3):=hd 9 (by decide)
      have e10 : vals 10 = .pointer (some ⟨g11,3,none⟩):=hd 10 (by decide)
      have e11 : vals 11 = .pointer (some ⟨g11,3,none⟩):=hd 11 (by decide)
      have e12 : vals 12 = .int .i64 pe:=hd 12 (by decide)
      have e13 : vals 13 = .int .i64 ph2:=hd 13 (by decide)
      have e14 : vals 14 = .pointer (some ⟨g11,3,none⟩):=hd 14 (by decide)
      clear hd ha
      simp only [Lf,dstAt,Act.put,FR_,e0,e1,e2,e3,e4,e5,e6,e7,e8,e9,e10,e11,e12,e13,e14]
      clear e0 e1 e2 e3 e4 e5 e6 e7 e8 e9 e10 e11 e12 e13 e14
      go_wp2
      exact q_
    intro vals w5 hx hf
    have hx:=hx.undrew
    have ev : vals 13 = .int .i64 ph2:=hf 13 (by omega)
    have ep : vals 15 = .pointer (some ⟨g11,4,none⟩):=hf 15 (by omega)
    have J:=J.ext hx
    have hE:=Ext.trans hE hx
    clear hf hx v3_ o4 o3 u1_
    refine tail1 16 _ (by kernel_rfl) (by kernel_rfl) rfl ?_
    simp only [Lf,dstAt,Act.put,FR_]
    rw [ev,ep]
    clear ev ep
    have f0 : w5.frozen? ⟨g11,4,none⟩ = false:=J.frozen 4
    have c0 : w5.cell? ⟨g11,4,none⟩ = some (.int .i64 ph):=J.cell 4
    go_upto_region 10 with (fail)
    clear f0 c0
    have J:=J.set_ 4 (.int .i64 ph2)
    have hE:=hE.setCell (p:=⟨g11,4,none⟩) (by show W.heap.size ≤ g11; omega) (.int .i64 ph2)
    simp only [List.setIfInBounds_toArray,List.set_cons_zero,List.set_cons_succ] at J
    generalize w5.setCell ⟨g11,4,none⟩ (.int .i64 ph2) = w6 at J hE ⊢
    have v3_:=ext_cell hE v3
    have o7 : w6.cell? ⟨g11,7,none⟩ = some (.int .i64 no):=J.cell 7
    have u1_ : IntKind.i64.wrap (1000 * p4) = 1000 * p4:=IntWalk.i64_in _ (by omega)
    have u2_ : IntKind.i64.wrap (no + 1000 * p4) = no + 1000 * p4:=IntWalk.i64_in _ (by omega)
    refine wp_region_obl 15 (fun ix vals v w1 => match ix with | 0 => v = .pointer (some ⟨g11,3,none⟩) | 1 => v = .pointer (some ⟨g11,7,none⟩) | 2 => v = .int .i64 no | 3 => v = .slice (some ⟨bx,ox,none⟩) n c | 4 => v = .int .i64 (k : Int) | 5 => v = .pointer (some ⟨bx,ox + k * 4,none⟩) | 6 => v = .pointer (some ⟨bx,ox + k * 4 + 3,none⟩) | 7 => v = .int .i64 a3 | 8 => v = .int .i64 xd7 | 9 => v = .int .i64 p4 | 10 => v = .int .i64 (1000 * p4) | 11 => v = .int .i64 (no + 1000 * p4) | 12 => v = .int .i64 no2 | 13 => v = .pointer (some ⟨g11,3,none⟩) | _ => v = .pointer (some ⟨g11,7,none⟩)) (by kernel_rfl) (by kernel_rfl) ?_ ?_ ?_ ?_
    ·intro ix vals v w1 w2 hi hr hx; exact hr
    ·intro ix vals vals_ v w1 hi hv hr
     exact hr
    ·refine ⟨?_,?_,?_,?_,?_,?_,?_,?_,?_,?_,?_,?_,?_,?_,?_,trivial⟩
     ·intro vals w1 hx hd ha
      clear hd ha
      simp only [Lf]
      go_wp2
      exact q_
     ·intro vals w1 hx hd ha
      have e0 : vals 0 = .pointer (some ⟨g11,3,none⟩):=hd 0 (by decide)
      clear hd ha
      simp only [Lf,dstAt,Act.put,FR_,e0]
      clear e0
      go_wp2
      exact q_
     ·intro vals w1 hx hd ha
      have e1 : vals 1 = .pointer (some ⟨g11,7,none⟩):=hd 1 (by decide)
      clear hd ha
      simp only [Lf,dstAt,Act.put,FR_,e1]
      clear e1
      have o7:=ext_cell hx o7
      go_wp2
      exact q_
     ·intro vals w1 hx hd ha
      clear hd ha
      simp only [Lf,dstAt,Act.put,FR_]
      go_wp2
      exact q_
     ·intro vals w1 hx hd ha
      clear hd ha
      simp only [Lf,dstAt,Act.put,FR_]
      go_wp2
      exact q_
     ·intro vals w1 hx hd ha
      have e3 : vals 3 = .slice (some ⟨bx,ox,none⟩) n c:=hd 3 (by decide)
      have e4 : vals 4 = .int .i64 (k : Int):=hd 4 (by decide)
      clear hd ha
      simp only [Lf,dstAt,Act.put,FR_,e3,e4]
      clear e3 e4
      go_wp2
      exact q_
     ·intro vals w1 hx hd ha
      have e5 : vals 5 = .pointer (some ⟨bx,ox + k * 4,none⟩):=hd 5 (by decide)
      clear hd ha
      simp only [Lf,dstAt,Act.put,FR_,e5]
      clear e5
      go_wp2
      exact q_
     ·intro vals w1 hx hd ha
      have e6 : vals 6 = .pointer (some ⟨bx,ox + k * 4 + 3,none⟩):=hd 6 (by decide)
      clear hd ha
      simp only [Lf,dstAt,Act.put,FR_,e6]
      clear e6
      have v3_:=ext_cell hx v3_
      go_wp2
      exact q_
     ·intro vals w1 hx hd ha
      have e7 : vals 7 = .int .i64 a3:=hd 7 (by decide)
      clear hd ha
      simp only [Lf,dstAt,Act.put,FR_,e7]
      clear e7
      have hq1:=HQ7.out
      go_wp2
      exact q_
     ·intro vals w1 hx hd ha
      have e8 : vals 8 = .int .i64 xd7:=hd 8 (by decide)
      clear hd ha
      simp only [Lf,dstAt,Act.put,FR_,e8]
      clear e8
      go_wp2_with fail
      refine (HP4.out _).mono ?_
      rintro e w2 ⟨rfl,rfl⟩
      go_wp2
      exact q_
     ·intro vals w1 hx hd ha
      have e9 : vals 9 = .int .i64 p4:=hd 9 (by decide)
      clear hd ha
      simp only [Lf,dstAt,Act.put,FR_,e9]
      clear e9
      go_wp2
      exact q_
     ·intro vals w1 hx hd ha
      have e2 : vals 2 = .int .i64 no:=hd 2 (by decide)
      have e10 : vals 10 = .int .i64 (1000 * p4):=hd 10 (by decide)
      clear hd ha
      simp only [Lf,dstAt,Act.put,FR_,e2,e10]
      clear e2 e10
      go_wp2
      exact q_
     ·intro vals w1 hx hd ha
      have e11 : vals 11 = .int .i64 (no + 1000 * p4):=hd 11 (by decide)
      clear hd ha
      simp only [Lf,dstAt,Act.put,FR_]
      have hq1:=HNO4.out
      have hq2:=HNO3.out
      simp only [e11]
      clear e11
      go_wp2
      refine ⟨rfl,Ext.refl _,congrArg (Value.int .i64) ?_⟩
      have hq2:=HNO3.out
      omega
     ·intro vals w1 hx hd ha
      have e0 : vals 0 = .pointer (some ⟨g11,3,none⟩):=hd 0 (by decide)
      have e1 : vals 1 = .pointer (some ⟨g11,7,none⟩):=hd 1 (by decide)
      have e2 : vals 2 = .int .i64 no:=hd 2 (by decide)
      have e3 : vals 3 = .slice (some ⟨bx,ox,none⟩) n c:=hd 3 (by decide)
      have e4 : vals 4 = .int .i64 (k : Int):=hd 4 (by decide)
      have e5 : vals 5 = .pointer (some ⟨bx,ox + k * 4,none⟩):=hd 5 (by decide)
      have e6 : vals 6 = .pointer (some ⟨bx,ox + k * 4 + 3,none⟩):=hd 6 (by decide)
      have e7 : vals 7 = .int .i64 a3:=hd 7 (by decide)
      have e8 : vals 8 = .int .i64 xd7:=hd 8 (by decide)
      have e9 : vals 9 = .int .i64 p4:=hd 9 (by decide)
      have e10 : vals 10 = .int .i64 (1000 * p4):=hd 10 (by decide)
      have e11 : vals 11 = .int .i64 (no + 1000 * p4):=hd 11 (by decide)
      have e12 : vals 12 = .int .i64 no2:=hd 12 (by decide)
      clear hd ha
      simp only [Lf,dstAt,Act.put,FR_,e0,e1,e2,e3,e4,e5,e6,e7,e8,e9,e10,e11,e12]
      clear e0 e1 e2 e3 e4 e5 e6 e7 e8 e9 e10 e11 e12
      go_wp2
      exact q_
     ·intro vals w1 hx hd ha
      have e0 : vals 0 = .pointer (some ⟨g11,3,none⟩):=hd 0 (by decide)
      have e1 : vals 1 = .pointer (some ⟨g11,7,none⟩):=hd 1 (by decide)
      have e2 : vals 2 = .int .i64 no:=hd 2 (by decide)
      have e3 : vals 3 = .slice (some ⟨bx,ox,none⟩) n c:=hd 3 (by decide)
      have e4 : vals 4 = .int .i64 (k : Int):=hd 4 (by decide)
      have e5 : vals 5 = .pointer (some ⟨bx,ox + k * 4,none⟩):=hd 5 (by decide)
      have e6 : vals 6 = .pointer (some ⟨bx,ox + k * 4 + 3,none⟩):=hd 6 (by decide)
      have e7 : vals 7 = .int .i64 a3:=hd 7 (by decide)
      have e8 : vals 8 = .int .i64 xd7:=hd 8 (by decide)
      have e9 : vals 9 = .int .i64 p4:=hd 9 (by decide)
      have e10 : vals 10 = .int .i64 (1000 * p4):=hd 10 (by decide)
      have e11 : vals 11 = .int .i64 (no + 1000 * p4):=hd 11 (by decide)
      have e12 : vals 12 = .int .i64 no2:=hd 12 (by decide)
      have e13 : vals 13 = .pointer (some ⟨g11,3,none⟩):=hd 13 (by decide)
      clear hd ha
      simp only [Lf,dstAt,Act.put,FR_,e0,e1,e2,e3,e4,e5,e6,e7,e8,e9,e10,e11,e12,e13]
      clear e0 e1 e2 e3 e4 e5 e6 e7 e8 e9 e10 e11 e12 e13
      go_wp2
      exact q_
    intro vals w7 hx hf
    have hx:=hx.undrew
    have ev : vals 12 = .int .i64 no2:=hf 12 (by omega)
    have ep : vals 14 = .pointer (some ⟨g11,7,none⟩):=hf 14 (by omega)
    have J:=J.ext hx
    have hE:=Ext.trans hE hx
    clear hf hx v3_ o7 u1_ u2_
    refine tail1 15 _ (by kernel_rfl) (by kernel_rfl) rfl ?_
    simp only [Lf,dstAt,Act.put,FR_]
    rw [ev,ep]
    clear ev ep
    have f0 : w7.frozen? ⟨g11,7,none⟩ = false:=J.frozen 7
    have c0 : w7.cell? ⟨g11,7,none⟩ = some (.int .i64 no):=J.cell 7
    go_upto_region 11 with (fail)
    clear f0 c0
    have J:=J.set_ 7 (.int .i64 no2)
    have hE:=hE.setCell (p:=⟨g11,7,none⟩) (by show W.heap.size ≤ g11; omega) (.int .i64 no2)
    simp only [List.setIfInBounds_toArray,List.set_cons_zero,List.set_cons_succ] at J
    generalize w7.setCell ⟨g11,7,none⟩ (.int .i64 no2) = w8 at J hE ⊢
    have v3_:=ext_cell hE v3
    have o9 : w8.cell? ⟨g11,9,none⟩ = some (.int .i64 sl):=J.cell 9
    have u1_ : IntKind.i64.wrap (sl + p5) = sl + p5:=IntWalk.i64_in _ (by omega)
    refine wp_region_obl 14 (fun ix vals v w1 => match ix with | 0 => v = .pointer (some ⟨g11,3,none⟩) | 1 => v = .pointer (some ⟨g11,9,none⟩) | 2 => v = .int .i64 sl | 3 => v = .slice (some ⟨bx,ox,none⟩) n c | 4 => v = .int .i64 (k : Int) | 5 => v = .pointer (some ⟨bx,ox + k * 4,none⟩) | 6 => v = .pointer (some ⟨bx,ox + k * 4 + 3,none⟩) | 7 => v = .int .i64 a3 | 8 => v = .int .i64 xd28 | 9 => v = .int .i64 p5 | 10 => v = .int .i64 (sl + p5) | 11 => v = .int .i64 sl2 | 12 => v = .pointer (some ⟨g11,3,none⟩) | _ => v = .pointer (some ⟨g11,9,none⟩)) (by kernel_rfl) (by kernel_rfl) ?_ ?_ ?_ ?_
    ·intro ix vals v w1 w2 hi hr hx; exact hr
    ·intro ix vals vals_ v w1 hi hv hr
     exact hr
    ·refine ⟨?_,?_,?_,?_,?_,?_,?_,?_,?_,?_,?_,?_,?_,?_,trivial⟩
     ·intro vals w1 hx hd ha
      clear hd ha
      simp only [Lf]
      go_wp2
      exact q_
     ·intro vals w1 hx hd ha
      have e0 : vals 0 = .pointer (some ⟨g11,3,none⟩):=hd 0 (by decide)
      clear hd ha
      simp only [Lf,dstAt,Act.put,FR_,e0]
      clear e0
      go_wp2
      exact q_
     ·intro vals w1 hx hd ha
      have e1 : vals 1 = .pointer (some ⟨g11,9,none⟩):=hd 1 (by decide)
      clear hd ha
      simp only [Lf,dstAt,Act.put,FR_,e1]
      clear e1
      have o9:=ext_cell hx o9
      go_wp2
      exact q_
     ·intro vals w1 hx hd ha
      clear hd ha
      simp only [Lf,dstAt,Act.put,FR_]
      go_wp2
      exact q_
     ·intro vals w1 hx hd ha
      clear hd ha
      simp only [Lf,dstAt,Act.put,FR_]
      go_wp2
      exact q_
     ·intro vals w1 hx hd ha
      have e3 : vals 3 = .slice (some ⟨bx,ox,none⟩) n c:=hd 3 (by decide)
      have e4 : vals 4 = .int .i64 (k : Int):=hd 4 (by decide)
      clear hd ha
      simp only [Lf,dstAt,Act.put,FR_,e3,e4]
      clear e3 e4
      go_wp2
      exact q_
     ·intro vals w1 hx hd ha
      have e5 : vals 5 = .pointer (some ⟨bx,ox + k * 4,none⟩):=hd 5 (by decide)
      clear hd ha
      simp only [Lf,dstAt,Act.put,FR_,e5]
      clear e5
      go_wp2
      exact q_
     ·intro vals w1 hx hd ha
      have e6 : vals 6 = .pointer (some ⟨bx,ox + k * 4 + 3,none⟩):=hd 6 (by decide)
      clear hd ha
      simp only [Lf,dstAt,Act.put,FR_,e6]
      clear e6
      have v3_:=ext_cell hx v3_
      go_wp2
      exact q_
     ·intro vals w1 hx hd ha
      have e7 : vals 7 = .int .i64 a3:=hd 7 (by decide)
      clear hd ha
      simp only [Lf,dstAt,Act.put,FR_,e7]
      clear e7
      have hq1:=HQ28.out
      go_wp2
      exact q_
     ·intro vals w1 hx hd ha
      have e8 : vals 8 = .int .i64 xd28:=hd 8 (by decide)
      clear hd ha
      simp only [Lf,dstAt,Act.put,FR_,e8]
      clear e8
      go_wp2_with fail
      refine (HP5.out _).mono ?_
      rintro e w2 ⟨rfl,rfl⟩
      go_wp2
      exact q_
     ·intro vals w1 hx hd ha
      have e2 : vals 2 = .int .i64 sl:=hd 2 (by decide)
      have e9 : vals 9 = .int .i64 p5:=hd 9 (by decide)
      clear hd ha
      simp only [Lf,dstAt,Act.put,FR_,e2,e9]
      clear e2 e9
      go_wp2
      exact q_
     ·intro vals w1 hx hd ha
      have e10 : vals 10 = .int .i64 (sl + p5):=hd 10 (by decide)
      clear hd ha
      simp only [Lf,dstAt,Act.put,FR_,e10]
      clear e10
      have hq1:=HSL3.out
      go_wp2
      exact q_
     ·intro vals w1 hx hd ha
      have e0 : vals 0 = .pointer (some ⟨g11,3,none⟩):=hd 0 (by decide)
      have e1 : vals 1 = .pointer (some ⟨g11,9,none⟩):=hd 1 (by decide)
      have e2 : vals 2 = .int .i64 sl:=hd 2 (by decide)
      have e3 : vals 3 = .slice (some ⟨bx,ox,none⟩) n c:=hd 3 (by decide)
      have e4 : vals 4 = .int .i64 (k : Int):=hd 4 (by decide)
      have e5 : vals 5 = .pointer (some ⟨bx,ox + k * 4,none⟩):=hd 5 (by decide)
      have e6 : vals 6 = .pointer (some ⟨bx,ox + k * 4 + 3,none⟩):=hd 6 (by decide)
      have e7 : vals 7 = .int .i64 a3:=hd 7 (by decide)
      have e8 : vals 8 = .int .i64 xd28:=hd 8 (by decide)
      have e9 : vals 9 = .int .i64 p5:=hd 9 (by decide)
      have e10 : vals 10 = .int .i64 (sl + p5):=hd 10 (by decide)
      have e11 : vals 11 = .int .i64 sl2:=hd 11 (by decide)
      clear hd ha
      simp only [Lf,dstAt,Act.put,FR_,e0,e1,e2,e3,e4,e5,e6,e7,e8,e9,e10,e11]
      clear e0 e1 e2 e3 e4 e5 e6 e7 e8 e9 e10 e11
      go_wp2
      exact q_
     ·intro vals w1 hx hd ha
      have e0 : vals 0 = .pointer (some ⟨g11,3,none⟩):=hd 0 (by decide)
      have e1 : vals 1 = .pointer (some ⟨g11,9,none⟩):=hd 1 (by decide)
      have e2 : vals 2 = .int .i64 sl:=hd 2 (by decide)
      have e3 : vals 3 = .slice (some ⟨bx,ox,none⟩) n c:=hd 3 (by decide)
      have e4 : vals 4 = .int .i64 (k : Int):=hd 4 (by decide)
      have e5 : vals 5 = .pointer (some ⟨bx,ox + k * 4,none⟩):=hd 5 (by decide)
      have e6 : vals 6 = .pointer (some ⟨bx,ox + k * 4 + 3,none⟩):=hd 6 (by decide)
      have e7 : vals 7 = .int .i64 a3:=hd 7 (by decide)
      have e8 : vals 8 = .int .i64 xd28:=hd 8 (by decide)
      have e9 : vals 9 = .int .i64 p5:=hd 9 (by decide)
      have e10 : vals 10 = .int .i64 (sl + p5):=hd 10 (by decide)
      have e11 : vals 11 = .int .i64 sl2:=hd 11 (by decide)
      have e12 : vals 12 = .pointer (some ⟨g11,3,none⟩):=hd 12 (by decide)
      clear hd ha
      simp only [Lf,dstAt,Act.put,FR_,e0,e1,e2,e3,e4,e5,e6,e7,e8,e9,e10,e11,e12]
      clear e0 e1 e2 e3 e4 e5 e6 e7 e8 e9 e10 e11 e12
      go_wp2
      exact q_
    intro vals w9 hx hf
    have hx:=hx.undrew
    have ev : vals 11 = .int .i64 sl2:=hf 11 (by omega)
    have ep : vals 13 = .pointer (some ⟨g11,9,none⟩):=hf 13 (by omega)
    have J:=J.ext hx
    have hE:=Ext.trans hE hx
    clear hf hx v3_ o9 u1_
    refine tail1 14 _ (by kernel_rfl) (by kernel_rfl) rfl ?_
    simp only [Lf,dstAt,Act.put,FR_]
    rw [ev,ep]
    clear ev ep
    have f0 : w9.frozen? ⟨g11,9,none⟩ = false:=J.frozen 9
    have c0 : w9.cell? ⟨g11,9,none⟩ = some (.int .i64 sl):=J.cell 9
    go_upto_region 12 with (fail)
    clear f0 c0
    have J:=J.set_ 9 (.int .i64 sl2)
    have hE:=hE.setCell (p:=⟨g11,9,none⟩) (by show W.heap.size ≤ g11; omega) (.int .i64 sl2)
    simp only [List.setIfInBounds_toArray,List.set_cons_zero,List.set_cons_succ] at J
    generalize w9.setCell ⟨g11,9,none⟩ (.int .i64 sl2) = w10 at J hE ⊢
    obtain ⟨U,hU⟩ : ∃ X,(updCells ⟨sid,fr2,kn2,⟨pe,ph2,lo,hi,no2,tu,sl2⟩⟩).toArray = X:=⟨_,rfl⟩
    have JU : Blk w10 g11 66 U:=by rw [← hU]; exact J
    have HJU:=Lib.hid JU
    have hB10:=Ext.trans hB hE
    have hR10:=own_ext HR.out hE
    obtain ⟨A5,c5,hv5,_,_⟩:=own_slice hR10
    subst hv5
    have hlen:=HUL.out
    obtain ⟨v5,w11,hrun,hown,hext⟩:=app_upd 30 (.slice A5 k c5) (updsK sats fr x k) _ U hU hB10 (by rw [hlen]; exact hR10) (by rw [hlen]; omega)
    rw [hlen,← HUS.out] at hown
    have HU:=Lib.hid hU
    have HUZ : Hid (U.size = 10):=Lib.hid (by rw [← hU]; rfl)
    have HRUN:=Lib.hid hrun
    have HOWN:=Lib.hid hown
    clear hU hrun hown hlen J JU hR10
    go_wp2_with (first | (refine wpList_load_st rfl _ _ rfl g11 0 rfl U (updCells ⟨sid,fr2,kn2,⟨pe,ph2,lo,hi,no2,tu,sl2⟩⟩) HU.out _ (Blk.range HJU.out (updCells ⟨sid,fr2,kn2,⟨pe,ph2,lo,hi,no2,tu,sl2⟩⟩) (by rw [← HU.out])) Tryz.underlying66 rfl upd_size_ ?_) | (refine wpList_buildOne rfl _ _ _ rfl U rfl Tryz.underlying30 10 info_upd2 HUZ.out (by omega) (by omega) ?_) | (refine wpList_append_run_ rfl _ _ _ rfl rfl rfl HRUN.out ?_))
    go_roundw
    case rel => exact ⟨k + 1,by omega,by rw [HG2.out],by go_num,HOWN,hext⟩
    case measure => simp [intOf]; omega
   ·have hkm : k = m:=by omega
    have HE:=HR
    clear HR
    by_cases hkn : k < n
    ·have hk6 : ¬ (k : Int) < 6:=by have:=HM.out; omega
     have HKM:=Lib.hid hkm
     clear hkm hus hkn1
     go_wp2
     go_ret
     exact ⟨_,rfl,by rw [← HKM.out,hul]; exact HE.out,hB⟩
    ·have HKM:=Lib.hid hkm
     clear hkm hus hkn1
     go_wp2
     go_ret
     exact ⟨_,rfl,by rw [← HKM.out,hul]; exact HE.out,hB⟩
end Go.Proofs.YtjidhhfabfnhnaaGreat
namespace Go.Proofs.YtjidhhfabfnhnaaGreat
open Go.RowKit
theorem ra_ext {α : Type} {cells : α → List Value} {s : Nat} {W W' : World} {n c : Nat} {A : Option Addr} {l : List α} (h : RA cells s W W.heap.size A n c l) (hx : Ext W W') : RA cells s W' W'.heap.size A n c l:=(h.below hx).more (Below.size hx)
theorem Blk.part {w : World} {g : Nat} {t : TypeId} {X : Array Value} (h : Blk w g t X) (o : Nat) (l : List Value) (hp : ∀ j v,l[j]? = some v → X[o + j]? = some v) : w.rangeAt g o l:=fun j v hv => by rw [h.cell]; exact hp j v hv
theorem pth_orb (x : St) (A : Option Addr) (n c : Nat) (kn : Int) : ∀ j v,(orbCells x.orbit)[j]? = some v → (pthCells x A n c kn).toArray[2 + j]? = some v:=by
 intro j v h
 have hj : j < 7:=(List.getElem?_eq_some_iff.1 h).1
 match j,hj with
 | 0,_ => exact h
 | 1,_ => exact h
 | 2,_ => exact h
 | 3,_ => exact h
 | 4,_ => exact h
 | 5,_ => exact h
 | 6,_ => exact h
theorem upd_orb (u : Upd) : ∀ j v,(orbCells u.orb)[j]? = some v → (updCells u).toArray[3 + j]? = some v:=by
 intro j v h
 have hj : j < 7:=(List.getElem?_eq_some_iff.1 h).1
 match j,hj with
 | 0,_ => exact h
 | 1,_ => exact h
 | 2,_ => exact h
 | 3,_ => exact h
 | 4,_ => exact h
 | 5,_ => exact h
 | 6,_ => exact h
theorem orb_lit (o : Orb) (X : Array Value) (h : (orbCells o).toArray = X) : X.size = 7 ∧ X.all (·.oneCell') = true:=by
 subst h
 exact ⟨rfl,orb_one o⟩
set_option maxRecDepth 100000 in
set_option maxHeartbeats 2000000 in
theorem orb_any (x : St) (l : List Upd) (A : Option Addr) (n c : Nat) (kn t : Int) (w : World) (h : RA updCells 10 w w.heap.size A n c l) :
  Calls Tryz.prog 53 #[.agg (pthCells x A n c kn).toArray,.int .i64 t] w fun e w' => e = .returned (.agg (orbCells (orbE x l kn t)).toArray) ∧ Ext w w':=by
 have hpo:=pth_orb x A n c kn
 obtain ⟨P,hP⟩ : ∃ P,P = (pthCells x A n c kn).toArray:=⟨_,rfl⟩
 have p0 : P[0]? = some (.int .i64 x.id):=by rw [hP]; rfl
 have p21 : P[21]? = some (.slice A n c):=by rw [hP]; rfl
 have p22 : P[22]? = some (.int .i64 kn):=by rw [hP]; rfl
 rw [← hP] at hpo ⊢
 clear hP
 have hxa : Ext w (w.alloc (.cells P 117)):=bl_alloc (Below.refl _ _) _
 have hxb : Ext (w.alloc (.cells P 117)) ((w.alloc (.cells P 117)).alloc (.cells #[.int .i64 t] 3)):=bl_alloc (Below.refl _ _) _
 have hxc : Ext ((w.alloc (.cells P 117)).alloc (.cells #[.int .i64 t] 3)) (((w.alloc (.cells P 117)).alloc (.cells #[.int .i64 t] 3)).alloc (.cells #[.int .i64 0,.int .i64 0,.int .i64 0,.int .i64 0,.int .i64 0,.int .i64 0,.int .i64 0] 51)):=bl_alloc (Below.refl _ _) _
 have J2:=((Blk.new w 117 P).ext hxb).ext hxc
 have J3:=(Blk.new (w.alloc (.cells P 117)) 3 #[.int .i64 t]).ext hxc
 have J4:=Blk.new ((w.alloc (.cells P 117)).alloc (.cells #[.int .i64 t] 3)) 51 #[.int .i64 0,.int .i64 0,.int .i64 0,.int .i64 0,.int .i64 0,.int .i64 0,.int .i64 0]
 have hx3:=Ext.trans hxa (Ext.trans hxb hxc)
 simp only [World.size_alloc] at J3 J4
 have HRA:=Lib.hid h
 have hO : ∀ R,R = bestU x.id kn t l none → orbE x l kn t = (match R with | none => x.orbit | some u => u.orb):=by rintro _ rfl; rfl
 obtain ⟨R,hR⟩ : ∃ R,R = bestU x.id kn t l none:=⟨_,rfl⟩
 rw [hO R hR]
 have HRR:=Lib.hid hR
 have hg4 : w.heap.size ≤ w.heap.size + 1 + 1:=by omega
 have h24 : w.heap.size < w.heap.size + 1 + 1:=by omega
 clear h hxa hxb hxc hO hR
 go_enter Tryz.func53,Tryz.ntmps53
 go_upto_region 1 with (fail)
 generalize ((w.alloc (.cells P 117)).alloc (.cells #[.int .i64 t] 3)).alloc (.cells #[.int .i64 0,.int .i64 0,.int .i64 0,.int .i64 0,.int .i64 0,.int .i64 0,.int .i64 0] 51) = W3 at J2 J3 J4 hx3 ⊢
 generalize w.heap.size + 1 + 1 = g4 at J4 hg4 h24 ⊢
 generalize w.heap.size + 1 = g3 at J3 ⊢
 obtain ⟨g2,hg2⟩ : ∃ g,g = w.heap.size:=⟨_,rfl⟩
 rw [← hg2] at J2 h24 ⊢
 have HLA:=Lib.hid (last_any x.id kn t g2 g3 P p0 p22 l A n c W3 J2 J3 (ra_ext HRA.out hx3))
 rw [← HRR.out] at HLA
 have a21 : W3.cell? ⟨g2,21,none⟩ = some (.slice A n c):=by rw [J2.cell]; exact p21
 have HG4:=Lib.hid hg4
 have HPO:=Lib.hid hpo
 have HJ2:=Lib.hid J2
 have HJ4:=Lib.hid J4
 clear hg2 J3 J2 J4 p0 p21 p22 hg4 hpo
 go_wp2_with fail
 refine HLA.out.mono ?_
 rintro e W4 ⟨rfl,hy⟩
 have hx4:=Ext.trans hx3 hy
 obtain ⟨X,hX⟩ : ∃ X,(updCells (R.getD zU)).toArray = X:=⟨_,rfl⟩
 obtain ⟨hXs,hX1⟩:=cells_lit _ X hX
 rw [hX]
 have HXX:=Lib.hid hX
 have HXS:=Lib.hid hXs
 have HX1:=Lib.hid hX1
 have HJ2:=Lib.hid (HJ2.out.ext hy)
 have HJ4:=Lib.hid (HJ4.out.ext hy)
 have hxd : Ext W4 (W4.alloc (.cells X 66)):=bl_alloc (Below.refl _ _) _
 have KX:=Blk.new W4 66 X
 clear hx3 hy a21 HLA hX hXs hX1
 go_upto_region 3 with (refine wpList_store_new rfl 66 _ _ rfl _ X rfl rfl (by rw [HXS.out]; exact upd_size) (by rw [HXS.out]; rfl) HX1.out ?_)
 have hx5:=Ext.trans hx4 hxd
 have HJ2:=Lib.hid (HJ2.out.ext hxd)
 have HJ4:=Lib.hid (HJ4.out.ext hxd)
 have HK:=Lib.hid KX
 generalize W4.heap.size = g6 at HK ⊢
 generalize W4.alloc (.cells X 66) = W5 at HK HJ2 HJ4 hx5 ⊢
 clear hx4 hxd KX
 have HX5:=Lib.hid hx5
 clear hx5
 cases R with
 | none =>
  obtain ⟨Y,hY⟩ : ∃ Y,(orbCells x.orbit).toArray = Y:=⟨_,rfl⟩
  obtain ⟨hYs,hY1⟩:=orb_lit _ Y hY
  have HYY:=Lib.hid hY
  have HYS:=Lib.hid hYs
  have HY1:=Lib.hid hY1
  have JN:=HJ4.out.row Y
  have hxn:=below_setRow HX5.out (g:=g4) HG4.out Y
  clear hY hYs hY1
  go_wp2_with (first | (refine wpList_load_st rfl _ _ rfl g2 2 rfl Y (orbCells x.orbit) HYY.out _ (Blk.part HJ2.out 2 _ HPO.out) Tryz.underlying51 rfl orb_size ?_) | (refine wpList_store_row rfl 51 _ _ rfl g4 Y rfl rfl 51 _ HJ4.out (by rw [HYS.out]; exact orb_size) (by rw [HYS.out]; rfl) HY1.out ?_))
  exact bodyPost_ret (results_row Tryz.results53 _ _ g4 Y rfl JN _ Tryz.underlying51 rfl (by rw [HYS.out]; exact orb_size)) rfl ⟨by rw [HYY.out],hxn⟩
 | some u =>
  obtain ⟨Y,hY⟩ : ∃ Y,(orbCells u.orb).toArray = Y:=⟨_,rfl⟩
  obtain ⟨hYs,hY1⟩:=orb_lit _ Y hY
  have HYY:=Lib.hid hY
  have HYS:=Lib.hid hYs
  have HY1:=Lib.hid hY1
  have JN:=HJ4.out.row Y
  have hxn:=below_setRow HX5.out (g:=g4) HG4.out Y
  have hpu : ∀ j v,(orbCells u.orb)[j]? = some v → X[3 + j]? = some v:=by rw [← HXX.out]; exact upd_orb u
  have HPU:=Lib.hid hpu
  clear hY hYs hY1 hpu
  go_wp2_with (first | (refine wpList_load_st rfl _ _ rfl g6 3 rfl Y (orbCells u.orb) HYY.out _ (Blk.part HK.out 3 _ HPU.out) Tryz.underlying51 rfl orb_size ?_) | (refine wpList_store_row rfl 51 _ _ rfl g4 Y rfl rfl 51 _ HJ4.out (by rw [HYS.out]; exact orb_size) (by rw [HYS.out]; rfl) HY1.out ?_))
  exact bodyPost_ret (results_row Tryz.results53 _ _ g4 Y rfl JN _ Tryz.underlying51 rfl (by rw [HYS.out]; exact orb_size)) rfl ⟨by rw [HYY.out],hxn⟩
end Go.Proofs.YtjidhhfabfnhnaaGreat
