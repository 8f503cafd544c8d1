/- The reference: lists of satellites and stations that integers determine (printed by contact_c8.py). -/
import Derived.Test.YtjidhhfabfnhnaaGreatK07
import Derived.Test.YtjidhhfabfnhnaaGreatK08
import Derived.Great.BuildSlice
namespace Go.Proofs.YtjidhhfabfnhnaaGreat
open Go.RowKit
theorem wpList_buildOne {P : Program} {ops : Array Oper} {rest : List Oper} {o : Oper} {a : Act} {w : World} {Q : Exit → Act → World → Prop} (hg : o.guard = none) (t e : TypeId) (x : Operand) (ho : o.op = .buildSlice t 1 #[(0,x)])
  (X : Array Value) (hx : a.eval x = .agg X) (hu : P.underlying t = some (.slice e)) (s : Nat) (hi : (P.info? e).map (fun i => (i.zero.map (fun z => z.cells.size),i.size)) = some (some s,s)) (hs : X.size = s) (h0 : 0 < s) (hsm : s ≤ 2 ^ 24)
  (h : wpList P ops Q rest (a.put o.dst (.slice (some ⟨w.heap.size,0,none⟩) 1 1)) (w.alloc (.cells X e))) : wpList P ops Q (o :: rest) a w:=by
 cases hie : P.info? e with
 | none => simp [hie] at hi
 | some ie =>
  cases hz : ie.zero with
  | none => simp [hie,hz] at hi
  | some z =>
   simp only [hie,hz,Option.map_some,Option.some.injEq,Prod.mk.injEq] at hi
   obtain ⟨hzs,his⟩:=hi
   refine wpList_buildSlice hg t e 1 _ ho X ie z hu hie hz (by omega) (by omega) ?_ h
   have hf:=Great.fill_whole (s:=s) h0 [.agg X] ((Array.range (1 * ie.size)).map (z.cells[· % z.cells.size]!)) (by intro v hv; obtain rfl:=List.mem_singleton.1 hv; exact hs) (by simp [his])
   simp [hx,his] at hf ⊢
   exact hf
structure A7 where
 a0 : Int
 a1 : Int
 a2 : Int
 a3 : Int
 a4 : Int
 a5 : Int
 a6 : Int
structure A4 where
 a0 : Int
 a1 : Int
 a2 : Int
 a3 : Int
def z7 : A7:=⟨0,0,0,0,0,0,0⟩
def z4 : A4:=⟨0,0,0,0⟩
def a7Cells (x : A7) : List Value:=[.int .i64 x.a0,.int .i64 x.a1,.int .i64 x.a2,.int .i64 x.a3,.int .i64 x.a4,.int .i64 x.a5,.int .i64 x.a6]
def a4Cells (x : A4) : List Value:=[.int .i64 x.a0,.int .i64 x.a1,.int .i64 x.a2,.int .i64 x.a3]
theorem a7_len (x : A7) : (a7Cells x).length = 7:=rfl
theorem a4_len (x : A4) : (a4Cells x).length = 4:=rfl
def A7.ok (x : A7) : Prop:=I64ok x.a0 ∧ I64ok x.a1 ∧ I64ok x.a2 ∧ I64ok x.a3 ∧ I64ok x.a4 ∧ I64ok x.a5 ∧ I64ok x.a6
def A4.ok (x : A4) : Prop:=I64ok x.a0 ∧ I64ok x.a1 ∧ I64ok x.a2 ∧ I64ok x.a3
theorem z4_ok : z4.ok:=by simp [z4,A4.ok,I64ok]
def satA (i : Nat) (a : A7) (b : A4) : St:=satP (2 * (i : Int) + 1) a.a0 a.a1 a.a2 a.a3 a.a4 a.a5 a.a6 b.a0 b.a1 b.a2 b.a3
def stnA (i : Nat) (a : A4) : Stn:=stnP (3 * (i : Int)) a.a0 a.a1 a.a2 a.a3
def satsK (x : List A7) (y : List A4) (k : Nat) : List St:=(List.range k).map fun i => satA i (x.getD i z7) (y.getD i z4)
def stnsK (x : List A4) (k : Nat) : List Stn:=(List.range k).map fun i => stnA i (x.getD i z4)
def satsP (x : List A7) (y : List A4) : List St:=satsK x y (min x.length 3)
def stnsP (x : List A4) : List Stn:=stnsK x (min x.length 3)
theorem satsK_succ (x : List A7) (y : List A4) (k : Nat) : satsK x y (k + 1) = satsK x y k ++ [satA k (x.getD k z7) (y.getD k z4)]:=by simp [satsK,List.range_succ]
theorem stnsK_succ (x : List A4) (k : Nat) : stnsK x (k + 1) = stnsK x k ++ [stnA k (x.getD k z4)]:=by simp [stnsK,List.range_succ]
theorem satsK_len (x : List A7) (y : List A4) (k : Nat) : (satsK x y k).length = k:=by simp [satsK]
theorem stnsK_len (x : List A4) (k : Nat) : (stnsK x k).length = k:=by simp [stnsK]
def ListRet {α : Type} (cells : α → List Value) (s : Nat) (t : TypeId) (l : List α) (w : World) (e : Ending) (w' : World) : Prop:=∃ v,e = .returned v ∧ w'.ownsRow w.heap.size t s v l.length (l.flatMap cells) ∧ Below w.heap.size w w'
theorem info_sat : (Tryz.prog.info? 53).map (fun i => (i.zero,i.size,i.bytes)) = some (some (.agg #[.int .i64 0,.int .i64 0,.int .i64 0,.int .i64 0,.int .i64 0,.int .i64 0,.int .i64 0,.int .i64 0,.int .i64 0,.int .i64 0,.int .i64 0,.int .i64 0,.int .i64 0,.int .i64 0,.int .i64 0,.int .i64 0,.int .i64 0,.int .i64 0,.int .i64 0,.int .i64 0,.int .i64 0]),21,168):=by kernel_rfl
theorem info_stn : (Tryz.prog.info? 71).map (fun i => (i.zero,i.size,i.bytes)) = some (some (.agg #[.int .i64 0,.int .i64 0,.int .i64 0,.int .i64 0,.int .i64 0,.int .i64 0]),6,48):=by kernel_rfl
theorem info_sat2 : (Tryz.prog.info? 53).map (fun i => (i.zero.map (fun z => z.cells.size),i.size)) = some (some 21,21):=by kernel_rfl
theorem info_stn2 : (Tryz.prog.info? 71).map (fun i => (i.zero.map (fun z => z.cells.size),i.size)) = some (some 6,6):=by kernel_rfl
theorem stn_one (x : Stn) : (stnCells x).toArray.all (·.oneCell') = true:=by simp [stnCells,Value.oneCell']
set_option maxHeartbeats 2000000 in
set_option maxRecDepth 100000 in
theorem sats_any (AX AY : Option Addr) (n c ny cy : Nat) (x : List A7) (y : List A4) (w : World) (hx : RA a7Cells 7 w w.heap.size AX n c x) (hy : RA a4Cells 4 w w.heap.size AY ny cy y) (okx : ∀ a ∈ x,a.ok) (oky : ∀ a ∈ y,a.ok) :
  Calls Tryz.prog 39 #[.slice AX n c,.slice AY ny cy] w (ListRet satCells 21 53 (satsP x y) w):=by
 have hle:=hx.le
 have hley:=hy.le
 have hxl:=hx.len
 have hyl:=hy.len
 have hps : satsP x y = satsK x y (min n 3):=by rw [satsP,hxl]
 rw [hps]
 obtain ⟨m,hm⟩ : ∃ m,m = min n 3:=⟨_,rfl⟩
 rw [← hm]
 have HX:=Lib.hid hx
 have HY:=Lib.hid hy
 have HOX:=Lib.hid okx
 have HOY:=Lib.hid oky
 have HYL:=Lib.hid hyl
 have HM:=Lib.hid hm
 clear hx hy okx oky hps hxl hyl hm
 go_enter Tryz.func39,Tryz.ntmps39
 go_wp2
 go_loopw [5,6] (fun v i wr => ∃ k : Nat,k ≤ m ∧ i = .int .i64 k ∧ Hid (wr.ownsRow w.heap.size 53 21 v k ((satsK x y k).flatMap satCells)) ∧ Ext w wr) (fun _ i _ => m - (intOf i).toNat)
 case atStart => exact ⟨0,Nat.zero_le _,rfl,Lib.hid (World.ownsRow_nil _ _ _ _),Ext.refl _⟩
 case round =>
  obtain ⟨k,hk,rfl,HR,hB⟩:=hrel
  by_cases hlt : k < m
  ·have hkn : k < n:=by have:=HM.out; omega
   have hk3 : (k : Int) < 3:=by have:=HM.out; omega
   obtain ⟨bx,ox,hz,hA,hbl,hc⟩:=(HX.out.below hB).at_ a7_len hkn
   have hxk : x.getD k z7 = x[k]:=by simp [hz]
   have hokx:=HOX.out x[k] (List.getElem_mem _)
   generalize x[k] = a at hc hxk hokx
   obtain ⟨x0,x1,x2,x3,x4,x5,x6⟩:=a
   obtain ⟨bx0,bx1,bx2,bx3,bx4,bx5,bx6⟩:=hokx
   have v0 : wr.cell? ⟨bx,ox + k * 7,none⟩ = some (.int .i64 x0):=hc 0 (by omega)
   have v1 : wr.cell? ⟨bx,ox + k * 7 + 1,none⟩ = some (.int .i64 x1):=hc 1 (by omega)
   have v2 : wr.cell? ⟨bx,ox + k * 7 + 2,none⟩ = some (.int .i64 x2):=hc 2 (by omega)
   have v3 : wr.cell? ⟨bx,ox + k * 7 + 3,none⟩ = some (.int .i64 x3):=hc 3 (by omega)
   have v4 : wr.cell? ⟨bx,ox + k * 7 + 4,none⟩ = some (.int .i64 x4):=hc 4 (by omega)
   have v5 : wr.cell? ⟨bx,ox + k * 7 + 5,none⟩ = some (.int .i64 x5):=hc 5 (by omega)
   have v6 : wr.cell? ⟨bx,ox + k * 7 + 6,none⟩ = some (.int .i64 x6):=hc 6 (by omega)
   have HXK:=Lib.hid hxk
   clear hxk hc
   subst hA
   by_cases hky : k < ny
   ·obtain ⟨b2,o2,hz2,hA2,hbl2,hc2⟩:=(HY.out.below hB).at_ a4_len hky
    have hyk : y.getD k z4 = y[k]:=by simp [hz2]
    have hoky:=HOY.out y[k] (List.getElem_mem _)
    generalize y[k] = b at hc2 hyk hoky
    obtain ⟨z0,z1,z2,z3⟩:=b
    have u0 : wr.cell? ⟨b2,o2 + k * 4,none⟩ = some (.int .i64 z0):=hc2 0 (by omega)
    have u1 : wr.cell? ⟨b2,o2 + k * 4 + 1,none⟩ = some (.int .i64 z1):=hc2 1 (by omega)
    have u2 : wr.cell? ⟨b2,o2 + k * 4 + 2,none⟩ = some (.int .i64 z2):=hc2 2 (by omega)
    have u3 : wr.cell? ⟨b2,o2 + k * 4 + 3,none⟩ = some (.int .i64 z3):=hc2 3 (by omega)
    have q0:=ext_cell (show Ext wr (wr.alloc (.cells #[.int .i64 0,.int .i64 0,.int .i64 0,.int .i64 0] 151)) from bl_alloc (Below.refl _ _) _) u0
    have q1:=ext_cell (show Ext wr (wr.alloc (.cells #[.int .i64 0,.int .i64 0,.int .i64 0,.int .i64 0] 151)) from bl_alloc (Below.refl _ _) _) u1
    have q2:=ext_cell (show Ext wr (wr.alloc (.cells #[.int .i64 0,.int .i64 0,.int .i64 0,.int .i64 0] 151)) from bl_alloc (Below.refl _ _) _) u2
    have q3:=ext_cell (show Ext wr (wr.alloc (.cells #[.int .i64 0,.int .i64 0,.int .i64 0,.int .i64 0] 151)) from bl_alloc (Below.refl _ _) _) u3
    clear hc2
    subst hA2
    obtain ⟨bz0,bz1,bz2,bz3⟩:=hoky
    have HYK:=Lib.hid hyk
    clear hyk
    go_upto_region 8 with (fail)
    obtain ⟨g7,hg7⟩ : ∃ g,g = wr.heap.size:=⟨_,rfl⟩
    have J7 : Blk (wr.alloc (.cells #[.int .i64 z0,.int .i64 z1,.int .i64 z2,.int .i64 z3] 151)) g7 151 #[.int .i64 z0,.int .i64 z1,.int .i64 z2,.int .i64 z3]:=Blk.new_at _ _ _ hg7.symm
    have hx1 : Ext wr (wr.alloc (.cells #[.int .i64 z0,.int .i64 z1,.int .i64 z2,.int .i64 z3] 151)):=bl_alloc (Below.refl _ _) _
    rw [← hg7]
    generalize wr.alloc (.cells #[.int .i64 z0,.int .i64 z1,.int .i64 z2,.int .i64 z3] 151) = W at J7 hx1 ⊢
    have hB:=Ext.trans hB hx1
    have hrw:=own_ext HR.out hx1
    have v0:=ext_cell hx1 v0
    have v1:=ext_cell hx1 v1
    have v2:=ext_cell hx1 v2
    have v3:=ext_cell hx1 v3
    have v4:=ext_cell hx1 v4
    have v5:=ext_cell hx1 v5
    have v6:=ext_cell hx1 v6
    have t0 : W.cell? ⟨g7,0,none⟩ = some (.int .i64 z0):=J7.cell 0
    have t1 : W.cell? ⟨g7,1,none⟩ = some (.int .i64 z1):=J7.cell 1
    have t2 : W.cell? ⟨g7,2,none⟩ = some (.int .i64 z2):=J7.cell 2
    have t3 : W.cell? ⟨g7,3,none⟩ = some (.int .i64 z3):=J7.cell 3
    clear hx1 hg7 HR u0 u1 u2 u3 q0 q1 q2 q3
    skip
    have hsat:=fun w => sat_any (2 * (k : Int) + 1) x0 x1 x2 x3 x4 x5 x6 z0 z1 z2 z3 w ⟨by omega,by omega⟩ bx0 bx1 bx2 bx3 bx4 bx5 bx6 bz0 bz1 bz2 bz3
    obtain ⟨SX,hSX⟩ : ∃ X,(satCells (satP (2 * (k : Int) + 1) x0 x1 x2 x3 x4 x5 x6 z0 z1 z2 z3)).toArray = X:=⟨_,rfl⟩
    have hS2 : SX.size = 21:=by rw [← hSX]; rfl
    rw [hSX] at hsat
    have HSX:=Lib.hid hSX
    have HS2:=Lib.hid hS2
    have HSAT:=Lib.hid hsat
    clear hSX hS2 hsat
    skip
    obtain ⟨A',c',hv,_,_⟩:=own_slice hrw
    subst hv
    have HRW:=Lib.hid hrw
    clear hrw
    have w1_ : IntKind.i64.wrap (2 * (k : Int)) = 2 * (k : Int):=IntWalk.i64_in _ (by omega)
    have w2_ : IntKind.i64.wrap (2 * (k : Int) + 1) = 2 * (k : Int) + 1:=IntWalk.i64_in _ (by omega)
    refine wp_region_obl 11 (fun ix vals v w1 => match ix with | 0 => v = .slice A' k c' | 1 => v = .int .i64 (k : Int) | 2 => v = .int .i64 (2 * (k : Int)) | 3 => v = .int .i64 (2 * (k : Int) + 1) | 4 => v = .slice (some ⟨bx,ox,none⟩) n c | 5 => v = .int .i64 (k : Int) | 6 => v = .pointer (some ⟨bx,ox + k * 7,none⟩) | 7 => v = .agg #[.int .i64 x0,.int .i64 x1,.int .i64 x2,.int .i64 x3,.int .i64 x4,.int .i64 x5,.int .i64 x6] | 8 => v = .agg #[.int .i64 z0,.int .i64 z1,.int .i64 z2,.int .i64 z3] | 9 => v = .agg SX | _ => ∃ gx,v = .slice (some ⟨gx,0,none⟩) 1 1 ∧ W.heap.size ≤ gx ∧ Blk w1 gx 53 SX) (by kernel_rfl) (by kernel_rfl) ?_ ?_ ?_ ?_
    ·intro ix vals v w1 w2 hi hr hx
     match ix,hr with
     | 0,hr => exact hr
     | 1,hr => exact hr
     | 2,hr => exact hr
     | 3,hr => exact hr
     | 4,hr => exact hr
     | 5,hr => exact hr
     | 6,hr => exact hr
     | 7,hr => exact hr
     | 8,hr => exact hr
     | 9,hr => exact hr
     | (kx + 10),hr => obtain ⟨gx,h1,h2,h3⟩:=hr; exact ⟨gx,h1,h2,h3.ext hx⟩
    ·intro ix vals vals_ v w1 hi hv hr
     exact hr
    ·refine ⟨?_,?_,?_,?_,?_,?_,?_,?_,?_,?_,?_,trivial⟩
     ·intro vals w1 hx hd ha
      clear hd ha
      simp only [Lf]
      go_wp2
      exact q_
     ·intro vals w1 hx hd ha
      clear hd ha
      simp only [Lf,dstAt,Act.put,FR_]
      go_wp2
      exact q_
     ·intro vals w1 hx hd ha
      have e1 : vals 1 = .int .i64 (k : Int):=hd 1 (by decide)
      clear hd ha
      simp only [Lf,dstAt,Act.put,FR_,e1]
      clear e1
      go_wp2
      exact q_
     ·intro vals w1 hx hd ha
      have e2 : vals 2 = .int .i64 (2 * (k : Int)):=hd 2 (by decide)
      clear hd ha
      simp only [Lf,dstAt,Act.put,FR_,e2]
      clear e2
      go_wp2
      exact q_
     ·intro vals w1 hx hd ha
      clear hd ha
      simp only [Lf,dstAt,Act.put,FR_]
      go_wp2
      exact q_
     ·intro vals w1 hx hd ha
      clear hd ha
      simp only [Lf,dstAt,Act.put,FR_]
      go_wp2
      exact q_
     ·intro vals w1 hx hd ha
      have e4 : vals 4 = .slice (some ⟨bx,ox,none⟩) n c:=hd 4 (by decide)
      have e5 : vals 5 = .int .i64 (k : Int):=hd 5 (by decide)
      clear hd ha
      simp only [Lf,dstAt,Act.put,FR_,e4,e5]
      clear e4 e5
      go_wp2
      exact q_
     ·intro vals w1 hx hd ha
      have e6 : vals 6 = .pointer (some ⟨bx,ox + k * 7,none⟩):=hd 6 (by decide)
      clear hd ha
      simp only [Lf,dstAt,Act.put,FR_,e6]
      clear e6
      have v0:=ext_cell hx v0
      have v1:=ext_cell hx v1
      have v2:=ext_cell hx v2
      have v3:=ext_cell hx v3
      have v4:=ext_cell hx v4
      have v5:=ext_cell hx v5
      have v6:=ext_cell hx v6
      go_wp2
      exact q_
     ·intro vals w1 hx hd ha
      clear hd ha
      simp only [Lf,dstAt,Act.put,FR_]
      have t0:=ext_cell hx t0
      have t1:=ext_cell hx t1
      have t2:=ext_cell hx t2
      have t3:=ext_cell hx t3
      go_wp2
      exact q_
     ·intro vals w1 hx hd ha
      have e3 : vals 3 = .int .i64 (2 * (k : Int) + 1):=hd 3 (by decide)
      have e7 : vals 7 = .agg #[.int .i64 x0,.int .i64 x1,.int .i64 x2,.int .i64 x3,.int .i64 x4,.int .i64 x5,.int .i64 x6]:=hd 7 (by decide)
      have e8 : vals 8 = .agg #[.int .i64 z0,.int .i64 z1,.int .i64 z2,.int .i64 z3]:=hd 8 (by decide)
      clear hd ha
      simp only [Lf,dstAt,Act.put,FR_,e3]
      simp only [e7]
      simp only [e8]
      clear e3 e7 e8
      go_wp2_with fail
      refine (HSAT.out _).mono ?_
      rintro e w2 ⟨rfl,hb2⟩
      go_wp2
      exact ⟨rfl,hb2,rfl⟩
     ·intro vals w1 hx hd ha
      have e9 : vals 9 = .agg SX:=hd 9 (by decide)
      clear hd ha
      simp only [Lf,dstAt,Act.put,FR_,e9]
      clear e9
      have hz:=Below.size hx.undrew
      refine wpList_buildOne rfl _ _ _ rfl SX rfl Tryz.underlying28 21 info_sat2 HS2.out (by omega) (by omega) ?_
      go_wp2
      exact ⟨rfl,(by repeat (first | exact Below.refl _ _ | assumption | refine Below.drew ?_ | refine below_drewN ?_ _ | refine bl_alloc ?_ _ | refine Below.setCell ?_ (by first | (simp; done) | omega | (simp; omega)) _ | refine bl_then ?_ (by assumption))),_,rfl,by omega,Blk.new _ _ _⟩
    intro vals w5 hx5 hf
    have e0 : vals 0 = .slice A' k c':=hf 0 (by omega)
    obtain ⟨gx,e10,hgx,jx⟩ : ∃ gx,vals 10 = .slice (some ⟨gx,0,none⟩) 1 1 ∧ W.heap.size ≤ gx ∧ Blk w5 gx 53 SX:=hf 10 (by omega)
    clear hf v0 v1 v2 v3 v4 v5 v6 t0 t1 t2 t3
    have hx5:=hx5.undrew
    have hrow:=own_ext HRW.out hx5
    have hB5:=Ext.trans hB hx5
    have hBs:=hB5.size
    obtain ⟨i0,hi0,hz0,hz1,hz2⟩:=info_parts info_sat
    obtain ⟨v2,W7,hr,hrow2,hg2,-⟩:=run_append_own (P:=Tryz.prog) w5 w.heap.size 28 28 53 i0 _ 21 168 Tryz.underlying28 hi0 hz0 hz1 hz2 rfl (by omega) _ k _ hrow ⟨gx,0,none⟩ 1 1 (satCells (satP (2 * (k : Int) + 1) x0 x1 x2 x3 x4 x5 x6 z0 z1 z2 z3)) (by rfl) (by intro i u hu; rw [Addr.add_lit,Nat.zero_add,jx.cell,← HSX.out]; simpa using hu) (by simp [satCells,Value.oneCell']) (by unfold maxLen; omega) (by omega) (by omega)
    have hB7 : Ext w W7:=hB5.grown hg2 hBs (fun q e => (World.ownsRow.lt hrow q e).1)
    have hnew : W7.ownsRow w.heap.size 53 21 v2 (k + 1) ((satsK x y (k + 1)).flatMap satCells):=by
     rw [satsK_succ,HXK.out,HYK.out,List.flatMap_append]
     simpa [satA] using hrow2
    have HNEW:=Lib.hid hnew
    have HRUN:=Lib.hid hr
    clear hr hrow2 hg2 hrow hnew jx hx5 hB5 hBs HRW
    refine tailF 11 _ _ 1 (by kernel_rfl) rfl ?_ (fun a w q => tail1 12 _ (by kernel_rfl) (by kernel_rfl) rfl q)
    simp only [Lf,dstAt,Act.put,FR_]
    rw [e0,e10]
    clear e0 e10
    refine wpList_append_run_ rfl _ _ _ rfl rfl rfl HRUN.out ?_
    go_wp2
    go_roundw
    case rel => exact ⟨k + 1,by omega,by go_num,HNEW,hB7⟩
    case measure => simp [intOf]; omega
   ·have hyk : y.getD k z4 = ⟨0,0,0,0⟩:=by rw [List.getD_eq_getElem?_getD,List.getElem?_eq_none (by rw [HYL.out]; omega)]; rfl
    have hoky : A4.ok ⟨0,0,0,0⟩:=z4_ok
    obtain ⟨bz0,bz1,bz2,bz3⟩:=hoky
    have HYK:=Lib.hid hyk
    clear hyk
    go_upto_region 8 with (fail)
    obtain ⟨g7,hg7⟩ : ∃ g,g = wr.heap.size:=⟨_,rfl⟩
    have J7 : Blk (wr.alloc (.cells #[.int .i64 0,.int .i64 0,.int .i64 0,.int .i64 0] 151)) g7 151 #[.int .i64 0,.int .i64 0,.int .i64 0,.int .i64 0]:=Blk.new_at _ _ _ hg7.symm
    have hx1 : Ext wr (wr.alloc (.cells #[.int .i64 0,.int .i64 0,.int .i64 0,.int .i64 0] 151)):=bl_alloc (Below.refl _ _) _
    rw [← hg7]
    generalize wr.alloc (.cells #[.int .i64 0,.int .i64 0,.int .i64 0,.int .i64 0] 151) = W at J7 hx1 ⊢
    have hB:=Ext.trans hB hx1
    have hrw:=own_ext HR.out hx1
    have v0:=ext_cell hx1 v0
    have v1:=ext_cell hx1 v1
    have v2:=ext_cell hx1 v2
    have v3:=ext_cell hx1 v3
    have v4:=ext_cell hx1 v4
    have v5:=ext_cell hx1 v5
    have v6:=ext_cell hx1 v6
    have t0 : W.cell? ⟨g7,0,none⟩ = some (.int .i64 0):=J7.cell 0
    have t1 : W.cell? ⟨g7,1,none⟩ = some (.int .i64 0):=J7.cell 1
    have t2 : W.cell? ⟨g7,2,none⟩ = some (.int .i64 0):=J7.cell 2
    have t3 : W.cell? ⟨g7,3,none⟩ = some (.int .i64 0):=J7.cell 3
    clear hx1 hg7 HR
    skip
    have hsat:=fun w => sat_any (2 * (k : Int) + 1) x0 x1 x2 x3 x4 x5 x6 0 0 0 0 w ⟨by omega,by omega⟩ bx0 bx1 bx2 bx3 bx4 bx5 bx6 bz0 bz1 bz2 bz3
    obtain ⟨SX,hSX⟩ : ∃ X,(satCells (satP (2 * (k : Int) + 1) x0 x1 x2 x3 x4 x5 x6 0 0 0 0)).toArray = X:=⟨_,rfl⟩
    have hS2 : SX.size = 21:=by rw [← hSX]; rfl
    rw [hSX] at hsat
    have HSX:=Lib.hid hSX
    have HS2:=Lib.hid hS2
    have HSAT:=Lib.hid hsat
    clear hSX hS2 hsat
    skip
    obtain ⟨A',c',hv,_,_⟩:=own_slice hrw
    subst hv
    have HRW:=Lib.hid hrw
    clear hrw
    have w1_ : IntKind.i64.wrap (2 * (k : Int)) = 2 * (k : Int):=IntWalk.i64_in _ (by omega)
    have w2_ : IntKind.i64.wrap (2 * (k : Int) + 1) = 2 * (k : Int) + 1:=IntWalk.i64_in _ (by omega)
    refine wp_region_obl 11 (fun ix vals v w1 => match ix with | 0 => v = .slice A' k c' | 1 => v = .int .i64 (k : Int) | 2 => v = .int .i64 (2 * (k : Int)) | 3 => v = .int .i64 (2 * (k : Int) + 1) | 4 => v = .slice (some ⟨bx,ox,none⟩) n c | 5 => v = .int .i64 (k : Int) | 6 => v = .pointer (some ⟨bx,ox + k * 7,none⟩) | 7 => v = .agg #[.int .i64 x0,.int .i64 x1,.int .i64 x2,.int .i64 x3,.int .i64 x4,.int .i64 x5,.int .i64 x6] | 8 => v = .agg #[.int .i64 0,.int .i64 0,.int .i64 0,.int .i64 0] | 9 => v = .agg SX | _ => ∃ gx,v = .slice (some ⟨gx,0,none⟩) 1 1 ∧ W.heap.size ≤ gx ∧ Blk w1 gx 53 SX) (by kernel_rfl) (by kernel_rfl) ?_ ?_ ?_ ?_
    ·intro ix vals v w1 w2 hi hr hx
     match ix,hr with
     | 0,hr => exact hr
     | 1,hr => exact hr
     | 2,hr => exact hr
     | 3,hr => exact hr
     | 4,hr => exact hr
     | 5,hr => exact hr
     | 6,hr => exact hr
     | 7,hr => exact hr
     | 8,hr => exact hr
     | 9,hr => exact hr
     | (kx + 10),hr => obtain ⟨gx,h1,h2,h3⟩:=hr; exact ⟨gx,h1,h2,h3.ext hx⟩
    ·intro ix vals vals_ v w1 hi hv hr
     exact hr
    ·refine ⟨?_,?_,?_,?_,?_,?_,?_,?_,?_,?_,?_,trivial⟩
     ·intro vals w1 hx hd ha
      clear hd ha
      simp only [Lf]
      go_wp2
      exact q_
     ·intro vals w1 hx hd ha
      clear hd ha
      simp only [Lf,dstAt,Act.put,FR_]
      go_wp2
      exact q_
     ·intro vals w1 hx hd ha
      have e1 : vals 1 = .int .i64 (k : Int):=hd 1 (by decide)
      clear hd ha
      simp only [Lf,dstAt,Act.put,FR_,e1]
      clear e1
      go_wp2
      exact q_
     ·intro vals w1 hx hd ha
      have e2 : vals 2 = .int .i64 (2 * (k : Int)):=hd 2 (by decide)
      clear hd ha
      simp only [Lf,dstAt,Act.put,FR_,e2]
      clear e2
      go_wp2
      exact q_
     ·intro vals w1 hx hd ha
      clear hd ha
      simp only [Lf,dstAt,Act.put,FR_]
      go_wp2
      exact q_
     ·intro vals w1 hx hd ha
      clear hd ha
      simp only [Lf,dstAt,Act.put,FR_]
      go_wp2
      exact q_
     ·intro vals w1 hx hd ha
      have e4 : vals 4 = .slice (some ⟨bx,ox,none⟩) n c:=hd 4 (by decide)
      have e5 : vals 5 = .int .i64 (k : Int):=hd 5 (by decide)
      clear hd ha
      simp only [Lf,dstAt,Act.put,FR_,e4,e5]
      clear e4 e5
      go_wp2
      exact q_
     ·intro vals w1 hx hd ha
      have e6 : vals 6 = .pointer (some ⟨bx,ox + k * 7,none⟩):=hd 6 (by decide)
      clear hd ha
      simp only [Lf,dstAt,Act.put,FR_,e6]
      clear e6
      have v0:=ext_cell hx v0
      have v1:=ext_cell hx v1
      have v2:=ext_cell hx v2
      have v3:=ext_cell hx v3
      have v4:=ext_cell hx v4
      have v5:=ext_cell hx v5
      have v6:=ext_cell hx v6
      go_wp2
      exact q_
     ·intro vals w1 hx hd ha
      clear hd ha
      simp only [Lf,dstAt,Act.put,FR_]
      have t0:=ext_cell hx t0
      have t1:=ext_cell hx t1
      have t2:=ext_cell hx t2
      have t3:=ext_cell hx t3
      go_wp2
      exact q_
     ·intro vals w1 hx hd ha
      have e3 : vals 3 = .int .i64 (2 * (k : Int) + 1):=hd 3 (by decide)
      have e7 : vals 7 = .agg #[.int .i64 x0,.int .i64 x1,.int .i64 x2,.int .i64 x3,.int .i64 x4,.int .i64 x5,.int .i64 x6]:=hd 7 (by decide)
      have e8 : vals 8 = .agg #[.int .i64 0,.int .i64 0,.int .i64 0,.int .i64 0]:=hd 8 (by decide)
      clear hd ha
      simp only [Lf,dstAt,Act.put,FR_,e3]
      simp only [e7]
      simp only [e8]
      clear e3 e7 e8
      go_wp2_with fail
      refine (HSAT.out _).mono ?_
      rintro e w2 ⟨rfl,hb2⟩
      go_wp2
      exact ⟨rfl,hb2,rfl⟩
     ·intro vals w1 hx hd ha
      have e9 : vals 9 = .agg SX:=hd 9 (by decide)
      clear hd ha
      simp only [Lf,dstAt,Act.put,FR_,e9]
      clear e9
      have hz:=Below.size hx.undrew
      refine wpList_buildOne rfl _ _ _ rfl SX rfl Tryz.underlying28 21 info_sat2 HS2.out (by omega) (by omega) ?_
      go_wp2
      exact ⟨rfl,(by repeat (first | exact Below.refl _ _ | assumption | refine Below.drew ?_ | refine below_drewN ?_ _ | refine bl_alloc ?_ _ | refine Below.setCell ?_ (by first | (simp; done) | omega | (simp; omega)) _ | refine bl_then ?_ (by assumption))),_,rfl,by omega,Blk.new _ _ _⟩
    intro vals w5 hx5 hf
    have e0 : vals 0 = .slice A' k c':=hf 0 (by omega)
    obtain ⟨gx,e10,hgx,jx⟩ : ∃ gx,vals 10 = .slice (some ⟨gx,0,none⟩) 1 1 ∧ W.heap.size ≤ gx ∧ Blk w5 gx 53 SX:=hf 10 (by omega)
    clear hf v0 v1 v2 v3 v4 v5 v6 t0 t1 t2 t3
    have hx5:=hx5.undrew
    have hrow:=own_ext HRW.out hx5
    have hB5:=Ext.trans hB hx5
    have hBs:=hB5.size
    obtain ⟨i0,hi0,hz0,hz1,hz2⟩:=info_parts info_sat
    obtain ⟨v2,W7,hr,hrow2,hg2,-⟩:=run_append_own (P:=Tryz.prog) w5 w.heap.size 28 28 53 i0 _ 21 168 Tryz.underlying28 hi0 hz0 hz1 hz2 rfl (by omega) _ k _ hrow ⟨gx,0,none⟩ 1 1 (satCells (satP (2 * (k : Int) + 1) x0 x1 x2 x3 x4 x5 x6 0 0 0 0)) (by rfl) (by intro i u hu; rw [Addr.add_lit,Nat.zero_add,jx.cell,← HSX.out]; simpa using hu) (by simp [satCells,Value.oneCell']) (by unfold maxLen; omega) (by omega) (by omega)
    have hB7 : Ext w W7:=hB5.grown hg2 hBs (fun q e => (World.ownsRow.lt hrow q e).1)
    have hnew : W7.ownsRow w.heap.size 53 21 v2 (k + 1) ((satsK x y (k + 1)).flatMap satCells):=by
     rw [satsK_succ,HXK.out,HYK.out,List.flatMap_append]
     simpa [satA] using hrow2
    have HNEW:=Lib.hid hnew
    have HRUN:=Lib.hid hr
    clear hr hrow2 hg2 hrow hnew jx hx5 hB5 hBs HRW
    refine tailF 11 _ _ 1 (by kernel_rfl) rfl ?_ (fun a w q => tail1 12 _ (by kernel_rfl) (by kernel_rfl) rfl q)
    simp only [Lf,dstAt,Act.put,FR_]
    rw [e0,e10]
    clear e0 e10
    refine wpList_append_run_ rfl _ _ _ rfl rfl rfl HRUN.out ?_
    go_wp2
    go_roundw
    case rel => exact ⟨k + 1,by omega,by go_num,HNEW,hB7⟩
    case measure => simp [intOf]; omega
  ·have hkm : k = m:=by omega
   have HEND : Hid (wr.ownsRow w.heap.size 53 21 u5 (satsK x y m).length ((satsK x y m).flatMap satCells)):=Lib.hid (by rw [satsK_len,← hkm]; exact HR.out)
   have HKM:=Lib.hid hkm
   clear HR hkm
   by_cases hkn : k < n
   ·have hk3 : ¬ (k : Int) < 3:=by have:=HKM.out; have:=HM.out; omega
    go_wp2
    go_ret
    exact ⟨_,rfl,HEND.out,hB⟩
   ·skip
    go_wp2
    go_ret
    exact ⟨_,rfl,HEND.out,hB⟩
set_option maxHeartbeats 2000000 in
set_option maxRecDepth 100000 in
theorem stations_any (AX : Option Addr) (n c : Nat) (x : List A4) (w : World) (hx : RA a4Cells 4 w w.heap.size AX n c x) (okx : ∀ a ∈ x,a.ok) :
  Calls Tryz.prog 40 #[.slice AX n c] w (ListRet stnCells 6 71 (stnsP x) w):=by
 have hle:=hx.le
 have hxl:=hx.len
 have hps : stnsP x = stnsK x (min n 3):=by rw [stnsP,hxl]
 rw [hps]
 obtain ⟨m,hm⟩ : ∃ m,m = min n 3:=⟨_,rfl⟩
 rw [← hm]
 have HX:=Lib.hid hx
 have HOX:=Lib.hid okx
 have HM:=Lib.hid hm
 clear hx okx hps hxl hm
 go_enter Tryz.func40,Tryz.ntmps40
 go_wp2
 go_loopw [3,4] (fun v i wr => ∃ k : Nat,k ≤ m ∧ i = .int .i64 k ∧ Hid (wr.ownsRow w.heap.size 71 6 v k ((stnsK x k).flatMap stnCells)) ∧ Ext w wr) (fun _ i _ => m - (intOf i).toNat)
 case atStart => exact ⟨0,Nat.zero_le _,rfl,Lib.hid (World.ownsRow_nil _ _ _ _),Ext.refl _⟩
 case round =>
  obtain ⟨k,hk,rfl,HR,hB⟩:=hrel
  by_cases hlt : k < m
  ·have hkn : k < n:=by have:=HM.out; omega
   have hk3 : (k : Int) < 3:=by have:=HM.out; omega
   obtain ⟨bx,ox,hz,hA,hbl,hc⟩:=(HX.out.below hB).at_ a4_len hkn
   have hxk : x.getD k z4 = x[k]:=by simp [hz]
   have hokx:=HOX.out x[k] (List.getElem_mem _)
   generalize x[k] = a at hc hxk hokx
   obtain ⟨x0,x1,x2,x3⟩:=a
   obtain ⟨bx0,bx1,bx2,bx3⟩:=hokx
   have v0 : wr.cell? ⟨bx,ox + k * 4,none⟩ = some (.int .i64 x0):=hc 0 (by omega)
   have v1 : wr.cell? ⟨bx,ox + k * 4 + 1,none⟩ = some (.int .i64 x1):=hc 1 (by omega)
   have v2 : wr.cell? ⟨bx,ox + k * 4 + 2,none⟩ = some (.int .i64 x2):=hc 2 (by omega)
   have v3 : wr.cell? ⟨bx,ox + k * 4 + 3,none⟩ = some (.int .i64 x3):=hc 3 (by omega)
   have HXK:=Lib.hid hxk
   clear hxk hc
   subst hA
   have hstn:=fun w => station_any (3 * (k : Int)) x0 x1 x2 x3 w ⟨by omega,by omega⟩ bx0 bx1 bx2 bx3
   obtain ⟨SX,hSX⟩ : ∃ X,(stnCells (stnP (3 * (k : Int)) x0 x1 x2 x3)).toArray = X:=⟨_,rfl⟩
   have hS2 : SX.size = 6:=by rw [← hSX]; rfl
   rw [hSX] at hstn
   have HSX:=Lib.hid hSX
   have HS2:=Lib.hid hS2
   have HSTN:=Lib.hid hstn
   clear hSX hS2 hstn
   have hrw:=HR.out
   obtain ⟨A',c',hv,_,_⟩:=own_slice hrw
   subst hv
   have HRW:=Lib.hid hrw
   clear hrw HR
   go_wp2_with fail
   refine (HSTN.out _).mono ?_
   rintro e w4 ⟨rfl,hb4⟩
   clear v0 v1 v2 v3
   have hB4:=Ext.trans hB hb4
   have hB5:=Ext.trans hB4 (show Ext w4 (w4.alloc (.cells SX 71)) from bl_alloc (Below.refl _ _) _)
   have hrow:=own_ext HRW.out (Ext.trans hb4 (show Ext w4 (w4.alloc (.cells SX 71)) from bl_alloc (Below.refl _ _) _))
   have jx : Blk (w4.alloc (.cells SX 71)) w4.heap.size 71 SX:=Blk.new _ _ _
   obtain ⟨w5,hw5⟩ : ∃ w5,w5 = w4.alloc (.cells SX 71):=⟨_,rfl⟩
   obtain ⟨gx,hgx⟩ : ∃ g,g = w4.heap.size:=⟨_,rfl⟩
   rw [← hw5] at hB5 hrow jx
   rw [← hgx] at jx
   have hBs:=hB5.size
   obtain ⟨i0,hi0,hz0,hz1,hz2⟩:=info_parts info_stn
   obtain ⟨v2,W7,hr,hrow2,hg2,-⟩:=run_append_own (P:=Tryz.prog) w5 w.heap.size 29 29 71 i0 _ 6 48 Tryz.underlying29 hi0 hz0 hz1 hz2 rfl (by omega) _ k _ hrow ⟨gx,0,none⟩ 1 1 (stnCells (stnP (3 * (k : Int)) x0 x1 x2 x3)) (by rfl) (by intro i u hu; rw [Addr.add_lit,Nat.zero_add,jx.cell,← HSX.out]; simpa using hu) (by simp [stnCells,Value.oneCell']) (by unfold maxLen; omega) (by omega) (by omega)
   have hB7 : Ext w W7:=hB5.grown hg2 hBs (fun q e => (World.ownsRow.lt hrow q e).1)
   have hnew : W7.ownsRow w.heap.size 71 6 v2 (k + 1) ((stnsK x (k + 1)).flatMap stnCells):=by
    rw [stnsK_succ,HXK.out,List.flatMap_append]
    simpa [stnA] using hrow2
   rw [hw5,hgx] at hr
   have HNEW:=Lib.hid hnew
   have HRUN:=Lib.hid hr
   clear hr hrow2 hg2 hrow hnew jx hB5 hBs HRW hw5 hgx hB4 hb4
   go_wp2_with (first | (refine wpList_buildOne rfl _ _ _ rfl SX rfl Tryz.underlying29 6 info_stn2 HS2.out (by omega) (by omega) ?_) | (refine wpList_append_run_ rfl _ _ _ rfl rfl rfl HRUN.out ?_))
   go_roundw
   case rel => exact ⟨k + 1,by omega,by go_num,HNEW,hB7⟩
   case measure => simp [intOf]; omega
  ·have hkm : k = m:=by omega
   have HEND : Hid (wr.ownsRow w.heap.size 71 6 u3 (stnsK x m).length ((stnsK x m).flatMap stnCells)):=Lib.hid (by rw [stnsK_len,← hkm]; exact HR.out)
   have HKM:=Lib.hid hkm
   clear HR hkm
   by_cases hkn : k < n
   ·have hk3 : ¬ (k : Int) < 3:=by have:=HKM.out; have:=HM.out; omega
    go_wp2
    go_ret
    exact ⟨_,rfl,HEND.out,hB⟩
   ·skip
    go_wp2
    go_ret
    exact ⟨_,rfl,HEND.out,hB⟩
end Go.Proofs.YtjidhhfabfnhnaaGreat
