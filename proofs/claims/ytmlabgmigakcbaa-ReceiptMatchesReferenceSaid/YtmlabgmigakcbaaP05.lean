/- Tiny frames, all of a region at once: an obligation of an operation bears neither the region's operations nor the frame. -/
import Derived.Test.YtmlabgmigakcbaaP01
import Derived.Test.YtmlabgmigakcbaaP04
import Derived.BigQuiet
import Derived.Laws.MathBits
import Derived.Test.YtmlabgmigakcbaaP02
namespace Go.Proofs.Ytmlabgmigakcbaa
open Go.RowKit
structure Opt where
 id : Int
 i1 : Int
 i2 : Int
 i3 : Int
 i4 : Int
 i5 : Int
 i6 : Int
 i7 : Int
 a : Option Addr
 n : Nat
 c : Nat
 l : List Slt
def sltCells (s : Slt) : List Value := [.int .i64 s.p, .int .i64 s.fr, .int .i64 s.tt]
def optCells (o : Opt) : List Value := [.int .i64 o.id, .int .i64 o.i1, .int .i64 o.i2, .int .i64 o.i3, .int .i64 o.i4, .int .i64 o.i5, .int .i64 o.i6, .int .i64 o.i7, .slice o.a o.n o.c]
def rcpCells (r : Rcp) : List Value := [.int .i64 r.sn, .int .i64 r.im, .int .i64 r.at_]
def nteCells (n : Nte) : List Value := [.int .i64 n.im, .int .i64 n.slot, .bool n.is_]
def dscCells (d : Dsc) : List Value := [.int .i64 d.kind, .int .i64 d.im, .int .i64 d.ix]
def natCells (n : Nat) : List Value := [.int .i64 n]
def intCells (n : Int) : List Value := [.int .i64 n]
theorem slt_len (x : Slt) : (sltCells x).length = 3 := rfl
theorem opt_len (x : Opt) : (optCells x).length = 9 := rfl
theorem rcp_len (x : Rcp) : (rcpCells x).length = 3 := rfl
theorem nte_len (x : Nte) : (nteCells x).length = 3 := rfl
theorem dsc_len (x : Dsc) : (dscCells x).length = 3 := rfl
theorem nat_len (x : Nat) : (natCells x).length = 1 := rfl
theorem int_len (x : Int) : (intCells x).length = 1 := rfl
structure Ops (w : World) (B : Nat) (A : Option Addr) (n c : Nat) (os : List Opt) : Prop where
 out : RA optCells 9 w B A n c os
 each : ∀ o ∈ os, RA sltCells 3 w B o.a o.n o.c o.l
theorem Ops.below {w w' : World} {B n c : Nat} {A : Option Addr} {os : List Opt} (h : Ops w B A n c os) (hb : Below B w w') : Ops w' B A n c os := ⟨h.out.below hb, fun r hr => (h.each r hr).below hb⟩
theorem Ops.more {w : World} {B B' n c : Nat} {A : Option Addr} {os : List Opt} (h : Ops w B A n c os) (hb : B ≤ B') : Ops w B' A n c os := ⟨h.out.more hb, fun r hr => (h.each r hr).more hb⟩
theorem ra_ext {α : Type} {cells : α → List Value} {s : Nat} {w w' : World} {n c : Nat} {A : Option Addr} {l : List α} (h : RA cells s w w.heap.size A n c l) (hx : Ext w w') : RA cells s w' w'.heap.size A n c l := (h.below hx).more (Below.size hx)
theorem Ops.ext {w w' : World} {n c : Nat} {A : Option Addr} {os : List Opt} (h : Ops w w.heap.size A n c os) (hx : Ext w w') : Ops w' w'.heap.size A n c os := (h.below hx).more (Below.size hx)
theorem RA.of_own {α : Type} {cells : α → List Value} {s : Nat} {w : World} {base n c : Nat} {A : Option Addr} {e : TypeId} {l : List α} (h : w.ownsRow base e s (.slice A n c) n (l.flatMap cells)) (hl : l.length = n) (hn : n ≤ 100000) : RA cells s w w.heap.size A n c l := by
 obtain ⟨A', c', hv, h1, h2⟩ := own_slice h
 injection hv with e1 e2 e3
 subst e1 e3
 exact ⟨Reads.of_own h, hl, h1, h2, by omega⟩
section
variable {P : Program} {w : World} {ops : Array Oper} {rest : List Oper} {o : Oper} {a : Act} {Q : Exit → Act → World → Prop}
theorem wpList_mapUpdate_run (hg : o.guard = none) (m x v : Operand) (t : TypeId) (hop : o.op = Op.mapUpdate t m x v) {M X V : Value} {w' : World} (hm : a.eval m = M) (hx : a.eval x = X) (hv : a.eval v = V)
  (hrun : (Instr.mapUpdate t M X V).run P w = .ok () w') (hK : wpList P ops Q rest (a.put o.dst undef) w') : wpList P ops Q (o :: rest) a w := by
 refine wpList_plain hg fun K hK' => ?_
 unfold Oper.wp
 simp [execOp, hop, hm, hx, hv, hrun, Result.andThen]
 exact hK' _ _ hK
end
theorem wpList_append_run_ {P : Program} {w : World} {ops : Array Oper} {rest : List Oper} {o : Oper} {a : Act} {Q : Exit → Act → World → Prop}
  (hg : o.guard = none) (s x : Operand) (t : TypeId) (hop : o.op = Op.call { callee := Callee.builtin Builtin.append, args := #[s, x], argTypes := #[t, t] })
  {v1 v2 v' : Value} {w' : World} (hs : a.eval s = v1) (hx : a.eval x = v2) (hrun : (Builtin.append_ #[t, t] o.type #[v1, v2]).run P w = .ok v' w')
  (hK : wpList P ops Q rest (a.put o.dst v') w') : wpList P ops Q (o :: rest) a w := by
 refine wpList_plain hg fun K hK' => ?_
 unfold Oper.wp
 simp [execOp, hop, resolve, invoke, builtin, hs, hx, hrun, Result.andThen]
 exact hK' _ _ hK
theorem zero_int (w : World) : (zeroValue 3).run Try.prog w = .ok (.int .i64 0) w := by kernel_rfl
theorem zero_bool (w : World) : (zeroValue 4).run Try.prog w = .ok (.bool false) w := by kernel_rfl
def iM (f : Int → Option Int) : Int → Option Value := fun k => (f k).map (Value.int .i64)
theorem iM_put (f : Int → Option Int) (k v j : Int) : (if j = k then some (Value.int .i64 v) else iM f j) = iM (fun j => if j = k then some v else f j) j := by
 unfold iM
 by_cases h : j = k <;> simp [h]
def SkewRet (l : List Stn) (w : World) (e : Ending) (w' : World) : Prop := ∃ g, e = .returned (.map (some g)) ∧ w.heap.size ≤ g ∧ MapI w' g (iM (skewF l)) ∧ Ext w w'
set_option maxRecDepth 100000 in
set_option maxHeartbeats 4000000 in
theorem skews_any (l : List Stn) (A : Option Addr) (n c : Nat) (w : World) (hr : RA stnCells 6 w w.heap.size A n c l) :
  Calls Try.prog 41 #[.slice A n c] w (SkewRet l w) := by
 have hle := hr.le
 have HR := Lib.hid hr
 have HL := Lib.hid hr.len
 obtain ⟨fin, hfin⟩ : ∃ f, f = skewF l := ⟨_, rfl⟩
 have HF0 : Hid (fin = skewL (fun _ => none) (l.drop 0)) := Lib.hid hfin
 unfold SkewRet
 rw [← hfin]
 clear hr hfin
 have hmm : ∀ w : World, (Instr.makeMap 95 none).run Try.prog w = .ok (.map (some w.heap.size)) (w.alloc (.map #[] 0)) := fun w => by simp [Instr.makeMap]
 go_enter Try.func41, Try.ntmps41
 go_wp2
 clear hmm
 have hx : Ext w (w.alloc (.map #[] 0)) := bl_alloc (Below.refl _ _) _
 have hm0 := MapI.new w
 obtain ⟨g, hg⟩ : ∃ g, g = w.heap.size := ⟨_, rfl⟩
 have hgw : w.heap.size ≤ g := by omega
 rw [← hg] at hm0 ⊢
 have HM0 : Hid (MapI (w.alloc (.map #[] 0)) g (iM (fun _ => none))) := Lib.hid (hm0.congr fun _ => rfl)
 clear hg hm0
 generalize w.alloc (.map #[] 0) = W0 at hx HM0 ⊢
 go_loopw [9] (fun y wr => ∃ (k : Nat) (f : Int → Option Int), k ≤ n ∧ y = .int .i64 k ∧ Hid (fin = skewL f (l.drop k)) ∧ Hid (MapI wr g (iM f)) ∧ Ext w wr) (fun y _ => n - (intOf y).toNat)
 case atStart => exact ⟨0, _, Nat.zero_le _, rfl, HF0, HM0, hx⟩
 case round =>
  clear HF0 HM0 hx
  obtain ⟨k, f, hk, rfl, HF, HM, hx⟩ := hrel
  by_cases hkn : k < n
  ·obtain ⟨b, o, hz, hA, _, hc⟩ := (HR.out.below hx).at_ stn_len hkn
   have hst := HF.out
   rw [List.drop_eq_getElem_cons hz, skewL_cons] at hst
   generalize l[k] = s at hst hc
   obtain ⟨id, ⟨x, y⟩, re, an, sk⟩ := s
   dsimp only at hst
   have c0 : wr.cell? ⟨b, o + k * 6, none⟩ = some (.int .i64 id) := hc 0 (by omega)
   have c1 : wr.cell? ⟨b, o + k * 6 + 1, none⟩ = some (.int .i64 x) := hc 1 (by omega)
   have c2 : wr.cell? ⟨b, o + k * 6 + 2, none⟩ = some (.int .i64 y) := hc 2 (by omega)
   have c3 : wr.cell? ⟨b, o + k * 6 + 3, none⟩ = some (.int .i64 re) := hc 3 (by omega)
   have c4 : wr.cell? ⟨b, o + k * 6 + 4, none⟩ = some (.int .i64 an) := hc 4 (by omega)
   have c5 : wr.cell? ⟨b, o + k * 6 + 5, none⟩ = some (.int .i64 sk) := hc 5 (by omega)
   have HST := Lib.hid hst
   subst hA
   clear hst hc hz HF
   go_upto_region 5 with (fail)
   have hy : Ext wr (wr.alloc (.cells #[.int .i64 id, .int .i64 x, .int .i64 y, .int .i64 re, .int .i64 an, .int .i64 sk] 122)) := bl_alloc (Below.refl _ _) _
   have J := Blk.new wr 122 #[.int .i64 id, .int .i64 x, .int .i64 y, .int .i64 re, .int .i64 an, .int .i64 sk]
   have hgl : g ≠ wr.heap.size := by have := HM.out.lt; omega
   generalize wr.heap.size = g5 at J hgl ⊢
   generalize wr.alloc (.cells #[.int .i64 id, .int .i64 x, .int .i64 y, .int .i64 re, .int .i64 an, .int .i64 sk] 122) = W1 at hy J ⊢
   have hx := Ext.trans hx hy
   have hm1 := HM.out.ext hy
   obtain ⟨W2, hu, hm2, hg2⟩ := hm1.update Try.underlying95 Try.underlying3 id (.int .i64 sk)
   have hx2 : Ext w W2 := hx.grown hg2 (Below.size hx) (fun q e => by injection e with e; omega)
   have d0 : W1.cell? ⟨g5, 0, none⟩ = some (.int .i64 id) := J.cell 0
   have d4 : W1.cell? ⟨g5, 4, none⟩ = some (.int .i64 an) := J.cell 4
   have d5 : W1.cell? ⟨g5, 5, none⟩ = some (.int .i64 sk) := J.cell 5
   have HU := Lib.hid hu
   have HM2 : Hid (MapI W2 g (iM (fun j => if j = id then some sk else f j))) := Lib.hid (hm2.congr fun j => iM_put f id sk j)
   clear c0 c1 c2 c3 c4 c5 hm1 hu hm2 hg2 J HM hy
   go_wp2_with (refine wpList_mapUpdate_run rfl _ _ _ _ rfl rfl rfl rfl HU.out ?_)
   go_roundw
   case rel => exact ⟨k + 1, _, by omega, by go_num, HST, HM2, hx2⟩
   case measure => simp [intOf]; omega
  ·have hst := HF.out
   rw [List.drop_of_length_le (by rw [HL.out]; omega)] at hst
   have hfm : fin = f := hst
   go_wp2
   go_ret
   exact ⟨g, rfl, hgw, by rw [hfm]; exact HM.out, hx⟩
end Go.Proofs.Ytmlabgmigakcbaa
namespace Go.Proofs.Ytmlabgmigakcbaa
open Go.RowKit
set_option maxRecDepth 100000 in
set_option maxHeartbeats 4000000 in
theorem loss_valid (o : Opt) (ps : List Pas) (PA : Option Addr) (pn pc : Nat) (w : World) (ho : RA sltCells 3 w w.heap.size o.a o.n o.c o.l) (hp : RA pasCells 6 w w.heap.size PA pn pc ps) :
  Calls Try.prog 42 #[.agg (optCells o).toArray, .slice PA pn pc] w fun e w' => e = .returned (.bool (properP ps && lossOK ps o.l)) ∧ Ext w w' := by
 obtain ⟨id, i1, i2, i3, i4, i5, i6, i7, a, n, c, l⟩ := o
 dsimp only at ho ⊢
 show Calls Try.prog 42 #[.agg #[.int .i64 id, .int .i64 i1, .int .i64 i2, .int .i64 i3, .int .i64 i4, .int .i64 i5, .int .i64 i6, .int .i64 i7, .slice a n c], .slice PA pn pc] w _
 have hle := ho.le
 have hple := hp.le
 have HO := Lib.hid ho
 have HP := Lib.hid hp
 have HL := Lib.hid ho.len
 have HPL := Lib.hid hp.len
 have HPR := Lib.hid (fun (W : World) (hW : Ext w W) => proper_any ps PA pn pc W (ra_ext hp hW))
 have hlo : lossOK ps l = (decide (1 ≤ n ∧ n ≤ 6) && slotsOK ps 0 l) := by rw [lossOK, ho.len]
 rw [hlo]
 clear ho hp hlo
 obtain ⟨vt, hvt⟩ : ∃ b, b = (properP ps && (decide (1 ≤ n ∧ n ≤ 6) && slotsOK ps 0 l)) := ⟨_, rfl⟩
 rw [← hvt]
 have HVT := Lib.hid hvt
 clear hvt
 by_cases h1 : 1 ≤ n
 ·by_cases h6 : n ≤ 6
  ·have hvt := HVT.out
   rw [decide_eq_true (show 1 ≤ n ∧ n ≤ 6 from ⟨h1, h6⟩), Bool.true_and] at hvt
   generalize properP ps = q at hvt HPR
   have HVT2 := Lib.hid hvt
   clear hvt HVT
   have h1' : ¬ (n : Int) < 1 := by omega
   have h6' : ¬ (6 : Int) < (n : Int) := by omega
   go_enter Try.func42, Try.ntmps42
   go_upto_region 1 with (fail)
   have hx0 : Ext w (w.alloc (.cells #[.int .i64 id, .int .i64 i1, .int .i64 i2, .int .i64 i3, .int .i64 i4, .int .i64 i5, .int .i64 i6, .int .i64 i7, .slice a n c] 32)) := bl_alloc (Below.refl _ _) _
   have J := Blk.new w 32 #[.int .i64 id, .int .i64 i1, .int .i64 i2, .int .i64 i3, .int .i64 i4, .int .i64 i5, .int .i64 i6, .int .i64 i7, .slice a n c]
   obtain ⟨g2, hg2⟩ : ∃ g, g = w.heap.size := ⟨_, rfl⟩
   rw [← hg2] at J ⊢
   clear hg2
   generalize w.alloc (.cells #[.int .i64 id, .int .i64 i1, .int .i64 i2, .int .i64 i3, .int .i64 i4, .int .i64 i5, .int .i64 i6, .int .i64 i7, .slice a n c] 32) = W1 at hx0 J ⊢
   have e7 : W1.cell? ⟨g2, 7 + 1, none⟩ = some (.slice a n c) := J.cell 8
   have HJ := Lib.hid J
   clear J
   go_wp2_with fail
   refine (HPR.out _ hx0).mono ?_
   rintro e W2 ⟨rfl, hy⟩
   have hx := Ext.trans hx0 hy
   have HJ2 := Lib.hid (HJ.out.ext hy)
   clear HPR hy hx0 e7 HJ
   have e7 : W2.cell? ⟨g2, 7 + 1, none⟩ = some (.slice a n c) := HJ2.out.cell 8
   cases q
   ·go_wp2_with fail
    go_ret
    exact ⟨by rw [HVT2.out]; rfl, hx⟩
   ·have HV0 : Hid (vt = slotsOK ps 0 (l.drop 0)) := Lib.hid (by have := HVT2.out; rwa [Bool.true_and] at this)
    clear HVT2
    go_wp2_with fail
    go_loopw [5, 27] (fun y z wr => ∃ (k : Nat) (e : Int), k ≤ n ∧ z = .int .i64 k ∧ y = .int .i64 e ∧ Hid (vt = slotsOK ps e (l.drop k)) ∧ Ext w wr) (fun _ z _ => n - (intOf z).toNat)
    case atStart => exact ⟨0, 0, Nat.zero_le _, rfl, rfl, HV0, hx⟩
    case round =>
     clear HV0 hx HJ2 e7
     obtain ⟨k, e, hk, rfl, rfl, HV, hx⟩ := hrel
     by_cases hkn : k < n
     ·obtain ⟨b, o, hz, hA, _, hc⟩ := (HO.out.below hx).at_ slt_len hkn
      have hst := HV.out
      rw [List.drop_eq_getElem_cons hz, slotsOK_cons] at hst
      generalize l[k] = s at hst hc
      obtain ⟨sp, sf, st⟩ := s
      dsimp only at hst
      have c0 : wr.cell? ⟨b, o + k * 3, none⟩ = some (.int .i64 sp) := hc 0 (by omega)
      have c1 : wr.cell? ⟨b, o + k * 3 + 1, none⟩ = some (.int .i64 sf) := hc 1 (by omega)
      have c2 : wr.cell? ⟨b, o + k * 3 + 2, none⟩ = some (.int .i64 st) := hc 2 (by omega)
      subst hA
      have HST := Lib.hid hst
      clear hst hc hz HV
      go_upto_region 7 with (fail)
      have hy : Ext wr (wr.alloc (.cells #[.int .i64 sp, .int .i64 sf, .int .i64 st] 78)) := bl_alloc (Below.refl _ _) _
      have J := Blk.new wr 78 #[.int .i64 sp, .int .i64 sf, .int .i64 st]
      obtain ⟨g7, hg7⟩ : ∃ g, g = wr.heap.size := ⟨_, rfl⟩
      rw [← hg7] at J ⊢
      clear hg7
      generalize wr.alloc (.cells #[.int .i64 sp, .int .i64 sf, .int .i64 st] 78) = W3 at hy J ⊢
      have hx := Ext.trans hx hy
      have d0 : W3.cell? ⟨g7, 0, none⟩ = some (.int .i64 sp) := J.cell 0
      clear c0 c1 c2 hy
      by_cases hp0 : sp < 0
      ·have hst := HST.out
       rw [show inB sp 0 ((ps.length : Int) - 1) = false by simp [inB]; omega, Bool.false_and, Bool.false_and] at hst
       subst hst
       go_wp2_with fail
       go_ret
       exact ⟨rfl, hx⟩
      ·by_cases hp1 : (pn : Int) ≤ sp
       ·have hst := HST.out
        rw [show inB sp 0 ((ps.length : Int) - 1) = false by rw [HPL.out]; simp [inB]; omega, Bool.false_and, Bool.false_and] at hst
        subst hst
        go_wp2_with fail
        go_ret
        exact ⟨rfl, hx⟩
       ·obtain ⟨m, rfl, hm⟩ : ∃ m : Nat, sp = m ∧ m < pn := ⟨sp.toNat, by omega, by omega⟩
        obtain ⟨bp, op, hzp, hPA, _, hcp⟩ := (HP.out.below hx).at_ pas_len hm
        have hst := HST.out
        rw [show inB (m : Int) 0 ((ps.length : Int) - 1) = true by rw [HPL.out, inB_iff]; omega, Bool.true_and, Int.toNat_natCast, List.getElem?_eq_getElem hzp] at hst
        dsimp only at hst
        generalize ps[m] = p at hst hcp
        obtain ⟨psa, psn, ⟨pa, pb⟩, ⟨pc1, pd⟩⟩ := p
        dsimp only at hst
        have f2 : W3.cell? ⟨bp, op + m * 6 + 2, none⟩ = some (.int .i64 pa) := hcp 2 (by omega)
        have f3 : W3.cell? ⟨bp, op + m * 6 + 3, none⟩ = some (.int .i64 pb) := hcp 3 (by omega)
        subst hPA
        have HST2 := Lib.hid hst
        have hmp : (m : Int) < (pn : Int) := by omega
        have HJ3 := Lib.hid J
        clear hst hcp hzp HST J
        go_upto_region 10 with (fail)
        have hy : Ext W3 (W3.alloc (.cells #[.int .i64 pa, .int .i64 pb] 29)) := bl_alloc (Below.refl _ _) _
        have J := Blk.new W3 29 #[.int .i64 pa, .int .i64 pb]
        obtain ⟨g8, hg8⟩ : ∃ g, g = W3.heap.size := ⟨_, rfl⟩
        rw [← hg8] at J ⊢
        clear hg8
        generalize W3.alloc (.cells #[.int .i64 pa, .int .i64 pb] 29) = W4 at hy J ⊢
        have hx := Ext.trans hx hy
        have J3 := HJ3.out.ext hy
        have d1 : W4.cell? ⟨g7, 1, none⟩ = some (.int .i64 sf) := J3.cell 1
        have d2 : W4.cell? ⟨g7, 2, none⟩ = some (.int .i64 st) := J3.cell 2
        have h0 : W4.cell? ⟨g8, 0, none⟩ = some (.int .i64 pa) := J.cell 0
        have h1s : W4.cell? ⟨g8, 1, none⟩ = some (.int .i64 pb) := J.cell 1
        clear f2 f3 d0 hy HJ3 J3 J
        obtain ⟨z, hz⟩ : ∃ z, z = max e pa := ⟨_, rfl⟩
        have HZ := Lib.hid hz
        clear hz
        by_cases hle1 : max e pa ≤ sf
        ·by_cases hle2 : sf < st
         ·by_cases hle3 : st ≤ pb
          ·have hst := HST2.out
           rw [decide_eq_true hle1, decide_eq_true hle2, decide_eq_true hle3, Bool.true_and, Bool.true_and, Bool.true_and] at hst
           have HN := Lib.hid hst
           clear hst HST2
           go_wp2_with fail
           go_roundw
           case rel => exact ⟨k + 1, st, by omega, by go_num, rfl, HN, hx⟩
           case measure => simp [intOf]; omega
          ·have hst := HST2.out
           rw [decide_eq_false hle3, Bool.and_false, Bool.false_and] at hst
           subst hst
           go_wp2_with fail
           all_goals (
            go_ret
            exact ⟨rfl, hx⟩)
         ·have hst := HST2.out
          rw [decide_eq_false hle2, Bool.and_false, Bool.false_and, Bool.false_and] at hst
          subst hst
          go_wp2_with fail
          all_goals (
           go_ret
           exact ⟨rfl, hx⟩)
        ·have hst := HST2.out
         rw [decide_eq_false hle1, Bool.false_and, Bool.false_and, Bool.false_and] at hst
         subst hst
         go_wp2_with fail
         all_goals (
          go_ret
          exact ⟨rfl, hx⟩)
     ·have hst := HV.out
      rw [List.drop_of_length_le (by rw [HL.out]; omega), slotsOK] at hst
      subst hst
      go_wp2_with fail
      go_ret
      exact ⟨rfl, hx⟩
  ·have hvt := HVT.out
   rw [decide_eq_false (show ¬ (1 ≤ n ∧ n ≤ 6) from fun h => h6 h.2), Bool.false_and, Bool.and_false] at hvt
   subst hvt
   have h1' : ¬ (n : Int) < 1 := by omega
   have h6' : (6 : Int) < (n : Int) := by omega
   go_enter Try.func42, Try.ntmps42
   go_wp2_with fail
   go_ret
   exact ⟨rfl, (by repeat (first | exact Below.refl _ _ | assumption | refine Below.drew ?_ | refine below_drewN ?_ _ | refine bl_alloc ?_ _ | refine Below.setCell ?_ (by first | (simp; done) | omega | (simp; omega)) _ | refine bl_then ?_ (by assumption)))⟩
 ·have hvt := HVT.out
  rw [decide_eq_false (show ¬ (1 ≤ n ∧ n ≤ 6) from fun h => h1 h.1), Bool.false_and, Bool.and_false] at hvt
  subst hvt
  have h1' : (n : Int) < 1 := by omega
  go_enter Try.func42, Try.ntmps42
  go_wp2_with fail
  go_ret
  exact ⟨rfl, (by repeat (first | exact Below.refl _ _ | assumption | refine Below.drew ?_ | refine below_drewN ?_ _ | refine bl_alloc ?_ _ | refine Below.setCell ?_ (by first | (simp; done) | omega | (simp; omega)) _ | refine bl_then ?_ (by assumption)))⟩
end Go.Proofs.Ytmlabgmigakcbaa
namespace Go.Proofs.Ytmlabgmigakcbaa
open Go.RowKit
def optsR (ps : List Pas) : (Int → Bool) → List Opt → Bool
 | _, [] => true
 | seen, o :: r => inB o.id 0 63 && !seen o.id && (properP ps && lossOK ps o.l) && optsR ps (fun k => if k = o.id then true else seen k) r
theorem optsR_cons (ps : List Pas) (seen : Int → Bool) (o : Opt) (r : List Opt) : optsR ps seen (o :: r) = (inB o.id 0 63 && !seen o.id && (properP ps && lossOK ps o.l) && optsR ps (fun k => if k = o.id then true else seen k) r) := by rw [optsR]
def stnIn (f : Int → Option Int) (ps : List Pas) : Bool := ps.all (fun p => (f p.station).isSome)
def validP (os : List Opt) (ps : List Pas) (sts : List Stn) : Bool := decide (os.length ≤ 24) && (properP ps && (stnsOK sts && (stnIn (skewF sts) ps && optsR ps (fun _ => false) os)))
def bM (f : Int → Bool) : Int → Option Value := fun k => if f k then some (.bool true) else none
theorem bM_put (f : Int → Bool) (k j : Int) : (if j = k then some (Value.bool true) else bM f j) = bM (fun j => if j = k then true else f j) j := by
 unfold bM
 by_cases h : j = k <;> simp [h]
theorem bM_get (f : Int → Bool) (k : Int) : (bM f k).getD (.bool false) = .bool (f k) := by
 unfold bM
 cases f k <;> rfl
theorem iM_some (f : Int → Option Int) (k : Int) : (iM f k).isSome = (f k).isSome := by
 unfold iM
 cases f k <;> rfl
theorem iM_get (f : Int → Option Int) (k : Int) : (iM f k).getD (.int .i64 0) = .int .i64 ((f k).getD 0) := by
 unfold iM
 cases f k <;> rfl
set_option maxRecDepth 100000 in
set_option maxHeartbeats 4000000 in
theorem valid_any (os : List Opt) (ps : List Pas) (sts : List Stn) (OA PA SA : Option Addr) (n c pn pc sn sc : Nat) (w : World) (ho : Ops w w.heap.size OA n c os) (hp : RA pasCells 6 w w.heap.size PA pn pc ps) (hs : RA stnCells 6 w w.heap.size SA sn sc sts) :
  Calls Try.prog 14 #[.slice OA n c, .slice PA pn pc, .slice SA sn sc] w fun e w' => e = .returned (.bool (validP os ps sts)) ∧ Ext w w' := by
 have hle := ho.out.le
 have hple := hp.le
 have HO := Lib.hid ho
 have HP := Lib.hid hp
 have HL := Lib.hid ho.out.len
 have HPL := Lib.hid hp.len
 have HPR := Lib.hid (fun (W : World) (hW : Ext w W) => proper_any ps PA pn pc W (ra_ext hp hW))
 have HVS := Lib.hid (fun (W : World) (hW : Ext w W) => validStns_any sts SA sn sc W (ra_ext hs hW))
 have hsk : ∀ (W : World), Ext w W → Calls Try.prog 41 #[.slice SA sn sc] W fun e w' => ∃ g, e = .returned (.map (some g)) ∧ W.heap.size ≤ g ∧ MapI w' g (iM (skewF sts)) ∧ Ext W w' := fun W hW => skews_any sts SA sn sc W (ra_ext hs hW)
 have HLV := Lib.hid (fun (o : Opt) (W : World) (hW : Ext w W) (h : RA sltCells 3 W W.heap.size o.a o.n o.c o.l) => loss_valid o ps PA pn pc W h (ra_ext hp hW))
 obtain ⟨vt, hvt⟩ : ∃ b, b = validP os ps sts := ⟨_, rfl⟩
 rw [← hvt]
 rw [validP, ho.out.len] at hvt
 clear ho hp hs
 by_cases h24 : n ≤ 24
 ·rw [decide_eq_true h24, Bool.true_and] at hvt
  have h24' : ¬ (24 : Int) < (n : Int) := by omega
  obtain ⟨pr, hpr⟩ : ∃ b, b = properP ps := ⟨_, rfl⟩
  rw [← hpr] at hvt HPR
  have HPRE := Lib.hid hpr
  obtain ⟨so, hso⟩ : ∃ b, b = stnsOK sts := ⟨_, rfl⟩
  rw [← hso] at hvt HVS
  generalize skewF sts = f at hvt hsk
  have HSK := Lib.hid hsk
  have HVT := Lib.hid hvt
  clear hvt hpr hso hsk
  go_enter Try.func14, Try.ntmps14
  go_wp2_with fail
  refine (HPR.out _ (Ext.refl _)).mono ?_
  rintro e W1 ⟨rfl, hx⟩
  clear HPR
  cases pr
  ·have HF : Hid (vt = false) := Lib.hid (by rw [HVT.out, Bool.false_and])
   clear HVT
   go_wp2_with fail
   go_ret
   exact ⟨by rw [HF.out]; rfl, hx⟩
  ·have HVT2 : Hid (vt = (so && (stnIn f ps && optsR ps (fun _ => false) os))) := Lib.hid (by rw [HVT.out, Bool.true_and])
   clear HVT
   go_wp2_with fail
   refine (HVS.out _ hx).mono ?_
   rintro e W2 ⟨rfl, hy⟩
   have hx2 := Ext.trans hx hy
   clear HVS hx hy
   cases so
   ·have HF : Hid (vt = false) := Lib.hid (by rw [HVT2.out, Bool.false_and])
    clear HVT2
    go_wp2_with fail
    go_ret
    exact ⟨by rw [HF.out]; rfl, hx2⟩
   ·have HVT : Hid (vt = (stnIn f ps && optsR ps (fun _ => false) os)) := Lib.hid (by rw [HVT2.out, Bool.true_and])
    clear HVT2
    go_wp2_with fail
    refine (HSK.out _ hx2).mono ?_
    rintro e W3 ⟨g7, rfl, hg7, hm7, hy⟩
    have hx := Ext.trans hx2 hy
    have HM0 := Lib.hid hm7
    have hg7w : w.heap.size ≤ g7 := Nat.le_trans (Below.size hx2) hg7
    clear hx2 hy hm7 hg7 HSK
    have HS0 : Hid (stnIn f ps = stnIn f (ps.drop 0)) := Lib.hid rfl
    go_wp2_with fail
    go_loopw [32] (fun y wr => ∃ k : Nat, k ≤ pn ∧ y = .int .i64 k ∧ Hid (stnIn f ps = stnIn f (ps.drop k)) ∧ Hid (MapI wr g7 (iM f)) ∧ Ext w wr) (fun y _ => pn - (intOf y).toNat)
    case atStart => exact ⟨0, Nat.zero_le _, rfl, HS0, HM0, hx⟩
    case round =>
     clear HS0 HM0 hx
     obtain ⟨k, hk, rfl, HS, HM, hx⟩ := hrel
     by_cases hkp : k < pn
     ·obtain ⟨b, o, hz, hA, _, hc⟩ := (HP.out.below hx).at_ pas_len hkp
      have hst := HS.out
      rw [List.drop_eq_getElem_cons hz, show ∀ x r, stnIn f (x :: r) = ((f x.station).isSome && stnIn f r) from fun x r => by simp [stnIn]] at hst
      generalize ps[k] = p at hst hc
      obtain ⟨psa, psn, ⟨pa, pb⟩, ⟨pc1, pd⟩⟩ := p
      dsimp only at hst
      have c0 : wr.cell? ⟨b, o + k * 6, none⟩ = some (.int .i64 psa) := hc 0 (by omega)
      have c1 : wr.cell? ⟨b, o + k * 6 + 1, none⟩ = some (.int .i64 psn) := hc 1 (by omega)
      have c2 : wr.cell? ⟨b, o + k * 6 + 2, none⟩ = some (.int .i64 pa) := hc 2 (by omega)
      have c3 : wr.cell? ⟨b, o + k * 6 + 3, none⟩ = some (.int .i64 pb) := hc 3 (by omega)
      have c4 : wr.cell? ⟨b, o + k * 6 + 4, none⟩ = some (.int .i64 pc1) := hc 4 (by omega)
      have c5 : wr.cell? ⟨b, o + k * 6 + 5, none⟩ = some (.int .i64 pd) := hc 5 (by omega)
      subst hA
      have HST := Lib.hid hst
      clear hst hc hz HS
      go_upto_region 7 with (fail)
      have hy : Ext wr (wr.alloc (.cells #[.int .i64 psa, .int .i64 psn, .int .i64 pa, .int .i64 pb, .int .i64 pc1, .int .i64 pd] 98)) := bl_alloc (Below.refl _ _) _
      have J := Blk.new wr 98 #[.int .i64 psa, .int .i64 psn, .int .i64 pa, .int .i64 pb, .int .i64 pc1, .int .i64 pd]
      obtain ⟨g9, hg9⟩ : ∃ g, g = wr.heap.size := ⟨_, rfl⟩
      rw [← hg9] at J ⊢
      clear hg9
      generalize wr.alloc (.cells #[.int .i64 psa, .int .i64 psn, .int .i64 pa, .int .i64 pb, .int .i64 pc1, .int .i64 pd] 98) = W4 at hy J ⊢
      have hx := Ext.trans hx hy
      have HM4 := Lib.hid (HM.out.ext hy)
      have d1 : W4.cell? ⟨g9, 1, none⟩ = some (.int .i64 psn) := J.cell 1
      clear c0 c1 c2 c3 c4 c5 hy HM J
      have hlk := HM4.out.look_ok Try.underlying95 Try.underlying3 (zero_int W4) psn
      rw [iM_some, iM_get] at hlk
      generalize (f psn).getD 0 = sv at hlk
      generalize (f psn).isSome = si at hlk HST
      cases si
      ·have HF : Hid (vt = false) := Lib.hid (by rw [HVT.out, HST.out]; rfl)
       clear HVT HST
       go_wp2_with fail
       go_ret
       exact ⟨by rw [HF.out]; rfl, hx⟩
      ·have HN : Hid (stnIn f ps = stnIn f (ps.drop (k + 1))) := Lib.hid (by rw [HST.out, Bool.true_and])
       clear HST
       go_wp2_with fail
       go_roundw
       case rel => exact ⟨k + 1, by omega, by go_num, HN, HM4, hx⟩
       case measure => simp [intOf]; omega
     ·have hst := HS.out
      rw [List.drop_of_length_le (by rw [HPL.out]; omega), show stnIn f [] = true from rfl] at hst
      have HV0 : Hid (vt = optsR ps (fun _ => false) (os.drop 0)) := Lib.hid (by rw [HVT.out, hst]; rfl)
      have hmm : ∀ w : World, (Instr.makeMap 100 none).run Try.prog w = .ok (.map (some w.heap.size)) (w.alloc (.map #[] 0)) := fun w => by simp [Instr.makeMap]
      clear hst HS HVT HM
      go_upto_region 12 with (fail)
      clear hmm
      have hx2 : Ext w (wr.alloc (.map #[] 0)) := Ext.trans hx (bl_alloc (Below.refl _ _) _)
      have hm2 := MapI.new wr
      have hgw := Below.size hx
      obtain ⟨g12, hg12⟩ : ∃ g, g = wr.heap.size := ⟨_, rfl⟩
      rw [← hg12] at hm2 hgw ⊢
      have HM0 : Hid (MapI (wr.alloc (.map #[] 0)) g12 (bM (fun _ => false))) := Lib.hid (hm2.congr fun _ => rfl)
      clear hg12 hm2 hx
      generalize wr.alloc (.map #[] 0) = W5 at hx2 HM0 ⊢
      go_wp2_with fail
      go_loopw [49] (fun y wr => ∃ (k : Nat) (seen : Int → Bool), k ≤ n ∧ y = .int .i64 k ∧ Hid (vt = optsR ps seen (os.drop k)) ∧ Hid (MapI wr g12 (bM seen)) ∧ Ext w wr) (fun y _ => n - (intOf y).toNat)
      case atStart => exact ⟨0, _, Nat.zero_le _, rfl, HV0, HM0, hx2⟩
      case round =>
       clear HV0 HM0 hx2
       obtain ⟨k, seen, hk, rfl, HV, HM, hx⟩ := hrel
       by_cases hkn : k < n
       ·obtain ⟨b, o, hz, hA, _, hc⟩ := (HO.out.out.below hx).at_ opt_len hkn
        have hrs := (HO.out.each os[k] (List.getElem_mem hz))
        have hst := HV.out
        rw [List.drop_eq_getElem_cons hz, optsR_cons] at hst
        have hlv := HLV.out os[k]
        generalize os[k] = x at hst hc hrs hlv
        rw [← HPRE.out, Bool.true_and] at hst hlv
        obtain ⟨id, i1, i2, i3, i4, i5, i6, i7, a, ln, lc, l⟩ := x
        dsimp only at hst hrs hlv
        have c0 : wr.cell? ⟨b, o + k * 9, none⟩ = some (.int .i64 id) := hc 0 (by omega)
        have c1 : wr.cell? ⟨b, o + k * 9 + 1, none⟩ = some (.int .i64 i1) := hc 1 (by omega)
        have c2 : wr.cell? ⟨b, o + k * 9 + 2, none⟩ = some (.int .i64 i2) := hc 2 (by omega)
        have c3 : wr.cell? ⟨b, o + k * 9 + 3, none⟩ = some (.int .i64 i3) := hc 3 (by omega)
        have c4 : wr.cell? ⟨b, o + k * 9 + 4, none⟩ = some (.int .i64 i4) := hc 4 (by omega)
        have c5 : wr.cell? ⟨b, o + k * 9 + 5, none⟩ = some (.int .i64 i5) := hc 5 (by omega)
        have c6 : wr.cell? ⟨b, o + k * 9 + 6, none⟩ = some (.int .i64 i6) := hc 6 (by omega)
        have c7 : wr.cell? ⟨b, o + k * 9 + 7, none⟩ = some (.int .i64 i7) := hc 7 (by omega)
        have c8 : wr.cell? ⟨b, o + k * 9 + 8, none⟩ = some (.slice a ln lc) := hc 8 (by omega)
        subst hA
        have HST := Lib.hid hst
        have HRS := Lib.hid hrs
        have HLO := Lib.hid hlv
        clear hst hc hz HV hrs hlv
        go_upto_region 15 with (fail)
        have hy : Ext wr (wr.alloc (.cells #[.int .i64 id, .int .i64 i1, .int .i64 i2, .int .i64 i3, .int .i64 i4, .int .i64 i5, .int .i64 i6, .int .i64 i7, .slice a ln lc] 32)) := bl_alloc (Below.refl _ _) _
        have J := Blk.new wr 32 #[.int .i64 id, .int .i64 i1, .int .i64 i2, .int .i64 i3, .int .i64 i4, .int .i64 i5, .int .i64 i6, .int .i64 i7, .slice a ln lc]
        have hgn : g12 ≠ wr.heap.size := by have := HM.out.lt; omega
        obtain ⟨g14, hg14⟩ : ∃ g, g = wr.heap.size := ⟨_, rfl⟩
        rw [← hg14] at J hgn ⊢
        clear hg14
        generalize wr.alloc (.cells #[.int .i64 id, .int .i64 i1, .int .i64 i2, .int .i64 i3, .int .i64 i4, .int .i64 i5, .int .i64 i6, .int .i64 i7, .slice a ln lc] 32) = W6 at hy J ⊢
        have hx := Ext.trans hx hy
        have HM6 := Lib.hid (HM.out.ext hy)
        have d0 : W6.cell? ⟨g14, 0, none⟩ = some (.int .i64 id) := J.cell 0
        have d1 : W6.cell? ⟨g14, 1, none⟩ = some (.int .i64 i1) := J.cell 1
        have d2 : W6.cell? ⟨g14, 2, none⟩ = some (.int .i64 i2) := J.cell 2
        have d3 : W6.cell? ⟨g14, 3, none⟩ = some (.int .i64 i3) := J.cell 3
        have d4 : W6.cell? ⟨g14, 4, none⟩ = some (.int .i64 i4) := J.cell 4
        have d5 : W6.cell? ⟨g14, 5, none⟩ = some (.int .i64 i5) := J.cell 5
        have d6 : W6.cell? ⟨g14, 6, none⟩ = some (.int .i64 i6) := J.cell 6
        have d7 : W6.cell? ⟨g14, 7, none⟩ = some (.int .i64 i7) := J.cell 7
        have d8 : W6.cell? ⟨g14, 8, none⟩ = some (.slice a ln lc) := J.cell 8
        have HJ6 := Lib.hid J
        clear c0 c1 c2 c3 c4 c5 c6 c7 c8 hy HM J
        have hlk := HM6.out.look Try.underlying100 Try.underlying3 (zero_bool W6) id
        rw [bM_get] at hlk
        by_cases hi0 : id < 0
        ·have HF : Hid (vt = false) := Lib.hid (by rw [HST.out, show inB id 0 63 = false by simp [inB]; omega]; rfl)
         clear HST
         go_wp2_with fail
         go_ret
         exact ⟨by rw [HF.out]; rfl, hx⟩
        ·by_cases hi1 : 64 ≤ id
         ·have HF : Hid (vt = false) := Lib.hid (by rw [HST.out, show inB id 0 63 = false by simp [inB]; omega]; rfl)
          clear HST
          go_wp2_with fail
          go_ret
          exact ⟨by rw [HF.out]; rfl, hx⟩
         ·have hin : inB id 0 63 = true := by rw [inB_iff]; omega
          have hst := HST.out
          rw [hin, Bool.true_and] at hst
          generalize seen id = sd at hst hlk
          cases sd
          ·rw [Bool.not_false, Bool.true_and] at hst
           have hlo := HLO.out W6 hx (HRS.out.below hx |>.more (Below.size hx))
           generalize lossOK ps l = lo at hst hlo
           have HLO2 := Lib.hid hlo
           have HST2 := Lib.hid hst
           clear hst hlo HST HLO
           go_wp2_with fail
           refine HLO2.out.mono ?_
           rintro e W7 ⟨rfl, hy⟩
           have hx := Ext.trans hx hy
           have HM7 := Lib.hid (HM6.out.ext hy)
           have HJ7 := Lib.hid (HJ6.out.ext hy)
           clear hlk d0 d1 d2 d3 d4 d5 d6 d7 d8 hy HM6 HJ6 HLO2
           cases lo
           ·have HF : Hid (vt = false) := Lib.hid (by rw [HST2.out]; rfl)
            clear HST2
            go_wp2_with fail
            go_ret
            exact ⟨by rw [HF.out]; rfl, hx⟩
           ·have HN : Hid (vt = optsR ps (fun k => if k = id then true else seen k) (os.drop (k + 1))) := Lib.hid (by rw [HST2.out, Bool.true_and])
            clear HST2
            obtain ⟨W8, hu, hm8, hg8⟩ := HM7.out.update Try.underlying100 Try.underlying3 id (.bool true)
            have hx8 : Ext w W8 := hx.grown hg8 (Below.size hx) (fun q e => by injection e with e; omega)
            have HM8 : Hid (MapI W8 g12 (bM (fun j => if j = id then true else seen j))) := Lib.hid (hm8.congr fun j => bM_put seen id j)
            have HU := Lib.hid hu
            have d0 : W7.cell? ⟨g14, 0, none⟩ = some (.int .i64 id) := HJ7.out.cell 0
            clear hu hm8 hg8 HM7 HJ7
            go_wp2_with (refine wpList_mapUpdate_run rfl _ _ _ _ rfl rfl rfl rfl HU.out ?_)
            go_roundw
            case rel => exact ⟨k + 1, _, by omega, by go_num, HN, HM8, hx8⟩
            case measure => simp [intOf]; omega
          ·have HF : Hid (vt = false) := Lib.hid (by rw [hst]; rfl)
           clear hst HST
           go_wp2_with fail
           go_ret
           exact ⟨by rw [HF.out]; rfl, hx⟩
       ·have hst := HV.out
        rw [List.drop_of_length_le (by rw [HL.out]; omega), optsR] at hst
        subst hst
        go_wp2_with fail
        go_ret
        exact ⟨rfl, hx⟩
 ·rw [decide_eq_false h24, Bool.false_and] at hvt
  subst hvt
  have h24' : (24 : Int) < (n : Int) := by omega
  go_enter Try.func14, Try.ntmps14
  go_wp2_with fail
  go_ret
  exact ⟨rfl, Ext.refl _⟩
end Go.Proofs.Ytmlabgmigakcbaa
namespace Go.Proofs.Ytmlabgmigakcbaa
open Go.RowKit
theorem w64_in : ∀ x : Fin 9, wrap64 (x.val : Int) = (x.val : Int) := by decide +kernel
theorem u8_in : ∀ x : Fin 256, IntKind.u8.wrap (x.val : Int) = (x.val : Int) := by decide +kernel
set_option maxRecDepth 1000000 in
theorem len64_any (x : Nat) (hx : x < 64) (w : World) : Calls Try.prog 97 #[.int .u64 x] w fun e w' => e = .returned (.int .i64 (bitLen x : Nat)) ∧ w = w' := by
 have h1 : ¬ (4294967296 : Int) ≤ (x : Int) := by omega
 have h2 : ¬ (65536 : Int) ≤ (x : Int) := by omega
 have h3 : ¬ (256 : Int) ≤ (x : Int) := by omega
 have h4 : (x : Int) < 256 := by omega
 have h5 : IntKind.u8.wrap (x : Int) = (x : Int) := u8_in ⟨x, by omega⟩
 have hb := bitLen_le8 x (by omega)
 go_enter Try.func97, Try.ntmps97
 go_upto_region 10 with (fail)
 go_wp2
 go_ret
 rw [len8tab_get x]
 have hw : wrap64 ((bitLen x : Nat) : Int) = ((bitLen x : Nat) : Int) := w64_in ⟨bitLen x, by omega⟩
 refine ⟨?_, rfl⟩
 show Ending.returned (.int .i64 (wrap64 (wrap64 ((bitLen x : Nat) : Int)))) = _
 rw [hw, hw]
theorem len_any (x : Nat) (hx : x < 64) (w : World) : Calls Try.prog 86 #[.int .u64 x] w fun e w' => e = .returned (.int .i64 (bitLen x : Nat)) ∧ w = w' := by
 have H := Lib.hid (len64_any x hx w)
 go_enter Try.func86, Try.ntmps86
 go_wp2_with fail
 refine H.out.mono ?_
 rintro e w' ⟨rfl, rfl⟩
 go_wp2
 go_ret
 exact ⟨rfl, rfl⟩
theorem and_u64 : ∀ S T : Fin 64, bits BinOp.and IntKind.u64 (S.val : Int) (T.val : Int) = ((S.val &&& T.val : Nat) : Int) := by decide +kernel
theorem or_u64 : ∀ S T : Fin 64, bits BinOp.or IntKind.u64 (S.val : Int) (T.val : Int) = ((S.val ||| T.val : Nat) : Int) := by decide +kernel
def clrB (S i : Nat) : Nat := S &&& (63 - 2 ^ i)
theorem andnot_u64 : ∀ (S : Fin 64) (i : Fin 6), bits BinOp.andNot IntKind.u64 (S.val : Int) ((2 : Int) ^ i.val) = ((clrB S.val i.val : Nat) : Int) := by decide +kernel
theorem bit_u64 : ∀ (S : Fin 64) (i : Fin 8), bits BinOp.and IntKind.u64 ((S.val : Int) / 2 ^ i.val) 1 = if S.val.testBit i.val then 1 else 0 := by decide +kernel
def setL (S : Nat) : List Nat := (List.range 6).filter (fun i => S.testBit i)
theorem len_small : ∀ S : Fin 64, bitLen S.val ≤ 6 ∧ setL S.val = (List.range (bitLen S.val)).filter (fun i => S.val.testBit i) := by decide +kernel
theorem setL_len (S : Nat) : (setL S).length ≤ 6 := Nat.le_trans (List.length_filter_le _ _) (by simp)
def OwnN (W : World) (b : Nat) (v : Value) (l : List Nat) : Prop := W.ownsRow b 3 1 v l.length (l.flatMap natCells)
theorem OwnN.ext {W W' : World} {b : Nat} {v : Value} {l : List Nat} (h : OwnN W b v l) (hx : Ext W W') : OwnN W' b v l := own_ext h hx
theorem info_int : (Try.prog.info? 3).map (fun i => (i.zero, i.size, i.bytes)) = some (some (.int .i64 0), 1, 8) := by kernel_rfl
theorem info_parts {P : Program} {t : TypeId} {z : Value} {n b : Nat} (h : (P.info? t).map (fun i => (i.zero, i.size, i.bytes)) = some (some z, n, b)) : ∃ i, P.info? t = some i ∧ i.zero = some z ∧ i.size = n ∧ i.bytes = b := by
 cases hi : P.info? t with
 | none => rw [hi] at h; cases h
 | some i =>
  rw [hi] at h
  simp at h
  exact ⟨i, rfl, h.1, h.2.1, h.2.2⟩
theorem snoc_nat {w : World} (ty : TypeId) (xs : List Nat) (v : Value) (x : Nat) (base gx : Nat) (jx : Blk w gx 3 #[.int .i64 (x : Int)]) (hx : OwnN w base v xs) (hn : xs.length ≤ 900) (hb : base ≤ w.heap.size) :
  ∃ v' w', (Builtin.append_ #[25, 25] ty #[v, .slice (some ⟨gx, 0, none⟩) 1 1]).run Try.prog w = .ok v' w' ∧ w.grownBy w' v.ownBlock ∧ OwnN w' base v' (xs ++ [x]) := by
 obtain ⟨i0, hi0, hz0, hz1, hz2⟩ := info_parts info_int
 obtain ⟨v2, W7, hr, hrow2, hg2, -⟩ := run_append_own (P := Try.prog) w base 25 ty 3 i0 _ 1 8 Try.underlying25 hi0 hz0 hz1 hz2 rfl (by omega) _ _ _ hx ⟨gx, 0, none⟩ 1 1 [.int .i64 (x : Int)] rfl (by intro i u hu; rw [Addr.add_lit, Nat.zero_add, jx.cell]; simpa using hu) (by simp [Value.oneCell']) (by unfold maxLen; omega) (by omega) hb
 refine ⟨v2, W7, hr, hg2, ?_⟩
 unfold OwnN
 rw [List.length_append, List.flatMap_append]
 simpa [natCells] using hrow2
set_option maxRecDepth 100000 in
set_option maxHeartbeats 4000000 in
theorem list_any (S : Nat) (hS : S < 64) (w : World) :
  Calls Try.prog 58 #[.int .u64 S] w fun e w' => ∃ v, e = .returned v ∧ OwnN w' w.heap.size v (setL S) ∧ Ext w w' := by
 have HLN := Lib.hid (fun W => len_any S hS W)
 obtain ⟨hm6, hsl⟩ := len_small ⟨S, hS⟩
 dsimp only at hm6 hsl
 obtain ⟨m, hm⟩ : ∃ m, m = bitLen S := ⟨_, rfl⟩
 rw [← hm] at hm6 hsl HLN
 rw [hsl]
 clear hsl hm
 go_enter Try.func58, Try.ntmps58
 go_wp2_with fail
 refine (HLN.out _).mono ?_
 rintro e w' ⟨rfl, rfl⟩
 clear HLN
 go_wp2_with fail
 go_loopw [2, 6] (fun x y wr => ∃ k : Nat, k ≤ m ∧ y = .int .i64 k ∧ Hid (OwnN wr w.heap.size x ((List.range k).filter (fun i => S.testBit i))) ∧ Ext w wr) (fun _ y _ => m - (intOf y).toNat)
 case atStart => exact ⟨0, Nat.zero_le _, rfl, Lib.hid (World.ownsRow_nil _ _ _ _), Ext.refl _⟩
 case round =>
  obtain ⟨k, hk, rfl, HO, hx⟩ := hrel
  by_cases hkm : k < m
  ·have hb := bit_u64 ⟨S, hS⟩ ⟨k, by omega⟩
   dsimp only at hb
   have hst : (List.range (k + 1)).filter (fun i => S.testBit i) = (List.range k).filter (fun i => S.testBit i) ++ (if S.testBit k then [k] else []) := by
    rw [List.range_succ, List.filter_append]
    congr 1
    cases h : S.testBit k <;> simp [h]
   have hll : ((List.range k).filter (fun i => S.testBit i)).length ≤ k := Nat.le_trans (List.length_filter_le _ _) (by simp)
   generalize (List.range k).filter (fun i => S.testBit i) = out at HO hst hll
   generalize S.testBit k = q at hst hb
   have HST := Lib.hid hst
   have hp1 : (1 : Int) ≤ (2 : Int) ^ k := by
    have : 1 ≤ 2 ^ k := Nat.one_le_two_pow
    have h2 : ((2 : Int) ^ k) = ((2 ^ k : Nat) : Int) := by simp
    omega
   clear hst
   obtain ⟨A3, c3, hv3, _, _⟩ := own_slice HO.out
   subst hv3
   cases q
   ·rw [if_neg (by simp)] at hb
    have HO2 : Hid (OwnN wr w.heap.size (.slice A3 out.length c3) ((List.range (k + 1)).filter (fun i => S.testBit i))) := Lib.hid (by rw [HST.out]; simpa using HO.out)
    clear HO HST
    go_wp2_with fail
    go_roundw
    case rel => exact ⟨k + 1, by omega, by go_num, HO2, hx⟩
    case measure => simp [intOf]; omega
   ·rw [if_pos rfl] at hb
    have hxa : Ext wr (wr.alloc (.cells #[.int .i64 (k : Int)] 3)) := bl_alloc (Below.refl _ _) _
    have hxw := Ext.trans hx hxa
    obtain ⟨v7, W7, hrun, hg7, ho7⟩ := snoc_nat 25 out (.slice A3 out.length c3) k w.heap.size wr.heap.size (Blk.new _ _ _) (HO.out.ext hxa) (by omega) (Below.size hxw)
    have hx7 : Ext w W7 := hxw.grown hg7 (Below.size hxw) (fun q e => (World.ownsRow.lt HO.out q e).1)
    have HO7 : Hid (OwnN W7 w.heap.size v7 ((List.range (k + 1)).filter (fun i => S.testBit i))) := Lib.hid (by rw [HST.out]; exact ho7)
    have HRUN := Lib.hid hrun
    clear hrun hg7 ho7 hxw hxa HO HST hx
    go_upto_region 5 with (fail)
    go_wp2_with (refine wpList_append_run_ rfl _ _ _ rfl rfl rfl HRUN.out ?_)
    go_roundw
    case rel => exact ⟨k + 1, by omega, by go_num, HO7, hx7⟩
    case measure => simp [intOf]; omega
  ·obtain rfl : k = m := by omega
   obtain ⟨A3, c3, hv3, _, _⟩ := own_slice HO.out
   subst hv3
   go_wp2
   go_ret
   exact ⟨_, rfl, HO.out, hx⟩
end Go.Proofs.Ytmlabgmigakcbaa
namespace Go.Proofs.Ytmlabgmigakcbaa
open Go.RowKit
def outChk (ops : Array Oper) (t : Nat) : Nat → Bool
 | 0 => true
 | i + 1 => !(dstAt ops i == some t) && outChk ops t i
theorem outChk_spec {ops : Array Oper} {t : Nat} : ∀ {i : Nat}, outChk ops t i = true → ∀ j, j < i → dstAt ops j ≠ some t
 | 0, _, j, hj => by omega
 | i + 1, h, j, hj => by
  simp only [outChk, Bool.and_eq_true, Bool.not_eq_true'] at h
  by_cases e : j = i
  ·subst e
   intro e2
   rw [e2] at h
   simp at h
  ·exact outChk_spec h.2 j (by omega)
def inChk (ops : Array Oper) (t j : Nat) : Nat → Bool
 | 0 => true
 | i + 1 => (decide (i ≤ j) || !(dstAt ops i == some t)) && inChk ops t j i
theorem inChk_spec {ops : Array Oper} {t j : Nat} : ∀ {i : Nat}, inChk ops t j i = true → ∀ k, j < k → k < i → dstAt ops k ≠ some t
 | 0, _, k, _, hk => by omega
 | i + 1, h, k, h1, h2 => by
  simp only [inChk, Bool.and_eq_true, Bool.or_eq_true, Bool.not_eq_true', decide_eq_true_eq] at h
  by_cases e : k = i
  ·subst e
   intro e2
   rw [e2] at h
   rcases h.1 with h | h
   ·omega
   ·simp at h
  ·exact inChk_spec h.2 k h1 (by omega)
section
variable {P : Program} {ops : Array Oper} {a0 : Act} {vals : Nat → Value}
theorem lf_out {i t : Nat} {v : Value} (h : outChk ops t i = true) (hv : a0.tmps[t]? = some v) : (Lf ops a0 vals i).tmps[t]? = some v := (Lf_outer vals i t (outChk_spec h)).trans hv
theorem lf_in {i t : Nat} {v : Value} (j : Nat) (hj : decide (j < i) = true) (hd : dstAt ops j = some t) (hdist : inChk ops t j i = true) (ht : decide (t < a0.tmps.size) = true) (hv : vals j = v) : (Lf ops a0 vals i).tmps[t]? = some v := by
 subst hv
 exact Lf_inner vals i j t (of_decide_eq_true hj) hd (inChk_spec hdist) (of_decide_eq_true ht)
def look (L : List (Nat × Value)) (t : Nat) : Option Value := match L with
 | [] => none
 | p :: r => if p.1 == t then some p.2 else look r t
def AllAt (A : Act) : List (Nat × Value) → Prop
 | [] => True
 | p :: r => A.tmps[p.1]? = some p.2 ∧ AllAt A r
theorem look_at {A : Act} : ∀ {L : List (Nat × Value)} {t : Nat} {v : Value}, AllAt A L → look L t = some v → A.tmps[t]? = some v
 | [], _, _, _, h => by cases h
 | p :: r, t, v, ⟨h1, h2⟩, h => by
  unfold look at h
  split at h
  ·rename_i e
   have e : p.1 = t := by simpa using e
   subst e
   rw [h1, h]
  ·exact look_at h2 h
abbrev tiny0 : Act := ⟨#[undef], []⟩
def rho (L : List (Nat × Value)) (x : Operand) : Value := match x with
 | .tmp t => (look L t).getD undef
 | x => tiny0.eval x
def covers (L : List (Nat × Value)) (o : Oper) : Bool := o.op.operands.all fun x => match x with | .tmp t => (look L t).isSome | _ => true
def wantV (v : Option Value) (b : Bool) : Bool := match v with | some (.bool c) => c == b | _ => false
def wantL (L : List (Nat × Value)) (ops : Array Oper) (o : Oper) : Option Bool := match o.guard with
 | none => some true
 | some (g, b) => match dstAt ops g with
  | some t => (match look L t with | some v => some (wantV (some v) b) | none => none)
  | none => none
theorem want_of {A : Act} {L : List (Nat × Value)} {o : Oper} {b : Bool} (hL : AllAt A L) (h : wantL L ops o = some b) : Region.wanted o (yielded ops A.tmps) = b := by
 unfold wantL at h
 unfold Region.wanted
 cases hg : o.guard with
 | none => rw [hg] at h; simpa using h
 | some gb =>
  obtain ⟨g, c⟩ := gb
  rw [hg] at h
  simp only at h ⊢
  unfold dstAt at h
  cases ht : (ops[g]?).bind (·.dst) with
  | none => rw [ht] at h; simp at h
  | some t =>
   rw [ht] at h
   simp only at h
   cases hl : look L t with
   | none => rw [hl] at h; simp at h
   | some v =>
    rw [hl] at h
    simp only [Option.some.injEq] at h
    rw [← h]
    unfold yielded
    rw [ht, Option.bind_some, look_at hL hl]
    cases v <;> simp [wantV]
theorem put_dst {A : Act} {t : Tmp} {v : Value} (h : t < A.tmps.size) : (A.put (some t) v).tmps.getD t undef = v := by simp [Act.put, h]
theorem tiny {i : Nat} {o : Oper} {R : Value → World → Prop} {w w0 : World} (L : List (Nat × Value)) (o' : Oper) (t : Nat) (ht : tameOp o = true) (hL : AllAt (Lf ops a0 vals i) L) (hc : covers L o = true) (hw : wantL L ops o = some true) (he : execOp (rho L) o = execOp tiny0.eval o')
  (hd : o.dst = some t) (htl : decide (t < a0.tmps.size) = true) (hd' : o'.dst = some 0) (hg' : o'.guard = none) (h : wpList P #[] (Qo tiny0 R o' w0) [o'] tiny0 w) : wpList P ops (Qo a0 R o w0) [o] (Lf ops a0 vals i) w := by
 have htl := of_decide_eq_true htl
 rw [← Lf_size (ops := ops) (vals := vals) i] at htl
 have hdf := Lf_defers (ops := ops) (a0 := a0) vals i
 generalize Lf ops a0 vals i = A at hL htl hdf ⊢
 have hs : ∀ cs b, o.op ≠ .select cs b := fun cs b e => by simp [tameOp, e] at ht
 have he1 : execOp A.eval o = execOp (rho L) o := execOp_congr o hs (fun x hx => by
  have hx2 := Array.all_eq_true'.1 hc x hx
  cases x with
  | tmp k =>
   simp only at hx2
   obtain ⟨v, hv⟩ := Option.isSome_iff_exists.1 hx2
   have := look_at hL hv
   simp only [Act.eval, rho, Array.getD_eq_getD_getElem?, this, hv]
  | _ => rfl)
 have hwd := want_of (ops := ops) hL hw
 have hw' : Region.wanted o' (yielded #[] tiny0.tmps) = true := by simp [Region.wanted, hg']
 have key : ∀ v w', Qo tiny0 R o' w0 .normal (tiny0.put o'.dst v) w' → Qo a0 R o w0 .normal (A.put o.dst v) w' := by
  rintro v w' ⟨_, h2, h3⟩
  rw [hd'] at h3
  rw [hd]
  refine ⟨hdf, h2, ?_⟩
  rw [hd]
  simp only [put_dst htl]
  have h4 : (tiny0.put (some 0) v).tmps.getD 0 undef = v := put_dst (by simp)
  simp only [h4] at h3
  exact h3
 unfold wpList at h ⊢
 rw [if_pos hw'] at h
 rw [if_pos hwd]
 rcases h with h | h
 ·refine .inl ?_
  unfold Oper.wp at h ⊢
  rw [he1, he]
  generalize (execOp tiny0.eval o').run P w = r at h
  cases r with
  | ok n w' =>
   cases n <;> simp only [Oper.upon] at h ⊢
   case value v => unfold wpList at h ⊢; exact key _ _ h
   case skip => unfold wpList at h ⊢; exact key _ _ h
   case defer d =>
    unfold wpList at h
    have := h.1
    rw [hd'] at this
    simp [Act.put] at this
   case enter f args =>
    refine Calls.mono h fun e w'' hq => ?_
    cases e with
    | returned v => unfold wpList at hq ⊢; exact key _ _ hq
    | panicked ch => exact absurd hq (by simp [Qo])
    | outgrown => exact absurd hq (Qo_notOut _ _ _ _)
   case row row args =>
    exact Rows.mono h fun v w'' hq => by unfold wpList at hq ⊢; exact key _ _ hq
   all_goals first | exact h | exact h.elim
  | halt x w' => cases x <;> simp only [Oper.upon] at h ⊢ <;> first | exact h.elim | exact absurd h (by simp [Qo])
 ·exact absurd h.2 (Qo_notOut _ _ _ _)
theorem tiny_no {i : Nat} {o : Oper} {R : Value → World → Prop} {w : World} (L : List (Nat × Value)) (hL : AllAt (Lf ops a0 vals i) L) (hw : wantL L ops o = some false) (t : Nat) (hd : o.dst = some t) (htl : decide (t < a0.tmps.size) = true) (hr : R undef w) :
  wpList P ops (Qo a0 R o w) [o] (Lf ops a0 vals i) w := by
 have htl := of_decide_eq_true htl
 rw [← Lf_size (ops := ops) (vals := vals) i] at htl
 have hdf := Lf_defers (ops := ops) (a0 := a0) vals i
 generalize Lf ops a0 vals i = A at hL htl hdf ⊢
 have hwd := want_of (ops := ops) hL hw
 unfold wpList
 rw [if_neg (by rw [hwd]; simp)]
 unfold wpList
 refine ⟨by rw [hd]; exact hdf, Ext.refl _, ?_⟩
 rw [hd]
 simp only [put_dst htl]
 exact hr
end
end Go.Proofs.Ytmlabgmigakcbaa
namespace Go.Proofs.Ytmlabgmigakcbaa
open Go.RowKit
def dsAt (ds : List (Option Tmp)) (j : Nat) : Option Tmp := (ds[j]?).bind id
def outOK (ds : List (Option Tmp)) (t : Nat) : Nat → Bool
 | 0 => true
 | i + 1 => !(dsAt ds i == some t) && outOK ds t i
def inOK (ds : List (Option Tmp)) (t j : Nat) : Nat → Bool
 | 0 => true
 | i + 1 => (decide (i ≤ j) || !(dsAt ds i == some t)) && inOK ds t j i
section
variable {P : Program} {ops : Array Oper} {a0 : Act} {vals : Nat → Value} {ds : List (Option Tmp)}
theorem ds_at (h : ops.toList.map (·.dst) = ds) (j : Nat) : dstAt ops j = dsAt ds j := by
 subst h
 unfold dstAt dsAt
 rw [List.getElem?_map, Array.getElem?_toList]
 cases ops[j]? <;> rfl
theorem outOK_chk (h : ops.toList.map (·.dst) = ds) (t : Nat) : ∀ i, outOK ds t i = outChk ops t i
 | 0 => rfl
 | i + 1 => by rw [outOK, outChk, ds_at h, outOK_chk h t i]
theorem inOK_chk (h : ops.toList.map (·.dst) = ds) (t j : Nat) : ∀ i, inOK ds t j i = inChk ops t j i
 | 0 => rfl
 | i + 1 => by rw [inOK, inChk, ds_at h, inOK_chk h t j i]
inductive SlotV (ds : List (Option Tmp)) (outs : List (Nat × Value)) (N : Nat) (vals : Nat → Value) (i : Nat) : Nat → Value → Prop
 | inn {t : Nat} {v : Value} (j : Nat) (h : (decide (j < i) && (dsAt ds j == some t) && inOK ds t j i && decide (t < N)) = true) (hv : vals j = v) : SlotV ds outs N vals i t v
 | out {t : Nat} {v : Value} (h : outOK ds t i = true) (hv : look outs t = some v) : SlotV ds outs N vals i t v
def AllV (ds : List (Option Tmp)) (outs : List (Nat × Value)) (N : Nat) (vals : Nat → Value) (i : Nat) : List (Nat × Value) → Prop
 | [] => True
 | p :: r => SlotV ds outs N vals i p.1 p.2 ∧ AllV ds outs N vals i r
theorem allV_at {outs : List (Nat × Value)} {N i : Nat} (h : ops.toList.map (·.dst) = ds) (hN : a0.tmps.size = N) (ho : AllAt a0 outs) : ∀ {L : List (Nat × Value)}, AllV ds outs N vals i L → AllAt (Lf ops a0 vals i) L
 | [], _ => trivial
 | p :: r, ⟨h1, h2⟩ => by
  refine ⟨?_, allV_at h hN ho h2⟩
  cases h1 with
  | inn j hj hv =>
   simp only [Bool.and_eq_true] at hj
   obtain ⟨⟨⟨j1, j2⟩, j3⟩, j4⟩ := hj
   exact lf_in j j1 (by rw [ds_at h]; simpa using j2) (by rw [← inOK_chk h]; exact j3) (by rw [hN]; exact j4) hv
  | out hj hv => exact lf_out (by rw [← outOK_chk h]; exact hj) (look_at ho hv)
def wantD (L : List (Nat × Value)) (ds : List (Option Tmp)) (o : Oper) : Option Bool := match o.guard with
 | none => some true
 | some (g, b) => match dsAt ds g with
  | some t => (match look L t with | some v => some (wantV (some v) b) | none => none)
  | none => none
theorem wantD_eq (h : ops.toList.map (·.dst) = ds) (L : List (Nat × Value)) (o : Oper) : wantD L ds o = wantL L ops o := by
 unfold wantD wantL
 cases o.guard with
 | none => rfl
 | some gb => simp only [ds_at h] <;> rfl
inductive Small (P : Program) (ds : List (Option Tmp)) (outs : List (Nat × Value)) (N : Nat) (vals : Nat → Value) (R : Value → World → Prop) (i : Nat) (o : Oper) (w : World) : Prop
 | run (L : List (Nat × Value)) (o' : Oper) (t : Nat) (hL : AllV ds outs N vals i L) (hc : (tameOp o && covers L o && decide (t < N)) = true) (hw : wantD L ds o = some true) (he : execOp (rho L) o = execOp tiny0.eval o')
   (hd : o.dst = some t) (hd' : o'.dst = some 0) (hg' : o'.guard = none) (h : wpList P #[] (Qo tiny0 R o' w) [o'] tiny0 w) : Small P ds outs N vals R i o w
 | no (L : List (Nat × Value)) (t : Nat) (hL : AllV ds outs N vals i L) (hw : wantD L ds o = some false) (hd : o.dst = some t) (ht : decide (t < N) = true) (hr : R undef w) : Small P ds outs N vals R i o w
theorem Small.r {outs : List (Nat × Value)} {N : Nat} {R : Value → World → Prop} {i : Nat} {o : Oper} {w : World} (L : List (Nat × Value)) (op : Op) (ty : TypeId) (t : Nat) (hL : AllV ds outs N vals i L) (h : wpList P #[] (Qo tiny0 R ⟨some 0, op, ty, "", #[], none⟩ w) [⟨some 0, op, ty, "", #[], none⟩] tiny0 w)
  (hc : (tameOp o && covers L o && decide (t < N)) = true := by kernel_rfl) (hw : wantD L ds o = some true := by kernel_rfl) (he : execOp (rho L) o = execOp tiny0.eval ⟨some 0, op, ty, "", #[], none⟩ := by kernel_rfl) (hd : o.dst = some t := by exact rfl) : Small P ds outs N vals R i o w := .run L _ t hL hc hw he hd rfl rfl h
theorem small_obl {outs : List (Nat × Value)} {N i : Nat} {o : Oper} {R : Value → World → Prop} {w : World} (h : ops.toList.map (·.dst) = ds) (hN : a0.tmps.size = N) (ho : AllAt a0 outs) (hs : Small P ds outs N vals R i o w) : wpList P ops (Qo a0 R o w) [o] (Lf ops a0 vals i) w := by
 cases hs with
 | run L o' t hL hc hw he hd hd' hg' hx =>
  simp only [Bool.and_eq_true] at hc
  exact tiny L o' t hc.1.1 (allV_at h hN ho hL) hc.1.2 (by rw [← wantD_eq h]; exact hw) he hd (by rw [hN]; exact hc.2) hd' hg' hx
 | no L t hL hw hd ht hr => exact tiny_no L (allV_at h hN ho hL) (by rw [← wantD_eq h]; exact hw) t hd (by rw [hN]; exact ht) hr
def OblsT (P : Program) (ds : List (Option Tmp)) (outs : List (Nat × Value)) (N : Nat) (w0 : World) (R : Nat → (Nat → Value) → Value → World → Prop) : Nat → List Oper → Prop
 | _, [] => True
 | k, o :: rest => (∀ (vals : Nat → Value) (w : World), Ext w0 w → (∀ d ∈ depsOf o, R d vals (vals d) w) → Small P ds outs N vals (R k vals) k o w) ∧ OblsT P ds outs N w0 R (k + 1) rest
theorem obls_ofT {w0 : World} {R : Nat → (Nat → Value) → Value → World → Prop} (ds : List (Option Tmp)) (outs : List (Nat × Value)) (N : Nat) (h : ops.toList.map (·.dst) = ds) (hN : a0.tmps.size = N) (ho : AllAt a0 outs) :
  ∀ {l : List Oper} {k : Nat}, OblsT P ds outs N w0 R k l → Obls P ops a0 w0 R k l
 | [], _, _ => trivial
 | _ :: _, _, ⟨h1, h2⟩ => ⟨fun vals w hx hd _ => small_obl h hN ho (h1 vals w hx hd), obls_ofT ds outs N h hN ho h2⟩
end
end Go.Proofs.Ytmlabgmigakcbaa
