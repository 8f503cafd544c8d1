/- Options, receipts and notes in memory. -/
import Derived.Test.YtmlabgmigakcbaaRp
import Derived.Test.YtmlabgmigakcbaaB4
import Derived.Test.YtmlabgmigakcbaaMp
namespace Go.Proofs.Ytmlabgmigakcbaa
open Go.RowKit

/-- An option: its integers, and the slice of its slots with what it holds. -/
structure Opt where
  id : Int
  i1 : Int
  i2 : Int
  i3 : Int
  i4 : Int
  i5 : Int
  i6 : Int
  i7 : Int
  a : Option Addr
  n : Nat
  c : Nat
  l : List Slt
def sltCells (s : Slt) : List Value := [.int .i64 s.p, .int .i64 s.fr, .int .i64 s.tt]
def optCells (o : Opt) : List Value := [.int .i64 o.id, .int .i64 o.i1, .int .i64 o.i2, .int .i64 o.i3, .int .i64 o.i4, .int .i64 o.i5, .int .i64 o.i6, .int .i64 o.i7, .slice o.a o.n o.c]
def rcpCells (r : Rcp) : List Value := [.int .i64 r.sn, .int .i64 r.im, .int .i64 r.at_]
def nteCells (n : Nte) : List Value := [.int .i64 n.im, .int .i64 n.slot, .bool n.is_]
def dscCells (d : Dsc) : List Value := [.int .i64 d.kind, .int .i64 d.im, .int .i64 d.ix]
def natCells (n : Nat) : List Value := [.int .i64 n]
def intCells (n : Int) : List Value := [.int .i64 n]
theorem slt_len (x : Slt) : (sltCells x).length = 3 := rfl
theorem opt_len (x : Opt) : (optCells x).length = 9 := rfl
theorem rcp_len (x : Rcp) : (rcpCells x).length = 3 := rfl
theorem nte_len (x : Nte) : (nteCells x).length = 3 := rfl
theorem dsc_len (x : Dsc) : (dscCells x).length = 3 := rfl
theorem nat_len (x : Nat) : (natCells x).length = 1 := rfl
theorem int_len (x : Int) : (intCells x).length = 1 := rfl
/-- Options, below a block. -/
structure Ops (w : World) (B : Nat) (A : Option Addr) (n c : Nat) (os : List Opt) : Prop where
  out : RA optCells 9 w B A n c os
  each : ∀ o ∈ os, RA sltCells 3 w B o.a o.n o.c o.l
theorem Ops.below {w w' : World} {B n c : Nat} {A : Option Addr} {os : List Opt} (h : Ops w B A n c os) (hb : Below B w w') : Ops w' B A n c os := ⟨h.out.below hb, fun r hr => (h.each r hr).below hb⟩
theorem Ops.more {w : World} {B B' n c : Nat} {A : Option Addr} {os : List Opt} (h : Ops w B A n c os) (hb : B ≤ B') : Ops w B' A n c os := ⟨h.out.more hb, fun r hr => (h.each r hr).more hb⟩
theorem ra_ext {α : Type} {cells : α → List Value} {s : Nat} {w w' : World} {n c : Nat} {A : Option Addr} {l : List α} (h : RA cells s w w.heap.size A n c l) (hx : Ext w w') : RA cells s w' w'.heap.size A n c l := (h.below hx).more (Below.size hx)
theorem Ops.ext {w w' : World} {n c : Nat} {A : Option Addr} {os : List Opt} (h : Ops w w.heap.size A n c os) (hx : Ext w w') : Ops w' w'.heap.size A n c os := (h.below hx).more (Below.size hx)
theorem RA.of_own {α : Type} {cells : α → List Value} {s : Nat} {w : World} {base n c : Nat} {A : Option Addr} {e : TypeId} {l : List α} (h : w.ownsRow base e s (.slice A n c) n (l.flatMap cells)) (hl : l.length = n) (hn : n ≤ 100000) : RA cells s w w.heap.size A n c l := by
  obtain ⟨A', c', hv, h1, h2⟩ := own_slice h
  injection hv with e1 e2 e3
  subst e1 e3
  exact ⟨Reads.of_own h, hl, h1, h2, by omega⟩
section
variable {P : Program} {w : World} {ops : Array Oper} {rest : List Oper} {o : Oper} {a : Act} {Q : Exit → Act → World → Prop}
theorem wpList_mapUpdate_run (hg : o.guard = none) (m x v : Operand) (t : TypeId) (hop : o.op = Op.mapUpdate t m x v) {M X V : Value} {w' : World} (hm : a.eval m = M) (hx : a.eval x = X) (hv : a.eval v = V)
    (hrun : (Instr.mapUpdate t M X V).run P w = .ok () w') (hK : wpList P ops Q rest (a.put o.dst undef) w') : wpList P ops Q (o :: rest) a w := by
  refine wpList_plain hg fun K hK' => ?_
  unfold Oper.wp
  simp [execOp, hop, hm, hx, hv, hrun, Result.andThen]
  exact hK' _ _ hK
end
theorem wpList_append_run_ {P : Program} {w : World} {ops : Array Oper} {rest : List Oper} {o : Oper} {a : Act} {Q : Exit → Act → World → Prop}
    (hg : o.guard = none) (s x : Operand) (t : TypeId) (hop : o.op = Op.call { callee := Callee.builtin Builtin.append, args := #[s, x], argTypes := #[t, t] })
    {v1 v2 v' : Value} {w' : World} (hs : a.eval s = v1) (hx : a.eval x = v2) (hrun : (Builtin.append_ #[t, t] o.type #[v1, v2]).run P w = .ok v' w')
    (hK : wpList P ops Q rest (a.put o.dst v') w') : wpList P ops Q (o :: rest) a w := by
  refine wpList_plain hg fun K hK' => ?_
  unfold Oper.wp
  simp [execOp, hop, resolve, invoke, builtin, hs, hx, hrun, Result.andThen]
  exact hK' _ _ hK
theorem zero_int (w : World) : (zeroValue 3).run Try.prog w = .ok (.int .i64 0) w := by kernel_rfl
theorem zero_bool (w : World) : (zeroValue 4).run Try.prog w = .ok (.bool false) w := by kernel_rfl
def iM (f : Int → Option Int) : Int → Option Value := fun k => (f k).map (Value.int .i64)

theorem iM_put (f : Int → Option Int) (k v j : Int) : (if j = k then some (Value.int .i64 v) else iM f j) = iM (fun j => if j = k then some v else f j) j := by
  unfold iM
  by_cases h : j = k <;> simp [h]
/-- What skews hands back. -/
def SkewRet (l : List Stn) (w : World) (e : Ending) (w' : World) : Prop := ∃ g, e = .returned (.map (some g)) ∧ w.heap.size ≤ g ∧ MapI w' g (iM (skewF l)) ∧ Ext w w'
set_option maxRecDepth 100000 in
set_option maxHeartbeats 4000000 in
theorem skews_any (l : List Stn) (A : Option Addr) (n c : Nat) (w : World) (hr : RA stnCells 6 w w.heap.size A n c l) :
    Calls Try.prog 41 #[.slice A n c] w (SkewRet l w) := by
  have hle := hr.le
  have HR := Lib.hid hr
  have HL := Lib.hid hr.len
  obtain ⟨fin, hfin⟩ : ∃ f, f = skewF l := ⟨_, rfl⟩
  have HF0 : Hid (fin = skewL (fun _ => none) (l.drop 0)) := Lib.hid hfin
  unfold SkewRet
  rw [← hfin]
  clear hr hfin
  have hmm : ∀ w : World, (Instr.makeMap 95 none).run Try.prog w = .ok (.map (some w.heap.size)) (w.alloc (.map #[] 0)) := fun w => by simp [Instr.makeMap]
  go_enter Try.func41, Try.ntmps41
  go_wp2
  clear hmm
  have hx : Ext w (w.alloc (.map #[] 0)) := bl_alloc (Below.refl _ _) _
  have hm0 := MapI.new w
  obtain ⟨g, hg⟩ : ∃ g, g = w.heap.size := ⟨_, rfl⟩
  have hgw : w.heap.size ≤ g := by omega
  rw [← hg] at hm0 ⊢
  have HM0 : Hid (MapI (w.alloc (.map #[] 0)) g (iM (fun _ => none))) := Lib.hid (hm0.congr fun _ => rfl)
  clear hg hm0
  generalize w.alloc (.map #[] 0) = W0 at hx HM0 ⊢
  go_loopw [9] (fun y wr => ∃ (k : Nat) (f : Int → Option Int), k ≤ n ∧ y = .int .i64 k ∧ Hid (fin = skewL f (l.drop k)) ∧ Hid (MapI wr g (iM f)) ∧ Ext w wr) (fun y _ => n - (intOf y).toNat)
  case atStart => exact ⟨0, _, Nat.zero_le _, rfl, HF0, HM0, hx⟩
  case round =>
    clear HF0 HM0 hx
    obtain ⟨k, f, hk, rfl, HF, HM, hx⟩ := hrel
    by_cases hkn : k < n
    · obtain ⟨b, o, hz, hA, _, hc⟩ := (HR.out.below hx).at_ stn_len hkn
      have hst := HF.out
      rw [List.drop_eq_getElem_cons hz, skewL_cons] at hst
      generalize l[k] = s at hst hc
      obtain ⟨id, ⟨x, y⟩, re, an, sk⟩ := s
      dsimp only at hst
      have c0 : wr.cell? ⟨b, o + k * 6, none⟩ = some (.int .i64 id) := hc 0 (by omega)
      have c1 : wr.cell? ⟨b, o + k * 6 + 1, none⟩ = some (.int .i64 x) := hc 1 (by omega)
      have c2 : wr.cell? ⟨b, o + k * 6 + 2, none⟩ = some (.int .i64 y) := hc 2 (by omega)
      have c3 : wr.cell? ⟨b, o + k * 6 + 3, none⟩ = some (.int .i64 re) := hc 3 (by omega)
      have c4 : wr.cell? ⟨b, o + k * 6 + 4, none⟩ = some (.int .i64 an) := hc 4 (by omega)
      have c5 : wr.cell? ⟨b, o + k * 6 + 5, none⟩ = some (.int .i64 sk) := hc 5 (by omega)
      have HST := Lib.hid hst
      subst hA
      clear hst hc hz HF
      go_upto_region 5 with (fail)
      have hy : Ext wr (wr.alloc (.cells #[.int .i64 id, .int .i64 x, .int .i64 y, .int .i64 re, .int .i64 an, .int .i64 sk] 122)) := bl_alloc (Below.refl _ _) _
      have J := Blk.new wr 122 #[.int .i64 id, .int .i64 x, .int .i64 y, .int .i64 re, .int .i64 an, .int .i64 sk]
      have hgl : g ≠ wr.heap.size := by have := HM.out.lt; omega
      generalize wr.heap.size = g5 at J hgl ⊢
      generalize wr.alloc (.cells #[.int .i64 id, .int .i64 x, .int .i64 y, .int .i64 re, .int .i64 an, .int .i64 sk] 122) = W1 at hy J ⊢
      have hx := Ext.trans hx hy
      have hm1 := HM.out.ext hy
      obtain ⟨W2, hu, hm2, hg2⟩ := hm1.update Try.underlying95 Try.underlying3 id (.int .i64 sk)
      have hx2 : Ext w W2 := hx.grown hg2 (Below.size hx) (fun q e => by injection e with e; omega)
      have d0 : W1.cell? ⟨g5, 0, none⟩ = some (.int .i64 id) := J.cell 0
      have d4 : W1.cell? ⟨g5, 4, none⟩ = some (.int .i64 an) := J.cell 4
      have d5 : W1.cell? ⟨g5, 5, none⟩ = some (.int .i64 sk) := J.cell 5
      have HU := Lib.hid hu
      have HM2 : Hid (MapI W2 g (iM (fun j => if j = id then some sk else f j))) := Lib.hid (hm2.congr fun j => iM_put f id sk j)
      clear c0 c1 c2 c3 c4 c5 hm1 hu hm2 hg2 J HM hy
      go_wp2_with (refine wpList_mapUpdate_run rfl _ _ _ _ rfl rfl rfl rfl HU.out ?_)
      go_roundw
      case rel => exact ⟨k + 1, _, by omega, by go_num, HST, HM2, hx2⟩
      case measure => simp [intOf]; omega
    · have hst := HF.out
      rw [List.drop_of_length_le (by rw [HL.out]; omega)] at hst
      have hfm : fin = f := hst
      go_wp2
      go_ret
      exact ⟨g, rfl, hgw, by rw [hfm]; exact HM.out, hx⟩
end Go.Proofs.Ytmlabgmigakcbaa
