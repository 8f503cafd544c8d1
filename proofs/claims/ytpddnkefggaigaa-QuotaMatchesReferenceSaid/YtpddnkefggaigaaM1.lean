/- The closures of quota's operations: the moves that they list. -/
import Derived.Test.YtpddnkefggaigaaS4
import Derived.Test.YtpddnkefggaigaaReg
namespace Go.Proofs.Ytpddnkefggaigaa
open Go.RowKit


structure Mv where
  fra : Addr
  toa : Addr
  am : Int
def mvCells (m : Mv) : List Value := [.pointer (some m.fra), .pointer (some m.toa), .int .i64 m.am]
def MovesRet (W : World) (mv : List Mv) (e : Ending) (w' : World) : Prop :=
  ∃ gm, e = .returned (.slice (some ⟨gm, 0, none⟩) mv.length mv.length) ∧ Ext W w' ∧ W.heap.size ≤ gm ∧ Blk w' gm 73 (mv.flatMap mvCells).toArray

theorem list_any (v : Value) (w : World) (A : Option Addr) (n c : Nat) (hv : v = .slice A n c) :
    Calls Try.prog 55 #[v] w fun e w' => e = .returned v ∧ w = w' := by
  subst hv
  go_enter Try.func55, Try.ntmps55
  go_wp2
  go_ret
  exact ⟨rfl, rfl⟩

set_option maxHeartbeats 1000000 in
theorem lend_moves (f : Nat) (t : Nat) (u : Int) (W : World) (pf : Addr) (pt : Addr) (pu : Addr) (yf : W.cell? pf = some (.int .i64 (f : Int))) (yt : W.cell? pt = some (.int .i64 (t : Int))) (yu : W.cell? pu = some (.int .i64 u)) (bf : f < 16) (bt : t < 16) (Bq : Nat) (g1 c1 : Nat) (q0 : W.cell? ⟨Bq, 0, none⟩ = some (.slice (some ⟨g1, 0, none⟩) 16 c1)) :
    Calls Try.prog 54 #[.pointer (some ⟨Bq, 0, none⟩), .pointer (some pf), .pointer (some pt), .pointer (some pu)] W (MovesRet W [⟨⟨g1, f, none⟩, ⟨g1, t, none⟩, u⟩]) := by
  have lt_f : (f : Int) < 16 := by omega
  have lt_t : (t : Int) < 16 := by omega
  go_enter Try.func54, Try.ntmps54
  go_wp2_with fail
  refine wp_region_obl 16 (fun ix vals v w1 => match ix with | 0 => v = .pointer (some ⟨Bq, 0, none⟩) | 1 => v = .pointer (some ⟨Bq, 0, none⟩) | 2 => v = .pointer (some ⟨Bq, 0, none⟩) | 3 => v = .slice (some ⟨g1, 0, none⟩) 16 c1 | 4 => v = .int .i64 f | 5 => v = .pointer (some ⟨g1, f, none⟩) | 6 => v = .pointer (some ⟨Bq, 0, none⟩) | 7 => v = .pointer (some ⟨Bq, 0, none⟩) | 8 => v = .pointer (some ⟨Bq, 0, none⟩) | 9 => v = .slice (some ⟨g1, 0, none⟩) 16 c1 | 10 => v = .int .i64 t | 11 => v = .pointer (some ⟨g1, t, none⟩) | 12 => v = .int .i64 u | 13 => v = .agg #[.pointer (some ⟨g1, f, none⟩), .pointer (some ⟨g1, t, none⟩), .int .i64 u] | 14 => ∃ gm, v = .slice (some ⟨gm, 0, none⟩) 1 1 ∧ W.heap.size ≤ gm ∧ Blk w1 gm 73 #[.pointer (some ⟨g1, f, none⟩), .pointer (some ⟨g1, t, none⟩), .int .i64 u] | _ => ∃ gm, v = .slice (some ⟨gm, 0, none⟩) 1 1 ∧ W.heap.size ≤ gm ∧ Blk w1 gm 73 #[.pointer (some ⟨g1, f, none⟩), .pointer (some ⟨g1, t, none⟩), .int .i64 u]) (by kernel_rfl) (by kernel_rfl) ?_ ?_ ?_ ?_
  · intro ix vals v w1 w2 hi hr hx
    match ix, hr with
    | 0, hr => exact hr
    | 1, hr => exact hr
    | 2, hr => exact hr
    | 3, hr => exact hr
    | 4, hr => exact hr
    | 5, hr => exact hr
    | 6, hr => exact hr
    | 7, hr => exact hr
    | 8, hr => exact hr
    | 9, hr => exact hr
    | 10, hr => exact hr
    | 11, hr => exact hr
    | 12, hr => exact hr
    | 13, hr => exact hr
    | 14, hr => obtain ⟨gm, e1, e2, e3⟩ := hr; exact ⟨gm, e1, e2, e3.ext hx⟩
    | (kx + 15), hr => obtain ⟨gm, e1, e2, e3⟩ := hr; exact ⟨gm, e1, e2, e3.ext hx⟩
  · intro ix vals vals_ v w1 hi hv hr
    exact hr
  · refine ⟨?_, ?_, ?_, ?_, ?_, ?_, ?_, ?_, ?_, ?_, ?_, ?_, ?_, ?_, ?_, ?_, trivial⟩
    · intro vals w1 hx hd ha
      clear hd ha
      simp only [Lf]
      have q0 := ext_cell hx q0
      have yf := ext_cell hx yf
      have yt := ext_cell hx yt
      have yu := ext_cell hx yu
      go_wp2
      exact ⟨rfl, Ext.refl _, rfl⟩
    · intro vals w1 hx hd ha
      have e0 : vals 0 = .pointer (some ⟨Bq, 0, none⟩) := hd 0 (by decide)
      clear hd ha
      simp only [Lf, dstAt, Act.put, List.getElem?_toArray, List.getElem?_cons_zero, Option.bind_some, List.setIfInBounds_toArray, List.set_cons_zero, List.set_cons_succ]
      simp only [e0]
      clear e0
      have q0 := ext_cell hx q0
      have yf := ext_cell hx yf
      have yt := ext_cell hx yt
      have yu := ext_cell hx yu
      go_wp2
      exact ⟨rfl, Ext.refl _, rfl⟩
    · intro vals w1 hx hd ha
      have e1 : vals 1 = .pointer (some ⟨Bq, 0, none⟩) := hd 1 (by decide)
      clear hd ha
      simp only [Lf, dstAt, Act.put, List.getElem?_toArray, List.getElem?_cons_zero, List.getElem?_cons_succ, Option.bind_some, List.setIfInBounds_toArray, List.set_cons_zero, List.set_cons_succ]
      simp only [e1]
      clear e1
      have q0 := ext_cell hx q0
      have yf := ext_cell hx yf
      have yt := ext_cell hx yt
      have yu := ext_cell hx yu
      go_wp2
      exact ⟨rfl, Ext.refl _, rfl⟩
    · intro vals w1 hx hd ha
      have e2 : vals 2 = .pointer (some ⟨Bq, 0, none⟩) := hd 2 (by decide)
      clear hd ha
      simp only [Lf, dstAt, Act.put, List.getElem?_toArray, List.getElem?_cons_zero, List.getElem?_cons_succ, Option.bind_some, List.setIfInBounds_toArray, List.set_cons_zero, List.set_cons_succ]
      simp only [e2]
      clear e2
      have q0 := ext_cell hx q0
      have yf := ext_cell hx yf
      have yt := ext_cell hx yt
      have yu := ext_cell hx yu
      go_wp2
      exact ⟨rfl, Ext.refl _, rfl⟩
    · intro vals w1 hx hd ha
      clear hd ha
      simp only [Lf, dstAt, Act.put, List.getElem?_toArray, List.getElem?_cons_zero, List.getElem?_cons_succ, Option.bind_some, List.setIfInBounds_toArray, List.set_cons_zero, List.set_cons_succ]
      have q0 := ext_cell hx q0
      have yf := ext_cell hx yf
      have yt := ext_cell hx yt
      have yu := ext_cell hx yu
      go_wp2
      exact ⟨rfl, Ext.refl _, rfl⟩
    · intro vals w1 hx hd ha
      have e3 : vals 3 = .slice (some ⟨g1, 0, none⟩) 16 c1 := hd 3 (by decide)
      have e4 : vals 4 = .int .i64 f := hd 4 (by decide)
      clear hd ha
      simp only [Lf, dstAt, Act.put, List.getElem?_toArray, List.getElem?_cons_zero, List.getElem?_cons_succ, Option.bind_some, List.setIfInBounds_toArray, List.set_cons_zero, List.set_cons_succ]
      simp only [e3, e4]
      clear e3 e4
      have q0 := ext_cell hx q0
      have yf := ext_cell hx yf
      have yt := ext_cell hx yt
      have yu := ext_cell hx yu
      go_wp2
      exact ⟨rfl, Ext.refl _, rfl⟩
    · intro vals w1 hx hd ha
      clear hd ha
      simp only [Lf, dstAt, Act.put, List.getElem?_toArray, List.getElem?_cons_zero, List.getElem?_cons_succ, Option.bind_some, List.setIfInBounds_toArray, List.set_cons_zero, List.set_cons_succ]
      have q0 := ext_cell hx q0
      have yf := ext_cell hx yf
      have yt := ext_cell hx yt
      have yu := ext_cell hx yu
      go_wp2
      exact ⟨rfl, Ext.refl _, rfl⟩
    · intro vals w1 hx hd ha
      have e6 : vals 6 = .pointer (some ⟨Bq, 0, none⟩) := hd 6 (by decide)
      clear hd ha
      simp only [Lf, dstAt, Act.put, List.getElem?_toArray, List.getElem?_cons_zero, List.getElem?_cons_succ, Option.bind_some, List.setIfInBounds_toArray, List.set_cons_zero, List.set_cons_succ]
      simp only [e6]
      clear e6
      have q0 := ext_cell hx q0
      have yf := ext_cell hx yf
      have yt := ext_cell hx yt
      have yu := ext_cell hx yu
      go_wp2
      exact ⟨rfl, Ext.refl _, rfl⟩
    · intro vals w1 hx hd ha
      have e7 : vals 7 = .pointer (some ⟨Bq, 0, none⟩) := hd 7 (by decide)
      clear hd ha
      simp only [Lf, dstAt, Act.put, List.getElem?_toArray, List.getElem?_cons_zero, List.getElem?_cons_succ, Option.bind_some, List.setIfInBounds_toArray, List.set_cons_zero, List.set_cons_succ]
      simp only [e7]
      clear e7
      have q0 := ext_cell hx q0
      have yf := ext_cell hx yf
      have yt := ext_cell hx yt
      have yu := ext_cell hx yu
      go_wp2
      exact ⟨rfl, Ext.refl _, rfl⟩
    · intro vals w1 hx hd ha
      have e8 : vals 8 = .pointer (some ⟨Bq, 0, none⟩) := hd 8 (by decide)
      clear hd ha
      simp only [Lf, dstAt, Act.put, List.getElem?_toArray, List.getElem?_cons_zero, List.getElem?_cons_succ, Option.bind_some, List.setIfInBounds_toArray, List.set_cons_zero, List.set_cons_succ]
      simp only [e8]
      clear e8
      have q0 := ext_cell hx q0
      have yf := ext_cell hx yf
      have yt := ext_cell hx yt
      have yu := ext_cell hx yu
      go_wp2
      exact ⟨rfl, Ext.refl _, rfl⟩
    · intro vals w1 hx hd ha
      clear hd ha
      simp only [Lf, dstAt, Act.put, List.getElem?_toArray, List.getElem?_cons_zero, List.getElem?_cons_succ, Option.bind_some, List.setIfInBounds_toArray, List.set_cons_zero, List.set_cons_succ]
      have q0 := ext_cell hx q0
      have yf := ext_cell hx yf
      have yt := ext_cell hx yt
      have yu := ext_cell hx yu
      go_wp2
      exact ⟨rfl, Ext.refl _, rfl⟩
    · intro vals w1 hx hd ha
      have e9 : vals 9 = .slice (some ⟨g1, 0, none⟩) 16 c1 := hd 9 (by decide)
      have e10 : vals 10 = .int .i64 t := hd 10 (by decide)
      clear hd ha
      simp only [Lf, dstAt, Act.put, List.getElem?_toArray, List.getElem?_cons_zero, List.getElem?_cons_succ, Option.bind_some, List.setIfInBounds_toArray, List.set_cons_zero, List.set_cons_succ]
      simp only [e9, e10]
      clear e9 e10
      have q0 := ext_cell hx q0
      have yf := ext_cell hx yf
      have yt := ext_cell hx yt
      have yu := ext_cell hx yu
      go_wp2
      exact ⟨rfl, Ext.refl _, rfl⟩
    · intro vals w1 hx hd ha
      clear hd ha
      simp only [Lf, dstAt, Act.put, List.getElem?_toArray, List.getElem?_cons_zero, List.getElem?_cons_succ, Option.bind_some, List.setIfInBounds_toArray, List.set_cons_zero, List.set_cons_succ]
      have q0 := ext_cell hx q0
      have yf := ext_cell hx yf
      have yt := ext_cell hx yt
      have yu := ext_cell hx yu
      go_wp2
      exact ⟨rfl, Ext.refl _, rfl⟩
    · intro vals w1 hx hd ha
      have e5 : vals 5 = .pointer (some ⟨g1, f, none⟩) := hd 5 (by decide)
      have e11 : vals 11 = .pointer (some ⟨g1, t, none⟩) := hd 11 (by decide)
      have e12 : vals 12 = .int .i64 u := hd 12 (by decide)
      clear hd ha
      simp only [Lf, dstAt, Act.put, List.getElem?_toArray, List.getElem?_cons_zero, List.getElem?_cons_succ, Option.bind_some, List.setIfInBounds_toArray, List.set_cons_zero, List.set_cons_succ]
      simp only [e5, e11, e12]
      clear e5 e11 e12
      have q0 := ext_cell hx q0
      have yf := ext_cell hx yf
      have yt := ext_cell hx yt
      have yu := ext_cell hx yu
      go_wp2
      exact ⟨rfl, Ext.refl _, rfl⟩
    · intro vals w1 hx hd ha
      have e13 : vals 13 = .agg #[.pointer (some ⟨g1, f, none⟩), .pointer (some ⟨g1, t, none⟩), .int .i64 u] := hd 13 (by decide)
      clear hd ha
      simp only [Lf, dstAt, Act.put, List.getElem?_toArray, List.getElem?_cons_zero, List.getElem?_cons_succ, Option.bind_some, List.setIfInBounds_toArray, List.set_cons_zero, List.set_cons_succ]
      have q0 := ext_cell hx q0
      have yf := ext_cell hx yf
      have yt := ext_cell hx yt
      have yu := ext_cell hx yu
      simp only [e13]
      clear e13
      go_wp2
      exact ⟨rfl, (by repeat (first | exact Below.refl _ _ | assumption | refine Below.drew ?_ | refine below_drewN ?_ _ | refine bl_alloc ?_ _ | refine Below.setCell ?_ (by first | (simp; done) | omega | (simp; omega)) _ | refine bl_then ?_ (by assumption))), _, rfl, by have := Below.size hx; simpa using this, Blk.new _ _ _⟩
    · intro vals w1 hx hd ha
      have r14 : (fun v w1 => ∃ gm, v = .slice (some ⟨gm, 0, none⟩) 1 1 ∧ W.heap.size ≤ gm ∧ Blk w1 gm 73 #[.pointer (some ⟨g1, f, none⟩), .pointer (some ⟨g1, t, none⟩), .int .i64 u]) (vals 14) w1 := hd 14 (by decide)
      dsimp only at r14
      clear hd ha
      simp only [Lf, dstAt, Act.put, List.getElem?_toArray, List.getElem?_cons_zero, List.getElem?_cons_succ, Option.bind_some, List.setIfInBounds_toArray, List.set_cons_zero, List.set_cons_succ]
      have q0 := ext_cell hx q0
      have yf := ext_cell hx yf
      have yt := ext_cell hx yt
      have yu := ext_cell hx yu
      obtain ⟨gm, e1, e2, e3⟩ := r14
      rw [e1]
      go_wp2_with fail
      refine (list_any _ _ _ _ _ rfl).mono ?_
      rintro e w2 ⟨rfl, rfl⟩
      go_wp2
      exact ⟨rfl, Ext.refl _, gm, rfl, e2, e3⟩
  intro vals w1 hx hf
  obtain ⟨gm, e1, e2, e3⟩ := hf 15 (by omega)
  clear hf
  refine tail1 16 _ (by kernel_rfl) (by kernel_rfl) rfl ?_
  simp only [Lf, dstAt, Act.put, List.getElem?_toArray, List.getElem?_cons_zero, List.getElem?_cons_succ, Option.bind_some, List.setIfInBounds_toArray, List.set_cons_zero, List.set_cons_succ]
  rw [e1]
  clear e1
  go_wp2
  go_ret
  exact ⟨gm, rfl, hx.undrew, e2, e3⟩

set_option maxHeartbeats 1000000 in
theorem return_moves (f : Nat) (t : Nat) (u : Int) (W : World) (pf : Addr) (pt : Addr) (pu : Addr) (yf : W.cell? pf = some (.int .i64 (f : Int))) (yt : W.cell? pt = some (.int .i64 (t : Int))) (yu : W.cell? pu = some (.int .i64 u)) (bf : f < 16) (bt : t < 16) (Bq : Nat) (g1 c1 : Nat) (q0 : W.cell? ⟨Bq, 0, none⟩ = some (.slice (some ⟨g1, 0, none⟩) 16 c1)) :
    Calls Try.prog 56 #[.pointer (some ⟨Bq, 0, none⟩), .pointer (some pf), .pointer (some pt), .pointer (some pu)] W (MovesRet W [⟨⟨g1, f, none⟩, ⟨g1, t, none⟩, u⟩]) := by
  have lt_f : (f : Int) < 16 := by omega
  have lt_t : (t : Int) < 16 := by omega
  go_enter Try.func56, Try.ntmps56
  go_wp2_with fail
  refine wp_region_obl 16 (fun ix vals v w1 => match ix with | 0 => v = .pointer (some ⟨Bq, 0, none⟩) | 1 => v = .pointer (some ⟨Bq, 0, none⟩) | 2 => v = .pointer (some ⟨Bq, 0, none⟩) | 3 => v = .slice (some ⟨g1, 0, none⟩) 16 c1 | 4 => v = .int .i64 f | 5 => v = .pointer (some ⟨g1, f, none⟩) | 6 => v = .pointer (some ⟨Bq, 0, none⟩) | 7 => v = .pointer (some ⟨Bq, 0, none⟩) | 8 => v = .pointer (some ⟨Bq, 0, none⟩) | 9 => v = .slice (some ⟨g1, 0, none⟩) 16 c1 | 10 => v = .int .i64 t | 11 => v = .pointer (some ⟨g1, t, none⟩) | 12 => v = .int .i64 u | 13 => v = .agg #[.pointer (some ⟨g1, f, none⟩), .pointer (some ⟨g1, t, none⟩), .int .i64 u] | 14 => ∃ gm, v = .slice (some ⟨gm, 0, none⟩) 1 1 ∧ W.heap.size ≤ gm ∧ Blk w1 gm 73 #[.pointer (some ⟨g1, f, none⟩), .pointer (some ⟨g1, t, none⟩), .int .i64 u] | _ => ∃ gm, v = .slice (some ⟨gm, 0, none⟩) 1 1 ∧ W.heap.size ≤ gm ∧ Blk w1 gm 73 #[.pointer (some ⟨g1, f, none⟩), .pointer (some ⟨g1, t, none⟩), .int .i64 u]) (by kernel_rfl) (by kernel_rfl) ?_ ?_ ?_ ?_
  · intro ix vals v w1 w2 hi hr hx
    match ix, hr with
    | 0, hr => exact hr
    | 1, hr => exact hr
    | 2, hr => exact hr
    | 3, hr => exact hr
    | 4, hr => exact hr
    | 5, hr => exact hr
    | 6, hr => exact hr
    | 7, hr => exact hr
    | 8, hr => exact hr
    | 9, hr => exact hr
    | 10, hr => exact hr
    | 11, hr => exact hr
    | 12, hr => exact hr
    | 13, hr => exact hr
    | 14, hr => obtain ⟨gm, e1, e2, e3⟩ := hr; exact ⟨gm, e1, e2, e3.ext hx⟩
    | (kx + 15), hr => obtain ⟨gm, e1, e2, e3⟩ := hr; exact ⟨gm, e1, e2, e3.ext hx⟩
  · intro ix vals vals_ v w1 hi hv hr
    exact hr
  · refine ⟨?_, ?_, ?_, ?_, ?_, ?_, ?_, ?_, ?_, ?_, ?_, ?_, ?_, ?_, ?_, ?_, trivial⟩
    · intro vals w1 hx hd ha
      clear hd ha
      simp only [Lf]
      have q0 := ext_cell hx q0
      have yf := ext_cell hx yf
      have yt := ext_cell hx yt
      have yu := ext_cell hx yu
      go_wp2
      exact ⟨rfl, Ext.refl _, rfl⟩
    · intro vals w1 hx hd ha
      have e0 : vals 0 = .pointer (some ⟨Bq, 0, none⟩) := hd 0 (by decide)
      clear hd ha
      simp only [Lf, dstAt, Act.put, List.getElem?_toArray, List.getElem?_cons_zero, Option.bind_some, List.setIfInBounds_toArray, List.set_cons_zero, List.set_cons_succ]
      simp only [e0]
      clear e0
      have q0 := ext_cell hx q0
      have yf := ext_cell hx yf
      have yt := ext_cell hx yt
      have yu := ext_cell hx yu
      go_wp2
      exact ⟨rfl, Ext.refl _, rfl⟩
    · intro vals w1 hx hd ha
      have e1 : vals 1 = .pointer (some ⟨Bq, 0, none⟩) := hd 1 (by decide)
      clear hd ha
      simp only [Lf, dstAt, Act.put, List.getElem?_toArray, List.getElem?_cons_zero, List.getElem?_cons_succ, Option.bind_some, List.setIfInBounds_toArray, List.set_cons_zero, List.set_cons_succ]
      simp only [e1]
      clear e1
      have q0 := ext_cell hx q0
      have yf := ext_cell hx yf
      have yt := ext_cell hx yt
      have yu := ext_cell hx yu
      go_wp2
      exact ⟨rfl, Ext.refl _, rfl⟩
    · intro vals w1 hx hd ha
      have e2 : vals 2 = .pointer (some ⟨Bq, 0, none⟩) := hd 2 (by decide)
      clear hd ha
      simp only [Lf, dstAt, Act.put, List.getElem?_toArray, List.getElem?_cons_zero, List.getElem?_cons_succ, Option.bind_some, List.setIfInBounds_toArray, List.set_cons_zero, List.set_cons_succ]
      simp only [e2]
      clear e2
      have q0 := ext_cell hx q0
      have yf := ext_cell hx yf
      have yt := ext_cell hx yt
      have yu := ext_cell hx yu
      go_wp2
      exact ⟨rfl, Ext.refl _, rfl⟩
    · intro vals w1 hx hd ha
      clear hd ha
      simp only [Lf, dstAt, Act.put, List.getElem?_toArray, List.getElem?_cons_zero, List.getElem?_cons_succ, Option.bind_some, List.setIfInBounds_toArray, List.set_cons_zero, List.set_cons_succ]
      have q0 := ext_cell hx q0
      have yf := ext_cell hx yf
      have yt := ext_cell hx yt
      have yu := ext_cell hx yu
      go_wp2
      exact ⟨rfl, Ext.refl _, rfl⟩
    · intro vals w1 hx hd ha
      have e3 : vals 3 = .slice (some ⟨g1, 0, none⟩) 16 c1 := hd 3 (by decide)
      have e4 : vals 4 = .int .i64 f := hd 4 (by decide)
      clear hd ha
      simp only [Lf, dstAt, Act.put, List.getElem?_toArray, List.getElem?_cons_zero, List.getElem?_cons_succ, Option.bind_some, List.setIfInBounds_toArray, List.set_cons_zero, List.set_cons_succ]
      simp only [e3, e4]
      clear e3 e4
      have q0 := ext_cell hx q0
      have yf := ext_cell hx yf
      have yt := ext_cell hx yt
      have yu := ext_cell hx yu
      go_wp2
      exact ⟨rfl, Ext.refl _, rfl⟩
    · intro vals w1 hx hd ha
      clear hd ha
      simp only [Lf, dstAt, Act.put, List.getElem?_toArray, List.getElem?_cons_zero, List.getElem?_cons_succ, Option.bind_some, List.setIfInBounds_toArray, List.set_cons_zero, List.set_cons_succ]
      have q0 := ext_cell hx q0
      have yf := ext_cell hx yf
      have yt := ext_cell hx yt
      have yu := ext_cell hx yu
      go_wp2
      exact ⟨rfl, Ext.refl _, rfl⟩
    · intro vals w1 hx hd ha
      have e6 : vals 6 = .pointer (some ⟨Bq, 0, none⟩) := hd 6 (by decide)
      clear hd ha
      simp only [Lf, dstAt, Act.put, List.getElem?_toArray, List.getElem?_cons_zero, List.getElem?_cons_succ, Option.bind_some, List.setIfInBounds_toArray, List.set_cons_zero, List.set_cons_succ]
      simp only [e6]
      clear e6
      have q0 := ext_cell hx q0
      have yf := ext_cell hx yf
      have yt := ext_cell hx yt
      have yu := ext_cell hx yu
      go_wp2
      exact ⟨rfl, Ext.refl _, rfl⟩
    · intro vals w1 hx hd ha
      have e7 : vals 7 = .pointer (some ⟨Bq, 0, none⟩) := hd 7 (by decide)
      clear hd ha
      simp only [Lf, dstAt, Act.put, List.getElem?_toArray, List.getElem?_cons_zero, List.getElem?_cons_succ, Option.bind_some, List.setIfInBounds_toArray, List.set_cons_zero, List.set_cons_succ]
      simp only [e7]
      clear e7
      have q0 := ext_cell hx q0
      have yf := ext_cell hx yf
      have yt := ext_cell hx yt
      have yu := ext_cell hx yu
      go_wp2
      exact ⟨rfl, Ext.refl _, rfl⟩
    · intro vals w1 hx hd ha
      have e8 : vals 8 = .pointer (some ⟨Bq, 0, none⟩) := hd 8 (by decide)
      clear hd ha
      simp only [Lf, dstAt, Act.put, List.getElem?_toArray, List.getElem?_cons_zero, List.getElem?_cons_succ, Option.bind_some, List.setIfInBounds_toArray, List.set_cons_zero, List.set_cons_succ]
      simp only [e8]
      clear e8
      have q0 := ext_cell hx q0
      have yf := ext_cell hx yf
      have yt := ext_cell hx yt
      have yu := ext_cell hx yu
      go_wp2
      exact ⟨rfl, Ext.refl _, rfl⟩
    · intro vals w1 hx hd ha
      clear hd ha
      simp only [Lf, dstAt, Act.put, List.getElem?_toArray, List.getElem?_cons_zero, List.getElem?_cons_succ, Option.bind_some, List.setIfInBounds_toArray, List.set_cons_zero, List.set_cons_succ]
      have q0 := ext_cell hx q0
      have yf := ext_cell hx yf
      have yt := ext_cell hx yt
      have yu := ext_cell hx yu
      go_wp2
      exact ⟨rfl, Ext.refl _, rfl⟩
    · intro vals w1 hx hd ha
      have e9 : vals 9 = .slice (some ⟨g1, 0, none⟩) 16 c1 := hd 9 (by decide)
      have e10 : vals 10 = .int .i64 t := hd 10 (by decide)
      clear hd ha
      simp only [Lf, dstAt, Act.put, List.getElem?_toArray, List.getElem?_cons_zero, List.getElem?_cons_succ, Option.bind_some, List.setIfInBounds_toArray, List.set_cons_zero, List.set_cons_succ]
      simp only [e9, e10]
      clear e9 e10
      have q0 := ext_cell hx q0
      have yf := ext_cell hx yf
      have yt := ext_cell hx yt
      have yu := ext_cell hx yu
      go_wp2
      exact ⟨rfl, Ext.refl _, rfl⟩
    · intro vals w1 hx hd ha
      clear hd ha
      simp only [Lf, dstAt, Act.put, List.getElem?_toArray, List.getElem?_cons_zero, List.getElem?_cons_succ, Option.bind_some, List.setIfInBounds_toArray, List.set_cons_zero, List.set_cons_succ]
      have q0 := ext_cell hx q0
      have yf := ext_cell hx yf
      have yt := ext_cell hx yt
      have yu := ext_cell hx yu
      go_wp2
      exact ⟨rfl, Ext.refl _, rfl⟩
    · intro vals w1 hx hd ha
      have e5 : vals 5 = .pointer (some ⟨g1, f, none⟩) := hd 5 (by decide)
      have e11 : vals 11 = .pointer (some ⟨g1, t, none⟩) := hd 11 (by decide)
      have e12 : vals 12 = .int .i64 u := hd 12 (by decide)
      clear hd ha
      simp only [Lf, dstAt, Act.put, List.getElem?_toArray, List.getElem?_cons_zero, List.getElem?_cons_succ, Option.bind_some, List.setIfInBounds_toArray, List.set_cons_zero, List.set_cons_succ]
      simp only [e5, e11, e12]
      clear e5 e11 e12
      have q0 := ext_cell hx q0
      have yf := ext_cell hx yf
      have yt := ext_cell hx yt
      have yu := ext_cell hx yu
      go_wp2
      exact ⟨rfl, Ext.refl _, rfl⟩
    · intro vals w1 hx hd ha
      have e13 : vals 13 = .agg #[.pointer (some ⟨g1, f, none⟩), .pointer (some ⟨g1, t, none⟩), .int .i64 u] := hd 13 (by decide)
      clear hd ha
      simp only [Lf, dstAt, Act.put, List.getElem?_toArray, List.getElem?_cons_zero, List.getElem?_cons_succ, Option.bind_some, List.setIfInBounds_toArray, List.set_cons_zero, List.set_cons_succ]
      have q0 := ext_cell hx q0
      have yf := ext_cell hx yf
      have yt := ext_cell hx yt
      have yu := ext_cell hx yu
      simp only [e13]
      clear e13
      go_wp2
      exact ⟨rfl, (by repeat (first | exact Below.refl _ _ | assumption | refine Below.drew ?_ | refine below_drewN ?_ _ | refine bl_alloc ?_ _ | refine Below.setCell ?_ (by first | (simp; done) | omega | (simp; omega)) _ | refine bl_then ?_ (by assumption))), _, rfl, by have := Below.size hx; simpa using this, Blk.new _ _ _⟩
    · intro vals w1 hx hd ha
      have r14 : (fun v w1 => ∃ gm, v = .slice (some ⟨gm, 0, none⟩) 1 1 ∧ W.heap.size ≤ gm ∧ Blk w1 gm 73 #[.pointer (some ⟨g1, f, none⟩), .pointer (some ⟨g1, t, none⟩), .int .i64 u]) (vals 14) w1 := hd 14 (by decide)
      dsimp only at r14
      clear hd ha
      simp only [Lf, dstAt, Act.put, List.getElem?_toArray, List.getElem?_cons_zero, List.getElem?_cons_succ, Option.bind_some, List.setIfInBounds_toArray, List.set_cons_zero, List.set_cons_succ]
      have q0 := ext_cell hx q0
      have yf := ext_cell hx yf
      have yt := ext_cell hx yt
      have yu := ext_cell hx yu
      obtain ⟨gm, e1, e2, e3⟩ := r14
      rw [e1]
      go_wp2_with fail
      refine (list_any _ _ _ _ _ rfl).mono ?_
      rintro e w2 ⟨rfl, rfl⟩
      go_wp2
      exact ⟨rfl, Ext.refl _, gm, rfl, e2, e3⟩
  intro vals w1 hx hf
  obtain ⟨gm, e1, e2, e3⟩ := hf 15 (by omega)
  clear hf
  refine tail1 16 _ (by kernel_rfl) (by kernel_rfl) rfl ?_
  simp only [Lf, dstAt, Act.put, List.getElem?_toArray, List.getElem?_cons_zero, List.getElem?_cons_succ, Option.bind_some, List.setIfInBounds_toArray, List.set_cons_zero, List.set_cons_succ]
  rw [e1]
  clear e1
  go_wp2
  go_ret
  exact ⟨gm, rfl, hx.undrew, e2, e3⟩

set_option maxHeartbeats 1000000 in
theorem trade_moves (f : Nat) (t : Nat) (u : Int) (c : Int) (W : World) (pf : Addr) (pt : Addr) (pu : Addr) (pc : Addr) (yf : W.cell? pf = some (.int .i64 (f : Int))) (yt : W.cell? pt = some (.int .i64 (t : Int))) (yu : W.cell? pu = some (.int .i64 u)) (yc : W.cell? pc = some (.int .i64 c)) (bf : f < 16) (bt : t < 16) (Bq : Nat) (g1 c1 : Nat) (q0 : W.cell? ⟨Bq, 0, none⟩ = some (.slice (some ⟨g1, 0, none⟩) 16 c1)) (g4 c4 : Nat) (q3 : W.cell? ⟨Bq, 3, none⟩ = some (.slice (some ⟨g4, 0, none⟩) 16 c4)) :
    Calls Try.prog 57 #[.pointer (some ⟨Bq, 0, none⟩), .pointer (some pf), .pointer (some pt), .pointer (some pu), .pointer (some pc)] W (MovesRet W [⟨⟨g1, f, none⟩, ⟨g1, t, none⟩, u⟩, ⟨⟨g4, t, none⟩, ⟨g4, f, none⟩, c⟩]) := by
  have lt_f : (f : Int) < 16 := by omega
  have lt_t : (t : Int) < 16 := by omega
  go_enter Try.func57, Try.ntmps57
  go_wp2_with fail
  refine wp_region_obl 30 (fun ix vals v w1 => match ix with | 0 => v = .pointer (some ⟨Bq, 0, none⟩) | 1 => v = .pointer (some ⟨Bq, 0, none⟩) | 2 => v = .pointer (some ⟨Bq, 0, none⟩) | 3 => v = .slice (some ⟨g1, 0, none⟩) 16 c1 | 4 => v = .int .i64 f | 5 => v = .pointer (some ⟨g1, f, none⟩) | 6 => v = .pointer (some ⟨Bq, 0, none⟩) | 7 => v = .pointer (some ⟨Bq, 0, none⟩) | 8 => v = .pointer (some ⟨Bq, 0, none⟩) | 9 => v = .slice (some ⟨g1, 0, none⟩) 16 c1 | 10 => v = .int .i64 t | 11 => v = .pointer (some ⟨g1, t, none⟩) | 12 => v = .int .i64 u | 13 => v = .agg #[.pointer (some ⟨g1, f, none⟩), .pointer (some ⟨g1, t, none⟩), .int .i64 u] | 14 => v = .pointer (some ⟨Bq, 0, none⟩) | 15 => v = .pointer (some ⟨Bq, 0, none⟩) | 16 => v = .pointer (some ⟨Bq, 3, none⟩) | 17 => v = .slice (some ⟨g4, 0, none⟩) 16 c4 | 18 => v = .int .i64 t | 19 => v = .pointer (some ⟨g4, t, none⟩) | 20 => v = .pointer (some ⟨Bq, 0, none⟩) | 21 => v = .pointer (some ⟨Bq, 0, none⟩) | 22 => v = .pointer (some ⟨Bq, 3, none⟩) | 23 => v = .slice (some ⟨g4, 0, none⟩) 16 c4 | 24 => v = .int .i64 f | 25 => v = .pointer (some ⟨g4, f, none⟩) | 26 => v = .int .i64 c | 27 => v = .agg #[.pointer (some ⟨g4, t, none⟩), .pointer (some ⟨g4, f, none⟩), .int .i64 c] | 28 => ∃ gm, v = .slice (some ⟨gm, 0, none⟩) 2 2 ∧ W.heap.size ≤ gm ∧ Blk w1 gm 73 #[.pointer (some ⟨g1, f, none⟩), .pointer (some ⟨g1, t, none⟩), .int .i64 u, .pointer (some ⟨g4, t, none⟩), .pointer (some ⟨g4, f, none⟩), .int .i64 c] | _ => ∃ gm, v = .slice (some ⟨gm, 0, none⟩) 2 2 ∧ W.heap.size ≤ gm ∧ Blk w1 gm 73 #[.pointer (some ⟨g1, f, none⟩), .pointer (some ⟨g1, t, none⟩), .int .i64 u, .pointer (some ⟨g4, t, none⟩), .pointer (some ⟨g4, f, none⟩), .int .i64 c]) (by kernel_rfl) (by kernel_rfl) ?_ ?_ ?_ ?_
  · intro ix vals v w1 w2 hi hr hx
    match ix, hr with
    | 0, hr => exact hr
    | 1, hr => exact hr
    | 2, hr => exact hr
    | 3, hr => exact hr
    | 4, hr => exact hr
    | 5, hr => exact hr
    | 6, hr => exact hr
    | 7, hr => exact hr
    | 8, hr => exact hr
    | 9, hr => exact hr
    | 10, hr => exact hr
    | 11, hr => exact hr
    | 12, hr => exact hr
    | 13, hr => exact hr
    | 14, hr => exact hr
    | 15, hr => exact hr
    | 16, hr => exact hr
    | 17, hr => exact hr
    | 18, hr => exact hr
    | 19, hr => exact hr
    | 20, hr => exact hr
    | 21, hr => exact hr
    | 22, hr => exact hr
    | 23, hr => exact hr
    | 24, hr => exact hr
    | 25, hr => exact hr
    | 26, hr => exact hr
    | 27, hr => exact hr
    | 28, hr => obtain ⟨gm, e1, e2, e3⟩ := hr; exact ⟨gm, e1, e2, e3.ext hx⟩
    | (kx + 29), hr => obtain ⟨gm, e1, e2, e3⟩ := hr; exact ⟨gm, e1, e2, e3.ext hx⟩
  · intro ix vals vals_ v w1 hi hv hr
    exact hr
  · refine ⟨?_, ?_, ?_, ?_, ?_, ?_, ?_, ?_, ?_, ?_, ?_, ?_, ?_, ?_, ?_, ?_, ?_, ?_, ?_, ?_, ?_, ?_, ?_, ?_, ?_, ?_, ?_, ?_, ?_, ?_, trivial⟩
    · intro vals w1 hx hd ha
      clear hd ha
      simp only [Lf]
      have q0 := ext_cell hx q0
      have q3 := ext_cell hx q3
      have yf := ext_cell hx yf
      have yt := ext_cell hx yt
      have yu := ext_cell hx yu
      have yc := ext_cell hx yc
      go_wp2
      exact ⟨rfl, Ext.refl _, rfl⟩
    · intro vals w1 hx hd ha
      have e0 : vals 0 = .pointer (some ⟨Bq, 0, none⟩) := hd 0 (by decide)
      clear hd ha
      simp only [Lf, dstAt, Act.put, List.getElem?_toArray, List.getElem?_cons_zero, Option.bind_some, List.setIfInBounds_toArray, List.set_cons_zero, List.set_cons_succ]
      simp only [e0]
      clear e0
      have q0 := ext_cell hx q0
      have q3 := ext_cell hx q3
      have yf := ext_cell hx yf
      have yt := ext_cell hx yt
      have yu := ext_cell hx yu
      have yc := ext_cell hx yc
      go_wp2
      exact ⟨rfl, Ext.refl _, rfl⟩
    · intro vals w1 hx hd ha
      have e1 : vals 1 = .pointer (some ⟨Bq, 0, none⟩) := hd 1 (by decide)
      clear hd ha
      simp only [Lf, dstAt, Act.put, List.getElem?_toArray, List.getElem?_cons_zero, List.getElem?_cons_succ, Option.bind_some, List.setIfInBounds_toArray, List.set_cons_zero, List.set_cons_succ]
      simp only [e1]
      clear e1
      have q0 := ext_cell hx q0
      have q3 := ext_cell hx q3
      have yf := ext_cell hx yf
      have yt := ext_cell hx yt
      have yu := ext_cell hx yu
      have yc := ext_cell hx yc
      go_wp2
      exact ⟨rfl, Ext.refl _, rfl⟩
    · intro vals w1 hx hd ha
      have e2 : vals 2 = .pointer (some ⟨Bq, 0, none⟩) := hd 2 (by decide)
      clear hd ha
      simp only [Lf, dstAt, Act.put, List.getElem?_toArray, List.getElem?_cons_zero, List.getElem?_cons_succ, Option.bind_some, List.setIfInBounds_toArray, List.set_cons_zero, List.set_cons_succ]
      simp only [e2]
      clear e2
      have q0 := ext_cell hx q0
      have q3 := ext_cell hx q3
      have yf := ext_cell hx yf
      have yt := ext_cell hx yt
      have yu := ext_cell hx yu
      have yc := ext_cell hx yc
      go_wp2
      exact ⟨rfl, Ext.refl _, rfl⟩
    · intro vals w1 hx hd ha
      clear hd ha
      simp only [Lf, dstAt, Act.put, List.getElem?_toArray, List.getElem?_cons_zero, List.getElem?_cons_succ, Option.bind_some, List.setIfInBounds_toArray, List.set_cons_zero, List.set_cons_succ]
      have q0 := ext_cell hx q0
      have q3 := ext_cell hx q3
      have yf := ext_cell hx yf
      have yt := ext_cell hx yt
      have yu := ext_cell hx yu
      have yc := ext_cell hx yc
      go_wp2
      exact ⟨rfl, Ext.refl _, rfl⟩
    · intro vals w1 hx hd ha
      have e3 : vals 3 = .slice (some ⟨g1, 0, none⟩) 16 c1 := hd 3 (by decide)
      have e4 : vals 4 = .int .i64 f := hd 4 (by decide)
      clear hd ha
      simp only [Lf, dstAt, Act.put, List.getElem?_toArray, List.getElem?_cons_zero, List.getElem?_cons_succ, Option.bind_some, List.setIfInBounds_toArray, List.set_cons_zero, List.set_cons_succ]
      simp only [e3, e4]
      clear e3 e4
      have q0 := ext_cell hx q0
      have q3 := ext_cell hx q3
      have yf := ext_cell hx yf
      have yt := ext_cell hx yt
      have yu := ext_cell hx yu
      have yc := ext_cell hx yc
      go_wp2
      exact ⟨rfl, Ext.refl _, rfl⟩
    · intro vals w1 hx hd ha
      clear hd ha
      simp only [Lf, dstAt, Act.put, List.getElem?_toArray, List.getElem?_cons_zero, List.getElem?_cons_succ, Option.bind_some, List.setIfInBounds_toArray, List.set_cons_zero, List.set_cons_succ]
      have q0 := ext_cell hx q0
      have q3 := ext_cell hx q3
      have yf := ext_cell hx yf
      have yt := ext_cell hx yt
      have yu := ext_cell hx yu
      have yc := ext_cell hx yc
      go_wp2
      exact ⟨rfl, Ext.refl _, rfl⟩
    · intro vals w1 hx hd ha
      have e6 : vals 6 = .pointer (some ⟨Bq, 0, none⟩) := hd 6 (by decide)
      clear hd ha
      simp only [Lf, dstAt, Act.put, List.getElem?_toArray, List.getElem?_cons_zero, List.getElem?_cons_succ, Option.bind_some, List.setIfInBounds_toArray, List.set_cons_zero, List.set_cons_succ]
      simp only [e6]
      clear e6
      have q0 := ext_cell hx q0
      have q3 := ext_cell hx q3
      have yf := ext_cell hx yf
      have yt := ext_cell hx yt
      have yu := ext_cell hx yu
      have yc := ext_cell hx yc
      go_wp2
      exact ⟨rfl, Ext.refl _, rfl⟩
    · intro vals w1 hx hd ha
      have e7 : vals 7 = .pointer (some ⟨Bq, 0, none⟩) := hd 7 (by decide)
      clear hd ha
      simp only [Lf, dstAt, Act.put, List.getElem?_toArray, List.getElem?_cons_zero, List.getElem?_cons_succ, Option.bind_some, List.setIfInBounds_toArray, List.set_cons_zero, List.set_cons_succ]
      simp only [e7]
      clear e7
      have q0 := ext_cell hx q0
      have q3 := ext_cell hx q3
      have yf := ext_cell hx yf
      have yt := ext_cell hx yt
      have yu := ext_cell hx yu
      have yc := ext_cell hx yc
      go_wp2
      exact ⟨rfl, Ext.refl _, rfl⟩
    · intro vals w1 hx hd ha
      have e8 : vals 8 = .pointer (some ⟨Bq, 0, none⟩) := hd 8 (by decide)
      clear hd ha
      simp only [Lf, dstAt, Act.put, List.getElem?_toArray, List.getElem?_cons_zero, List.getElem?_cons_succ, Option.bind_some, List.setIfInBounds_toArray, List.set_cons_zero, List.set_cons_succ]
      simp only [e8]
      clear e8
      have q0 := ext_cell hx q0
      have q3 := ext_cell hx q3
      have yf := ext_cell hx yf
      have yt := ext_cell hx yt
      have yu := ext_cell hx yu
      have yc := ext_cell hx yc
      go_wp2
      exact ⟨rfl, Ext.refl _, rfl⟩
    · intro vals w1 hx hd ha
      clear hd ha
      simp only [Lf, dstAt, Act.put, List.getElem?_toArray, List.getElem?_cons_zero, List.getElem?_cons_succ, Option.bind_some, List.setIfInBounds_toArray, List.set_cons_zero, List.set_cons_succ]
      have q0 := ext_cell hx q0
      have q3 := ext_cell hx q3
      have yf := ext_cell hx yf
      have yt := ext_cell hx yt
      have yu := ext_cell hx yu
      have yc := ext_cell hx yc
      go_wp2
      exact ⟨rfl, Ext.refl _, rfl⟩
    · intro vals w1 hx hd ha
      have e9 : vals 9 = .slice (some ⟨g1, 0, none⟩) 16 c1 := hd 9 (by decide)
      have e10 : vals 10 = .int .i64 t := hd 10 (by decide)
      clear hd ha
      simp only [Lf, dstAt, Act.put, List.getElem?_toArray, List.getElem?_cons_zero, List.getElem?_cons_succ, Option.bind_some, List.setIfInBounds_toArray, List.set_cons_zero, List.set_cons_succ]
      simp only [e9, e10]
      clear e9 e10
      have q0 := ext_cell hx q0
      have q3 := ext_cell hx q3
      have yf := ext_cell hx yf
      have yt := ext_cell hx yt
      have yu := ext_cell hx yu
      have yc := ext_cell hx yc
      go_wp2
      exact ⟨rfl, Ext.refl _, rfl⟩
    · intro vals w1 hx hd ha
      clear hd ha
      simp only [Lf, dstAt, Act.put, List.getElem?_toArray, List.getElem?_cons_zero, List.getElem?_cons_succ, Option.bind_some, List.setIfInBounds_toArray, List.set_cons_zero, List.set_cons_succ]
      have q0 := ext_cell hx q0
      have q3 := ext_cell hx q3
      have yf := ext_cell hx yf
      have yt := ext_cell hx yt
      have yu := ext_cell hx yu
      have yc := ext_cell hx yc
      go_wp2
      exact ⟨rfl, Ext.refl _, rfl⟩
    · intro vals w1 hx hd ha
      have e5 : vals 5 = .pointer (some ⟨g1, f, none⟩) := hd 5 (by decide)
      have e11 : vals 11 = .pointer (some ⟨g1, t, none⟩) := hd 11 (by decide)
      have e12 : vals 12 = .int .i64 u := hd 12 (by decide)
      clear hd ha
      simp only [Lf, dstAt, Act.put, List.getElem?_toArray, List.getElem?_cons_zero, List.getElem?_cons_succ, Option.bind_some, List.setIfInBounds_toArray, List.set_cons_zero, List.set_cons_succ]
      simp only [e5, e11, e12]
      clear e5 e11 e12
      have q0 := ext_cell hx q0
      have q3 := ext_cell hx q3
      have yf := ext_cell hx yf
      have yt := ext_cell hx yt
      have yu := ext_cell hx yu
      have yc := ext_cell hx yc
      go_wp2
      exact ⟨rfl, Ext.refl _, rfl⟩
    · intro vals w1 hx hd ha
      clear hd ha
      simp only [Lf, dstAt, Act.put, List.getElem?_toArray, List.getElem?_cons_zero, List.getElem?_cons_succ, Option.bind_some, List.setIfInBounds_toArray, List.set_cons_zero, List.set_cons_succ]
      have q0 := ext_cell hx q0
      have q3 := ext_cell hx q3
      have yf := ext_cell hx yf
      have yt := ext_cell hx yt
      have yu := ext_cell hx yu
      have yc := ext_cell hx yc
      go_wp2
      exact ⟨rfl, Ext.refl _, rfl⟩
    · intro vals w1 hx hd ha
      have e14 : vals 14 = .pointer (some ⟨Bq, 0, none⟩) := hd 14 (by decide)
      clear hd ha
      simp only [Lf, dstAt, Act.put, List.getElem?_toArray, List.getElem?_cons_zero, List.getElem?_cons_succ, Option.bind_some, List.setIfInBounds_toArray, List.set_cons_zero, List.set_cons_succ]
      simp only [e14]
      clear e14
      have q0 := ext_cell hx q0
      have q3 := ext_cell hx q3
      have yf := ext_cell hx yf
      have yt := ext_cell hx yt
      have yu := ext_cell hx yu
      have yc := ext_cell hx yc
      go_wp2
      exact ⟨rfl, Ext.refl _, rfl⟩
    · intro vals w1 hx hd ha
      have e15 : vals 15 = .pointer (some ⟨Bq, 0, none⟩) := hd 15 (by decide)
      clear hd ha
      simp only [Lf, dstAt, Act.put, List.getElem?_toArray, List.getElem?_cons_zero, List.getElem?_cons_succ, Option.bind_some, List.setIfInBounds_toArray, List.set_cons_zero, List.set_cons_succ]
      simp only [e15]
      clear e15
      have q0 := ext_cell hx q0
      have q3 := ext_cell hx q3
      have yf := ext_cell hx yf
      have yt := ext_cell hx yt
      have yu := ext_cell hx yu
      have yc := ext_cell hx yc
      go_wp2
      exact ⟨rfl, Ext.refl _, rfl⟩
    · intro vals w1 hx hd ha
      have e16 : vals 16 = .pointer (some ⟨Bq, 3, none⟩) := hd 16 (by decide)
      clear hd ha
      simp only [Lf, dstAt, Act.put, List.getElem?_toArray, List.getElem?_cons_zero, List.getElem?_cons_succ, Option.bind_some, List.setIfInBounds_toArray, List.set_cons_zero, List.set_cons_succ]
      simp only [e16]
      clear e16
      have q0 := ext_cell hx q0
      have q3 := ext_cell hx q3
      have yf := ext_cell hx yf
      have yt := ext_cell hx yt
      have yu := ext_cell hx yu
      have yc := ext_cell hx yc
      go_wp2
      exact ⟨rfl, Ext.refl _, rfl⟩
    · intro vals w1 hx hd ha
      clear hd ha
      simp only [Lf, dstAt, Act.put, List.getElem?_toArray, List.getElem?_cons_zero, List.getElem?_cons_succ, Option.bind_some, List.setIfInBounds_toArray, List.set_cons_zero, List.set_cons_succ]
      have q0 := ext_cell hx q0
      have q3 := ext_cell hx q3
      have yf := ext_cell hx yf
      have yt := ext_cell hx yt
      have yu := ext_cell hx yu
      have yc := ext_cell hx yc
      go_wp2
      exact ⟨rfl, Ext.refl _, rfl⟩
    · intro vals w1 hx hd ha
      have e17 : vals 17 = .slice (some ⟨g4, 0, none⟩) 16 c4 := hd 17 (by decide)
      have e18 : vals 18 = .int .i64 t := hd 18 (by decide)
      clear hd ha
      simp only [Lf, dstAt, Act.put, List.getElem?_toArray, List.getElem?_cons_zero, List.getElem?_cons_succ, Option.bind_some, List.setIfInBounds_toArray, List.set_cons_zero, List.set_cons_succ]
      simp only [e17, e18]
      clear e17 e18
      have q0 := ext_cell hx q0
      have q3 := ext_cell hx q3
      have yf := ext_cell hx yf
      have yt := ext_cell hx yt
      have yu := ext_cell hx yu
      have yc := ext_cell hx yc
      go_wp2
      exact ⟨rfl, Ext.refl _, rfl⟩
    · intro vals w1 hx hd ha
      clear hd ha
      simp only [Lf, dstAt, Act.put, List.getElem?_toArray, List.getElem?_cons_zero, List.getElem?_cons_succ, Option.bind_some, List.setIfInBounds_toArray, List.set_cons_zero, List.set_cons_succ]
      have q0 := ext_cell hx q0
      have q3 := ext_cell hx q3
      have yf := ext_cell hx yf
      have yt := ext_cell hx yt
      have yu := ext_cell hx yu
      have yc := ext_cell hx yc
      go_wp2
      exact ⟨rfl, Ext.refl _, rfl⟩
    · intro vals w1 hx hd ha
      have e20 : vals 20 = .pointer (some ⟨Bq, 0, none⟩) := hd 20 (by decide)
      clear hd ha
      simp only [Lf, dstAt, Act.put, List.getElem?_toArray, List.getElem?_cons_zero, List.getElem?_cons_succ, Option.bind_some, List.setIfInBounds_toArray, List.set_cons_zero, List.set_cons_succ]
      simp only [e20]
      clear e20
      have q0 := ext_cell hx q0
      have q3 := ext_cell hx q3
      have yf := ext_cell hx yf
      have yt := ext_cell hx yt
      have yu := ext_cell hx yu
      have yc := ext_cell hx yc
      go_wp2
      exact ⟨rfl, Ext.refl _, rfl⟩
    · intro vals w1 hx hd ha
      have e21 : vals 21 = .pointer (some ⟨Bq, 0, none⟩) := hd 21 (by decide)
      clear hd ha
      simp only [Lf, dstAt, Act.put, List.getElem?_toArray, List.getElem?_cons_zero, List.getElem?_cons_succ, Option.bind_some, List.setIfInBounds_toArray, List.set_cons_zero, List.set_cons_succ]
      simp only [e21]
      clear e21
      have q0 := ext_cell hx q0
      have q3 := ext_cell hx q3
      have yf := ext_cell hx yf
      have yt := ext_cell hx yt
      have yu := ext_cell hx yu
      have yc := ext_cell hx yc
      go_wp2
      exact ⟨rfl, Ext.refl _, rfl⟩
    · intro vals w1 hx hd ha
      have e22 : vals 22 = .pointer (some ⟨Bq, 3, none⟩) := hd 22 (by decide)
      clear hd ha
      simp only [Lf, dstAt, Act.put, List.getElem?_toArray, List.getElem?_cons_zero, List.getElem?_cons_succ, Option.bind_some, List.setIfInBounds_toArray, List.set_cons_zero, List.set_cons_succ]
      simp only [e22]
      clear e22
      have q0 := ext_cell hx q0
      have q3 := ext_cell hx q3
      have yf := ext_cell hx yf
      have yt := ext_cell hx yt
      have yu := ext_cell hx yu
      have yc := ext_cell hx yc
      go_wp2
      exact ⟨rfl, Ext.refl _, rfl⟩
    · intro vals w1 hx hd ha
      clear hd ha
      simp only [Lf, dstAt, Act.put, List.getElem?_toArray, List.getElem?_cons_zero, List.getElem?_cons_succ, Option.bind_some, List.setIfInBounds_toArray, List.set_cons_zero, List.set_cons_succ]
      have q0 := ext_cell hx q0
      have q3 := ext_cell hx q3
      have yf := ext_cell hx yf
      have yt := ext_cell hx yt
      have yu := ext_cell hx yu
      have yc := ext_cell hx yc
      go_wp2
      exact ⟨rfl, Ext.refl _, rfl⟩
    · intro vals w1 hx hd ha
      have e23 : vals 23 = .slice (some ⟨g4, 0, none⟩) 16 c4 := hd 23 (by decide)
      have e24 : vals 24 = .int .i64 f := hd 24 (by decide)
      clear hd ha
      simp only [Lf, dstAt, Act.put, List.getElem?_toArray, List.getElem?_cons_zero, List.getElem?_cons_succ, Option.bind_some, List.setIfInBounds_toArray, List.set_cons_zero, List.set_cons_succ]
      simp only [e23, e24]
      clear e23 e24
      have q0 := ext_cell hx q0
      have q3 := ext_cell hx q3
      have yf := ext_cell hx yf
      have yt := ext_cell hx yt
      have yu := ext_cell hx yu
      have yc := ext_cell hx yc
      go_wp2
      exact ⟨rfl, Ext.refl _, rfl⟩
    · intro vals w1 hx hd ha
      clear hd ha
      simp only [Lf, dstAt, Act.put, List.getElem?_toArray, List.getElem?_cons_zero, List.getElem?_cons_succ, Option.bind_some, List.setIfInBounds_toArray, List.set_cons_zero, List.set_cons_succ]
      have q0 := ext_cell hx q0
      have q3 := ext_cell hx q3
      have yf := ext_cell hx yf
      have yt := ext_cell hx yt
      have yu := ext_cell hx yu
      have yc := ext_cell hx yc
      go_wp2
      exact ⟨rfl, Ext.refl _, rfl⟩
    · intro vals w1 hx hd ha
      have e19 : vals 19 = .pointer (some ⟨g4, t, none⟩) := hd 19 (by decide)
      have e25 : vals 25 = .pointer (some ⟨g4, f, none⟩) := hd 25 (by decide)
      have e26 : vals 26 = .int .i64 c := hd 26 (by decide)
      clear hd ha
      simp only [Lf, dstAt, Act.put, List.getElem?_toArray, List.getElem?_cons_zero, List.getElem?_cons_succ, Option.bind_some, List.setIfInBounds_toArray, List.set_cons_zero, List.set_cons_succ]
      simp only [e19, e25, e26]
      clear e19 e25 e26
      have q0 := ext_cell hx q0
      have q3 := ext_cell hx q3
      have yf := ext_cell hx yf
      have yt := ext_cell hx yt
      have yu := ext_cell hx yu
      have yc := ext_cell hx yc
      go_wp2
      exact ⟨rfl, Ext.refl _, rfl⟩
    · intro vals w1 hx hd ha
      have e13 : vals 13 = .agg #[.pointer (some ⟨g1, f, none⟩), .pointer (some ⟨g1, t, none⟩), .int .i64 u] := hd 13 (by decide)
      have e27 : vals 27 = .agg #[.pointer (some ⟨g4, t, none⟩), .pointer (some ⟨g4, f, none⟩), .int .i64 c] := hd 27 (by decide)
      clear hd ha
      simp only [Lf, dstAt, Act.put, List.getElem?_toArray, List.getElem?_cons_zero, List.getElem?_cons_succ, Option.bind_some, List.setIfInBounds_toArray, List.set_cons_zero, List.set_cons_succ]
      have q0 := ext_cell hx q0
      have q3 := ext_cell hx q3
      have yf := ext_cell hx yf
      have yt := ext_cell hx yt
      have yu := ext_cell hx yu
      have yc := ext_cell hx yc
      simp only [e13]
      simp only [e27]
      clear e13 e27
      go_wp2
      exact ⟨rfl, (by repeat (first | exact Below.refl _ _ | assumption | refine Below.drew ?_ | refine below_drewN ?_ _ | refine bl_alloc ?_ _ | refine Below.setCell ?_ (by first | (simp; done) | omega | (simp; omega)) _ | refine bl_then ?_ (by assumption))), _, rfl, by have := Below.size hx; simpa using this, Blk.new _ _ _⟩
    · intro vals w1 hx hd ha
      have r28 : (fun v w1 => ∃ gm, v = .slice (some ⟨gm, 0, none⟩) 2 2 ∧ W.heap.size ≤ gm ∧ Blk w1 gm 73 #[.pointer (some ⟨g1, f, none⟩), .pointer (some ⟨g1, t, none⟩), .int .i64 u, .pointer (some ⟨g4, t, none⟩), .pointer (some ⟨g4, f, none⟩), .int .i64 c]) (vals 28) w1 := hd 28 (by decide)
      dsimp only at r28
      clear hd ha
      simp only [Lf, dstAt, Act.put, List.getElem?_toArray, List.getElem?_cons_zero, List.getElem?_cons_succ, Option.bind_some, List.setIfInBounds_toArray, List.set_cons_zero, List.set_cons_succ]
      have q0 := ext_cell hx q0
      have q3 := ext_cell hx q3
      have yf := ext_cell hx yf
      have yt := ext_cell hx yt
      have yu := ext_cell hx yu
      have yc := ext_cell hx yc
      obtain ⟨gm, e1, e2, e3⟩ := r28
      rw [e1]
      go_wp2_with fail
      refine (list_any _ _ _ _ _ rfl).mono ?_
      rintro e w2 ⟨rfl, rfl⟩
      go_wp2
      exact ⟨rfl, Ext.refl _, gm, rfl, e2, e3⟩
  intro vals w1 hx hf
  obtain ⟨gm, e1, e2, e3⟩ := hf 29 (by omega)
  clear hf
  refine tail1 30 _ (by kernel_rfl) (by kernel_rfl) rfl ?_
  simp only [Lf, dstAt, Act.put, List.getElem?_toArray, List.getElem?_cons_zero, List.getElem?_cons_succ, Option.bind_some, List.setIfInBounds_toArray, List.set_cons_zero, List.set_cons_succ]
  rw [e1]
  clear e1
  go_wp2
  go_ret
  exact ⟨gm, rfl, hx.undrew, e2, e3⟩

set_option maxHeartbeats 1000000 in
theorem use_moves (o : Nat) (u : Int) (W : World) (po : Addr) (pu : Addr) (yo : W.cell? po = some (.int .i64 (o : Int))) (yu : W.cell? pu = some (.int .i64 u)) (bo : o < 16) (Bq : Nat) (g1 c1 : Nat) (q0 : W.cell? ⟨Bq, 0, none⟩ = some (.slice (some ⟨g1, 0, none⟩) 16 c1)) (g2 c2 : Nat) (q1 : W.cell? ⟨Bq, 1, none⟩ = some (.slice (some ⟨g2, 0, none⟩) 16 c2)) :
    Calls Try.prog 59 #[.pointer (some ⟨Bq, 0, none⟩), .pointer (some po), .pointer (some pu)] W (MovesRet W [⟨⟨g1, o, none⟩, ⟨g2, o, none⟩, u⟩]) := by
  have lt_o : (o : Int) < 16 := by omega
  go_enter Try.func59, Try.ntmps59
  go_wp2_with fail
  refine wp_region_obl 16 (fun ix vals v w1 => match ix with | 0 => v = .pointer (some ⟨Bq, 0, none⟩) | 1 => v = .pointer (some ⟨Bq, 0, none⟩) | 2 => v = .pointer (some ⟨Bq, 0, none⟩) | 3 => v = .slice (some ⟨g1, 0, none⟩) 16 c1 | 4 => v = .int .i64 o | 5 => v = .pointer (some ⟨g1, o, none⟩) | 6 => v = .pointer (some ⟨Bq, 0, none⟩) | 7 => v = .pointer (some ⟨Bq, 0, none⟩) | 8 => v = .pointer (some ⟨Bq, 1, none⟩) | 9 => v = .slice (some ⟨g2, 0, none⟩) 16 c2 | 10 => v = .int .i64 o | 11 => v = .pointer (some ⟨g2, o, none⟩) | 12 => v = .int .i64 u | 13 => v = .agg #[.pointer (some ⟨g1, o, none⟩), .pointer (some ⟨g2, o, none⟩), .int .i64 u] | 14 => ∃ gm, v = .slice (some ⟨gm, 0, none⟩) 1 1 ∧ W.heap.size ≤ gm ∧ Blk w1 gm 73 #[.pointer (some ⟨g1, o, none⟩), .pointer (some ⟨g2, o, none⟩), .int .i64 u] | _ => ∃ gm, v = .slice (some ⟨gm, 0, none⟩) 1 1 ∧ W.heap.size ≤ gm ∧ Blk w1 gm 73 #[.pointer (some ⟨g1, o, none⟩), .pointer (some ⟨g2, o, none⟩), .int .i64 u]) (by kernel_rfl) (by kernel_rfl) ?_ ?_ ?_ ?_
  · intro ix vals v w1 w2 hi hr hx
    match ix, hr with
    | 0, hr => exact hr
    | 1, hr => exact hr
    | 2, hr => exact hr
    | 3, hr => exact hr
    | 4, hr => exact hr
    | 5, hr => exact hr
    | 6, hr => exact hr
    | 7, hr => exact hr
    | 8, hr => exact hr
    | 9, hr => exact hr
    | 10, hr => exact hr
    | 11, hr => exact hr
    | 12, hr => exact hr
    | 13, hr => exact hr
    | 14, hr => obtain ⟨gm, e1, e2, e3⟩ := hr; exact ⟨gm, e1, e2, e3.ext hx⟩
    | (kx + 15), hr => obtain ⟨gm, e1, e2, e3⟩ := hr; exact ⟨gm, e1, e2, e3.ext hx⟩
  · intro ix vals vals_ v w1 hi hv hr
    exact hr
  · refine ⟨?_, ?_, ?_, ?_, ?_, ?_, ?_, ?_, ?_, ?_, ?_, ?_, ?_, ?_, ?_, ?_, trivial⟩
    · intro vals w1 hx hd ha
      clear hd ha
      simp only [Lf]
      have q0 := ext_cell hx q0
      have q1 := ext_cell hx q1
      have yo := ext_cell hx yo
      have yu := ext_cell hx yu
      go_wp2
      exact ⟨rfl, Ext.refl _, rfl⟩
    · intro vals w1 hx hd ha
      have e0 : vals 0 = .pointer (some ⟨Bq, 0, none⟩) := hd 0 (by decide)
      clear hd ha
      simp only [Lf, dstAt, Act.put, List.getElem?_toArray, List.getElem?_cons_zero, Option.bind_some, List.setIfInBounds_toArray, List.set_cons_zero, List.set_cons_succ]
      simp only [e0]
      clear e0
      have q0 := ext_cell hx q0
      have q1 := ext_cell hx q1
      have yo := ext_cell hx yo
      have yu := ext_cell hx yu
      go_wp2
      exact ⟨rfl, Ext.refl _, rfl⟩
    · intro vals w1 hx hd ha
      have e1 : vals 1 = .pointer (some ⟨Bq, 0, none⟩) := hd 1 (by decide)
      clear hd ha
      simp only [Lf, dstAt, Act.put, List.getElem?_toArray, List.getElem?_cons_zero, List.getElem?_cons_succ, Option.bind_some, List.setIfInBounds_toArray, List.set_cons_zero, List.set_cons_succ]
      simp only [e1]
      clear e1
      have q0 := ext_cell hx q0
      have q1 := ext_cell hx q1
      have yo := ext_cell hx yo
      have yu := ext_cell hx yu
      go_wp2
      exact ⟨rfl, Ext.refl _, rfl⟩
    · intro vals w1 hx hd ha
      have e2 : vals 2 = .pointer (some ⟨Bq, 0, none⟩) := hd 2 (by decide)
      clear hd ha
      simp only [Lf, dstAt, Act.put, List.getElem?_toArray, List.getElem?_cons_zero, List.getElem?_cons_succ, Option.bind_some, List.setIfInBounds_toArray, List.set_cons_zero, List.set_cons_succ]
      simp only [e2]
      clear e2
      have q0 := ext_cell hx q0
      have q1 := ext_cell hx q1
      have yo := ext_cell hx yo
      have yu := ext_cell hx yu
      go_wp2
      exact ⟨rfl, Ext.refl _, rfl⟩
    · intro vals w1 hx hd ha
      clear hd ha
      simp only [Lf, dstAt, Act.put, List.getElem?_toArray, List.getElem?_cons_zero, List.getElem?_cons_succ, Option.bind_some, List.setIfInBounds_toArray, List.set_cons_zero, List.set_cons_succ]
      have q0 := ext_cell hx q0
      have q1 := ext_cell hx q1
      have yo := ext_cell hx yo
      have yu := ext_cell hx yu
      go_wp2
      exact ⟨rfl, Ext.refl _, rfl⟩
    · intro vals w1 hx hd ha
      have e3 : vals 3 = .slice (some ⟨g1, 0, none⟩) 16 c1 := hd 3 (by decide)
      have e4 : vals 4 = .int .i64 o := hd 4 (by decide)
      clear hd ha
      simp only [Lf, dstAt, Act.put, List.getElem?_toArray, List.getElem?_cons_zero, List.getElem?_cons_succ, Option.bind_some, List.setIfInBounds_toArray, List.set_cons_zero, List.set_cons_succ]
      simp only [e3, e4]
      clear e3 e4
      have q0 := ext_cell hx q0
      have q1 := ext_cell hx q1
      have yo := ext_cell hx yo
      have yu := ext_cell hx yu
      go_wp2
      exact ⟨rfl, Ext.refl _, rfl⟩
    · intro vals w1 hx hd ha
      clear hd ha
      simp only [Lf, dstAt, Act.put, List.getElem?_toArray, List.getElem?_cons_zero, List.getElem?_cons_succ, Option.bind_some, List.setIfInBounds_toArray, List.set_cons_zero, List.set_cons_succ]
      have q0 := ext_cell hx q0
      have q1 := ext_cell hx q1
      have yo := ext_cell hx yo
      have yu := ext_cell hx yu
      go_wp2
      exact ⟨rfl, Ext.refl _, rfl⟩
    · intro vals w1 hx hd ha
      have e6 : vals 6 = .pointer (some ⟨Bq, 0, none⟩) := hd 6 (by decide)
      clear hd ha
      simp only [Lf, dstAt, Act.put, List.getElem?_toArray, List.getElem?_cons_zero, List.getElem?_cons_succ, Option.bind_some, List.setIfInBounds_toArray, List.set_cons_zero, List.set_cons_succ]
      simp only [e6]
      clear e6
      have q0 := ext_cell hx q0
      have q1 := ext_cell hx q1
      have yo := ext_cell hx yo
      have yu := ext_cell hx yu
      go_wp2
      exact ⟨rfl, Ext.refl _, rfl⟩
    · intro vals w1 hx hd ha
      have e7 : vals 7 = .pointer (some ⟨Bq, 0, none⟩) := hd 7 (by decide)
      clear hd ha
      simp only [Lf, dstAt, Act.put, List.getElem?_toArray, List.getElem?_cons_zero, List.getElem?_cons_succ, Option.bind_some, List.setIfInBounds_toArray, List.set_cons_zero, List.set_cons_succ]
      simp only [e7]
      clear e7
      have q0 := ext_cell hx q0
      have q1 := ext_cell hx q1
      have yo := ext_cell hx yo
      have yu := ext_cell hx yu
      go_wp2
      exact ⟨rfl, Ext.refl _, rfl⟩
    · intro vals w1 hx hd ha
      have e8 : vals 8 = .pointer (some ⟨Bq, 1, none⟩) := hd 8 (by decide)
      clear hd ha
      simp only [Lf, dstAt, Act.put, List.getElem?_toArray, List.getElem?_cons_zero, List.getElem?_cons_succ, Option.bind_some, List.setIfInBounds_toArray, List.set_cons_zero, List.set_cons_succ]
      simp only [e8]
      clear e8
      have q0 := ext_cell hx q0
      have q1 := ext_cell hx q1
      have yo := ext_cell hx yo
      have yu := ext_cell hx yu
      go_wp2
      exact ⟨rfl, Ext.refl _, rfl⟩
    · intro vals w1 hx hd ha
      clear hd ha
      simp only [Lf, dstAt, Act.put, List.getElem?_toArray, List.getElem?_cons_zero, List.getElem?_cons_succ, Option.bind_some, List.setIfInBounds_toArray, List.set_cons_zero, List.set_cons_succ]
      have q0 := ext_cell hx q0
      have q1 := ext_cell hx q1
      have yo := ext_cell hx yo
      have yu := ext_cell hx yu
      go_wp2
      exact ⟨rfl, Ext.refl _, rfl⟩
    · intro vals w1 hx hd ha
      have e9 : vals 9 = .slice (some ⟨g2, 0, none⟩) 16 c2 := hd 9 (by decide)
      have e10 : vals 10 = .int .i64 o := hd 10 (by decide)
      clear hd ha
      simp only [Lf, dstAt, Act.put, List.getElem?_toArray, List.getElem?_cons_zero, List.getElem?_cons_succ, Option.bind_some, List.setIfInBounds_toArray, List.set_cons_zero, List.set_cons_succ]
      simp only [e9, e10]
      clear e9 e10
      have q0 := ext_cell hx q0
      have q1 := ext_cell hx q1
      have yo := ext_cell hx yo
      have yu := ext_cell hx yu
      go_wp2
      exact ⟨rfl, Ext.refl _, rfl⟩
    · intro vals w1 hx hd ha
      clear hd ha
      simp only [Lf, dstAt, Act.put, List.getElem?_toArray, List.getElem?_cons_zero, List.getElem?_cons_succ, Option.bind_some, List.setIfInBounds_toArray, List.set_cons_zero, List.set_cons_succ]
      have q0 := ext_cell hx q0
      have q1 := ext_cell hx q1
      have yo := ext_cell hx yo
      have yu := ext_cell hx yu
      go_wp2
      exact ⟨rfl, Ext.refl _, rfl⟩
    · intro vals w1 hx hd ha
      have e5 : vals 5 = .pointer (some ⟨g1, o, none⟩) := hd 5 (by decide)
      have e11 : vals 11 = .pointer (some ⟨g2, o, none⟩) := hd 11 (by decide)
      have e12 : vals 12 = .int .i64 u := hd 12 (by decide)
      clear hd ha
      simp only [Lf, dstAt, Act.put, List.getElem?_toArray, List.getElem?_cons_zero, List.getElem?_cons_succ, Option.bind_some, List.setIfInBounds_toArray, List.set_cons_zero, List.set_cons_succ]
      simp only [e5, e11, e12]
      clear e5 e11 e12
      have q0 := ext_cell hx q0
      have q1 := ext_cell hx q1
      have yo := ext_cell hx yo
      have yu := ext_cell hx yu
      go_wp2
      exact ⟨rfl, Ext.refl _, rfl⟩
    · intro vals w1 hx hd ha
      have e13 : vals 13 = .agg #[.pointer (some ⟨g1, o, none⟩), .pointer (some ⟨g2, o, none⟩), .int .i64 u] := hd 13 (by decide)
      clear hd ha
      simp only [Lf, dstAt, Act.put, List.getElem?_toArray, List.getElem?_cons_zero, List.getElem?_cons_succ, Option.bind_some, List.setIfInBounds_toArray, List.set_cons_zero, List.set_cons_succ]
      have q0 := ext_cell hx q0
      have q1 := ext_cell hx q1
      have yo := ext_cell hx yo
      have yu := ext_cell hx yu
      simp only [e13]
      clear e13
      go_wp2
      exact ⟨rfl, (by repeat (first | exact Below.refl _ _ | assumption | refine Below.drew ?_ | refine below_drewN ?_ _ | refine bl_alloc ?_ _ | refine Below.setCell ?_ (by first | (simp; done) | omega | (simp; omega)) _ | refine bl_then ?_ (by assumption))), _, rfl, by have := Below.size hx; simpa using this, Blk.new _ _ _⟩
    · intro vals w1 hx hd ha
      have r14 : (fun v w1 => ∃ gm, v = .slice (some ⟨gm, 0, none⟩) 1 1 ∧ W.heap.size ≤ gm ∧ Blk w1 gm 73 #[.pointer (some ⟨g1, o, none⟩), .pointer (some ⟨g2, o, none⟩), .int .i64 u]) (vals 14) w1 := hd 14 (by decide)
      dsimp only at r14
      clear hd ha
      simp only [Lf, dstAt, Act.put, List.getElem?_toArray, List.getElem?_cons_zero, List.getElem?_cons_succ, Option.bind_some, List.setIfInBounds_toArray, List.set_cons_zero, List.set_cons_succ]
      have q0 := ext_cell hx q0
      have q1 := ext_cell hx q1
      have yo := ext_cell hx yo
      have yu := ext_cell hx yu
      obtain ⟨gm, e1, e2, e3⟩ := r14
      rw [e1]
      go_wp2_with fail
      refine (list_any _ _ _ _ _ rfl).mono ?_
      rintro e w2 ⟨rfl, rfl⟩
      go_wp2
      exact ⟨rfl, Ext.refl _, gm, rfl, e2, e3⟩
  intro vals w1 hx hf
  obtain ⟨gm, e1, e2, e3⟩ := hf 15 (by omega)
  clear hf
  refine tail1 16 _ (by kernel_rfl) (by kernel_rfl) rfl ?_
  simp only [Lf, dstAt, Act.put, List.getElem?_toArray, List.getElem?_cons_zero, List.getElem?_cons_succ, Option.bind_some, List.setIfInBounds_toArray, List.set_cons_zero, List.set_cons_succ]
  rw [e1]
  clear e1
  go_wp2
  go_ret
  exact ⟨gm, rfl, hx.undrew, e2, e3⟩

set_option maxHeartbeats 1000000 in
theorem free_moves (o : Nat) (u : Int) (W : World) (po : Addr) (pu : Addr) (yo : W.cell? po = some (.int .i64 (o : Int))) (yu : W.cell? pu = some (.int .i64 u)) (bo : o < 16) (Bq : Nat) (g1 c1 : Nat) (q0 : W.cell? ⟨Bq, 0, none⟩ = some (.slice (some ⟨g1, 0, none⟩) 16 c1)) (g2 c2 : Nat) (q1 : W.cell? ⟨Bq, 1, none⟩ = some (.slice (some ⟨g2, 0, none⟩) 16 c2)) :
    Calls Try.prog 60 #[.pointer (some ⟨Bq, 0, none⟩), .pointer (some po), .pointer (some pu)] W (MovesRet W [⟨⟨g2, o, none⟩, ⟨g1, o, none⟩, u⟩]) := by
  have lt_o : (o : Int) < 16 := by omega
  go_enter Try.func60, Try.ntmps60
  go_wp2_with fail
  refine wp_region_obl 16 (fun ix vals v w1 => match ix with | 0 => v = .pointer (some ⟨Bq, 0, none⟩) | 1 => v = .pointer (some ⟨Bq, 0, none⟩) | 2 => v = .pointer (some ⟨Bq, 1, none⟩) | 3 => v = .slice (some ⟨g2, 0, none⟩) 16 c2 | 4 => v = .int .i64 o | 5 => v = .pointer (some ⟨g2, o, none⟩) | 6 => v = .pointer (some ⟨Bq, 0, none⟩) | 7 => v = .pointer (some ⟨Bq, 0, none⟩) | 8 => v = .pointer (some ⟨Bq, 0, none⟩) | 9 => v = .slice (some ⟨g1, 0, none⟩) 16 c1 | 10 => v = .int .i64 o | 11 => v = .pointer (some ⟨g1, o, none⟩) | 12 => v = .int .i64 u | 13 => v = .agg #[.pointer (some ⟨g2, o, none⟩), .pointer (some ⟨g1, o, none⟩), .int .i64 u] | 14 => ∃ gm, v = .slice (some ⟨gm, 0, none⟩) 1 1 ∧ W.heap.size ≤ gm ∧ Blk w1 gm 73 #[.pointer (some ⟨g2, o, none⟩), .pointer (some ⟨g1, o, none⟩), .int .i64 u] | _ => ∃ gm, v = .slice (some ⟨gm, 0, none⟩) 1 1 ∧ W.heap.size ≤ gm ∧ Blk w1 gm 73 #[.pointer (some ⟨g2, o, none⟩), .pointer (some ⟨g1, o, none⟩), .int .i64 u]) (by kernel_rfl) (by kernel_rfl) ?_ ?_ ?_ ?_
  · intro ix vals v w1 w2 hi hr hx
    match ix, hr with
    | 0, hr => exact hr
    | 1, hr => exact hr
    | 2, hr => exact hr
    | 3, hr => exact hr
    | 4, hr => exact hr
    | 5, hr => exact hr
    | 6, hr => exact hr
    | 7, hr => exact hr
    | 8, hr => exact hr
    | 9, hr => exact hr
    | 10, hr => exact hr
    | 11, hr => exact hr
    | 12, hr => exact hr
    | 13, hr => exact hr
    | 14, hr => obtain ⟨gm, e1, e2, e3⟩ := hr; exact ⟨gm, e1, e2, e3.ext hx⟩
    | (kx + 15), hr => obtain ⟨gm, e1, e2, e3⟩ := hr; exact ⟨gm, e1, e2, e3.ext hx⟩
  · intro ix vals vals_ v w1 hi hv hr
    exact hr
  · refine ⟨?_, ?_, ?_, ?_, ?_, ?_, ?_, ?_, ?_, ?_, ?_, ?_, ?_, ?_, ?_, ?_, trivial⟩
    · intro vals w1 hx hd ha
      clear hd ha
      simp only [Lf]
      have q0 := ext_cell hx q0
      have q1 := ext_cell hx q1
      have yo := ext_cell hx yo
      have yu := ext_cell hx yu
      go_wp2
      exact ⟨rfl, Ext.refl _, rfl⟩
    · intro vals w1 hx hd ha
      have e0 : vals 0 = .pointer (some ⟨Bq, 0, none⟩) := hd 0 (by decide)
      clear hd ha
      simp only [Lf, dstAt, Act.put, List.getElem?_toArray, List.getElem?_cons_zero, Option.bind_some, List.setIfInBounds_toArray, List.set_cons_zero, List.set_cons_succ]
      simp only [e0]
      clear e0
      have q0 := ext_cell hx q0
      have q1 := ext_cell hx q1
      have yo := ext_cell hx yo
      have yu := ext_cell hx yu
      go_wp2
      exact ⟨rfl, Ext.refl _, rfl⟩
    · intro vals w1 hx hd ha
      have e1 : vals 1 = .pointer (some ⟨Bq, 0, none⟩) := hd 1 (by decide)
      clear hd ha
      simp only [Lf, dstAt, Act.put, List.getElem?_toArray, List.getElem?_cons_zero, List.getElem?_cons_succ, Option.bind_some, List.setIfInBounds_toArray, List.set_cons_zero, List.set_cons_succ]
      simp only [e1]
      clear e1
      have q0 := ext_cell hx q0
      have q1 := ext_cell hx q1
      have yo := ext_cell hx yo
      have yu := ext_cell hx yu
      go_wp2
      exact ⟨rfl, Ext.refl _, rfl⟩
    · intro vals w1 hx hd ha
      have e2 : vals 2 = .pointer (some ⟨Bq, 1, none⟩) := hd 2 (by decide)
      clear hd ha
      simp only [Lf, dstAt, Act.put, List.getElem?_toArray, List.getElem?_cons_zero, List.getElem?_cons_succ, Option.bind_some, List.setIfInBounds_toArray, List.set_cons_zero, List.set_cons_succ]
      simp only [e2]
      clear e2
      have q0 := ext_cell hx q0
      have q1 := ext_cell hx q1
      have yo := ext_cell hx yo
      have yu := ext_cell hx yu
      go_wp2
      exact ⟨rfl, Ext.refl _, rfl⟩
    · intro vals w1 hx hd ha
      clear hd ha
      simp only [Lf, dstAt, Act.put, List.getElem?_toArray, List.getElem?_cons_zero, List.getElem?_cons_succ, Option.bind_some, List.setIfInBounds_toArray, List.set_cons_zero, List.set_cons_succ]
      have q0 := ext_cell hx q0
      have q1 := ext_cell hx q1
      have yo := ext_cell hx yo
      have yu := ext_cell hx yu
      go_wp2
      exact ⟨rfl, Ext.refl _, rfl⟩
    · intro vals w1 hx hd ha
      have e3 : vals 3 = .slice (some ⟨g2, 0, none⟩) 16 c2 := hd 3 (by decide)
      have e4 : vals 4 = .int .i64 o := hd 4 (by decide)
      clear hd ha
      simp only [Lf, dstAt, Act.put, List.getElem?_toArray, List.getElem?_cons_zero, List.getElem?_cons_succ, Option.bind_some, List.setIfInBounds_toArray, List.set_cons_zero, List.set_cons_succ]
      simp only [e3, e4]
      clear e3 e4
      have q0 := ext_cell hx q0
      have q1 := ext_cell hx q1
      have yo := ext_cell hx yo
      have yu := ext_cell hx yu
      go_wp2
      exact ⟨rfl, Ext.refl _, rfl⟩
    · intro vals w1 hx hd ha
      clear hd ha
      simp only [Lf, dstAt, Act.put, List.getElem?_toArray, List.getElem?_cons_zero, List.getElem?_cons_succ, Option.bind_some, List.setIfInBounds_toArray, List.set_cons_zero, List.set_cons_succ]
      have q0 := ext_cell hx q0
      have q1 := ext_cell hx q1
      have yo := ext_cell hx yo
      have yu := ext_cell hx yu
      go_wp2
      exact ⟨rfl, Ext.refl _, rfl⟩
    · intro vals w1 hx hd ha
      have e6 : vals 6 = .pointer (some ⟨Bq, 0, none⟩) := hd 6 (by decide)
      clear hd ha
      simp only [Lf, dstAt, Act.put, List.getElem?_toArray, List.getElem?_cons_zero, List.getElem?_cons_succ, Option.bind_some, List.setIfInBounds_toArray, List.set_cons_zero, List.set_cons_succ]
      simp only [e6]
      clear e6
      have q0 := ext_cell hx q0
      have q1 := ext_cell hx q1
      have yo := ext_cell hx yo
      have yu := ext_cell hx yu
      go_wp2
      exact ⟨rfl, Ext.refl _, rfl⟩
    · intro vals w1 hx hd ha
      have e7 : vals 7 = .pointer (some ⟨Bq, 0, none⟩) := hd 7 (by decide)
      clear hd ha
      simp only [Lf, dstAt, Act.put, List.getElem?_toArray, List.getElem?_cons_zero, List.getElem?_cons_succ, Option.bind_some, List.setIfInBounds_toArray, List.set_cons_zero, List.set_cons_succ]
      simp only [e7]
      clear e7
      have q0 := ext_cell hx q0
      have q1 := ext_cell hx q1
      have yo := ext_cell hx yo
      have yu := ext_cell hx yu
      go_wp2
      exact ⟨rfl, Ext.refl _, rfl⟩
    · intro vals w1 hx hd ha
      have e8 : vals 8 = .pointer (some ⟨Bq, 0, none⟩) := hd 8 (by decide)
      clear hd ha
      simp only [Lf, dstAt, Act.put, List.getElem?_toArray, List.getElem?_cons_zero, List.getElem?_cons_succ, Option.bind_some, List.setIfInBounds_toArray, List.set_cons_zero, List.set_cons_succ]
      simp only [e8]
      clear e8
      have q0 := ext_cell hx q0
      have q1 := ext_cell hx q1
      have yo := ext_cell hx yo
      have yu := ext_cell hx yu
      go_wp2
      exact ⟨rfl, Ext.refl _, rfl⟩
    · intro vals w1 hx hd ha
      clear hd ha
      simp only [Lf, dstAt, Act.put, List.getElem?_toArray, List.getElem?_cons_zero, List.getElem?_cons_succ, Option.bind_some, List.setIfInBounds_toArray, List.set_cons_zero, List.set_cons_succ]
      have q0 := ext_cell hx q0
      have q1 := ext_cell hx q1
      have yo := ext_cell hx yo
      have yu := ext_cell hx yu
      go_wp2
      exact ⟨rfl, Ext.refl _, rfl⟩
    · intro vals w1 hx hd ha
      have e9 : vals 9 = .slice (some ⟨g1, 0, none⟩) 16 c1 := hd 9 (by decide)
      have e10 : vals 10 = .int .i64 o := hd 10 (by decide)
      clear hd ha
      simp only [Lf, dstAt, Act.put, List.getElem?_toArray, List.getElem?_cons_zero, List.getElem?_cons_succ, Option.bind_some, List.setIfInBounds_toArray, List.set_cons_zero, List.set_cons_succ]
      simp only [e9, e10]
      clear e9 e10
      have q0 := ext_cell hx q0
      have q1 := ext_cell hx q1
      have yo := ext_cell hx yo
      have yu := ext_cell hx yu
      go_wp2
      exact ⟨rfl, Ext.refl _, rfl⟩
    · intro vals w1 hx hd ha
      clear hd ha
      simp only [Lf, dstAt, Act.put, List.getElem?_toArray, List.getElem?_cons_zero, List.getElem?_cons_succ, Option.bind_some, List.setIfInBounds_toArray, List.set_cons_zero, List.set_cons_succ]
      have q0 := ext_cell hx q0
      have q1 := ext_cell hx q1
      have yo := ext_cell hx yo
      have yu := ext_cell hx yu
      go_wp2
      exact ⟨rfl, Ext.refl _, rfl⟩
    · intro vals w1 hx hd ha
      have e5 : vals 5 = .pointer (some ⟨g2, o, none⟩) := hd 5 (by decide)
      have e11 : vals 11 = .pointer (some ⟨g1, o, none⟩) := hd 11 (by decide)
      have e12 : vals 12 = .int .i64 u := hd 12 (by decide)
      clear hd ha
      simp only [Lf, dstAt, Act.put, List.getElem?_toArray, List.getElem?_cons_zero, List.getElem?_cons_succ, Option.bind_some, List.setIfInBounds_toArray, List.set_cons_zero, List.set_cons_succ]
      simp only [e5, e11, e12]
      clear e5 e11 e12
      have q0 := ext_cell hx q0
      have q1 := ext_cell hx q1
      have yo := ext_cell hx yo
      have yu := ext_cell hx yu
      go_wp2
      exact ⟨rfl, Ext.refl _, rfl⟩
    · intro vals w1 hx hd ha
      have e13 : vals 13 = .agg #[.pointer (some ⟨g2, o, none⟩), .pointer (some ⟨g1, o, none⟩), .int .i64 u] := hd 13 (by decide)
      clear hd ha
      simp only [Lf, dstAt, Act.put, List.getElem?_toArray, List.getElem?_cons_zero, List.getElem?_cons_succ, Option.bind_some, List.setIfInBounds_toArray, List.set_cons_zero, List.set_cons_succ]
      have q0 := ext_cell hx q0
      have q1 := ext_cell hx q1
      have yo := ext_cell hx yo
      have yu := ext_cell hx yu
      simp only [e13]
      clear e13
      go_wp2
      exact ⟨rfl, (by repeat (first | exact Below.refl _ _ | assumption | refine Below.drew ?_ | refine below_drewN ?_ _ | refine bl_alloc ?_ _ | refine Below.setCell ?_ (by first | (simp; done) | omega | (simp; omega)) _ | refine bl_then ?_ (by assumption))), _, rfl, by have := Below.size hx; simpa using this, Blk.new _ _ _⟩
    · intro vals w1 hx hd ha
      have r14 : (fun v w1 => ∃ gm, v = .slice (some ⟨gm, 0, none⟩) 1 1 ∧ W.heap.size ≤ gm ∧ Blk w1 gm 73 #[.pointer (some ⟨g2, o, none⟩), .pointer (some ⟨g1, o, none⟩), .int .i64 u]) (vals 14) w1 := hd 14 (by decide)
      dsimp only at r14
      clear hd ha
      simp only [Lf, dstAt, Act.put, List.getElem?_toArray, List.getElem?_cons_zero, List.getElem?_cons_succ, Option.bind_some, List.setIfInBounds_toArray, List.set_cons_zero, List.set_cons_succ]
      have q0 := ext_cell hx q0
      have q1 := ext_cell hx q1
      have yo := ext_cell hx yo
      have yu := ext_cell hx yu
      obtain ⟨gm, e1, e2, e3⟩ := r14
      rw [e1]
      go_wp2_with fail
      refine (list_any _ _ _ _ _ rfl).mono ?_
      rintro e w2 ⟨rfl, rfl⟩
      go_wp2
      exact ⟨rfl, Ext.refl _, gm, rfl, e2, e3⟩
  intro vals w1 hx hf
  obtain ⟨gm, e1, e2, e3⟩ := hf 15 (by omega)
  clear hf
  refine tail1 16 _ (by kernel_rfl) (by kernel_rfl) rfl ?_
  simp only [Lf, dstAt, Act.put, List.getElem?_toArray, List.getElem?_cons_zero, List.getElem?_cons_succ, Option.bind_some, List.setIfInBounds_toArray, List.set_cons_zero, List.set_cons_succ]
  rw [e1]
  clear e1
  go_wp2
  go_ret
  exact ⟨gm, rfl, hx.undrew, e2, e3⟩

end Go.Proofs.Ytpddnkefggaigaa
