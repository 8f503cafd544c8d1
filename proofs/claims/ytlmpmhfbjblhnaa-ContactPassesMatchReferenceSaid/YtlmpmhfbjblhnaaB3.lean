/- The predicate of Passes (printed by contact_b3.py). -/
import Derived.Test.YtlmpmhfbjblhnaaB2
namespace Go.Proofs.Ytlmpmhfbjblhnaa
open Go.RowKit

def celCells (x : Cel) : List Value := [.int .i64 x.x, .int .i64 x.y]
theorem cel_len (x : Cel) : (celCells x).length = 2 := rfl
/-- Where a satellite is at a plain minute. -/
def cellAt (o : Orb) (m : Int) : Cel := ⟨colP o m / 1000, rowP o m / 1000⟩
def trackP (o : Orb) (m : Int) (k : Nat) : List Cel := (List.range k).map (fun j : Nat => cellAt o (m + j))
def plainP (o : Orb) (s : Stn) (m : Int) : Bool := decide (nearP (cellAt o m) s.cell ≤ s.reach)

set_option maxHeartbeats 1000000 in
theorem plain_any (o : Orb) (id x y re an sk a b sl t : Int) (gt gr gp gl gs n c base : Nat) (w : World) (h1 : 0 ≤ sl ∧ sl ≤ 10) (h3 : a - sl ≤ t ∧ t < a - sl + n) (hn : n ≤ 10000)
    (KT : Blk w gt 99 #[.slice (some ⟨gr, 0, none⟩) n c]) (KR : RowS celCells 2 base 29 gr n c w (trackP o (a - sl) n)) (KP : Blk w gp 34 #[.int .i64 a, .int .i64 b]) (KL : Blk w gl 3 #[.int .i64 sl])
    (KS : Blk w gs 31 #[.int .i64 id, .int .i64 x, .int .i64 y, .int .i64 re, .int .i64 an, .int .i64 sk]) :
    Calls Try.prog 63 #[.int .i64 t, .pointer (some ⟨gt, 0, none⟩), .pointer (some ⟨gp, 0, none⟩), .pointer (some ⟨gl, 0, none⟩), .pointer (some ⟨gs, 0, none⟩)] w fun e w' => e = .returned (.bool (plainP o ⟨id, ⟨x, y⟩, re, an, sk⟩ t)) ∧ Below w.heap.size w w' := by
  obtain ⟨k, hk⟩ : ∃ k : Nat, t - a + sl = (k : Int) := ⟨(t - a + sl).toNat, by omega⟩
  have hkn : k < n := by omega
  have hkl : k < (trackP o (a - sl) n).length := by simp [trackP]; exact hkn
  have hrg := KR.range cel_len hkl
  have hkc : (trackP o (a - sl) n)[k] = cellAt o t := by simp [trackP]; congr 1; omega
  rw [hkc] at hrg
  have hr0 : plainP o ⟨id, ⟨x, y⟩, re, an, sk⟩ t = decide (nearP (cellAt o t) ⟨x, y⟩ ≤ re) := rfl
  rw [hr0]
  obtain ⟨cx, cy, hc⟩ : ∃ cx cy, cellAt o t = ⟨cx, cy⟩ := ⟨_, _, rfl⟩
  rw [hc] at hrg ⊢
  have r0 : w.cell? ⟨gr, k * 2, none⟩ = some (.int .i64 cx) := hrg 0 _ rfl
  have r1 : w.cell? ⟨gr, k * 2 + 1, none⟩ = some (.int .i64 cy) := hrg 1 _ rfl
  have hnear := near_any cx cy x y
  generalize nearP ⟨cx, cy⟩ ⟨x, y⟩ = N at hnear ⊢
  have HN := Lib.hid hnear
  have hcap := KR.le
  have q0 : w.cell? ⟨gt, 0, none⟩ = some (.slice (some ⟨gr, 0, none⟩) n c) := KT.cell 0
  have p0 : w.cell? ⟨gp, 0, none⟩ = some (.int .i64 a) := KP.cell 0
  have l0 : w.cell? ⟨gl, 0, none⟩ = some (.int .i64 sl) := KL.cell 0
  have s1 : w.cell? ⟨gs, 1, none⟩ = some (.int .i64 x) := KS.cell 1
  have s2 : w.cell? ⟨gs, 2, none⟩ = some (.int .i64 y) := KS.cell 2
  have s3 : w.cell? ⟨gs, 3, none⟩ = some (.int .i64 re) := KS.cell 3
  have hw1 : IntKind.i64.wrap (t - a) = t - a := IntWalk.i64_in _ (by omega)
  have hw2 : IntKind.i64.wrap (t - a + sl) = (k : Int) := by rw [hk]; exact IntWalk.i64_in _ (by omega)
  have hkb : (k : Int) < (n : Int) := by omega
  have HK := Lib.hid hk
  clear hnear hrg hkc hkl hr0 hc KT KR KP KL KS hk
  go_enter Try.func63, Try.ntmps63
  go_wp2_with fail
  refine wp_region_obl 15 (fun ix vals v w1 => match ix with | 0 => v = .slice (some ⟨gr, 0, none⟩) n c | 1 => v = .int .i64 t | 2 => v = .pointer (some ⟨gp, 0, none⟩) | 3 => v = .int .i64 a | 4 => v = .int .i64 (t - a) | 5 => v = .int .i64 sl | 6 => v = .int .i64 (k : Int) | 7 => v = .pointer (some ⟨gr, k * 2, none⟩) | 8 => v = .agg #[.int .i64 cx, .int .i64 cy] | 9 => v = .pointer (some ⟨gs, 1, none⟩) | 10 => v = .agg #[.int .i64 x, .int .i64 y] | 11 => v = .int .i64 N | 12 => v = .pointer (some ⟨gs, 3, none⟩) | 13 => v = .int .i64 re | _ => v = .bool (decide (N ≤ re))) (by kernel_rfl) (by kernel_rfl) ?_ ?_ ?_ ?_
  · intro ix vals v w1 w2 hi hr hx
    match ix, hr with
    | 0, hr => exact hr
    | 1, hr => exact hr
    | 2, hr => exact hr
    | 3, hr => exact hr
    | 4, hr => exact hr
    | 5, hr => exact hr
    | 6, hr => exact hr
    | 7, hr => exact hr
    | 8, hr => exact hr
    | 9, hr => exact hr
    | 10, hr => exact hr
    | 11, hr => exact hr
    | 12, hr => exact hr
    | 13, hr => exact hr
    | (kx + 14), hr => exact hr
  · intro ix vals vals_ v w1 hi hv hr
    exact hr
  · refine ⟨?_, ?_, ?_, ?_, ?_, ?_, ?_, ?_, ?_, ?_, ?_, ?_, ?_, ?_, ?_, trivial⟩
    · intro vals w1 hx hd ha
      clear hd ha
      simp only [Lf]
      have q0 := ext_cell hx q0
      go_wp2
      exact ⟨rfl, Ext.refl _, rfl⟩
    · intro vals w1 hx hd ha
      clear hd ha
      simp only [Lf, dstAt, Act.put, List.getElem?_toArray, List.getElem?_cons_zero, Option.bind_some, List.setIfInBounds_toArray, List.set_cons_zero, List.set_cons_succ]
      go_wp2
      exact ⟨rfl, Ext.refl _, rfl⟩
    · intro vals w1 hx hd ha
      clear hd ha
      simp only [Lf, dstAt, Act.put, List.getElem?_toArray, List.getElem?_cons_zero, List.getElem?_cons_succ, Option.bind_some, List.setIfInBounds_toArray, List.set_cons_zero, List.set_cons_succ]
      go_wp2
      exact ⟨rfl, Ext.refl _, rfl⟩
    · intro vals w1 hx hd ha
      have e2 : vals 2 = .pointer (some ⟨gp, 0, none⟩) := hd 2 (by decide)
      clear hd ha
      simp only [Lf, dstAt, Act.put, List.getElem?_toArray, List.getElem?_cons_zero, List.getElem?_cons_succ, Option.bind_some, List.setIfInBounds_toArray, List.set_cons_zero, List.set_cons_succ]
      simp only [e2]
      clear e2
      have p0 := ext_cell hx p0
      go_wp2
      exact ⟨rfl, Ext.refl _, rfl⟩
    · intro vals w1 hx hd ha
      have e1 : vals 1 = .int .i64 t := hd 1 (by decide)
      have e3 : vals 3 = .int .i64 a := hd 3 (by decide)
      clear hd ha
      simp only [Lf, dstAt, Act.put, List.getElem?_toArray, List.getElem?_cons_zero, List.getElem?_cons_succ, Option.bind_some, List.setIfInBounds_toArray, List.set_cons_zero, List.set_cons_succ]
      simp only [e1, e3]
      clear e1 e3
      go_wp2
      exact ⟨rfl, Ext.refl _, rfl⟩
    · intro vals w1 hx hd ha
      clear hd ha
      simp only [Lf, dstAt, Act.put, List.getElem?_toArray, List.getElem?_cons_zero, List.getElem?_cons_succ, Option.bind_some, List.setIfInBounds_toArray, List.set_cons_zero, List.set_cons_succ]
      have l0 := ext_cell hx l0
      go_wp2
      exact ⟨rfl, Ext.refl _, rfl⟩
    · intro vals w1 hx hd ha
      have e4 : vals 4 = .int .i64 (t - a) := hd 4 (by decide)
      have e5 : vals 5 = .int .i64 sl := hd 5 (by decide)
      clear hd ha
      simp only [Lf, dstAt, Act.put, List.getElem?_toArray, List.getElem?_cons_zero, List.getElem?_cons_succ, Option.bind_some, List.setIfInBounds_toArray, List.set_cons_zero, List.set_cons_succ]
      simp only [e4, e5]
      clear e4 e5
      go_wp2
      exact ⟨rfl, Ext.refl _, rfl⟩
    · intro vals w1 hx hd ha
      have e0 : vals 0 = .slice (some ⟨gr, 0, none⟩) n c := hd 0 (by decide)
      have e6 : vals 6 = .int .i64 (k : Int) := hd 6 (by decide)
      clear hd ha
      simp only [Lf, dstAt, Act.put, List.getElem?_toArray, List.getElem?_cons_zero, List.getElem?_cons_succ, Option.bind_some, List.setIfInBounds_toArray, List.set_cons_zero, List.set_cons_succ]
      simp only [e0, e6]
      clear e0 e6
      go_wp2
      exact ⟨rfl, Ext.refl _, rfl⟩
    · intro vals w1 hx hd ha
      have e7 : vals 7 = .pointer (some ⟨gr, k * 2, none⟩) := hd 7 (by decide)
      clear hd ha
      simp only [Lf, dstAt, Act.put, List.getElem?_toArray, List.getElem?_cons_zero, List.getElem?_cons_succ, Option.bind_some, List.setIfInBounds_toArray, List.set_cons_zero, List.set_cons_succ]
      have r0 := ext_cell hx r0
      have r1 := ext_cell hx r1
      simp only [e7]
      clear e7
      go_wp2
      exact ⟨rfl, Ext.refl _, rfl⟩
    · intro vals w1 hx hd ha
      clear hd ha
      simp only [Lf, dstAt, Act.put, List.getElem?_toArray, List.getElem?_cons_zero, List.getElem?_cons_succ, Option.bind_some, List.setIfInBounds_toArray, List.set_cons_zero, List.set_cons_succ]
      go_wp2
      exact ⟨rfl, Ext.refl _, rfl⟩
    · intro vals w1 hx hd ha
      have e9 : vals 9 = .pointer (some ⟨gs, 1, none⟩) := hd 9 (by decide)
      clear hd ha
      simp only [Lf, dstAt, Act.put, List.getElem?_toArray, List.getElem?_cons_zero, List.getElem?_cons_succ, Option.bind_some, List.setIfInBounds_toArray, List.set_cons_zero, List.set_cons_succ]
      simp only [e9]
      clear e9
      have s1 := ext_cell hx s1
      have s2 := ext_cell hx s2
      go_wp2
      exact ⟨rfl, Ext.refl _, rfl⟩
    · intro vals w1 hx hd ha
      have e8 : vals 8 = .agg #[.int .i64 cx, .int .i64 cy] := hd 8 (by decide)
      have e10 : vals 10 = .agg #[.int .i64 x, .int .i64 y] := hd 10 (by decide)
      clear hd ha
      simp only [Lf, dstAt, Act.put, List.getElem?_toArray, List.getElem?_cons_zero, List.getElem?_cons_succ, Option.bind_some, List.setIfInBounds_toArray, List.set_cons_zero, List.set_cons_succ]
      simp only [e8]
      simp only [e10]
      clear e8 e10
      go_wp2_with fail
      refine (HN.out _).mono ?_
      rintro e w2 ⟨rfl, hb2⟩
      go_wp2
      exact ⟨rfl, hb2, rfl⟩
    · intro vals w1 hx hd ha
      clear hd ha
      simp only [Lf, dstAt, Act.put, List.getElem?_toArray, List.getElem?_cons_zero, List.getElem?_cons_succ, Option.bind_some, List.setIfInBounds_toArray, List.set_cons_zero, List.set_cons_succ]
      go_wp2
      exact ⟨rfl, Ext.refl _, rfl⟩
    · intro vals w1 hx hd ha
      have e12 : vals 12 = .pointer (some ⟨gs, 3, none⟩) := hd 12 (by decide)
      clear hd ha
      simp only [Lf, dstAt, Act.put, List.getElem?_toArray, List.getElem?_cons_zero, List.getElem?_cons_succ, Option.bind_some, List.setIfInBounds_toArray, List.set_cons_zero, List.set_cons_succ]
      simp only [e12]
      clear e12
      have s3 := ext_cell hx s3
      go_wp2
      exact ⟨rfl, Ext.refl _, rfl⟩
    · intro vals w1 hx hd ha
      have e11 : vals 11 = .int .i64 N := hd 11 (by decide)
      have e13 : vals 13 = .int .i64 re := hd 13 (by decide)
      clear hd ha
      simp only [Lf, dstAt, Act.put, List.getElem?_toArray, List.getElem?_cons_zero, List.getElem?_cons_succ, Option.bind_some, List.setIfInBounds_toArray, List.set_cons_zero, List.set_cons_succ]
      simp only [e11, e13]
      clear e11 e13
      go_wp2
      exact ⟨rfl, Ext.refl _, rfl⟩
  intro vals w5 hx hf
  have e14 : vals 14 = .bool (decide (N ≤ re)) := hf 14 (by omega)
  clear hf
  have hB5 : Below w.heap.size w w5 := hx.undrew
  refine tail1 15 _ (by kernel_rfl) (by kernel_rfl) rfl ?_
  simp only [Lf, dstAt, Act.put, List.getElem?_toArray, List.getElem?_cons_zero, List.getElem?_cons_succ, Option.bind_some, List.setIfInBounds_toArray, List.set_cons_zero, List.set_cons_succ]
  rw [e14]
  go_wp2
  go_ret
  exact ⟨rfl, hB5⟩

end Go.Proofs.Ytlmpmhfbjblhnaa
