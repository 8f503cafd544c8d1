/- Maps whose keys are integers: what a look-up reads, what a store leaves. -/
import Derived.Test.YtmlabgmigakcbaaReg
import Derived.MapKept
import Derived.ChangeMaps4
namespace Go.Proofs.Ytmlabgmigakcbaa
open Go.RowKit Go.MapKept

def mkE (p : Int × Value × Nat) : MapEntry := { key := .int .i64 p.1, val := p.2.1, born := p.2.2 }
def lookL (k : Int) : List (Int × Value × Nat) → Option Value
  | [] => none
  | p :: r => if p.1 = k then some p.2.1 else lookL k r
def updL (k : Int) (v : Value) (c : Nat) : List (Int × Value × Nat) → List (Int × Value × Nat)
  | [] => [(k, v, c)]
  | p :: r => if p.1 = k then (k, v, p.2.2) :: r else p :: updL k v c r
theorem look_upd (k j : Int) (v : Value) (c : Nat) : ∀ L, lookL j (updL k v c L) = if j = k then some v else lookL j L
  | [] => by
    simp only [updL, lookL]
    by_cases h : k = j
    · subst h; simp
    · rw [if_neg h, if_neg (fun e => h e.symm)]
  | p :: r => by
    simp only [updL]
    by_cases h : p.1 = k
    · rw [if_pos h]
      simp only [lookL]
      by_cases hj : j = k
      · subst hj; simp
      · rw [if_neg (fun e => hj e.symm), if_neg hj, if_neg (fun e => hj (e.symm.trans h))]
    · rw [if_neg h]
      simp only [lookL]
      rw [look_upd k j v c r]
      by_cases hp : p.1 = j
      · rw [if_pos hp, if_pos hp, if_neg (fun e => h (hp.trans e))]
      · rw [if_neg hp, if_neg hp]
theorem find_none {k : Int} : ∀ {L : List (Int × Value × Nat)} (i : Nat), lookL k L = none → Instr.findNow (.int .i64) (.int .i64 k) (L.map mkE) i = some none ∧ ∀ v c, updL k v c L = L ++ [(k, v, c)]
  | [], _, _ => ⟨rfl, fun _ _ => rfl⟩
  | p :: r, i, h => by
    simp only [lookL] at h
    by_cases hp : p.1 = k
    · rw [if_pos hp] at h; cases h
    · rw [if_neg hp] at h
      obtain ⟨h1, h2⟩ := find_none (i + 1) h
      refine ⟨?_, fun v c => by simp only [updL]; rw [if_neg hp, h2]; rfl⟩
      have hs : (k == p.1) = false := by simp; exact fun e => hp e.symm
      simp only [List.map_cons, Instr.findNow, Instr.sameNow, mkE, if_true, hs]
      exact h1
theorem find_some {k : Int} {v : Value} : ∀ {L : List (Int × Value × Nat)} (i : Nat), lookL k L = some v → ∃ j p, L[j]? = some p ∧ p.1 = k ∧ p.2.1 = v ∧ Instr.findNow (.int .i64) (.int .i64 k) (L.map mkE) i = some (some (i + j, v)) ∧ ∀ u c, updL k u c L = L.set j (k, u, p.2.2)
  | [], _, h => by cases h
  | p :: r, i, h => by
    simp only [lookL] at h
    by_cases hp : p.1 = k
    · rw [if_pos hp] at h
      have hv : p.2.1 = v := by simpa using h
      refine ⟨0, p, rfl, hp, hv, ?_, fun u c => by simp only [updL]; rw [if_pos hp]; rfl⟩
      have hs : (k == p.1) = true := by simp [hp]
      simp only [List.map_cons, Instr.findNow, Instr.sameNow, mkE, if_true, hs, hv, Nat.add_zero]
    · rw [if_neg hp] at h
      obtain ⟨j, q, h1, h2, h3, h4, h5⟩ := find_some (i + 1) h
      refine ⟨j + 1, q, by simpa using h1, h2, h3, ?_, fun u c => by simp only [updL]; rw [if_neg hp, h5]; rfl⟩
      have hs : (k == p.1) = false := by simp; exact fun e => hp e.symm
      simp only [List.map_cons, Instr.findNow, Instr.sameNow, mkE, if_true, hs]
      rw [show i + (j + 1) = i + 1 + j by omega]
      exact h4

/-- A map in block g reads so. -/
def MapI (w : World) (g : Nat) (f : Int → Option Value) : Prop := ∃ L clock, w.heap[g]? = some (.map (L.map mkE).toArray clock) ∧ ∀ k, lookL k L = f k
theorem MapI.lt {w : World} {g : Nat} {f : Int → Option Value} (h : MapI w g f) : g < w.heap.size := by
  obtain ⟨L, c, h, _⟩ := h
  exact (Array.getElem?_eq_some_iff.1 h).1
theorem MapI.ext {w w' : World} {g : Nat} {f : Int → Option Value} (h : MapI w g f) (hx : Ext w w') : MapI w' g f := by
  have hl := h.lt
  obtain ⟨L, c, h1, h2⟩ := h
  exact ⟨L, c, (hx.block g hl).trans h1, h2⟩
theorem MapI.grown {w w' : World} {g : Nat} {f : Int → Option Value} {row : Option Nat} (h : MapI w g f) (hx : w.grownBy w' row) (hne : some g ≠ row) : MapI w' g f := by
  have hl := h.lt
  obtain ⟨L, c, h1, h2⟩ := h
  exact ⟨L, c, (hx.block g hl hne).trans h1, h2⟩
theorem MapI.far {w : World} {g : Nat} {f : Int → Option Value} (h : MapI w g f) {p : Addr} (hp : g ≠ p.block) (u : Value) : MapI (w.setCell p u) g f := by
  obtain ⟨L, c, h1, h2⟩ := h
  exact ⟨L, c, (Below.heap_setCell w p u g hp).trans h1, h2⟩
theorem MapI.new (w : World) : MapI (w.alloc (.map #[] 0)) w.heap.size (fun _ => none) := ⟨[], 0, heap_alloc_new w _, fun _ => rfl⟩
theorem MapI.congr {w : World} {g : Nat} {f f' : Int → Option Value} (h : MapI w g f) (hf : ∀ k, f k = f' k) : MapI w g f' := by
  obtain ⟨L, c, h1, h2⟩ := h
  exact ⟨L, c, h1, fun k => (h2 k).trans (hf k)⟩
/-- The map of block g turns into another one; nothing else does. -/
def putMap (w : World) (g : Nat) (L : List (Int × Value × Nat)) (c : Nat) : World := { w with heap := w.heap.setIfInBounds g (.map (L.map mkE).toArray c) }
theorem putMap_grown (w : World) (g : Nat) (L : List (Int × Value × Nat)) (c : Nat) : w.grownBy (putMap w g L c) (some g) :=
  ⟨rfl, rfl, rfl, by simp [putMap], fun k _ hne => by
    have : k ≠ g := fun e => hne (by rw [e])
    simp [putMap, Ne.symm this]⟩
section
variable {P : Program} {w : World} {g : Nat} {f : Int → Option Value} {t kt et : TypeId}
theorem MapI.look (h : MapI w g f) (ht : P.underlying t = some (.map kt et)) (hk : P.underlying kt = some (.int .i64)) {z : Value} (hz : (zeroValue et).run P w = .ok z w) (k : Int) :
    (Instr.lookup t (.map (some g)) (.int .i64 k) false).run P w = .ok ((f k).getD z) w := by
  obtain ⟨L, c, hb, hf⟩ := h
  have hc : ∀ e, (Instr.checkKey e 10000 kt (.int .i64 k)).run P w = .ok () w := fun e => MapKept.run_checkKey (k := .int .i64 k) hk (by simp [IsKey]) e 9999
  have hfk := hf k
  cases hl : lookL k L with
  | none =>
    obtain ⟨h1, _⟩ := find_none (k := k) 0 hl
    rw [hl] at hfk
    rw [← hfk]
    simp [Instr.lookup, run_underlying ht, MapKept.run_getObj_map hb, hc, MapKept.run_findKey hk h1, Result.andThen, hz]
  | some v =>
    obtain ⟨j, p, _, _, _, h1, _⟩ := find_some (k := k) 0 hl
    rw [hl] at hfk
    rw [← hfk]
    simp [Instr.lookup, run_underlying ht, MapKept.run_getObj_map hb, hc, MapKept.run_findKey hk h1, Result.andThen]
theorem MapI.look_ok (h : MapI w g f) (ht : P.underlying t = some (.map kt et)) (hk : P.underlying kt = some (.int .i64)) {z : Value} (hz : (zeroValue et).run P w = .ok z w) (k : Int) :
    (Instr.lookup t (.map (some g)) (.int .i64 k) true).run P w = .ok (.tuple #[(f k).getD z, .bool (f k).isSome]) w := by
  obtain ⟨L, c, hb, hf⟩ := h
  have hc : ∀ e, (Instr.checkKey e 10000 kt (.int .i64 k)).run P w = .ok () w := fun e => MapKept.run_checkKey (k := .int .i64 k) hk (by simp [IsKey]) e 9999
  have hfk := hf k
  cases hl : lookL k L with
  | none =>
    obtain ⟨h1, _⟩ := find_none (k := k) 0 hl
    rw [hl] at hfk
    rw [← hfk]
    simp [Instr.lookup, run_underlying ht, MapKept.run_getObj_map hb, hc, MapKept.run_findKey hk h1, Result.andThen, hz]
  | some v =>
    obtain ⟨j, p, _, _, _, h1, _⟩ := find_some (k := k) 0 hl
    rw [hl] at hfk
    rw [← hfk]
    simp [Instr.lookup, run_underlying ht, MapKept.run_getObj_map hb, hc, MapKept.run_findKey hk h1, Result.andThen]
theorem MapI.update (h : MapI w g f) (ht : P.underlying t = some (.map kt et)) (hk : P.underlying kt = some (.int .i64)) (k : Int) (v : Value) :
    ∃ w', (Instr.mapUpdate t (.map (some g)) (.int .i64 k) v).run P w = .ok () w' ∧ MapI w' g (fun j => if j = k then some v else f j) ∧ w.grownBy w' (some g) := by
  have hlt := h.lt
  obtain ⟨L, c, hb, hf⟩ := h
  have hc : ∀ e, (Instr.checkKey e 10000 kt (.int .i64 k)).run P w = .ok () w := fun e => MapKept.run_checkKey (k := .int .i64 k) hk (by simp [IsKey]) e 9999
  have hnew : ∀ c c', MapI (putMap w g (updL k v c L) c') g (fun j => if j = k then some v else f j) := fun c c' => ⟨updL k v c L, c', by simp [putMap, hlt], fun j => by rw [look_upd, hf]⟩
  cases hl : lookL k L with
  | none =>
    obtain ⟨h1, h2⟩ := find_none (k := k) 0 hl
    refine ⟨putMap w g (updL k v c L) (c + 1), ?_, hnew _ _, putMap_grown _ _ _ _⟩
    rw [h2]
    simp [Instr.mapUpdate, run_underlying ht, MapKept.run_getObj_map hb, hc, MapKept.run_findKey hk h1, MapKept.run_setObj_map _ hb, Result.andThen, putMap, mkE]
  | some u =>
    obtain ⟨j, p, hj, hpk, _, h1, h2⟩ := find_some (k := k) 0 hl
    refine ⟨putMap w g (updL k v c L) c, ?_, hnew _ _, putMap_grown _ _ _ _⟩
    rw [h2]
    have hjl : j < L.length := (List.getElem?_eq_some_iff.1 hj).1
    have hjp : L[j] = p := (List.getElem?_eq_some_iff.1 hj).2
    have hst : (Instr.keyThatStays (.int .i64 p.1) (.int .i64 k)).run P w = .ok (.int .i64 k) w := by simp [Instr.keyThatStays, Instr.sameBits, hpk]
    have hmod : (L.map mkE).toArray.modify j (fun e => { e with key := .int .i64 k, val := v }) = ((L.set j (k, v, p.2.2)).map mkE).toArray := by
      refine Array.ext_getElem? fun i => ?_
      rw [Array.getElem?_modify]
      simp only [List.getElem?_toArray, List.getElem?_map, List.getElem?_set]
      by_cases hji : j = i
      · subst hji
        simp [hjl, hjp, mkE]
      · simp [hji]
    have hkey : ((((L.map mkE).toArray[j]?).map (·.key)).getD (.int .i64 k)) = .int .i64 p.1 := by simp [hj, mkE]
    simp only [Nat.zero_add] at h1
    have hkey2 : (Option.map (fun x => x.key) (L.map mkE).toArray[j]?).getD (.int .i64 k) = .int .i64 p.1 := hkey
    simp only [Instr.mapUpdate, Sem.run_bind, run_underlying ht, Result.andThen_ok, MapKept.run_getObj_map hb, hc, MapKept.run_findKey hk h1, hkey2, hst, MapKept.run_setObj_map _ hb, hmod]
    rfl
end
end Go.Proofs.Ytmlabgmigakcbaa
