/- Lists of structs in memory: a slice whose elements are so many cells each. -/
import Derived.Test.YtmlabgmigakcbaaMem
import Derived.Test.YtmlabgmigakcbaaPc
namespace Go.Proofs.Ytmlabgmigakcbaa
open Go.RowKit

section
variable {α : Type} {cells : α → List Value} {s : Nat}
theorem flat_len (hs : ∀ x, (cells x).length = s) (l : List α) : (l.flatMap cells).length = l.length * s := by
  induction l with
  | nil => simp
  | cons x r ih => rw [List.flatMap_cons, List.length_append, ih, hs, List.length_cons, Nat.succ_mul]; omega
theorem flat_at (hs : ∀ x, (cells x).length = s) (l : List α) (k : Nat) (h : k < l.length) (j : Nat) (hj : j < s) : (l.flatMap cells)[k * s + j]? = (cells l[k])[j]? := by
  induction l generalizing k with
  | nil => simp at h
  | cons x r ih =>
    rw [List.flatMap_cons]
    cases k with
    | zero => rw [Nat.zero_mul, Nat.zero_add, List.getElem?_append_left (by rw [hs]; exact hj)]; rfl
    | succ k =>
      rw [List.getElem?_append_right (by rw [hs, Nat.succ_mul]; omega), hs, show (k + 1) * s + j - s = k * s + j by rw [Nat.succ_mul]; omega]
      exact ih k (by simpa using h)

/-- A slice of structs, below a block, reads as a list. -/
structure RA (cells : α → List Value) (s : Nat) (w : World) (B : Nat) (A : Option Addr) (n c : Nat) (l : List α) : Prop where
  rd : Reads w B s A n (l.flatMap cells)
  len : l.length = n
  cap : n ≤ c
  capM : c ≤ maxLen
  le : n ≤ 9223372036854775807

variable {w w' : World} {B B' n c : Nat} {A : Option Addr} {l : List α}
theorem RA.keep (h : RA cells s w B A n c l) (hk : ∀ p : Addr, p.block < B → w'.cell? p = w.cell? p) : RA cells s w' B A n c l := ⟨h.rd.keep hk, h.len, h.cap, h.capM, h.le⟩
theorem RA.below (h : RA cells s w B A n c l) (hb : Below B w w') : RA cells s w' B A n c l := ⟨h.rd.below hb, h.len, h.cap, h.capM, h.le⟩
theorem RA.more (h : RA cells s w B A n c l) (hb : B ≤ B') : RA cells s w B' A n c l := ⟨h.rd.more hb, h.len, h.cap, h.capM, h.le⟩
theorem RA.alloc (h : RA cells s w B A n c l) (hB : B ≤ w.heap.size) (o : Obj) : RA cells s (w.alloc o) B A n c l := ⟨h.rd.alloc hB o, h.len, h.cap, h.capM, h.le⟩
theorem RA.at_ (hs : ∀ x, (cells x).length = s) (h : RA cells s w B A n c l) {k : Nat} (hk : k < n) :
    ∃ (b o : Nat) (hz : k < l.length), A = some ⟨b, o, none⟩ ∧ b < B ∧ ∀ j, j < s → w.cell? ⟨b, o + k * s + j, none⟩ = (cells l[k])[j]? := by
  obtain ⟨b, o, e, hb, hc⟩ := h.rd.2 (by omega)
  have hz : k < l.length := by rw [h.len]; exact hk
  refine ⟨b, o, hz, e, hb, fun j hj => ?_⟩
  have hu : (cells l[k])[j]? = some ((cells l[k])[j]'(by rw [hs]; exact hj)) := List.getElem?_eq_getElem _
  rw [hu, Nat.add_assoc]
  exact hc _ _ (by rw [flat_at hs l k hz j hj]; exact hu)
end

def stnCells (x : Stn) : List Value := [.int .i64 x.id, .int .i64 x.cell.x, .int .i64 x.cell.y, .int .i64 x.reach, .int .i64 x.antennas, .int .i64 x.skew]
def satCells (x : St) : List Value := [.int .i64 x.id, .int .i64 x.owner, .int .i64 x.orbit.period, .int .i64 x.orbit.phase, .int .i64 x.orbit.low, .int .i64 x.orbit.high, .int .i64 x.orbit.node, .int .i64 x.orbit.turn, .int .i64 x.orbit.slack, .int .i64 x.wide, .int .i64 x.store, .int .i64 x.charge, .int .i64 x.sunny, .int .i64 x.idle, .int .i64 x.shoot, .int .i64 x.send, .int .i64 x.warm, .int .i64 x.cool, .int .i64 x.hot, .int .i64 x.slew, .int .i64 x.rate]
def pasCells (x : Pas) : List Value := [.int .i64 x.sat, .int .i64 x.station, .int .i64 x.sure.fr, .int .i64 x.sure.tt, .int .i64 x.can.fr, .int .i64 x.can.tt]
theorem stn_len (x : Stn) : (stnCells x).length = 6 := rfl
theorem sat_len (x : St) : (satCells x).length = 21 := rfl
theorem pas_len (x : Pas) : (pasCells x).length = 6 := rfl

/-- The element before the k-th one. -/
def prevAt {α : Type} (l : List α) (k : Nat) : Option α := if k = 0 then none else l[k - 1]?
theorem listOK_step {α : Type} (ok : α → Bool) (id : α → Int) (l : List α) (k : Nat) (h : k < l.length) :
    listOK ok id (prevAt l k) (l.drop k) = (ok l[k] && (match prevAt l k with | none => true | some y => decide (id y < id l[k])) && listOK ok id (prevAt l (k + 1)) (l.drop (k + 1))) := by
  have hp : prevAt l (k + 1) = some l[k] := by simp [prevAt, h]
  rw [List.drop_eq_getElem_cons h, hp]
  cases prevAt l k <;> rfl

end Go.Proofs.Ytmlabgmigakcbaa
