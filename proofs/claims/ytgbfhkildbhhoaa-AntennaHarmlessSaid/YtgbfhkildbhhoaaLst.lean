/- Lists of structs in memory: a slice whose elements are so many cells each. -/
import Derived.Test.YtgbfhkildbhhoaaMem
import Derived.Test.YtgbfhkildbhhoaaPa
namespace Go.Proofs.Ytgbfhkildbhhoaa
open Go.RowKit

section
variable {α : Type} {cells : α → List Value} {s : Nat}
theorem flat_len (hs : ∀ x, (cells x).length = s) (l : List α) : (l.flatMap cells).length = l.length * s := by
  induction l with
  | nil => simp
  | cons x r ih => rw [List.flatMap_cons, List.length_append, ih, hs, List.length_cons, Nat.succ_mul]; omega
theorem flat_at (hs : ∀ x, (cells x).length = s) (l : List α) (k : Nat) (h : k < l.length) (j : Nat) (hj : j < s) : (l.flatMap cells)[k * s + j]? = (cells l[k])[j]? := by
  induction l generalizing k with
  | nil => simp at h
  | cons x r ih =>
    rw [List.flatMap_cons]
    cases k with
    | zero => rw [Nat.zero_mul, Nat.zero_add, List.getElem?_append_left (by rw [hs]; exact hj)]; rfl
    | succ k =>
      rw [List.getElem?_append_right (by rw [hs, Nat.succ_mul]; omega), hs, show (k + 1) * s + j - s = k * s + j by rw [Nat.succ_mul]; omega]
      exact ih k (by simpa using h)

/-- A slice of structs, below a block, reads as a list. -/
structure RA (cells : α → List Value) (s : Nat) (w : World) (B : Nat) (A : Option Addr) (n c : Nat) (l : List α) : Prop where
  rd : Reads w B s A n (l.flatMap cells)
  len : l.length = n
  cap : n ≤ c
  capM : c ≤ maxLen
  le : n ≤ 9223372036854775807

variable {w w' : World} {B B' n c : Nat} {A : Option Addr} {l : List α}
theorem RA.keep (h : RA cells s w B A n c l) (hk : ∀ p : Addr, p.block < B → w'.cell? p = w.cell? p) : RA cells s w' B A n c l := ⟨h.rd.keep hk, h.len, h.cap, h.capM, h.le⟩
theorem RA.below (h : RA cells s w B A n c l) (hb : Below B w w') : RA cells s w' B A n c l := ⟨h.rd.below hb, h.len, h.cap, h.capM, h.le⟩
theorem RA.more (h : RA cells s w B A n c l) (hb : B ≤ B') : RA cells s w B' A n c l := ⟨h.rd.more hb, h.len, h.cap, h.capM, h.le⟩
theorem RA.alloc (h : RA cells s w B A n c l) (hB : B ≤ w.heap.size) (o : Obj) : RA cells s (w.alloc o) B A n c l := ⟨h.rd.alloc hB o, h.len, h.cap, h.capM, h.le⟩
theorem RA.at_ (hs : ∀ x, (cells x).length = s) (h : RA cells s w B A n c l) {k : Nat} (hk : k < n) :
    ∃ (b o : Nat) (hz : k < l.length), A = some ⟨b, o, none⟩ ∧ b < B ∧ ∀ j, j < s → w.cell? ⟨b, o + k * s + j, none⟩ = (cells l[k])[j]? := by
  obtain ⟨b, o, e, hb, hc⟩ := h.rd.2 (by omega)
  have hz : k < l.length := by rw [h.len]; exact hk
  refine ⟨b, o, hz, e, hb, fun j hj => ?_⟩
  have hu : (cells l[k])[j]? = some ((cells l[k])[j]'(by rw [hs]; exact hj)) := List.getElem?_eq_getElem _
  rw [hu, Nat.add_assoc]
  exact hc _ _ (by rw [flat_at hs l k hz j hj]; exact hu)
end

def useCells (u : Use) : List Value := [.int .i64 u.sat, .int .i64 u.fr, .int .i64 u.tt]
def splCells (s : Spl) : List Value := [.int .i64 s.fr, .int .i64 s.tt]
def natCells (n : Nat) : List Value := [.int .i64 n]
def intCells (n : Int) : List Value := [.int .i64 n]
theorem use_len (x : Use) : (useCells x).length = 3 := rfl
theorem spl_len (x : Spl) : (splCells x).length = 2 := rfl
theorem nat_len (x : Nat) : (natCells x).length = 1 := rfl
theorem int_len (x : Int) : (intCells x).length = 1 := rfl

end Go.Proofs.Ytgbfhkildbhhoaa
