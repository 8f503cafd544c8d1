/- Requests; right. -/
import Derived.Test.YtgbfhkildbhhoaaA13
namespace Go.Proofs.Ytgbfhkildbhhoaa
open Go.RowKit

/-- A request: its image, and the slice of its passes with what it holds. -/
structure Req where
  im : Int
  a : Option Addr
  n : Nat
  c : Nat
  l : List Int
def reqCells (r : Req) : List Value := [.int .i64 r.im, .slice r.a r.n r.c]
theorem req_len (x : Req) : (reqCells x).length = 2 := rfl
/-- Requests, below a block. -/
structure Rqs (w : World) (B : Nat) (A : Option Addr) (n c : Nat) (rs : List Req) : Prop where
  out : RA reqCells 2 w B A n c rs
  each : ∀ r ∈ rs, RA intCells 1 w B r.a r.n r.c r.l ∧ r.n ≤ 1000
theorem Rqs.below {w w' : World} {B n c : Nat} {A : Option Addr} {rs : List Req} (h : Rqs w B A n c rs) (hb : Below B w w') : Rqs w' B A n c rs := ⟨h.out.below hb, fun r hr => ⟨(h.each r hr).1.below hb, (h.each r hr).2⟩⟩
theorem Rqs.more {w : World} {B B' n c : Nat} {A : Option Addr} {rs : List Req} (h : Rqs w B A n c rs) (hb : B ≤ B') : Rqs w B' A n c rs := ⟨h.out.more hb, fun r hr => ⟨(h.each r hr).1.more hb, (h.each r hr).2⟩⟩
theorem Rqs.grown {w w' : World} {B n c : Nat} {A : Option Addr} {rs : List Req} (h : Rqs w B A n c rs) {row : Option Nat} (hg : w.grownBy w' row) (hB : B ≤ w.heap.size) (hr : ∀ g, row = some g → B ≤ g) : Rqs w' B A n c rs := ⟨h.out.grown hg hB hr, fun r h' => ⟨(h.each r h').1.grown hg hB hr, (h.each r h').2⟩⟩
def boolArr (l : List Bool) : Array Value := (l.map Value.bool).toArray
theorem boolArr_set (l : List Bool) (i : Nat) (x : Bool) : (boolArr l).setIfInBounds i (.bool x) = boolArr (l.set i x) := by
  rw [boolArr, boolArr, List.map_set]; simp
theorem boolArr_at (l : List Bool) (i : Nat) (h : i < l.length) : (boolArr l)[i]? = some (.bool (l.getD i false)) := by
  rw [boolArr]; simp [h]

/-- Do passes rise, within bounds? -/
def passOK : Option Int → List Int → Bool
  | _, [] => true
  | none, p :: r => inB p 0 63 && passOK (some p) r
  | some q, p :: r => inB p 0 63 && decide (q < p) && passOK (some p) r
def rightR : List Bool → List Req → Bool
  | _, [] => true
  | s, r :: l => inB r.im 0 63 && !(s.getD r.im.toNat false) && decide (r.l.length ≤ 12) && passOK none r.l && rightR (s.set r.im.toNat true) l
def rightP (l : List Req) : Bool := rightR (List.replicate 64 false) l && decide (l.length ≤ 16)
theorem rightR_cons (s : List Bool) (r : Req) (l : List Req) : rightR s (r :: l) = (inB r.im 0 63 && !(s.getD r.im.toNat false) && decide (r.l.length ≤ 12) && passOK none r.l && rightR (s.set r.im.toNat true) l) := rfl
/-- The pass before a place. -/
def prevP (l : List Int) (k : Nat) : Option Int := if k = 0 then none else l[k - 1]?
theorem passOK_drop (l : List Int) (k : Nat) (h : k < l.length) : passOK (prevP l k) (l.drop k) = (inB l[k] 0 63 && (decide (k = 0) || decide (l.getD (k - 1) 0 < l[k])) && passOK (prevP l (k + 1)) (l.drop (k + 1))) := by
  rw [List.drop_eq_getElem_cons h]
  have h1 : prevP l (k + 1) = some l[k] := by simp [prevP, h]
  rw [h1]
  cases k with
  | zero => simp [prevP, passOK]
  | succ k =>
    have h2 : prevP l (k + 1) = some (l.getD k 0) := by
      have hk : k < l.length := by omega
      simp [prevP, hk]
    rw [h2, passOK]
    simp
end Go.Proofs.Ytgbfhkildbhhoaa
