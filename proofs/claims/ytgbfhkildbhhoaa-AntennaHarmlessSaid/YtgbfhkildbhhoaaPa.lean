/- Plain mathematics of uses and antennas: no program in sight. -/
namespace Go.Proofs.Ytgbfhkildbhhoaa

structure Spl where
  fr : Int
  tt : Int
structure Use where
  sat : Int
  fr : Int
  tt : Int
instance : DecidableEq Spl := fun a b => decidable_of_iff (a.fr = b.fr ∧ a.tt = b.tt) (by cases a; cases b; simp)
instance : DecidableEq Use := fun a b => decidable_of_iff (a.sat = b.sat ∧ a.fr = b.fr ∧ a.tt = b.tt) (by cases a; cases b; simp)
def Use.spl (u : Use) : Spl := ⟨u.fr, u.tt⟩
def inB (n lo hi : Int) : Bool := decide (lo ≤ n ∧ n ≤ hi)
theorem inB_iff {n lo hi : Int} : inB n lo hi = true ↔ lo ≤ n ∧ n ≤ hi := by simp [inB]
def cmpI (a b : Int) : Int := if a < b then -1 else if b < a then 1 else 0
def formedP (u : Use) : Bool := decide (0 ≤ u.sat ∧ u.sat ≤ 23) && decide (0 ≤ u.fr) && decide (u.fr < u.tt) && decide (u.tt ≤ 1000001)
def meetP (a b : Spl) : Bool := decide (a.fr < b.tt) && decide (b.fr < a.tt)
/-- Does a use stand behind others? -/
def addsP (p : List Use) (u : Use) : Bool := formedP u && !(p.any fun v => decide (v.sat = u.sat) && meetP v.spl u.spl)
def validR : List Use → List Use → Bool
  | _, [] => true
  | p, u :: r => addsP p u && validR (p ++ [u]) r
def validU (l : List Use) : Bool := decide (l.length ≤ 64) && validR [] l
/-- The places of the uses for which it holds. -/
def idxP (q : Use → Bool) : List Use → Nat → List Nat
  | [], _ => []
  | u :: r, i => if q u then i :: idxP q r (i + 1) else idxP q r (i + 1)
def hasT (t : Int) (u : Use) : Bool := decide (u.fr ≤ t) && decide (t < u.tt)
def atP (l : List Use) (t : Int) : List Nat := idxP (hasT t) l 0
def frP (l : List Use) (i : Nat) : Int := match l[i]? with | some u => u.fr | none => 0
def ttP (l : List Use) (i : Nat) : Int := match l[i]? with | some u => u.tt | none => 0

theorem validR_drop (l : List Use) (k : Nat) (h : k < l.length) : validR (l.take k) (l.drop k) = (addsP (l.take k) l[k] && validR (l.take (k + 1)) (l.drop (k + 1))) := by
  rw [List.drop_eq_getElem_cons h, validR, List.take_succ_eq_append_getElem h]
theorem idxP_append (q : Use → Bool) (a b : List Use) (i : Nat) : idxP q (a ++ b) i = idxP q a i ++ idxP q b (i + a.length) := by
  induction a generalizing i with
  | nil => simp [idxP]
  | cons u r ih =>
    simp only [List.cons_append, idxP, ih]
    have : i + 1 + r.length = i + (u :: r).length := by simp; omega
    split <;> simp [this]
theorem idxP_succ (q : Use → Bool) (l : List Use) (k : Nat) (h : k < l.length) : idxP q (l.take (k + 1)) 0 = idxP q (l.take k) 0 ++ (if q l[k] then [k] else []) := by
  rw [List.take_succ_eq_append_getElem h, idxP_append]
  congr 1
  simp only [idxP, List.length_take]
  have : 0 + min k l.length = k := by omega
  rw [this]
theorem idxP_le (q : Use → Bool) (l : List Use) (i : Nat) : (idxP q l i).length ≤ l.length := by
  induction l generalizing i with
  | nil => simp [idxP]
  | cons u r ih =>
    have := ih (i + 1)
    simp only [idxP]
    split <;> simp <;> omega
theorem idxP_mem (q : Use → Bool) (l : List Use) (i : Nat) : ∀ j ∈ idxP q l i, i ≤ j ∧ j < i + l.length := by
  induction l generalizing i with
  | nil => intro j hj; cases hj
  | cons u r ih =>
    intro j hj
    simp only [idxP] at hj
    simp only [List.length_cons]
    split at hj
    · rcases List.mem_cons.1 hj with rfl | hj
      · omega
      · have := ih (i + 1) j hj; omega
    · have := ih (i + 1) j hj; omega
theorem idxP_all (l : List Use) (i : Nat) : idxP (fun _ => true) l i = List.range' i l.length := by
  induction l generalizing i with
  | nil => rfl
  | cons u r ih => simp [idxP, ih, List.range'_succ]
end Go.Proofs.Ytgbfhkildbhhoaa
