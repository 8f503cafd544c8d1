/- Kuhn's search for passes, in plain form. -/
import Derived.Test.YtgbfhkildbhhoaaPa
namespace Go.Proofs.Ytgbfhkildbhhoaa

def updO (o : Int → Option Nat) (p : Int) (i : Nat) : Int → Option Nat := fun q => if q = p then some i else o q
def updT (t : Int → Bool) (p : Int) : Int → Bool := fun q => if q = p then true else t q
structure KR where
  ok : Bool
  o : Int → Option Nat
  t : Int → Bool
def giveL (rec : Nat → (Int → Option Nat) → (Int → Bool) → KR) (i : Nat) : List Int → (Int → Option Nat) → (Int → Bool) → KR
  | [], o, t => ⟨false, o, t⟩
  | p :: r, o, t =>
    if t p then giveL rec i r o t else
    match o p with
    | none => ⟨true, updO o p i, updT t p⟩
    | some k => if (rec k o (updT t p)).ok then ⟨true, updO (rec k o (updT t p)).o p i, (rec k o (updT t p)).t⟩ else giveL rec i r (rec k o (updT t p)).o (rec k o (updT t p)).t
def giveF (ps : Nat → List Int) : Nat → Nat → (Int → Option Nat) → (Int → Bool) → KR
  | 0, _, o, t => ⟨false, o, t⟩
  | f + 1, i, o, t => giveL (giveF ps f) i (ps i) o t

theorem giveL_cons (rec : Nat → (Int → Option Nat) → (Int → Bool) → KR) (i : Nat) (p : Int) (r : List Int) (o : Int → Option Nat) (t : Int → Bool) : giveL rec i (p :: r) o t = if t p then giveL rec i r o t else
    match o p with
    | none => ⟨true, updO o p i, updT t p⟩
    | some k => if (rec k o (updT t p)).ok then ⟨true, updO (rec k o (updT t p)).o p i, (rec k o (updT t p)).t⟩ else giveL rec i r (rec k o (updT t p)).o (rec k o (updT t p)).t := by rw [giveL]

/-- How many passes are not tried yet. -/
def unt (t : Int → Bool) : Nat := (List.range 64).countP (fun (q : Nat) => !t (q : Int))
theorem unt_le {t t' : Int → Bool} (h : ∀ p, t p = true → t' p = true) : unt t' ≤ unt t := by
  apply List.countP_mono_left
  intro q _ hq
  cases ht : t (q : Int)
  · rfl
  · rw [h _ ht] at hq; cases hq
theorem unt_upd {t : Int → Bool} {p : Int} (h : t p = false) (h0 : 0 ≤ p) (h1 : p ≤ 63) : unt (updT t p) < unt t := by
  have key : ∀ l : List Nat, (∃ q ∈ l, (q : Int) = p) → l.countP (fun (q : Nat) => !updT t p (q : Int)) < l.countP (fun (q : Nat) => !t (q : Int)) := by
    intro l
    induction l with
    | nil => rintro ⟨q, hq, _⟩; cases hq
    | cons x r ih =>
      rintro ⟨q, hq, hqp⟩
      rw [List.countP_cons, List.countP_cons]
      have hle : r.countP (fun (q : Nat) => !updT t p (q : Int)) ≤ r.countP (fun (q : Nat) => !t (q : Int)) := by
        apply List.countP_mono_left
        intro q _ hq
        unfold updT at hq
        split at hq
        · cases hq
        · exact hq
      by_cases hx : (x : Int) = p
      · have e1 : updT t p (x : Int) = true := by unfold updT; rw [if_pos hx]
        have e2 : t (x : Int) = false := by rw [hx]; exact h
        rw [e1, e2]
        simp
        omega
      · have e1 : updT t p (x : Int) = t (x : Int) := by unfold updT; rw [if_neg hx]
        rw [e1]
        have : ∃ q ∈ r, (q : Int) = p := by
          rcases List.mem_cons.1 hq with rfl | hq
          · exact absurd hqp hx
          · exact ⟨q, hq, hqp⟩
        have := ih this
        omega
  exact key _ ⟨p.toNat, List.mem_range.2 (by omega), by omega⟩
theorem updT_mono (t : Int → Bool) (p q : Int) (h : t q = true) : updT t p q = true := by unfold updT; split <;> simp [h]

theorem giveL_mono (rec : Nat → (Int → Option Nat) → (Int → Bool) → KR) (i : Nat) (hrec : ∀ k o t p, t p = true → (rec k o t).t p = true) (q : Int) : ∀ l o t, t q = true → (giveL rec i l o t).t q = true
  | [], _, _, h => by rw [giveL]; exact h
  | p :: r, o, t, h => by
    rw [giveL_cons]
    split
    · exact giveL_mono rec i hrec q r o t h
    · split
      · exact updT_mono _ _ _ h
      · rename_i k _
        split
        · exact hrec _ _ _ _ (updT_mono _ _ _ h)
        · exact giveL_mono rec i hrec q r _ _ (hrec _ _ _ _ (updT_mono _ _ _ h))
theorem giveF_mono (ps : Nat → List Int) (f : Nat) : ∀ i o t p, t p = true → (giveF ps f i o t).t p = true := by
  induction f with
  | zero => intro i o t p h; exact h
  | succ f ih => intro i o t p h; rw [giveF]; exact giveL_mono _ i (fun k o t p h => ih k o t p h) p _ o t h
theorem giveL_rng (N : Nat) (rec : Nat → (Int → Option Nat) → (Int → Bool) → KR) (i : Nat) (hi : i < N) (hrec : ∀ k o t, k < N → (∀ p j, o p = some j → j < N) → ∀ p j, (rec k o t).o p = some j → j < N) : ∀ l o t, (∀ p j, o p = some j → j < N) → ∀ p j, (giveL rec i l o t).o p = some j → j < N
  | [], _, _, h => by rw [giveL]; exact h
  | p :: r, o, t, h => by
    rw [giveL_cons]
    split
    · exact giveL_rng N rec i hi hrec r o t h
    · split
      · intro q j hq
        unfold updO at hq
        dsimp only at hq
        split at hq
        · injection hq with hq; subst hq; exact hi
        · exact h q j hq
      · rename_i k hk
        have hkN := h p k hk
        split
        · intro q j hq
          unfold updO at hq
          dsimp only at hq
          split at hq
          · injection hq with hq; subst hq; exact hi
          · exact hrec k o _ hkN h q j hq
        · exact giveL_rng N rec i hi hrec r _ _ (hrec k o _ hkN h)
theorem giveF_rng (ps : Nat → List Int) (N : Nat) (f : Nat) : ∀ i o t, i < N → (∀ p j, o p = some j → j < N) → ∀ p j, (giveF ps f i o t).o p = some j → j < N := by
  induction f with
  | zero => intro i o t _ h; exact h
  | succ f ih => intro i o t hi h; rw [giveF]; exact giveL_rng N _ i hi (fun k o t hk ho => ih k o t hk ho) _ o t h
/-- Is bit i of a set there? -/
def bitP (S i : Nat) : Bool := decide (S / 2 ^ i % 2 = 1)
def fitsR (ps : Nat → List Int) (S : Nat) : List Nat → (Int → Option Nat) → Bool
  | [], _ => true
  | i :: r, o => if bitP S i then (if (giveF ps 65 i o (fun _ => false)).ok then fitsR ps S r (giveF ps 65 i o (fun _ => false)).o else false) else fitsR ps S r o
def fitsP (ps : Nat → List Int) (n S : Nat) : Bool := fitsR ps S (List.range n) (fun _ => none)
theorem fitsR_cons (ps : Nat → List Int) (S i : Nat) (r : List Nat) (o : Int → Option Nat) : fitsR ps S (i :: r) o = if bitP S i then (if (giveF ps 65 i o (fun _ => false)).ok then fitsR ps S r (giveF ps 65 i o (fun _ => false)).o else false) else fitsR ps S r o := by rw [fitsR]
end Go.Proofs.Ytgbfhkildbhhoaa
