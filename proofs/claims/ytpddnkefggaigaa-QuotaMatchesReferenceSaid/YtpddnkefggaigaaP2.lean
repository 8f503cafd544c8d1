/- Plain mathematics of what is done to pools. -/
import Derived.Test.YtpddnkefggaigaaPlain
namespace Go.Proofs.Ytpddnkefggaigaa

/-- The three lists of numbers of a pool, by the number of the field: 0, 1, 3. -/
structure St where
  h : List Int
  u : List Int
  c : List Int
def St.get (s : St) (f : Nat) : List Int := if f = 0 then s.h else if f = 1 then s.u else s.c
def St.upd (s : St) (f i : Nat) (d : Int) : St :=
  if f = 0 then ⟨s.h.set i (s.h.getD i 0 + d), s.u, s.c⟩ else if f = 1 then ⟨s.h, s.u.set i (s.u.getD i 0 + d), s.c⟩ else ⟨s.h, s.u, s.c.set i (s.c.getD i 0 + d)⟩
structure AM where
  fa : Nat
  ia : Nat
  fb : Nat
  ib : Nat
  am : Int
def okF (f : Nat) : Prop := f = 0 ∨ f = 1 ∨ f = 3
def AM.ok (m : AM) : Prop := okF m.fa ∧ okF m.fb ∧ m.ia < 16 ∧ m.ib < 16 ∧ 0 ≤ m.am ∧ m.am ≤ 1000000000000
def St.app (s : St) (m : AM) : St := (s.upd m.fa m.ia (-m.am)).upd m.fb m.ib m.am
def St.bd (s : St) (M : Int) : Prop := ∀ f, okF f → ∀ i, -M ≤ (s.get f).getD i 0 ∧ (s.get f).getD i 0 ≤ M

theorem get_upd_same (s : St) (f i : Nat) (d : Int) (hf : okF f) : (s.upd f i d).get f = (s.get f).set i ((s.get f).getD i 0 + d) := by
  rcases hf with rfl | rfl | rfl <;> simp [St.upd, St.get]
theorem get_upd_other (s : St) (f f' i : Nat) (d : Int) (hf : okF f) (hf' : okF f') (h : f ≠ f') : (s.upd f i d).get f' = s.get f' := by
  rcases hf with rfl | rfl | rfl <;> rcases hf' with rfl | rfl | rfl <;> simp [St.upd, St.get] at h ⊢
theorem getD_set_int (l : List Int) (i j : Nat) (x : Int) : (l.set i x).getD j 0 = if i = j ∧ i < l.length then x else l.getD j 0 := by
  simp only [List.getD_eq_getElem?_getD, List.getElem?_set]
  by_cases h : i = j
  · subst h
    by_cases hl : i < l.length
    · simp [hl]
    · simp [hl]
  · simp [h]
theorem upd_bd {s : St} {M D : Int} (h : s.bd M) (_hD : 0 ≤ D) (f i : Nat) (d : Int) (hf : okF f) (hd : -D ≤ d ∧ d ≤ D) : (s.upd f i d).bd (M + D) := by
  intro f' hf' j
  by_cases e : f = f'
  · subst e
    rw [get_upd_same s f i d hf, getD_set_int]
    have h1 := h f hf i
    have h2 := h f hf j
    split <;> omega
  · rw [get_upd_other s f f' i d hf hf' e]
    have := h f' hf' j
    omega
theorem app_bd {s : St} {M : Int} (h : s.bd M) (m : AM) (hm : m.ok) : (s.app m).bd (M + 2000000000000) := by
  obtain ⟨h1, h2, _, _, h5, h6⟩ := hm
  have := upd_bd (upd_bd h (D := 1000000000000) (by omega) m.fa m.ia (-m.am) h1 (by omega)) (D := 1000000000000) (by omega) m.fb m.ib m.am h2 (by omega)
  rw [show M + 2000000000000 = M + 1000000000000 + 1000000000000 by omega]
  exact this

def posL (ls : List Loan) (x : Loan) : Nat := (ls.takeWhile (fun y => lessB y x)).length
def keyB (x y : Loan) : Bool := x.fr == y.fr && x.to == y.to
def foundL (ls : List Loan) (x : Loan) : Bool := (ls[posL ls x]?.map (fun y => keyB y x)).getD false
def insL (ls : List Loan) (x : Loan) : List Loan := if foundL ls x then ls else ls.take (posL ls x) ++ ⟨x.fr, x.to, 0⟩ :: ls.drop (posL ls x)
def unitsAt (ls : List Loan) (i : Nat) : Int := (ls[i]?.map (fun y => y.units)).getD 0
def setU (ls : List Loan) (i : Nat) (u : Int) : List Loan := (ls[i]?.map (fun y => ls.set i ⟨y.fr, y.to, u⟩)).getD ls
/-- What the program makes of the loans. -/
def owedG (ls : List Loan) (x : Loan) : List Loan :=
  let l1 := insL ls x
  let u := unitsAt l1 (posL ls x) + x.units
  if u = 0 then l1.take (posL ls x) ++ l1.drop (posL ls x + 1) else setU l1 (posL ls x) u

def Pool.st (p : Pool) : St := ⟨p.has, p.used, p.cents⟩
def movedG (p : Pool) (x : Loan) (mv : List AM) : Pool :=
  let s := mv.foldl St.app p.st
  ⟨s.h, s.u, if x.units = 0 then p.loans else owedG p.loans x, s.c⟩
def changeP (p : Pool) (ok : Bool) (x : Loan) (mv : List AM) : Option Pool :=
  if ok = true ∧ validB p = true then (if validB (movedG p x mv) = true then some (movedG p x mv) else none) else none

end Go.Proofs.Ytpddnkefggaigaa
