/- What reads as a pool. -/
import Derived.Test.YtpddnkefggaigaaS2
namespace Go.Proofs.Ytpddnkefggaigaa
open Go.RowKit

structure Sl where
  A : Option Addr
  n : Nat
  c : Nat
abbrev Sl.v (s : Sl) : Value := .slice s.A s.n s.c
def RI (w : World) (B : Nat) (s : Sl) (zs : List Int) : Prop := Reads w B 1 s.A s.n (zs.map I64) ∧ s.n ≤ s.c ∧ s.c ≤ maxLen ∧ s.n ≤ 1099511627776
def loanCells (x : Loan) : List Value := [I64 x.fr, I64 x.to, I64 x.units]
def RL (w : World) (B : Nat) (s : Sl) (ls : List Loan) : Prop := Reads w B 3 s.A s.n (ls.flatMap loanCells) ∧ s.n ≤ s.c ∧ s.c ≤ maxLen ∧ s.n ≤ 1099511627776
def PoolR (w : World) (B : Nat) (s1 s2 s3 s4 : Sl) (p : Pool) : Prop := RI w B s1 p.has ∧ RI w B s2 p.used ∧ RL w B s3 p.loans ∧ RI w B s4 p.cents
abbrev poolV (s1 s2 s3 s4 : Sl) : Value := .agg #[s1.v, s2.v, s3.v, s4.v]

section
variable {w w' : World} {B B' : Nat} {s s1 s2 s3 s4 : Sl} {zs : List Int} {ls : List Loan} {p : Pool}
theorem RI.below (h : RI w B s zs) (hb : Below B w w') : RI w' B s zs := ⟨h.1.below hb, h.2⟩
theorem RL.below (h : RL w B s ls) (hb : Below B w w') : RL w' B s ls := ⟨h.1.below hb, h.2⟩
theorem RI.more (h : RI w B s zs) (hb : B ≤ B') : RI w B' s zs := ⟨h.1.more hb, h.2⟩
theorem RL.more (h : RL w B s ls) (hb : B ≤ B') : RL w B' s ls := ⟨h.1.more hb, h.2⟩
theorem RI.len (h : RI w B s zs) : zs.length = s.n := by have := h.1.1; simpa using this
theorem RI.le (h : RI w B s zs) : s.n ≤ 1099511627776 := h.2.2.2
theorem len_flat (ls : List Loan) : (ls.flatMap loanCells).length = ls.length * 3 := by
  induction ls with
  | nil => rfl
  | cons x r ih => simp [List.flatMap_cons, ih, loanCells]; omega
theorem RL.len (h : RL w B s ls) : ls.length = s.n := by have := h.1.1; rw [len_flat] at this; omega
theorem RL.le (h : RL w B s ls) : s.n ≤ 1099511627776 := h.2.2.2
theorem get_flat (ls : List Loan) (k : Nat) (h : k < ls.length) : (ls.flatMap loanCells)[k * 3]? = some (I64 ls[k].fr) ∧ (ls.flatMap loanCells)[k * 3 + 1]? = some (I64 ls[k].to) ∧ (ls.flatMap loanCells)[k * 3 + 2]? = some (I64 ls[k].units) := by
  induction ls generalizing k with
  | nil => simp at h
  | cons x r ih =>
    cases k with
    | zero => simp [List.flatMap_cons, loanCells]
    | succ k =>
      have := ih k (by simpa using h)
      have e0 : (k + 1) * 3 = k * 3 + 3 := by omega
      rw [e0]
      simp only [List.flatMap_cons, loanCells, List.cons_append, List.nil_append, List.getElem_cons_succ]
      exact ⟨by rw [List.getElem?_cons_succ, List.getElem?_cons_succ, List.getElem?_cons_succ]; exact this.1, by rw [show k * 3 + 3 + 1 = k * 3 + 1 + 3 by omega, List.getElem?_cons_succ, List.getElem?_cons_succ, List.getElem?_cons_succ]; exact this.2.1, by rw [show k * 3 + 3 + 2 = k * 3 + 2 + 3 by omega, List.getElem?_cons_succ, List.getElem?_cons_succ, List.getElem?_cons_succ]; exact this.2.2⟩
theorem RL.at_ (h : RL w B s ls) {k : Nat} (hk : k < s.n) : ∃ (b o : Nat) (hz : k < ls.length), s.A = some ⟨b, o, none⟩ ∧ b < B ∧ w.cell? ⟨b, o + k * 3, none⟩ = some (I64 ls[k].fr) ∧ w.cell? ⟨b, o + k * 3 + 1, none⟩ = some (I64 ls[k].to) ∧ w.cell? ⟨b, o + k * 3 + 2, none⟩ = some (I64 ls[k].units) := by
  have hl := h.len
  obtain ⟨b, o, e, hb, hc⟩ := h.1.2 (by omega)
  have g := get_flat ls k (by omega)
  exact ⟨b, o, by omega, e, hb, hc _ _ g.1, hc _ _ g.2.1, hc _ _ g.2.2⟩
theorem RI.at_ (h : RI w B s zs) {k : Nat} (hk : k < s.n) : ∃ (b o : Nat) (hz : k < zs.length), s.A = some ⟨b, o, none⟩ ∧ b < B ∧ w.cell? ⟨b, o + k, none⟩ = some (I64 zs[k]) := reads_ints_at h.1 hk
theorem PoolR.below (h : PoolR w B s1 s2 s3 s4 p) (hb : Below B w w') : PoolR w' B s1 s2 s3 s4 p := ⟨h.1.below hb, h.2.1.below hb, h.2.2.1.below hb, h.2.2.2.below hb⟩
theorem PoolR.more (h : PoolR w B s1 s2 s3 s4 p) (hb : B ≤ B') : PoolR w B' s1 s2 s3 s4 p := ⟨h.1.more hb, h.2.1.more hb, h.2.2.1.more hb, h.2.2.2.more hb⟩
theorem PoolR.next (h : PoolR w w.heap.size s1 s2 s3 s4 p) (hb : Below w.heap.size w w') : PoolR w' w'.heap.size s1 s2 s3 s4 p := (h.below hb).more hb.size
end
theorem bcell {W w1 : World} (hb : Below W.heap.size W w1) : (∀ b o, b < W.heap.size → w1.cell? ⟨b, o, none⟩ = W.cell? ⟨b, o, none⟩) ∧ (∀ b o, b < W.heap.size → w1.frozen? ⟨b, o, none⟩ = W.frozen? ⟨b, o, none⟩) :=
  ⟨fun b o h => hb.cell (p := ⟨b, o, none⟩) h, fun b o h => hb.frozen (p := ⟨b, o, none⟩) h⟩

theorem prevOf_def : True := trivial
def prevOf (ls : List Loan) (k : Nat) : Option Loan := if k = 0 then none else ls[k - 1]?

theorem sum_take_bd (zs : List Int) (M : Int) (h : ∀ x ∈ zs, -M ≤ x ∧ x ≤ M) (k : Nat) (hk : k ≤ zs.length) : -(M * k) ≤ (zs.take k).sum ∧ (zs.take k).sum ≤ M * k := by
  induction k with
  | zero => simp
  | succ k ih =>
    have := ih (by omega)
    rw [List.take_succ_eq_append_getElem (by omega)]
    have hx := h zs[k] (List.getElem_mem _)
    simp only [List.sum_append, List.sum_cons, List.sum_nil]
    have e : M * ((k + 1 : Nat) : Int) = M * k + M := by rw [Int.natCast_add, Int.mul_add]; simp
    rw [e]
    omega
theorem sum_take_succ (zs : List Int) (k : Nat) (hk : k < zs.length) : (zs.take (k + 1)).sum = (zs.take k).sum + zs[k] := by
  rw [List.take_succ_eq_append_getElem hk, List.sum_append]
  simp

theorem within_len {zs : List Int} {lo hi : Int} (h : withinB zs lo hi = true) : zs.length = 16 := by
  unfold withinB at h; simp at h; exact h.1
theorem within_mem {zs : List Int} {lo hi : Int} (h : withinB zs lo hi = true) : ∀ x ∈ zs, lo ≤ x ∧ x ≤ hi := by
  unfold withinB at h
  simp only [Bool.and_eq_true, List.all_eq_true] at h
  exact fun x hx => inB_iff.1 (h.2 x hx)

end Go.Proofs.Ytpddnkefggaigaa
