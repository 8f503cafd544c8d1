/- Fit in plain form, and an append onto a full slice of integers. -/
import Derived.Test.YtgbfhkildbhhoaaK3
import Derived.ArgAppend
namespace Go.Proofs.Ytgbfhkildbhhoaa
open Go.RowKit

/-- The first pass of a request with which all still fit. -/
def fitStep (rs : List Req) (n : Nat) (out : List Int) : List Int → List Int
  | [] => out
  | p :: r => if fitsP (psP rs (out ++ [p])) n (2 ^ n - 1) then out ++ [p] else fitStep rs n out r
def fitOut (rs : List Req) (n : Nat) : List Int := rs.foldl (fun out r => fitStep rs n out r.l) []
def fitsN (rs : List Req) (n S : Nat) : Bool := fitsP (psP rs []) n S
def upP (f : Nat → Bool) : Nat → Nat → Nat
  | 0, k => k
  | m + 1, k => if f (2 ^ k - 1) then upP f m (k + 1) else k
def clrP (S i : Nat) : Nat := S &&& (2 ^ 64 - (2 ^ i + 1))
def downP (f : Nat → Bool) : Nat → Nat → Nat
  | 0, S => S
  | i + 1, S => downP f i (if bitP S i && !f (clrP S i) then clrP S i else S)
def lackP (rs : List Req) (n : Nat) : Nat := downP (fitsN rs n) n (2 ^ upP (fitsN rs n) (n - 1) 1 - 1)
def bitsP (S : Nat) : List Nat → List Nat
  | [] => []
  | i :: r => if bitP S i then i :: bitsP S r else bitsP S r
def fitP (rs : List Req) : List Int × List Nat × Int :=
  if rightP rs then (if fitsN rs rs.length (2 ^ rs.length - 1) then (fitOut rs rs.length, [], 0) else ([], bitsP (lackP rs rs.length) (List.range rs.length), 0)) else ([], [], 170)
theorem bitP_test (S i : Nat) : bitP S i = S.testBit i := by unfold bitP; rw [Nat.testBit_eq_decide_div_mod_eq]
theorem clrP_bit (S i j : Nat) (hi : i < 64) (hS : S < 2 ^ 64) : bitP (clrP S i) j = (bitP S j && !decide (i = j)) := by
  rw [bitP_test, bitP_test, clrP, Nat.testBit_and, Nat.testBit_two_pow_sub_succ (Nat.pow_lt_pow_right (by decide) hi), Nat.testBit_two_pow]
  by_cases hj : j < 64
  · simp [hj]
  · have : S.testBit j = false := Nat.testBit_lt_two_pow (Nat.lt_of_lt_of_le hS (Nat.pow_le_pow_right (by decide) (by omega)))
    simp [this]
theorem clrP_le (S i : Nat) : clrP S i ≤ S := Nat.and_le_left
theorem clrP_ne (S i : Nat) (hi : i < 64) (hS : S < 2 ^ 64) : (clrP S i ≠ S) ↔ bitP S i = true := by
  constructor
  · intro h
    cases hb : bitP S i
    · exact absurd (Nat.eq_of_testBit_eq fun j => by
        rw [← bitP_test, ← bitP_test, clrP_bit S i j hi hS]
        by_cases hij : i = j
        · subst hij; rw [hb]; rfl
        · simp [hij]) h
    · rfl
  · intro h e
    have := clrP_bit S i i hi hS
    rw [e, h] at this
    simp at this
theorem andnot_i64 (S m : Nat) (hS : S < 131072) (hm : m < 62) : bits BinOp.andNot IntKind.i64 (S : Int) ((2 : Int) ^ m) = (clrP S m : Int) := by
  have hp : 2 ^ m < 2 ^ 62 := Nat.pow_lt_pow_right (by decide) hm
  have hc : ((2 : Int) ^ m) = ((2 ^ m : Nat) : Int) := by simp
  have hle := clrP_le S m
  rw [hc]
  have h64 : IntKind.i64.bits = 64 := rfl
  simp only [bits, h64, BitVec.ofInt_natCast, BitVec.toNat_and, BitVec.toNat_not, BitVec.toNat_ofNat]
  have e1 : S % 2 ^ 64 = S := Nat.mod_eq_of_lt (by omega)
  have e2 : 2 ^ m % 2 ^ 64 = 2 ^ m := Nat.mod_eq_of_lt (by omega)
  rw [e1, e2]
  have e3 : 2 ^ 64 - 1 - 2 ^ m = 2 ^ 64 - (2 ^ m + 1) := by omega
  rw [e3]
  exact IntWalk.i64_in _ (by have : S &&& (2 ^ 64 - (2 ^ m + 1)) ≤ S := Nat.and_le_left; omega)
theorem or_i64 : ∀ k, k < 17 → bits BinOp.or IntKind.i64 (((2 ^ k - 1 : Nat) : Int) * 2) 1 = ((2 ^ (k + 1) - 1 : Nat) : Int) := by decide
theorem fitStep_cons (rs : List Req) (n : Nat) (out : List Int) (p : Int) (r : List Int) : fitStep rs n out (p :: r) = if fitsP (psP rs (out ++ [p])) n (2 ^ n - 1) then out ++ [p] else fitStep rs n out r := by rw [fitStep]
theorem bitsP_append (S : Nat) (a b : List Nat) : bitsP S (a ++ b) = bitsP S a ++ bitsP S b := by
  induction a with
  | nil => rfl
  | cons x r ih => simp only [List.cons_append, bitsP]; split <;> simp [ih]
theorem bitsP_len (S : Nat) (a : List Nat) : (bitsP S a).length ≤ a.length := by
  induction a with
  | nil => exact Nat.le_refl _
  | cons x r ih => simp only [bitsP]; split <;> simp <;> omega
theorem passOK_mem (o : Option Int) (l : List Int) (h : passOK o l = true) : ∀ p ∈ l, 0 ≤ p ∧ p ≤ 63 := by
  induction l generalizing o with
  | nil => intro p hp; cases hp
  | cons x r ih =>
    intro p hp
    have h2 : inB x 0 63 = true ∧ passOK (some x) r = true := by
      cases o with
      | none => simpa [passOK] using h
      | some q => simp [passOK] at h; exact ⟨h.1.1, h.2⟩
    rcases List.mem_cons.1 hp with rfl | hp
    · exact inB_iff.1 h2.1
    · exact ih _ h2.2 p hp
theorem rightR_mem (s : List Bool) (l : List Req) (h : rightR s l = true) : ∀ r ∈ l, passOK none r.l = true ∧ r.l.length ≤ 12 := by
  induction l generalizing s with
  | nil => intro p hp; cases hp
  | cons x r ih =>
    intro p hp
    rw [rightR_cons] at h
    simp only [Bool.and_eq_true, decide_eq_true_eq] at h
    rcases List.mem_cons.1 hp with rfl | hp
    · exact ⟨h.1.2, h.1.1.2⟩
    · exact ih _ h.2 p hp
theorem rightP_len {l : List Req} (h : rightP l = true) : l.length ≤ 16 := by
  unfold rightP at h
  simp at h
  exact h.2
theorem rightP_ps {l : List Req} (h : rightP l = true) {os : List Int} (ho : ∀ p ∈ os, 0 ≤ p ∧ p ≤ 63) : ∀ j, j < l.length → ∀ p ∈ psP l os j, 0 ≤ p ∧ p ≤ 63 := by
  intro j hj p hp
  unfold rightP at h
  rw [Bool.and_eq_true] at h
  unfold psP at hp
  split at hp
  · rename_i h1
    rw [List.getD_eq_getElem?_getD, List.getElem?_eq_getElem h1] at hp
    have hpe := List.mem_singleton.1 hp
    rw [hpe]
    exact ho _ (List.getElem_mem h1)
  · rw [List.getElem?_eq_getElem hj] at hp
    exact passOK_mem none _ (rightR_mem _ _ h.1 _ (List.getElem_mem hj)).1 p hp
/-- Onto a list whose room is full. -/
theorem onto_int {w : World} (ty : TypeId) (xs : List Int) (p : Int) (base n c gx : Nat) (A : Option Addr) (hv : w.ownsRow base 3 1 (.slice A n c) n (xs.flatMap intCells)) (hn : n ≤ 900) (jx : Blk w gx 3 #[.int .i64 p]) :
    ∃ v' w', (Builtin.append_ #[28, 28] ty #[.slice A n n, .slice (some ⟨gx, 0, none⟩) 1 1]).run Try.prog w = .ok v' w' ∧ Ext w w' ∧ w'.ownsRow w.heap.size 3 1 v' (n + 1) ((xs ++ [p]).flatMap intCells) := by
  obtain ⟨i0, hi0, hz0, hz1, hz2⟩ := info_parts info_int
  have hlx : (xs.flatMap intCells).length = n * 1 := hv.1
  rw [List.flatMap_append]
  have hr : ∀ j u, ([Value.int .i64 p] : List Value)[j]? = some u → w.cell? ((⟨gx, 0, none⟩ : Addr).add j) = some u := fun j u hu => by rw [Addr.add_lit, Nat.zero_add, jx.cell]; simpa using hu
  rcases Nat.eq_zero_or_pos n with h0 | h0
  · subst h0
    have hnil : xs.flatMap intCells = [] := List.eq_nil_of_length_eq_zero (by omega)
    rw [hnil]
    have hA : A = none ∨ ∃ a, A = some a := by cases A <;> simp
    rcases hA with rfl | ⟨a, rfl⟩
    · obtain ⟨v', w', h1, h2, h3, -⟩ := run_append_own (P := Try.prog) w w.heap.size 28 ty 3 i0 _ 1 8 Try.underlying28 hi0 hz0 hz1 hz2 rfl (by omega) _ 0 [] (World.ownsRow_nil _ _ _ _) ⟨gx, 0, none⟩ 1 1 _ rfl hr (by simp [Value.oneCell']) (by unfold maxLen; omega) (by omega) (Nat.le_refl _)
      exact ⟨v', w', h1, ⟨h3.os, h3.tape, h3.output, h3.size, fun k hk => h3.block k hk (by simp [Value.ownBlock])⟩, by simpa [intCells] using h2⟩
    · obtain ⟨v', w', h1, h2, h3⟩ := run_append_arg_grows (P := Try.prog) (w := w) 28 ty 3 i0 _ 1 8 Try.underlying28 hi0 hz0 hz1 hz2 rfl (by omega) a 0 0 [] rfl (fun j u hu => by simp at hu) ⟨gx, 0, none⟩ 1 1 _ rfl hr (by omega) (by unfold maxLen; omega) (by omega)
      exact ⟨v', w', h1, ⟨h3.os, h3.tape, h3.output, h3.size, fun k hk => h3.block k hk (by simp)⟩, by simpa [intCells] using h2⟩
  · rcases hv.2 with ⟨_, hz⟩ | ⟨g, cap, cur, hvv, hb, hg, h1c, h2c, h3c, h4c⟩
    · omega
    · injection hvv with e1 _ _
      subst e1
      obtain ⟨v', w', h1, h2, h3⟩ := run_append_arg_grows (P := Try.prog) (w := w) 28 ty 3 i0 _ 1 8 Try.underlying28 hi0 hz0 hz1 hz2 rfl (by omega) ⟨g, 0, none⟩ n n (xs.flatMap intCells) hlx (fun j u hu => by
        rw [Addr.add_lit, Nat.zero_add]
        have hj : j < n * 1 := by rw [← hlx]; exact (List.getElem?_eq_some_iff.1 hu).1
        rw [cell_of_row w g j cur 3 (0, 0) hg, ← Array.getElem?_toList]
        rw [← h4c, List.getElem?_take_of_lt hj] at hu
        exact hu) ⟨gx, 0, none⟩ 1 1 _ rfl hr (by omega) (by unfold maxLen; omega) (by omega)
      exact ⟨v', w', h1, ⟨h3.os, h3.tape, h3.output, h3.size, fun k hk => h3.block k hk (by simp)⟩, by simpa [intCells] using h2⟩
end Go.Proofs.Ytgbfhkildbhhoaa
