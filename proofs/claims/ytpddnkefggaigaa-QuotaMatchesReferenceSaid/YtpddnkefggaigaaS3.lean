/- slices.Clone and slices.Equal at ints and at loans. -/
import Derived.Test.YtpddnkefggaigaaV0
namespace Go.Proofs.Ytpddnkefggaigaa
open Go.RowKit

theorem infoInt : (Try.prog.info? 3).map (fun i => (i.zero, i.size, i.bytes)) = some (some (.int .i64 0), 1, 8) := by kernel_rfl
theorem infoLoan : (Try.prog.info? 28).map (fun i => (i.zero, i.size, i.bytes)) = some (some (.agg #[.int .i64 0, .int .i64 0, .int .i64 0]), 3, 24) := by kernel_rfl

/-- A slice of the call's own comes back; what was there is as it was. -/
def Fresh (w : World) (E size n : Nat) (xs : List Value) (e : Ending) (w' : World) : Prop :=
  ∃ v, e = .returned v ∧ w'.ownsRow w.heap.size E size v n xs ∧ Below w.heap.size w w'

theorem ints_one (zs : List Int) : ∀ u ∈ zs.map I64, u.oneCell' = true := by
  intro u hu
  simp only [List.mem_map] at hu
  obtain ⟨z, _, rfl⟩ := hu
  rfl
theorem loans_one (ls : List Loan) : ∀ u ∈ ls.flatMap loanCells, u.oneCell' = true := by
  intro u hu
  simp only [List.mem_flatMap, loanCells] at hu
  obtain ⟨x, _, hx⟩ := hu
  simp at hx
  rcases hx with rfl | rfl | rfl <;> rfl

theorem clone_int (A : Option Addr) (n c : Nat) (zs : List Int) (w : World) (h : RI w w.heap.size ⟨A, n, c⟩ zs) :
    Calls Try.prog 45 #[.slice A n c] w (Fresh w 3 1 n (zs.map I64)) := by
  obtain ⟨hr, _, _, hn⟩ := h
  have hn : n ≤ 1099511627776 := hn
  have hr : Reads w w.heap.size 1 A n (zs.map I64) := hr
  have heq := fun (w : World) (a : Option Addr) (n c n' c' : Nat) => Lib.run_eql_slice_nil (P := Try.prog) w 22 3 a n c n' c' Try.underlying22
  cases A with
  | none =>
    have h0 : n = 0 := by
      rcases Nat.eq_zero_or_pos n with h0 | h0
      · exact h0
      · obtain ⟨_, _, h, _⟩ := hr.2 h0
        cases h
    subst h0
    have hz : zs.map I64 = [] := List.eq_nil_of_length_eq_zero (by simpa using hr.1)
    rw [hz]
    clear hz hr
    go_enter Try.func45, Try.ntmps45
    go_wp2
    go_ret
    exact ⟨_, rfl, World.ownsRow_nil _ _ _ _, (by repeat (first | exact Below.refl _ _ | assumption | refine Below.drew ?_ | refine below_drewN ?_ _ | refine bl_alloc ?_ _ | refine Below.setCell ?_ (by first | (simp; done) | omega | (simp; omega)) _ | refine bl_then ?_ (by assumption)))⟩
  | some ad =>
    obtain ⟨i0, hi, hz0, hz1, hz2⟩ := info_parts infoInt
    generalize hxs : zs.map I64 = xs at hr ⊢
    have h1 : ∀ u ∈ xs, u.oneCell' = true := by rw [← hxs]; exact ints_one zs
    have H1 := Lib.hid h1
    have HR := Lib.hid (hr.alloc (Nat.le_refl _) (.cells #[] 3))
    clear hxs h1 hr
    go_enter Try.func45, Try.ntmps45
    go_wp2_with (at_builtin; refine wpList_append_any _ rfl _ _ 22 rfl w.heap.size 3 i0 (.int .i64 0) 1 8 Try.underlying22 hi hz0 hz1 hz2 rfl (by decide) _ 0 [] rfl (World.ownsRow_made w #[] 0 (Nat.le_refl _) (by unfold maxLen; omega) rfl) w.heap.size (some ad) n c xs rfl HR.out H1.out (by unfold maxLen; omega) (by omega) (by simp) ?_)
    intro v' w' hown hg hat
    go_wp2
    go_ret
    refine ⟨_, rfl, by simpa using hown, ?_⟩
    exact (bl_alloc (Below.refl _ _) _).grown hg (by simp) (fun k hk => by simp [Value.ownBlock] at hk; omega)

theorem clone_loan (A : Option Addr) (n c : Nat) (ls : List Loan) (w : World) (h : RL w w.heap.size ⟨A, n, c⟩ ls) :
    Calls Try.prog 67 #[.slice A n c] w (Fresh w 28 3 n (ls.flatMap loanCells)) := by
  obtain ⟨hr, _, _, hn⟩ := h
  have hn : n ≤ 1099511627776 := hn
  have hr : Reads w w.heap.size 3 A n (ls.flatMap loanCells) := hr
  have heq := fun (w : World) (a : Option Addr) (n c n' c' : Nat) => Lib.run_eql_slice_nil (P := Try.prog) w 24 28 a n c n' c' Try.underlying24
  cases A with
  | none =>
    have h0 : n = 0 := by
      rcases Nat.eq_zero_or_pos n with h0 | h0
      · exact h0
      · obtain ⟨_, _, h, _⟩ := hr.2 h0
        cases h
    subst h0
    have hz : ls.flatMap loanCells = [] := List.eq_nil_of_length_eq_zero (by simpa using hr.1)
    rw [hz]
    clear hz hr
    go_enter Try.func67, Try.ntmps67
    go_wp2
    go_ret
    exact ⟨_, rfl, World.ownsRow_nil _ _ _ _, (by repeat (first | exact Below.refl _ _ | assumption | refine Below.drew ?_ | refine below_drewN ?_ _ | refine bl_alloc ?_ _ | refine Below.setCell ?_ (by first | (simp; done) | omega | (simp; omega)) _ | refine bl_then ?_ (by assumption)))⟩
  | some ad =>
    obtain ⟨i0, hi, hz0, hz1, hz2⟩ := info_parts infoLoan
    generalize hxs : ls.flatMap loanCells = xs at hr ⊢
    have h1 : ∀ u ∈ xs, u.oneCell' = true := by rw [← hxs]; exact loans_one ls
    have H1 := Lib.hid h1
    have HR := Lib.hid (hr.alloc (Nat.le_refl _) (.cells #[] 28))
    clear hxs h1 hr
    go_enter Try.func67, Try.ntmps67
    go_wp2_with (at_builtin; refine wpList_append_any _ rfl _ _ 24 rfl w.heap.size 28 i0 (.agg #[.int .i64 0, .int .i64 0, .int .i64 0]) 3 24 Try.underlying24 hi hz0 hz1 hz2 rfl (by decide) _ 0 [] rfl (World.ownsRow_made w #[] 0 (Nat.le_refl _) (by unfold maxLen; omega) rfl) w.heap.size (some ad) n c xs rfl HR.out H1.out (by unfold maxLen; omega) (by omega) (by simp) ?_)
    intro v' w' hown hg hat
    go_wp2
    go_ret
    refine ⟨_, rfl, by simpa using hown, ?_⟩
    exact (bl_alloc (Below.refl _ _) _).grown hg (by simp) (fun k hk => by simp [Value.ownBlock] at hk; omega)

end Go.Proofs.Ytpddnkefggaigaa
