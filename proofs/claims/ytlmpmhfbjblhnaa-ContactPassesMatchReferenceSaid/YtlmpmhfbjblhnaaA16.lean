/- Spells: plain lemmas; what a round of a range over spells keeps. -/
import Derived.Test.YtlmpmhfbjblhnaaReg4
import Derived.Test.YtlmpmhfbjblhnaaPc
import Derived.RangeFuncNested
import Derived.RangeFuncBound
import Derived.RangeFuncCalls
import Derived.RangeFuncLeaves
import Derived.Shelf.Abstract
import Derived.Shelf.RegionOpen
import Derived.WalkKit
import Derived.OwnWalkIn
import Derived.TacticsInMore
import Derived.LoopNIn
import Derived.LoopIn
namespace Go.Proofs.Ytlmpmhfbjblhnaa
open Go.RowKit

theorem spells_mem (is : Int → Bool) (n : Nat) : ∀ (t : Int) (s : Spl), s ∈ spellsP is t n → t ≤ s.fr := by
  induction n with
  | zero => intro t s h; cases h
  | succ n ih =>
    intro t s h
    unfold spellsP at h
    split at h
    · split at h
      · rcases List.mem_cons.1 h with rfl | h
        · exact Int.le_refl _
        · cases h
      · rename_i x r hx
        have hr : ∀ y ∈ r, t + 1 ≤ y.fr := fun y hy => ih (t + 1) y (by rw [hx]; exact List.mem_cons_of_mem _ hy)
        have hx1 := ih (t + 1) x (by rw [hx]; exact List.mem_cons_self ..)
        split at h
        · rcases List.mem_cons.1 h with rfl | h
          · exact Int.le_refl _
          · have := hr _ h; omega
        · rcases List.mem_cons.1 h with rfl | h
          · exact Int.le_refl _
          · rcases List.mem_cons.1 h with rfl | h
            · omega
            · have := hr _ h; omega
    · have := ih (t + 1) s h; omega
theorem spells_skip {is : Int → Bool} {t : Int} (n : Nat) (h : is t = false) : spellsP is t (n + 1) = spellsP is (t + 1) n := by
  rw [spellsP, h]; rfl
theorem spells_run (is : Int → Bool) (k : Nat) : ∀ (n : Nat) (t : Int), 1 ≤ k → k ≤ n → (∀ i : Nat, i < k → is (t + i) = true) → (k = n ∨ is (t + k) = false) →
    spellsP is t n = ⟨t, t + k⟩ :: spellsP is (t + k) (n - k) := by
  induction k with
  | zero => intro n t h; omega
  | succ k ih =>
    intro n t _ hn hi hs
    obtain ⟨n, rfl⟩ : ∃ m, n = m + 1 := ⟨n - 1, by omega⟩
    have h0 := hi 0 (by omega)
    rw [show t + ((0 : Nat) : Int) = t by omega] at h0
    rw [spellsP, h0, if_pos rfl]
    rcases Nat.eq_zero_or_pos k with rfl | hk
    · have e1 : t + ((0 + 1 : Nat) : Int) = t + 1 := by omega
      rw [e1] at hs ⊢
      rw [show n + 1 - (0 + 1) = n by omega]
      have hne : ∀ y ∈ spellsP is (t + 1) n, y.fr ≠ t + 1 := by
        intro y hy
        rcases hs with hs | hs
        · have : n = 0 := by omega
          subst this
          cases hy
        · rcases n with _ | n
          · cases hy
          · rw [spells_skip n hs] at hy
            have := spells_mem is n _ _ hy
            omega
      cases hL : spellsP is (t + 1) n with
      | nil => rfl
      | cons x r =>
        rw [hL] at hne
        dsimp only
        rw [if_neg (hne x (List.mem_cons_self ..))]
    · have hrec := ih n (t + 1) hk (by omega) (fun i hik => by have := hi (i + 1) (by omega); rw [show t + 1 + (i : Int) = t + ((i + 1 : Nat) : Int) by omega]; exact this) (by
        rcases hs with hs | hs
        · exact .inl (by omega)
        · refine .inr ?_
          rw [show t + 1 + (k : Int) = t + ((k + 1 : Nat) : Int) by omega]; exact hs)
      rw [hrec, show t + 1 + (k : Int) = t + ((k + 1 : Nat) : Int) by omega, show n + 1 - (k + 1) = n - k by omega]
      simp

/-- Spells whose ends are small. -/
abbrev BSpl := { s : Spl // -1000000 ≤ s.fr ∧ s.fr ≤ 10000000 ∧ -1000000 ≤ s.tt ∧ s.tt ≤ 10000000 }
/-- What a round of a range over spells keeps: each block of cells, but the caller's own, that lay before or has two cells. -/
structure KpS (ex : Nat → Prop) (B0 : Nat) (W W' : World) : Prop where
  size : W.heap.size ≤ W'.heap.size
  blk : ∀ k cs t, W.heap[k]? = some (.cells cs t (0, 0)) → ¬ ex k → (k < B0 ∨ cs.size = 2) → W'.heap[k]? = W.heap[k]?
section
variable {ex : Nat → Prop} {B0 : Nat} {A B C : World}
theorem KpS.refl (W : World) : KpS ex B0 W W := ⟨Nat.le_refl _, fun _ _ _ _ _ _ => rfl⟩
theorem KpS.trans (h : KpS ex B0 A B) (k : KpS ex B0 B C) : KpS ex B0 A C :=
  ⟨Nat.le_trans h.size k.size, fun i cs t hi hx hz => by
    have h1 := h.blk i cs t hi hx hz
    have h2 := k.blk i cs t (h1.trans hi) hx hz
    exact h2.trans h1⟩
theorem KpS.ext (h : Ext A B) : KpS ex B0 A B := ⟨h.size, fun k _ _ hk _ _ => h.block k (Array.getElem?_eq_some_iff.1 hk).1⟩
theorem KpS.putObj (W : World) (l : Nat) (o o' : Obj) (h : W.heap[l]? = some o) (ho : o.isCells = false) : KpS ex B0 W (W.putObj l o') :=
  ⟨by simp, fun k cs t hk _ _ => World.putObj_heap_other (fun e => by subst e; rw [hk] at h; injection h with h; subst h; cases ho)⟩
theorem KpS.blk_ {g : Nat} {t : TypeId} {cs : Array Value} (h : KpS ex B0 A B) (hb : Blk A g t cs) (hx : ¬ ex g) (hz : g < B0 ∨ cs.size = 2) : Blk B g t cs := (h.blk g cs t hb hx hz).trans hb
end
theorem ext_grown {A B : World} (h : Ext A B) : A.grownBy B none := ⟨h.os, h.tape, h.output, h.size, fun k hk _ => h.block k hk⟩

end Go.Proofs.Ytlmpmhfbjblhnaa
