/- The order of passes is a strict weak order; Passes for up to 64 passes and more. -/
import Derived.Test.YtlmpmhfbjblhnaaS0
import Derived.Test.YtlmpmhfbjblhnaaB5
namespace Go.Proofs.Ytlmpmhfbjblhnaa
open Go.RowKit

/-- A three-way comparison that is a total preorder. -/
structure Cmp3 {α : Type} (c : α → α → Int) : Prop where
  sw : ∀ a b, c a b < 0 ↔ 0 < c b a
  tr : ∀ a b d, c a b ≤ 0 → c b d ≤ 0 → c a d ≤ 0
theorem Cmp3.key {α : Type} (f : α → Int) : Cmp3 (fun a b => cmpI (f a) (f b)) := by
  constructor
  · intro a b
    simp only [cmpI]
    repeat' split
    all_goals omega
  · intro a b d
    simp only [cmpI]
    repeat' split
    all_goals omega
theorem Cmp3.or {α : Type} {c d : α → α → Int} (h : Cmp3 c) (k : Cmp3 d) : Cmp3 (fun a b => orI (c a b) (d a b)) := by
  constructor
  · intro a b
    have h1 := h.sw a b
    have h2 := h.sw b a
    have h3 := k.sw a b
    simp only [orI]
    repeat' split
    all_goals omega
  · intro a b e
    have h1 := h.sw a b
    have h2 := h.sw b a
    have h3 := h.sw b e
    have h4 := h.sw e b
    have h5 := h.sw a e
    have h6 := h.sw e a
    have t1 := h.tr a b e
    have t2 := h.tr e a b
    have t3 := h.tr b e a
    have t4 := k.tr a b e
    simp only [orI]
    repeat' split
    all_goals omega
theorem Cmp3.strict {α : Type} {c : α → α → Int} (h : Cmp3 c) : SW (ltOf c) := by
  constructor
  · intro a b d h1 h2
    simp only [ltOf, decide_eq_true_eq] at h1 h2 ⊢
    have e1 := h.sw a b
    have e2 := h.sw a d
    have e3 := h.tr b d a
    omega
  · intro a b h1
    simp only [ltOf, decide_eq_true_eq, decide_eq_false_iff_not] at h1 ⊢
    have e1 := h.sw a b
    omega
  · intro a b d h1 h2
    simp only [ltOf, decide_eq_false_iff_not] at h1 h2 ⊢
    have e1 := h.sw a b
    have e2 := h.sw b d
    have e3 := h.sw a d
    have e4 := h.tr d b a
    omega
theorem sw_pas : SW (ltOf cmpPas) := (Cmp3.or (Cmp3.key (fun p : Pas => p.can.fr)) (Cmp3.or (Cmp3.key (fun p : Pas => p.sat)) (Cmp3.or (Cmp3.key (fun p : Pas => p.station)) (Cmp3.or (Cmp3.key (fun p : Pas => p.sure.fr)) (Cmp3.key (fun p : Pas => p.can.tt)))))).strict
theorem sortC_all : SortC 1000000 := fun base g n c l w h hn => sort_any 46 #[] cmpPas (enters_of Try.func46 (by kernel_rfl) rfl) (fun x y w => compare_x x y w) sw_pas base g n c hn l w h
/-- Passes, without a bound on the lists. -/
theorem Passes_all (sats : List St) (stns : List Stn) (SA TA : Option Addr) (sn sc tn tc : Nat) (a b : Int) (w : World) (hS : RA satCells 21 w w.heap.size SA sn sc sats) (hT : RA stnCells 6 w w.heap.size TA tn tc stns) :
    Calls Try.prog 31 #[.slice SA sn sc, .slice TA tn tc, .agg #[.int .i64 a, .int .i64 b]] w (PassesRet (passesP sats stns ⟨a, b⟩) w) :=
  callsIn_wide.1 (Passes_in 1000000 sortC_all sats stns SA TA sn sc tn tc a b w hS hT (fun h => by omega))
/-- What Passes hands back is sorted. -/
theorem passes_sorted {sats : List St} {stns : List Stn} {s : Spl} : Srtd (ltOf cmpPas) (sortP (ltOf cmpPas) (allP sats stns s)) := srtd_sortP sw_pas _

theorem view_plain {o : Orb} {y : Stn} (ho : orbOK o = true) (hy : stnOK y = true) {t la : Int} (h1 : 0 ≤ t ∧ t ≤ 1000000) (h2 : -10 ≤ la ∧ la ≤ 10) : viewP o y t la = some (plainP o y (t - la)) := by
  have h3 : (inB t 0 1000000 && inB la (-10) 10 && orbOK o) = true := by
    rw [ho, Bool.and_true, Bool.and_eq_true, inB_iff, inB_iff]
    omega
  rw [viewP, atP, if_pos h3]
  dsimp only
  rw [if_pos hy]
  rfl

end Go.Proofs.Ytlmpmhfbjblhnaa
