/- The example and a minute in a spell, of the laws (printed by contact_c10.py). -/
import Derived.Test.YtlmpmhfbjblhnaaC3
import Derived.Test.YtlmpmhfbjblhnaaC8
namespace Go.Proofs.Ytlmpmhfbjblhnaa
open Go.RowKit

theorem RA.one {α : Type} {cells : α → List Value} {s : Nat} {w : World} {g : Nat} {t : TypeId} {x : α} (hs : (cells x).length = s) (J : Blk w g t (cells x).toArray) : RA cells s w w.heap.size (some ⟨g, 0, none⟩) 1 1 [x] := by
  refine ⟨⟨by simp [hs], fun _ => ⟨g, 0, rfl, J.lt, fun j u hu => ?_⟩⟩, rfl, Nat.le_refl _, by unfold maxLen; omega, by omega⟩
  rw [Nat.zero_add, J.cell, ← hu]
  simp
theorem RA.two {α : Type} {cells : α → List Value} {s : Nat} {w : World} {g : Nat} {t : TypeId} {x y : α} (hx : (cells x).length = s) (hy : (cells y).length = s) (J : Blk w g t (cells x ++ cells y).toArray) : RA cells s w w.heap.size (some ⟨g, 0, none⟩) 2 2 [x, y] := by
  refine ⟨⟨by simp [hx, hy]; omega, fun _ => ⟨g, 0, rfl, J.lt, fun j u hu => ?_⟩⟩, rfl, Nat.le_refl _, by unfold maxLen; omega, by omega⟩
  rw [Nat.zero_add, J.cell, ← hu]
  simp
theorem RA.of_own {α : Type} {cells : α → List Value} {s : Nat} {w : World} {base : Nat} {e : TypeId} {A : Option Addr} {n c : Nat} {l : List α} (h : w.ownsRow base e s (.slice A n c) n (l.flatMap cells)) (hl : l.length = n) (hn : n ≤ 9223372036854775807) : RA cells s w w.heap.size A n c l := by
  obtain ⟨A', c', hv, h1, h2⟩ := own_slice h
  injection hv with _ _ hv
  subst hv
  exact ⟨Reads.of_own h, hl, h1, h2, hn⟩
def inS (s : Spl) (t : Int) : Bool := decide (s.fr ≤ t) && decide (t < s.tt)
theorem in_any (a b t : Int) (w : World) :
    Calls Try.prog 36 #[.agg #[.int .i64 a, .int .i64 b], .int .i64 t] w fun e w' => e = .returned (.bool (inS ⟨a, b⟩ t)) ∧ Below w.heap.size w w' := by
  have hs : inS ⟨a, b⟩ t = (decide (a ≤ t) && decide (t < b)) := rfl
  rw [hs]
  clear hs
  by_cases h : a ≤ t
  · go_enter Try.func36, Try.ntmps36
    go_wp2
    go_ret
    exact ⟨by simp [h], (by repeat (first | exact Below.refl _ _ | assumption | refine Below.drew ?_ | refine below_drewN ?_ _ | refine bl_alloc ?_ _ | refine Below.setCell ?_ (by first | (simp; done) | omega | (simp; omega)) _ | refine bl_then ?_ (by assumption)))⟩
  · have h2 : ¬ t ≥ a := by omega
    go_enter Try.func36, Try.ntmps36
    go_wp2
    go_ret
    exact ⟨by simp; omega, (by repeat (first | exact Below.refl _ _ | assumption | refine Below.drew ?_ | refine below_drewN ?_ _ | refine bl_alloc ?_ _ | refine Below.setCell ?_ (by first | (simp; done) | omega | (simp; omega)) _ | refine bl_then ?_ (by assumption)))⟩
def exSat (sl : Int) : St := ⟨1, 0, ⟨96, 0, 4000, 20000, 0, 0, sl⟩, 0, 1, 1, 0, 0, 0, 0, 0, 0, 1, 0, 5⟩
def exStn : Stn := ⟨2, ⟨0, 12⟩, 0, 1, 0⟩
set_option maxHeartbeats 2000000 in
set_option maxRecDepth 100000 in
theorem example_any (sl : Int) (w : World) :
    Calls Try.prog 37 #[.int .i64 sl] w fun e w' => e = .returned (.tuple #[.agg (satCells (exSat sl)).toArray, .agg (stnCells exStn).toArray]) ∧ Below w.heap.size w w' := by
  obtain ⟨SX, hSX⟩ : ∃ X, X = (satCells (exSat sl)).toArray := ⟨_, rfl⟩
  obtain ⟨TX, hTX⟩ : ∃ X, X = (stnCells exStn).toArray := ⟨_, rfl⟩
  have hS1 : SX.all (·.oneCell') = true := by rw [hSX]; exact sat_one _
  have hS2 : SX.size = 21 := by rw [hSX]; rfl
  have hT1 : TX.all (·.oneCell') = true := by rw [hTX]; exact stn_one _
  have hT2 : TX.size = 6 := by rw [hTX]; rfl
  rw [← hSX, ← hTX]
  have HSX := Lib.hid hSX
  have HTX := Lib.hid hTX
  have HS1 := Lib.hid hS1
  have HS2 := Lib.hid hS2
  have HT1 := Lib.hid hT1
  have HT2 := Lib.hid hT2
  clear hSX hTX hS1 hS2 hT1 hT2
  go_enter Try.func37, Try.ntmps37
  go_upto_region 1 with (fail)
  obtain ⟨g2, hg2⟩ : ∃ g, g = w.heap.size := ⟨_, rfl⟩
  obtain ⟨g3, hg3⟩ : ∃ g, g = w.heap.size + 1 := ⟨_, rfl⟩
  have J2 : Blk ((w.alloc (.cells #[.int .i64 0, .int .i64 0, .int .i64 0, .int .i64 0, .int .i64 0, .int .i64 0, .int .i64 0, .int .i64 0, .int .i64 0, .int .i64 0, .int .i64 0, .int .i64 0, .int .i64 0, .int .i64 0, .int .i64 0, .int .i64 0, .int .i64 0, .int .i64 0, .int .i64 0, .int .i64 0, .int .i64 0] 27)).alloc (.cells #[.int .i64 0, .int .i64 0, .int .i64 0, .int .i64 0, .int .i64 0, .int .i64 0] 31)) g2 27 #[.int .i64 0, .int .i64 0, .int .i64 0, .int .i64 0, .int .i64 0, .int .i64 0, .int .i64 0, .int .i64 0, .int .i64 0, .int .i64 0, .int .i64 0, .int .i64 0, .int .i64 0, .int .i64 0, .int .i64 0, .int .i64 0, .int .i64 0, .int .i64 0, .int .i64 0, .int .i64 0, .int .i64 0] := (Blk.new_at _ _ _ hg2.symm).alloc _
  have J3 : Blk ((w.alloc (.cells #[.int .i64 0, .int .i64 0, .int .i64 0, .int .i64 0, .int .i64 0, .int .i64 0, .int .i64 0, .int .i64 0, .int .i64 0, .int .i64 0, .int .i64 0, .int .i64 0, .int .i64 0, .int .i64 0, .int .i64 0, .int .i64 0, .int .i64 0, .int .i64 0, .int .i64 0, .int .i64 0, .int .i64 0] 27)).alloc (.cells #[.int .i64 0, .int .i64 0, .int .i64 0, .int .i64 0, .int .i64 0, .int .i64 0] 31)) g3 31 #[.int .i64 0, .int .i64 0, .int .i64 0, .int .i64 0, .int .i64 0, .int .i64 0] := Blk.new_at _ _ _ (by simp [hg3])
  have hB : Below w.heap.size w ((w.alloc (.cells #[.int .i64 0, .int .i64 0, .int .i64 0, .int .i64 0, .int .i64 0, .int .i64 0, .int .i64 0, .int .i64 0, .int .i64 0, .int .i64 0, .int .i64 0, .int .i64 0, .int .i64 0, .int .i64 0, .int .i64 0, .int .i64 0, .int .i64 0, .int .i64 0, .int .i64 0, .int .i64 0, .int .i64 0] 27)).alloc (.cells #[.int .i64 0, .int .i64 0, .int .i64 0, .int .i64 0, .int .i64 0, .int .i64 0] 31)) := (by repeat (first | exact Below.refl _ _ | assumption | refine Below.drew ?_ | refine below_drewN ?_ _ | refine bl_alloc ?_ _ | refine Below.setCell ?_ (by first | (simp; done) | omega | (simp; omega)) _ | refine bl_then ?_ (by assumption)))
  have hl2 : w.heap.size ≤ g2 ∧ w.heap.size ≤ g3 ∧ g2 ≠ g3 := by omega
  rw [← hg3, ← hg2]
  generalize (w.alloc (.cells #[.int .i64 0, .int .i64 0, .int .i64 0, .int .i64 0, .int .i64 0, .int .i64 0, .int .i64 0, .int .i64 0, .int .i64 0, .int .i64 0, .int .i64 0, .int .i64 0, .int .i64 0, .int .i64 0, .int .i64 0, .int .i64 0, .int .i64 0, .int .i64 0, .int .i64 0, .int .i64 0, .int .i64 0] 27)).alloc (.cells #[.int .i64 0, .int .i64 0, .int .i64 0, .int .i64 0, .int .i64 0, .int .i64 0] 31) = W at J2 J3 hB ⊢
  clear hg2 hg3
  go_upto_region 2 with (refine wpList_store_new rfl 27 _ _ rfl _ SX rfl (by rw [HSX.out]; rfl) (by rw [HS2.out]; exact sat_size) (by rw [HS2.out]; rfl) HS1.out ?_)
  have J4 : Blk (W.alloc (.cells SX 27)) W.heap.size 27 SX := Blk.new _ _ _
  have hx : Ext W (W.alloc (.cells SX 27)) := bl_alloc (Below.refl _ _) _
  obtain ⟨g4, hg4⟩ : ∃ g, g = W.heap.size := ⟨_, rfl⟩
  rw [← hg4] at J4 ⊢
  generalize W.alloc (.cells SX 27) = W1 at J4 hx ⊢
  have J2 := J2.ext hx
  have J3 := J3.ext hx
  have hB := bl_then hB hx
  clear hx hg4
  have JJ := J3.rowFar (k := g2) (fun e => hl2.2.2 e.symm) SX
  go_wp2_with (first | (refine wpList_load_st rfl 27 _ rfl g4 0 rfl SX SX.toList (by simp) _ (Blk.range J4 _ rfl) Try.underlying27 rfl (by rw [Array.length_toList, HS2.out]; exact sat_size) ?_) | (refine wpList_store_row rfl 27 _ _ rfl g2 SX rfl rfl 27 _ J2 (by rw [HS2.out]; exact sat_size) (by rw [HS2.out]; rfl) HS1.out ?_) | (refine wpList_store_row rfl 31 _ _ rfl g3 TX rfl (by rw [HTX.out]; rfl) 31 _ JJ (by rw [HT2.out]; exact stn_size) (by rw [HT2.out]; rfl) HT1.out ?_))
  have J2 := (J2.row SX).rowFar (k := g3) hl2.2.2 TX
  have J3 := JJ.row TX
  have hB := below_setRow (below_setRow hB (g := g2) hl2.1 SX) (g := g3) hl2.2.1 TX
  exact bodyPost_ret (results_row2 Try.results37 _ _ g2 g3 SX TX rfl rfl J2 J3 _ _ Try.underlying27 rfl (by rw [HS2.out]; exact sat_size) Try.underlying31 rfl (by rw [HT2.out]; exact stn_size)) rfl ⟨rfl, hB⟩

end Go.Proofs.Ytlmpmhfbjblhnaa
