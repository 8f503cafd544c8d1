/- Numbers within their bounds: areIn. -/
import Derived.Test.YtlmpmhfbjblhnaaA6
namespace Go.Proofs.Ytlmpmhfbjblhnaa
open Go.RowKit

structure Bnd where
  n : Int
  lo : Int
  hi : Int
def bndCells (b : Bnd) : List Value := [.int .i64 b.n, .int .i64 b.lo, .int .i64 b.hi]
def bndOut (b : Bnd) : Bool := !inB b.n b.lo b.hi
def idxB (p : Bnd → Bool) : List Bnd → Int → Int
  | [], _ => -1
  | x :: r, k => if p x then k else idxB p r (k + 1)
theorem idxB_any (p : Bnd → Bool) (l : List Bnd) (k : Int) (hk : 0 ≤ k) : (0 ≤ idxB p l k) = (l.any p = true) := by
  induction l generalizing k with
  | nil => simp [idxB]
  | cons x r ih =>
    unfold idxB
    cases hx : p x
    · simp [hx, ih (k + 1) (by omega)]
    · simp [hx, hk]
theorem idxB_drop (p : Bnd → Bool) (l : List Bnd) (k : Nat) (h : k < l.length) : idxB p (l.drop k) k = if p l[k] then (k : Int) else idxB p (l.drop (k + 1)) (k + 1 : Nat) := by
  rw [List.drop_eq_getElem_cons h, idxB]
  split <;> simp

/-- A slice of bounds, in a block of its own, that reads as a list. -/
def BndR (w : World) (b : Nat) (l : List Bnd) : Prop := ∀ k (h : k < l.length), w.cell? ⟨b, k * 3, none⟩ = some (.int .i64 l[k].n) ∧ w.cell? ⟨b, k * 3 + 1, none⟩ = some (.int .i64 l[k].lo) ∧ w.cell? ⟨b, k * 3 + 2, none⟩ = some (.int .i64 l[k].hi)
theorem BndR.below {w w' : World} {b B : Nat} {l : List Bnd} (h : BndR w b l) (hb : Below B w w') (hB : b < B) : BndR w' b l := fun k hk => by
  obtain ⟨h1, h2, h3⟩ := h k hk
  exact ⟨(hb.cell (p := ⟨b, k * 3, none⟩) hB).trans h1, (hb.cell (p := ⟨b, k * 3 + 1, none⟩) hB).trans h2, (hb.cell (p := ⟨b, k * 3 + 2, none⟩) hB).trans h3⟩

theorem areIn1_any (x lo hi : Int) (w : World) :
    Calls Try.prog 74 #[.agg #[.int .i64 x, .int .i64 lo, .int .i64 hi]] w fun e w' => e = .returned (.bool (!inB x lo hi)) ∧ Below w.heap.size w w' := by
  go_enter Try.func74, Try.ntmps74
  go_wp2_with (go_at_call 59; refine (isIn_any _ _ _ _).mono ?_; rintro e w' ⟨rfl, rfl⟩)
  go_ret
  exact ⟨by simp, (by repeat (first | exact Below.refl _ _ | assumption | refine Below.drew ?_ | refine below_drewN ?_ _ | refine bl_alloc ?_ _ | refine Below.setCell ?_ (by first | (simp; done) | omega | (simp; omega)) _ | refine bl_then ?_ (by assumption)))⟩

theorem indexBnd (l : List Bnd) (b n c : Nat) (w : World) (hl : l.length = n) (h : BndR w b l) (hb : b < w.heap.size) (hn : n ≤ 1099511627776) :
    Calls Try.prog 86 #[.slice (some ⟨b, 0, none⟩) n c, .func (.func 74) #[] #[]] w
      fun e w' => e = .returned (.int .i64 (idxB bndOut l 0)) ∧ Below w.heap.size w w' := by
  have HL := Lib.hid hl
  have HB := Lib.hid h
  clear hl h
  go_enter Try.func86, Try.ntmps86
  go_wp2
  go_loopw [8] (fun i wr => ∃ k : Nat, k ≤ n ∧ i = .int .i64 k ∧ Hid (idxB bndOut l 0 = idxB bndOut (l.drop k) k) ∧ Below w.heap.size w wr) (fun i _ => n - (intOf i).toNat)
  case atStart => exact ⟨0, Nat.zero_le _, rfl, rfl, Below.refl _ _⟩
  case round =>
    obtain ⟨k, hk, rfl, H, hB⟩ := hrel
    by_cases hlt : k < n
    · have hz : k < l.length := by rw [HL.out]; exact hlt
      obtain ⟨f0, f1, f2⟩ := (HB.out.below hB hb) k hz
      have hst := idxB_drop bndOut l k hz
      rw [← H.out] at hst
      have he : bndOut l[k] = !inB l[k].n l[k].lo l[k].hi := rfl
      rw [he] at hst
      have HF := Lib.hid (areIn1_any l[k].n l[k].lo l[k].hi)
      clear he
      generalize inB l[k].n l[k].lo l[k].hi = q at hst HF
      generalize l[k].n = x at f0 HF
      generalize l[k].lo = lo at f1 HF
      generalize l[k].hi = hi at f2 HF
      have HS := Lib.hid hst
      clear hst hz
      go_wp2_with fail
      refine (HF.out _).mono ?_
      rintro e w2 ⟨rfl, hb2⟩
      have hB2 : Below w.heap.size w w2 := bl_then hB hb2
      cases q
      · go_wp2
        go_ret
        exact ⟨by rw [HS.out]; simp, hB2⟩
      · go_wp2
        go_roundw
        case rel => exact ⟨k + 1, by omega, by go_num, HS.out.trans (by simp), hB2⟩
        case measure => simp [intOf]; omega
    · go_wp2
      go_ret
      exact ⟨by rw [H.out, List.drop_of_length_le (by rw [HL.out]; omega)]; rfl, hB⟩

end Go.Proofs.Ytlmpmhfbjblhnaa
