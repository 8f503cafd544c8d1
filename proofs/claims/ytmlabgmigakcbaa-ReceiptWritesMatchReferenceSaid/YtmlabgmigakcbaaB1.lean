/- The small functions of contact; a station that is valid (from contact's texts). -/
import Derived.Test.YtmlabgmigakcbaaMem
import Derived.Test.YtmlabgmigakcbaaPc
import Derived.BigRegion
namespace Go.Proofs.Ytmlabgmigakcbaa
open Go.RowKit

theorem isIn_any (n lo hi : Int) (w : World) :
    Calls Try.prog 100 #[.int .i64 n, .int .i64 lo, .int .i64 hi] w fun e w' => e = .returned (.bool (inB n lo hi)) ∧ w = w' := by
  by_cases h1 : lo ≤ n
  · have e : inB n lo hi = decide (n ≤ hi) := by simp [inB, h1]
    rw [e]
    go_enter Try.func100, Try.ntmps100
    go_wp2
    go_ret
    exact ⟨by first | rfl | simp [*], rfl⟩
  · have e : inB n lo hi = false := by simp [inB, h1]
    rw [e]
    go_enter Try.func100, Try.ntmps100
    go_wp2
    go_ret
    exact ⟨rfl, rfl⟩
theorem gin_any (n lo hi : Int) (w : World) :
    Calls Try.prog 101 #[.int .i64 n, .int .i64 lo, .int .i64 hi] w fun e w' => e = .returned (.bool (inB n lo hi)) ∧ w = w' := by
  by_cases h1 : lo ≤ n
  · have e : inB n lo hi = decide (n ≤ hi) := by simp [inB, h1]
    rw [e]
    go_enter Try.func101, Try.ntmps101
    go_wp2
    go_ret
    exact ⟨by first | rfl | simp [*], rfl⟩
  · have e : inB n lo hi = false := by simp [inB, h1]
    rw [e]
    go_enter Try.func101, Try.ntmps101
    go_wp2
    go_ret
    exact ⟨rfl, rfl⟩
theorem validCell_any (x y : Int) (w : World) :
    Calls Try.prog 92 #[.agg #[.int .i64 x, .int .i64 y]] w fun e w' => e = .returned (.bool (celOK ⟨x, y⟩)) ∧ Below w.heap.size w w' := by
  have hb : celOK ⟨x, y⟩ = (inB x 0 47 && inB y 0 23) := rfl
  rw [hb]
  clear hb
  generalize e0 : inB x 0 47 = b0
  generalize e1 : inB y 0 23 = b1
  have E0 := Lib.hid e0
  have E1 := Lib.hid e1
  clear e0 e1
  go_enter Try.func92, Try.ntmps92
  go_wp2_with (go_at_call 101; refine (gin_any _ _ _ _).mono ?_; rintro e w' ⟨rfl, rfl⟩; first | rw [E0.out] | rw [E1.out])
  all_goals
    go_ret
    exact ⟨by simp [*], (by repeat (first | exact Below.refl _ _ | assumption | refine Below.drew ?_ | refine below_drewN ?_ _ | refine bl_alloc ?_ _ | refine Below.setCell ?_ (by first | (simp; done) | omega | (simp; omega)) _ | refine bl_then ?_ (by assumption)))⟩
theorem Blk.new_at {g : Nat} (w : World) (t : TypeId) (cs : Array Value) (h : w.heap.size = g) : Blk (w.alloc (.cells cs t)) g t cs := by subst h; exact Blk.new w t cs
structure Bnd where
  n : Int
  lo : Int
  hi : Int
def bndCells (b : Bnd) : List Value := [.int .i64 b.n, .int .i64 b.lo, .int .i64 b.hi]
def bndOut (b : Bnd) : Bool := !inB b.n b.lo b.hi
def idxB (p : Bnd → Bool) : List Bnd → Int → Int
  | [], _ => -1
  | x :: r, k => if p x then k else idxB p r (k + 1)
theorem idxB_any (p : Bnd → Bool) (l : List Bnd) (k : Int) (hk : 0 ≤ k) : (0 ≤ idxB p l k) = (l.any p = true) := by
  induction l generalizing k with
  | nil => simp [idxB]
  | cons x r ih =>
    unfold idxB
    cases hx : p x
    · simp [hx, ih (k + 1) (by omega)]
    · simp [hx, hk]
theorem idxB_drop (p : Bnd → Bool) (l : List Bnd) (k : Nat) (h : k < l.length) : idxB p (l.drop k) k = if p l[k] then (k : Int) else idxB p (l.drop (k + 1)) (k + 1 : Nat) := by
  rw [List.drop_eq_getElem_cons h, idxB]
  split <;> simp

/-- A slice of bounds, in a block of its own, that reads as a list. -/
def BndR (w : World) (b : Nat) (l : List Bnd) : Prop := ∀ k (h : k < l.length), w.cell? ⟨b, k * 3, none⟩ = some (.int .i64 l[k].n) ∧ w.cell? ⟨b, k * 3 + 1, none⟩ = some (.int .i64 l[k].lo) ∧ w.cell? ⟨b, k * 3 + 2, none⟩ = some (.int .i64 l[k].hi)
theorem BndR.below {w w' : World} {b B : Nat} {l : List Bnd} (h : BndR w b l) (hb : Below B w w') (hB : b < B) : BndR w' b l := fun k hk => by
  obtain ⟨h1, h2, h3⟩ := h k hk
  exact ⟨(hb.cell (p := ⟨b, k * 3, none⟩) hB).trans h1, (hb.cell (p := ⟨b, k * 3 + 1, none⟩) hB).trans h2, (hb.cell (p := ⟨b, k * 3 + 2, none⟩) hB).trans h3⟩

theorem areIn1_any (x lo hi : Int) (w : World) :
    Calls Try.prog 99 #[.agg #[.int .i64 x, .int .i64 lo, .int .i64 hi]] w fun e w' => e = .returned (.bool (!inB x lo hi)) ∧ Below w.heap.size w w' := by
  go_enter Try.func99, Try.ntmps99
  go_wp2_with (go_at_call 100; refine (isIn_any _ _ _ _).mono ?_; rintro e w' ⟨rfl, rfl⟩)
  go_ret
  exact ⟨by simp, (by repeat (first | exact Below.refl _ _ | assumption | refine Below.drew ?_ | refine below_drewN ?_ _ | refine bl_alloc ?_ _ | refine Below.setCell ?_ (by first | (simp; done) | omega | (simp; omega)) _ | refine bl_then ?_ (by assumption)))⟩

theorem indexBnd (l : List Bnd) (b n c : Nat) (w : World) (hl : l.length = n) (h : BndR w b l) (hb : b < w.heap.size) (hn : n ≤ 1099511627776) :
    Calls Try.prog 103 #[.slice (some ⟨b, 0, none⟩) n c, .func (.func 99) #[] #[]] w
      fun e w' => e = .returned (.int .i64 (idxB bndOut l 0)) ∧ Below w.heap.size w w' := by
  have HL := Lib.hid hl
  have HB := Lib.hid h
  clear hl h
  go_enter Try.func103, Try.ntmps103
  go_wp2
  go_loopw [8] (fun i wr => ∃ k : Nat, k ≤ n ∧ i = .int .i64 k ∧ Hid (idxB bndOut l 0 = idxB bndOut (l.drop k) k) ∧ Below w.heap.size w wr) (fun i _ => n - (intOf i).toNat)
  case atStart => exact ⟨0, Nat.zero_le _, rfl, rfl, Below.refl _ _⟩
  case round =>
    obtain ⟨k, hk, rfl, H, hB⟩ := hrel
    by_cases hlt : k < n
    · have hz : k < l.length := by rw [HL.out]; exact hlt
      obtain ⟨f0, f1, f2⟩ := (HB.out.below hB hb) k hz
      have hst := idxB_drop bndOut l k hz
      rw [← H.out] at hst
      have he : bndOut l[k] = !inB l[k].n l[k].lo l[k].hi := rfl
      rw [he] at hst
      have HF := Lib.hid (areIn1_any l[k].n l[k].lo l[k].hi)
      clear he
      generalize inB l[k].n l[k].lo l[k].hi = q at hst HF
      generalize l[k].n = x at f0 HF
      generalize l[k].lo = lo at f1 HF
      generalize l[k].hi = hi at f2 HF
      have HS := Lib.hid hst
      clear hst hz
      go_wp2_with fail
      refine (HF.out _).mono ?_
      rintro e w2 ⟨rfl, hb2⟩
      have hB2 : Below w.heap.size w w2 := bl_then hB hb2
      cases q
      · go_wp2
        go_ret
        exact ⟨by rw [HS.out]; simp, hB2⟩
      · go_wp2
        go_roundw
        case rel => exact ⟨k + 1, by omega, by go_num, HS.out.trans (by simp), hB2⟩
        case measure => simp [intOf]; omega
    · go_wp2
      go_ret
      exact ⟨by rw [H.out, List.drop_of_length_le (by rw [HL.out]; omega)]; rfl, hB⟩

theorem containsBnd (l : List Bnd) (b n c : Nat) (w : World) (hl : l.length = n) (h : BndR w b l) (hb : b < w.heap.size) (hn : n ≤ 1099511627776) :
    Calls Try.prog 98 #[.slice (some ⟨b, 0, none⟩) n c, .func (.func 99) #[] #[]] w
      fun e w' => e = .returned (.bool (l.any bndOut)) ∧ Below w.heap.size w w' := by
  have hf := indexBnd l b n c w hl h hb hn
  have hbb : l.any bndOut = decide (0 ≤ idxB bndOut l 0) := by
    rw [Bool.eq_iff_iff, ← idxB_any _ _ 0 (by omega), decide_eq_true_iff]
  rw [hbb]
  generalize idxB bndOut l 0 = r at hf
  have HF := Lib.hid hf
  clear hf hbb h hl
  go_enter Try.func98, Try.ntmps98
  go_wp2_with (go_at_call 103; refine HF.out.mono ?_; rintro e w' ⟨rfl, hb'⟩)
  go_ret
  exact ⟨rfl, (by repeat (first | exact Below.refl _ _ | assumption | refine Below.drew ?_ | refine below_drewN ?_ _ | refine bl_alloc ?_ _ | refine Below.setCell ?_ (by first | (simp; done) | omega | (simp; omega)) _ | refine bl_then ?_ (by assumption)))⟩

theorem areIn_any (l : List Bnd) (b n c : Nat) (w : World) (hl : l.length = n) (h : BndR w b l) (hb : b < w.heap.size) (hn : n ≤ 1099511627776) :
    Calls Try.prog 91 #[.slice (some ⟨b, 0, none⟩) n c] w
      fun e w' => e = .returned (.bool (l.all fun x => inB x.n x.lo x.hi)) ∧ Below w.heap.size w w' := by
  have hf := containsBnd l b n c w hl h hb hn
  have hbb : (l.all fun x => inB x.n x.lo x.hi) = !(l.any bndOut) := by
    rw [List.any_eq_not_all_not, Bool.not_not]
    simp [bndOut]
  rw [hbb]
  generalize l.any bndOut = r at hf
  have HF := Lib.hid hf
  clear hf hbb h hl
  go_enter Try.func91, Try.ntmps91
  go_wp2_with (go_at_call 98; refine HF.out.mono ?_; rintro e w' ⟨rfl, hb'⟩)
  go_ret
  exact ⟨by simp, (by repeat (first | exact Below.refl _ _ | assumption | refine Below.drew ?_ | refine below_drewN ?_ _ | refine bl_alloc ?_ _ | refine Below.setCell ?_ (by first | (simp; done) | omega | (simp; omega)) _ | refine bl_then ?_ (by assumption)))⟩

theorem BndR.of_blk4 {w : World} {b : Nat} {t : TypeId} {b0 b1 b2 b3 : Bnd} (h : Blk w b t (bndCells b0 ++ bndCells b1 ++ bndCells b2 ++ bndCells b3).toArray) : BndR w b [b0, b1, b2, b3] := fun k hk => by
  have hk : k < 4 := hk
  match k, hk with
  | 0, _ => exact ⟨h.cell 0, h.cell 1, h.cell 2⟩
  | 1, _ => exact ⟨h.cell 3, h.cell 4, h.cell 5⟩
  | 2, _ => exact ⟨h.cell 6, h.cell 7, h.cell 8⟩
  | 3, _ => exact ⟨h.cell 9, h.cell 10, h.cell 11⟩

theorem station_valid (id x y re an sk : Int) (w : World) :
    Calls Try.prog 76 #[.agg #[.int .i64 id, .int .i64 x, .int .i64 y, .int .i64 re, .int .i64 an, .int .i64 sk]] w fun e w' => e = .returned (.bool (stnOK ⟨id, ⟨x, y⟩, re, an, sk⟩)) ∧ Below w.heap.size w w' := by
  have hs : stnOK ⟨id, ⟨x, y⟩, re, an, sk⟩ = (([⟨id, 0, 11⟩, ⟨re, 0, 6⟩, ⟨an, 1, 8⟩, ⟨sk, 0, 30⟩] : List Bnd).all (fun b => inB b.n b.lo b.hi) && celOK ⟨x, y⟩) := by
    simp only [stnOK, List.all_cons, List.all_nil, Bool.and_true]
    generalize inB id 0 11 = a
    generalize inB re 0 6 = b
    generalize inB an 1 8 = c
    generalize inB sk 0 30 = d
    generalize celOK ⟨x, y⟩ = e
    revert a b c d e
    decide
  rw [hs]
  clear hs
  generalize ha : ([⟨id, 0, 11⟩, ⟨re, 0, 6⟩, ⟨an, 1, 8⟩, ⟨sk, 0, 30⟩] : List Bnd).all (fun b => inB b.n b.lo b.hi) = a
  have HA := Lib.hid ha
  clear ha
  have V := validCell_any x y
  generalize celOK ⟨x, y⟩ = q at V ⊢
  have HV := Lib.hid V
  clear V
  go_enter Try.func76, Try.ntmps76
  go_wp2_with fail
  have K : Blk ((w.alloc (.cells #[.int .i64 id, .int .i64 x, .int .i64 y, .int .i64 re, .int .i64 an, .int .i64 sk] 122)).alloc (.cells #[.int .i64 id, .int .i64 0, .int .i64 11, .int .i64 re, .int .i64 0, .int .i64 6, .int .i64 an, .int .i64 1, .int .i64 8, .int .i64 sk, .int .i64 0, .int .i64 30] 149)) w.heap.size 122 #[.int .i64 id, .int .i64 x, .int .i64 y, .int .i64 re, .int .i64 an, .int .i64 sk] := (Blk.new _ _ _).alloc _
  have K2 : Blk ((w.alloc (.cells #[.int .i64 id, .int .i64 x, .int .i64 y, .int .i64 re, .int .i64 an, .int .i64 sk] 122)).alloc (.cells #[.int .i64 id, .int .i64 0, .int .i64 11, .int .i64 re, .int .i64 0, .int .i64 6, .int .i64 an, .int .i64 1, .int .i64 8, .int .i64 sk, .int .i64 0, .int .i64 30] 149)) (w.heap.size + 1) 149 #[.int .i64 id, .int .i64 0, .int .i64 11, .int .i64 re, .int .i64 0, .int .i64 6, .int .i64 an, .int .i64 1, .int .i64 8, .int .i64 sk, .int .i64 0, .int .i64 30] := by
    have k := Blk.new (w.alloc (.cells #[.int .i64 id, .int .i64 x, .int .i64 y, .int .i64 re, .int .i64 an, .int .i64 sk] 122)) 149 #[.int .i64 id, .int .i64 0, .int .i64 11, .int .i64 re, .int .i64 0, .int .i64 6, .int .i64 an, .int .i64 1, .int .i64 8, .int .i64 sk, .int .i64 0, .int .i64 30]
    rw [World.size_alloc] at k
    exact k
  have hb : Below w.heap.size w ((w.alloc (.cells #[.int .i64 id, .int .i64 x, .int .i64 y, .int .i64 re, .int .i64 an, .int .i64 sk] 122)).alloc (.cells #[.int .i64 id, .int .i64 0, .int .i64 11, .int .i64 re, .int .i64 0, .int .i64 6, .int .i64 an, .int .i64 1, .int .i64 8, .int .i64 sk, .int .i64 0, .int .i64 30] 149)) := (by repeat (first | exact Below.refl _ _ | assumption | refine Below.drew ?_ | refine below_drewN ?_ _ | refine bl_alloc ?_ _ | refine Below.setCell ?_ (by first | (simp; done) | omega | (simp; omega)) _ | refine bl_then ?_ (by assumption)))
  generalize (w.alloc (.cells #[.int .i64 id, .int .i64 x, .int .i64 y, .int .i64 re, .int .i64 an, .int .i64 sk] 122)).alloc (.cells #[.int .i64 id, .int .i64 0, .int .i64 11, .int .i64 re, .int .i64 0, .int .i64 6, .int .i64 an, .int .i64 1, .int .i64 8, .int .i64 sk, .int .i64 0, .int .i64 30] 149) = W at K K2 hb ⊢
  refine (areIn_any [⟨id, 0, 11⟩, ⟨re, 0, 6⟩, ⟨an, 1, 8⟩, ⟨sk, 0, 30⟩] (w.heap.size + 1) 4 4 W rfl (BndR.of_blk4 K2) K2.lt (by omega)).mono ?_
  rintro e W2 ⟨rfl, hb2⟩
  have K := K.below hb2 (by have := K.lt; omega)
  have hB2 : Below w.heap.size w W2 := hb.trans (Below.mono hb2 hb.size)
  clear K2 hb hb2
  have g1 : W2.cell? ⟨w.heap.size, 1, none⟩ = some (.int .i64 x) := K.cell 1
  have g2 : W2.cell? ⟨w.heap.size, 2, none⟩ = some (.int .i64 y) := K.cell 2
  clear K
  rw [HA.out]
  clear HA
  cases a
  · go_wp2
    go_ret
    exact ⟨by simp, hB2⟩
  · go_wp2_with fail
    refine (HV.out _).mono ?_
    rintro e W3 ⟨rfl, hb3⟩
    have hB3 : Below w.heap.size w W3 := bl_then hB2 hb3
    go_wp2
    go_ret
    exact ⟨by simp, hB3⟩

end Go.Proofs.Ytmlabgmigakcbaa
