/- The reference: contacts (printed by contact_c9.py). -/
import Derived.Test.YtlmpmhfbjblhnaaC3
import Derived.Test.YtlmpmhfbjblhnaaReg6
import Derived.Test.YtlmpmhfbjblhnaaRw
namespace Go.Proofs.Ytlmpmhfbjblhnaa
open Go.RowKit

/-- A minute more at the end of spells. -/
def pushS : List Spl → Int → List Spl
  | [], m => [⟨m, m + 1⟩]
  | [s], m => if s.tt = m then [⟨s.fr, m + 1⟩] else [s, ⟨m, m + 1⟩]
  | s :: x :: r, m => s :: pushS (x :: r) m
def consS (t : Int) : List Spl → List Spl
  | [] => [⟨t, t + 1⟩]
  | s :: r => if s.fr = t + 1 then ⟨t, s.tt⟩ :: r else ⟨t, t + 1⟩ :: s :: r
theorem cons_push (t m : Int) (l : List Spl) : consS t (pushS l m) = pushS (consS t l) m := by
  match l with
  | [] =>
    simp only [pushS, consS]
    by_cases h : m = t + 1
    · rw [if_pos h, if_pos h.symm]
    · rw [if_neg h, if_neg (fun e => h e.symm)]
  | [s] =>
    simp only [pushS, consS]
    by_cases h1 : s.tt = m <;> by_cases h2 : s.fr = t + 1 <;> simp [h1, h2, pushS]
  | s :: x :: r =>
    simp only [pushS, consS]
    by_cases h2 : s.fr = t + 1
    · rw [if_pos h2, if_pos h2]; rfl
    · rw [if_neg h2, if_neg h2]; rfl
theorem spells_cons (is : Int → Bool) (t : Int) (n : Nat) : spellsP is t (n + 1) = if is t then consS t (spellsP is (t + 1) n) else spellsP is (t + 1) n := by
  rw [spellsP]
  cases spellsP is (t + 1) n <;> rfl
theorem spells_snoc (is : Int → Bool) (n : Nat) : ∀ t : Int, spellsP is t (n + 1) = if is (t + n) then pushS (spellsP is t n) (t + n) else spellsP is t n := by
  induction n with
  | zero =>
    intro t
    rw [spells_cons, show t + ((0 : Nat) : Int) = t by omega]
    rfl
  | succ n ih =>
    intro t
    rw [spells_cons, ih (t + 1), spells_cons is t n, show t + ((n + 1 : Nat) : Int) = t + 1 + n by omega]
    cases is t <;> cases is (t + 1 + n) <;> simp [cons_push]
theorem pushS_nil (m : Int) : pushS [] m = [⟨m, m + 1⟩] := rfl
theorem pushS_last (m : Int) : ∀ (l : List Spl) (h : 0 < l.length), (l[l.length - 1].tt = m → pushS l m = l.set (l.length - 1) ⟨l[l.length - 1].fr, m + 1⟩) ∧ (¬ l[l.length - 1].tt = m → pushS l m = l ++ [⟨m, m + 1⟩])
  | [], h => by simp at h
  | [s], _ => by
    constructor
    · intro e; have e : s.tt = m := e; simp only [pushS]; rw [if_pos e]; rfl
    · intro e; have e : ¬ s.tt = m := e; simp only [pushS]; rw [if_neg e]; rfl
  | s :: x :: r, _ => by
    obtain ⟨i1, i2⟩ := pushS_last m (x :: r) (by simp)
    simp only [pushS, List.length_cons, Nat.add_sub_cancel, List.getElem_cons_succ, List.set_cons_succ, List.cons_append, List.cons.injEq, true_and] at i1 i2 ⊢
    exact ⟨fun e => by rw [i1 e], fun e => by rw [i2 e]⟩
theorem set_tt (l : List Spl) (i : Nat) (hi : i < l.length) (m : Int) : (l.flatMap splCells).set (i * 2 + 1) (.int .i64 m) = (l.set i ⟨l[i].fr, m⟩).flatMap splCells := by
  induction l generalizing i with
  | nil => simp at hi
  | cons s r ih =>
    cases i with
    | zero => rfl
    | succ i =>
      have := ih i (by simpa using hi)
      rw [List.set_cons_succ, List.flatMap_cons, List.flatMap_cons, ← List.getElem_cons_succ (h := hi)] at *
      rw [show (i + 1) * 2 + 1 = (splCells s).length + (i * 2 + 1) by show _ = 2 + _; omega, List.set_append_right _ _ (by omega), Nat.add_sub_cancel_left, this]
theorem spells_le (is : Int → Bool) (n : Nat) : ∀ t : Int, (spellsP is t n).length ≤ n := by
  induction n with
  | zero => intro t; simp [spellsP]
  | succ n ih =>
    intro t
    have := ih (t + 1)
    rw [spells_cons]
    split
    · cases h : spellsP is (t + 1) n with
      | nil => simp [consS]
      | cons s r => rw [h] at this; simp only [consS]; split <;> simp only [List.length_cons] at this ⊢ <;> omega
    · omega
theorem view_in {o : Orb} {s : Stn} {t la : Int} (h1 : orbOK o = true) (h2 : stnOK s = true) (h3 : 0 ≤ t ∧ t ≤ 1000000) (h4 : inB la (-o.slack) o.slack = true) : viewP o s t la = some (viewP o s t la == some true) := by
  have hs : 0 ≤ o.slack ∧ o.slack ≤ 10 := by simp only [orbOK, Bool.and_eq_true, inB_iff] at h1; exact h1.2
  have hl := inB_iff.1 h4
  have hat : atP o t la = some ⟨colP o (t - la) / 1000, rowP o (t - la) / 1000⟩ := by
    unfold atP
    rw [if_pos]
    rw [Bool.and_eq_true, Bool.and_eq_true, inB_iff, inB_iff]
    exact ⟨⟨h3, by omega, by omega⟩, h1⟩
  unfold viewP
  rw [hat]
  simp only [h2, if_true]
  generalize decide (nearP _ _ ≤ _) = q
  cases q <;> rfl

set_option maxRecDepth 100000 in
set_option maxHeartbeats 4000000 in
theorem rContacts_any (p f lo hi no tu sl id x y re an sk a b la : Int) (w : World) :
    Calls Try.prog 29 #[.agg #[.int .i64 p, .int .i64 f, .int .i64 lo, .int .i64 hi, .int .i64 no, .int .i64 tu, .int .i64 sl], .agg #[.int .i64 id, .int .i64 x, .int .i64 y, .int .i64 re, .int .i64 an, .int .i64 sk], .agg #[.int .i64 a, .int .i64 b], .int .i64 la] w
      (SpellsRet (contactsP ⟨p, f, lo, hi, no, tu, sl⟩ ⟨id, ⟨x, y⟩, re, an, sk⟩ ⟨a, b⟩ la) w) := by
  have V1 := rorbit_valid p f lo hi no tu sl
  have V2 := rstn_valid id x y re an sk
  have V3 := rspan_any a b
  have V4 := rin_any la (-sl) sl
  have V5 := fun t w => rView_any p f lo hi no tu sl id x y re an sk t la w
  have hcp : contactsP ⟨p, f, lo, hi, no, tu, sl⟩ ⟨id, ⟨x, y⟩, re, an, sk⟩ ⟨a, b⟩ la = if (orbOK ⟨p, f, lo, hi, no, tu, sl⟩ && stnOK ⟨id, ⟨x, y⟩, re, an, sk⟩ && spanOK ⟨a, b⟩ && inB la (-sl) sl) = true then some (spellsP (fun t => viewP ⟨p, f, lo, hi, no, tu, sl⟩ ⟨id, ⟨x, y⟩, re, an, sk⟩ t la == some true) a (b - a).toNat) else none := rfl
  have hsl : orbOK ⟨p, f, lo, hi, no, tu, sl⟩ = true → 0 ≤ sl ∧ sl ≤ 10 := fun h => by
    simp only [orbOK, Bool.and_eq_true, inB_iff] at h
    exact h.2
  have hsp : spanOK ⟨a, b⟩ = true → 0 ≤ a ∧ a < b ∧ b ≤ 1000001 ∧ b - a ≤ 4320 := fun h => by simpa [spanOK] using h
  have hvi : orbOK ⟨p, f, lo, hi, no, tu, sl⟩ = true → stnOK ⟨id, ⟨x, y⟩, re, an, sk⟩ = true → inB la (-sl) sl = true → ∀ t, 0 ≤ t → t ≤ 1000000 → viewP ⟨p, f, lo, hi, no, tu, sl⟩ ⟨id, ⟨x, y⟩, re, an, sk⟩ t la = some (viewP ⟨p, f, lo, hi, no, tu, sl⟩ ⟨id, ⟨x, y⟩, re, an, sk⟩ t la == some true) := fun h1 h2 h4 t t1 t2 => view_in h1 h2 ⟨t1, t2⟩ h4
  rw [hcp]
  clear hcp
  obtain ⟨is, his⟩ : ∃ is : Int → Bool, is = fun t => viewP ⟨p, f, lo, hi, no, tu, sl⟩ ⟨id, ⟨x, y⟩, re, an, sk⟩ t la == some true := ⟨_, rfl⟩
  obtain ⟨N, hN⟩ : ∃ N, N = (b - a).toNat := ⟨_, rfl⟩
  rw [← his, ← hN]
  have HIS := Lib.hid his
  have HN0 := Lib.hid hN
  clear his hN
  obtain ⟨res, hres⟩ : ∃ res, res = if (orbOK ⟨p, f, lo, hi, no, tu, sl⟩ && stnOK ⟨id, ⟨x, y⟩, re, an, sk⟩ && spanOK ⟨a, b⟩ && inB la (-sl) sl) = true then some (spellsP is a N) else none := ⟨_, rfl⟩
  rw [← hres]
  generalize orbOK ⟨p, f, lo, hi, no, tu, sl⟩ = q1 at V1 hsl hvi hres
  generalize stnOK ⟨id, ⟨x, y⟩, re, an, sk⟩ = q2 at V2 hvi hres
  generalize spanOK ⟨a, b⟩ = q3 at V3 hsp hres
  generalize inB la (-sl) sl = q4 at V4 hvi hres
  have HRES := Lib.hid hres
  clear hres
  have HSL := Lib.hid hsl
  have HSP := Lib.hid hsp
  have HVI := Lib.hid hvi
  have H1 := Lib.hid V1
  have H2 := Lib.hid V2
  have H3 := Lib.hid V3
  have H4 := Lib.hid V4
  have H5 := Lib.hid V5
  clear V1 V2 V3 V4 V5 hsl hsp hvi
  go_enter Try.func29, Try.ntmps29
  go_upto_region 1 with (fail)
  obtain ⟨g1, hg1⟩ : ∃ g, g = w.heap.size := ⟨_, rfl⟩
  obtain ⟨g2, hg2⟩ : ∃ g, g = w.heap.size + 1 := ⟨_, rfl⟩
  obtain ⟨g3, hg3⟩ : ∃ g, g = w.heap.size + 1 + 1 := ⟨_, rfl⟩
  have J1 : Blk (((w.alloc (.cells #[.int .i64 p, .int .i64 f, .int .i64 lo, .int .i64 hi, .int .i64 no, .int .i64 tu, .int .i64 sl] 25)).alloc (.cells #[.int .i64 id, .int .i64 x, .int .i64 y, .int .i64 re, .int .i64 an, .int .i64 sk] 31)).alloc (.cells #[.int .i64 a, .int .i64 b] 34)) g1 25 #[.int .i64 p, .int .i64 f, .int .i64 lo, .int .i64 hi, .int .i64 no, .int .i64 tu, .int .i64 sl] := ((Blk.new_at _ _ _ hg1.symm).alloc _).alloc _
  have J2 : Blk (((w.alloc (.cells #[.int .i64 p, .int .i64 f, .int .i64 lo, .int .i64 hi, .int .i64 no, .int .i64 tu, .int .i64 sl] 25)).alloc (.cells #[.int .i64 id, .int .i64 x, .int .i64 y, .int .i64 re, .int .i64 an, .int .i64 sk] 31)).alloc (.cells #[.int .i64 a, .int .i64 b] 34)) g2 31 #[.int .i64 id, .int .i64 x, .int .i64 y, .int .i64 re, .int .i64 an, .int .i64 sk] := (Blk.new_at _ _ _ (by simp [hg2])).alloc _
  have J3 : Blk (((w.alloc (.cells #[.int .i64 p, .int .i64 f, .int .i64 lo, .int .i64 hi, .int .i64 no, .int .i64 tu, .int .i64 sl] 25)).alloc (.cells #[.int .i64 id, .int .i64 x, .int .i64 y, .int .i64 re, .int .i64 an, .int .i64 sk] 31)).alloc (.cells #[.int .i64 a, .int .i64 b] 34)) g3 34 #[.int .i64 a, .int .i64 b] := Blk.new_at _ _ _ (by simp [hg3])
  have hB : Below w.heap.size w (((w.alloc (.cells #[.int .i64 p, .int .i64 f, .int .i64 lo, .int .i64 hi, .int .i64 no, .int .i64 tu, .int .i64 sl] 25)).alloc (.cells #[.int .i64 id, .int .i64 x, .int .i64 y, .int .i64 re, .int .i64 an, .int .i64 sk] 31)).alloc (.cells #[.int .i64 a, .int .i64 b] 34)) := (by repeat (first | exact Below.refl _ _ | assumption | refine Below.drew ?_ | refine below_drewN ?_ _ | refine bl_alloc ?_ _ | refine Below.setCell ?_ (by first | (simp; done) | omega | (simp; omega)) _ | refine bl_then ?_ (by assumption)))
  rw [← hg3, ← hg2, ← hg1]
  generalize ((w.alloc (.cells #[.int .i64 p, .int .i64 f, .int .i64 lo, .int .i64 hi, .int .i64 no, .int .i64 tu, .int .i64 sl] 25)).alloc (.cells #[.int .i64 id, .int .i64 x, .int .i64 y, .int .i64 re, .int .i64 an, .int .i64 sk] 31)).alloc (.cells #[.int .i64 a, .int .i64 b] 34) = W at J1 J2 J3 hB ⊢
  clear hg1 hg2 hg3
  have o0 : W.cell? ⟨g1, 0, none⟩ = some (.int .i64 p) := J1.cell 0
  have o1 : W.cell? ⟨g1, 1, none⟩ = some (.int .i64 f) := J1.cell 1
  have o2 : W.cell? ⟨g1, 2, none⟩ = some (.int .i64 lo) := J1.cell 2
  have o3 : W.cell? ⟨g1, 3, none⟩ = some (.int .i64 hi) := J1.cell 3
  have o4 : W.cell? ⟨g1, 4, none⟩ = some (.int .i64 no) := J1.cell 4
  have o5 : W.cell? ⟨g1, 5, none⟩ = some (.int .i64 tu) := J1.cell 5
  have o6 : W.cell? ⟨g1, 6, none⟩ = some (.int .i64 sl) := J1.cell 6
  go_wp2_with fail
  refine (H1.out _).mono ?_
  rintro e W1 ⟨rfl, hx⟩
  clear o0 o1 o2 o3 o4 o5 o6
  have J1 := J1.ext hx
  have J2 := J2.ext hx
  have J3 := J3.ext hx
  have hB := bl_then hB hx
  clear hx
  cases q1
  · go_wp2
    go_ret2
    exact (by rw [show res = none by rw [HRES.out]; simp]; exact ⟨rfl, hB⟩)
  have s0 : W1.cell? ⟨g2, 0, none⟩ = some (.int .i64 id) := J2.cell 0
  have s1 : W1.cell? ⟨g2, 1, none⟩ = some (.int .i64 x) := J2.cell 1
  have s2 : W1.cell? ⟨g2, 2, none⟩ = some (.int .i64 y) := J2.cell 2
  have s3 : W1.cell? ⟨g2, 3, none⟩ = some (.int .i64 re) := J2.cell 3
  have s4 : W1.cell? ⟨g2, 4, none⟩ = some (.int .i64 an) := J2.cell 4
  have s5 : W1.cell? ⟨g2, 5, none⟩ = some (.int .i64 sk) := J2.cell 5
  go_wp2_with fail
  refine (H2.out _).mono ?_
  rintro e W2 ⟨rfl, hx⟩
  clear s0 s1 s2 s3 s4 s5
  have J1 := J1.ext hx
  have J2 := J2.ext hx
  have J3 := J3.ext hx
  have hB := bl_then hB hx
  clear hx
  cases q2
  · go_wp2
    go_ret2
    exact (by rw [show res = none by rw [HRES.out]; simp]; exact ⟨rfl, hB⟩)
  have p0 : W2.cell? ⟨g3, 0, none⟩ = some (.int .i64 a) := J3.cell 0
  have p1 : W2.cell? ⟨g3, 1, none⟩ = some (.int .i64 b) := J3.cell 1
  go_wp2_with fail
  refine (H3.out _).mono ?_
  rintro e W3 ⟨rfl, hx⟩
  clear p0 p1
  have J1 := J1.ext hx
  have J2 := J2.ext hx
  have J3 := J3.ext hx
  have hB := bl_then hB hx
  clear hx
  cases q3
  · go_wp2
    go_ret2
    exact (by rw [show res = none by rw [HRES.out]; simp]; exact ⟨rfl, hB⟩)
  obtain ⟨sl1, sl2⟩ := (show 0 ≤ sl ∧ sl ≤ 10 by first | exact HSL.out rfl | exact HSL.out trivial)
  have o0 : W3.cell? ⟨g1, 0, none⟩ = some (.int .i64 p) := J1.cell 0
  have o1 : W3.cell? ⟨g1, 1, none⟩ = some (.int .i64 f) := J1.cell 1
  have o2 : W3.cell? ⟨g1, 2, none⟩ = some (.int .i64 lo) := J1.cell 2
  have o3 : W3.cell? ⟨g1, 3, none⟩ = some (.int .i64 hi) := J1.cell 3
  have o4 : W3.cell? ⟨g1, 4, none⟩ = some (.int .i64 no) := J1.cell 4
  have o5 : W3.cell? ⟨g1, 5, none⟩ = some (.int .i64 tu) := J1.cell 5
  have o6 : W3.cell? ⟨g1, 6, none⟩ = some (.int .i64 sl) := J1.cell 6
  go_wp2_with fail
  refine (H4.out _).mono ?_
  rintro e W4 ⟨rfl, rfl⟩
  cases q4
  · go_wp2
    go_ret2
    exact (by rw [show res = none by rw [HRES.out]; simp]; exact ⟨rfl, hB⟩)
  obtain ⟨a1, a2, a3, a4⟩ := (show 0 ≤ a ∧ a < b ∧ b ≤ 1000001 ∧ b - a ≤ 4320 by first | exact HSP.out rfl | exact HSP.out trivial)
  have hvi : ∀ t, 0 ≤ t → t ≤ 1000000 → viewP ⟨p, f, lo, hi, no, tu, sl⟩ ⟨id, ⟨x, y⟩, re, an, sk⟩ t la = some (viewP ⟨p, f, lo, hi, no, tu, sl⟩ ⟨id, ⟨x, y⟩, re, an, sk⟩ t la == some true) := by first | exact HVI.out rfl rfl rfl | exact HVI.out trivial trivial trivial | exact HVI.out trivial trivial rfl
  have hview : ∀ t w, 0 ≤ t → t ≤ 1000000 → Calls Try.prog 27 #[.agg #[.int .i64 p, .int .i64 f, .int .i64 lo, .int .i64 hi, .int .i64 no, .int .i64 tu, .int .i64 sl], .agg #[.int .i64 id, .int .i64 x, .int .i64 y, .int .i64 re, .int .i64 an, .int .i64 sk], .int .i64 t, .int .i64 la] w fun e w' => e = .returned (.tuple #[.bool (is t), .int .i64 0]) ∧ Below w.heap.size w w' := fun t w t1 t2 => by
    have h := H5.out t w
    rw [hvi t t1 t2] at h
    rw [HIS.out]
    exact h
  have HVW := Lib.hid hview
  clear hvi hview HVI H1 H2 H3 H4 H5 HSL HSP
  clear o0 o1 o2 o3 o4 o5 o6
  have hN : (N : Int) = b - a := by have := HN0.out; omega
  have HN := Lib.hid hN
  clear hN
  have p0 : W3.cell? ⟨g3, 0, none⟩ = some (.int .i64 a) := J3.cell 0
  have p1 : W3.cell? ⟨g3, 1, none⟩ = some (.int .i64 b) := J3.cell 1
  obtain ⟨Wb, hWb⟩ : ∃ Wb : World, Wb = W3 := ⟨_, rfl⟩
  rw [← hWb] at J1 J2 J3 hB
  have HW := Lib.hid hWb
  have hBb := hB.size
  clear hWb
  go_wp2
  clear p0 p1
  go_loopw [10, 11] (fun v t wr => ∃ k : Nat, k ≤ N ∧ t = .int .i64 (a + k) ∧ Hid (wr.ownsRow Wb.heap.size 34 2 v (spellsP is a k).length ((spellsP is a k).flatMap splCells)) ∧ Ext Wb wr) (fun _ t _ => (b - intOf t).toNat)
  case atStart => exact ⟨0, Nat.zero_le _, by go_num, Lib.hid (World.ownsRow_nil _ _ _ _), by rw [HW.out]; exact Ext.refl _⟩
  case round =>
    obtain ⟨k, hk, rfl, HR, hx⟩ := hrel
    have J1 := J1.ext hx
    have J2 := J2.ext hx
    have J3 := J3.ext hx
    obtain ⟨t, ht⟩ : ∃ t : Int, t = a + k := ⟨_, rfl⟩
    rw [← ht]
    have htN := HN.out
    have p1 : wr.cell? ⟨g3, 1, none⟩ = some (.int .i64 b) := J3.cell 1
    by_cases hlt : t < b
    · have hkN : k < N := by omega
      have hst := spells_snoc is k a
      rw [← ht] at hst
      have hlk := spells_le is k a
      have hkb : k ≤ 4320 := by omega
      have HT := Lib.hid ht
      clear ht htN
      have t1 : 0 ≤ t := by have := HT.out; omega
      have o0 : wr.cell? ⟨g1, 0, none⟩ = some (.int .i64 p) := J1.cell 0
      have o1 : wr.cell? ⟨g1, 1, none⟩ = some (.int .i64 f) := J1.cell 1
      have o2 : wr.cell? ⟨g1, 2, none⟩ = some (.int .i64 lo) := J1.cell 2
      have o3 : wr.cell? ⟨g1, 3, none⟩ = some (.int .i64 hi) := J1.cell 3
      have o4 : wr.cell? ⟨g1, 4, none⟩ = some (.int .i64 no) := J1.cell 4
      have o5 : wr.cell? ⟨g1, 5, none⟩ = some (.int .i64 tu) := J1.cell 5
      have o6 : wr.cell? ⟨g1, 6, none⟩ = some (.int .i64 sl) := J1.cell 6
      have s0 : wr.cell? ⟨g2, 0, none⟩ = some (.int .i64 id) := J2.cell 0
      have s1 : wr.cell? ⟨g2, 1, none⟩ = some (.int .i64 x) := J2.cell 1
      have s2 : wr.cell? ⟨g2, 2, none⟩ = some (.int .i64 y) := J2.cell 2
      have s3 : wr.cell? ⟨g2, 3, none⟩ = some (.int .i64 re) := J2.cell 3
      have s4 : wr.cell? ⟨g2, 4, none⟩ = some (.int .i64 an) := J2.cell 4
      have s5 : wr.cell? ⟨g2, 5, none⟩ = some (.int .i64 sk) := J2.cell 5
      go_wp2_with fail
      refine (HVW.out t _ (by omega) (by omega)).mono ?_
      rintro e W5 ⟨rfl, hx5⟩
      clear o0 o1 o2 o3 o4 o5 o6 s0 s1 s2 s3 s4 s5
      have hrow := own_ext HR.out hx5
      have hxx := Ext.trans hx hx5
      have J3 := J3.ext hx5
      clear p1 HR
      obtain ⟨q, hq⟩ : ∃ q, q = is t := ⟨_, rfl⟩
      rw [← hq] at hst ⊢
      clear hq
      cases q
      · simp only [Bool.false_eq_true, if_false] at hst
        have HNEW : Hid (W5.ownsRow Wb.heap.size 34 2 u10 (spellsP is a (k + 1)).length ((spellsP is a (k + 1)).flatMap splCells)) := Lib.hid (by rw [hst]; exact hrow)
        have HE : Hid (a + ((k + 1 : Nat) : Int) = t + 1) := Lib.hid (by have := HT.out; omega)
        clear hst hrow
        go_wp2
        go_roundw
        case rel => exact ⟨k + 1, by omega, by rw [HE.out], HNEW, hxx⟩
        case measure => simp [intOf]; omega
      · simp only [if_true] at hst
        have HE : Hid (a + ((k + 1 : Nat) : Int) = t + 1) := Lib.hid (by have := HT.out; omega)
        obtain ⟨l, hl⟩ : ∃ l, l = spellsP is a k := ⟨_, rfl⟩
        rw [← hl] at hst hrow hlk
        obtain ⟨L, hL⟩ : ∃ L, L = l.length := ⟨_, rfl⟩
        have hrow0 := hrow
        rw [← hL] at hrow hlk
        obtain ⟨A', c', hv, hc1, hc2⟩ := own_slice hrow
        subst hv
        have HST := Lib.hid hst
        have HLL := Lib.hid hL
        have HROW := Lib.hid hrow
        clear hst hl hL hrow hrow0
        unfold maxLen at hc2
        have w1_ : IntKind.i64.wrap (t + 1) = t + 1 := IntWalk.i64_in _ (by omega)
        by_cases hL0 : L = 0
        · have hpu : spellsP is a (k + 1) = l ++ [⟨t, t + 1⟩] := by rw [HST.out, List.eq_nil_of_length_eq_zero (HLL.out.symm.trans hL0)]; rfl
          have HPU := Lib.hid hpu
          have hd0 : decide (0 < L) = false := by simp; omega
          have hd1 : ¬ (0 : Int) < (L : Int) := by omega
          have hL0h := Lib.hid hL0
          clear hpu hL0
          obtain ⟨i0, hi0, hz0, hz1, hz2⟩ := info_parts info_spl
          have hWs := hxx.size
          have hx6 : Ext W5 (W5.alloc (.cells #[.int .i64 t, .int .i64 (t + 1)] 34)) := bl_alloc (Below.refl _ _) _
          have jx : Blk (W5.alloc (.cells #[.int .i64 t, .int .i64 (t + 1)] 34)) W5.heap.size 34 #[.int .i64 t, .int .i64 (t + 1)] := Blk.new _ _ _
          obtain ⟨v2, W7, hr, hrow2, hg2, -⟩ := run_append_own (P := Try.prog) (W5.alloc (.cells #[.int .i64 t, .int .i64 (t + 1)] 34)) Wb.heap.size 54 54 34 i0 _ 2 16 Try.underlying54 hi0 hz0 hz1 hz2 rfl (by omega) _ L _ (own_ext HROW.out hx6) ⟨W5.heap.size, 0, none⟩ 1 1 (splCells ⟨t, t + 1⟩) (by rfl) (by intro i u hu; rw [Addr.add_lit, Nat.zero_add, jx.cell]; simpa [splCells] using hu) (by simp [splCells, Value.oneCell']) (by unfold maxLen; omega) (by omega) (by simp; omega)
          have hB7 : Ext Wb W7 := (Ext.trans hxx hx6).grown hg2 (by simp; omega) (fun q e => (World.ownsRow.lt HROW.out q e).1)
          have hnew : W7.ownsRow Wb.heap.size 34 2 v2 (spellsP is a (k + 1)).length ((spellsP is a (k + 1)).flatMap splCells) := by
            rw [HPU.out, List.flatMap_append, List.length_append, ← HLL.out]
            simpa using hrow2
          have HNEW := Lib.hid hnew
          have HRUN := Lib.hid hr
          clear hr hrow2 hg2 hnew jx hx6
          go_wp2_with (refine wpList_append_run_ rfl _ _ _ rfl rfl rfl HRUN.out ?_)
          go_roundw
          case rel => exact ⟨k + 1, by omega, by rw [HE.out], HNEW, hB7⟩
          case measure => simp [intOf]; omega
        · obtain ⟨g, cap, hv, hgb, hglt⟩ := World.ownsRow.form HROW.out (by omega)
          injection hv with hA _ hcc
          subst hA hcc
          have hlL : L - 1 < l.length := by have := HLL.out; omega
          obtain ⟨p1, p2⟩ := pushS_last t l (by have := HLL.out; omega)
          have e1 : l.length - 1 = L - 1 := by have := HLL.out; omega
          simp only [e1] at p1 p2
          have c1 : W5.cell? ⟨g, (L - 1) * 2 + 1, none⟩ = some (.int .i64 l[L - 1].tt) := by
            rw [HROW.out.cellAt _ (by omega), flat_at_ spl_len l (L - 1) hlL 1 (by omega)]
            rfl
          have f1 : W5.frozen? ⟨g, (L - 1) * 2 + 1, none⟩ = false := HROW.out.frozenAt _
          have hpos : (0 : Int) < (L : Int) := by omega
          have hd0 : decide (0 < L) = true := by simp; omega
          have m1 : IntKind.i64.wrap ((L : Int) - 1) = (L : Int) - 1 := IntWalk.i64_in _ (by omega)
          have m2 : (0 : Int) ≤ (L : Int) - 1 := by omega
          have m3 : ((L : Int) - 1).toNat = L - 1 := by omega
          have m4 : max (0 : Int) ((L : Int) - 1) = (L : Int) - 1 := by omega
          have hset := set_tt l (L - 1) hlL (t + 1)
          generalize l[L - 1] = s at p1 p2 c1 hset
          by_cases h01 : (0 : Int) < (L : Int) - 1
          · have h02 : (1 : Int) < (L : Int) := by omega
            by_cases he : s.tt = t
            · have hpu := p1 he
              have he2 : (s.tt == t) = true := by simpa using he
              obtain ⟨h1, h2⟩ := HROW.out.stored ((L - 1) * 2 + 1) (.int .i64 (t + 1))
              have hB7 : Ext Wb (W5.setCell ⟨g, (L - 1) * 2 + 1, none⟩ (.int .i64 (t + 1))) := hxx.setCell (p := ⟨g, (L - 1) * 2 + 1, none⟩) hgb _
              have HNEW : Hid ((W5.setCell ⟨g, (L - 1) * 2 + 1, none⟩ (.int .i64 (t + 1))).ownsRow Wb.heap.size 34 2 (.slice (some ⟨g, 0, none⟩) L c') (spellsP is a (k + 1)).length ((spellsP is a (k + 1)).flatMap splCells)) := Lib.hid (by
                rw [HST.out, hpu, List.length_set, ← HLL.out, ← hset]
                exact h1)
              have HHE := Lib.hid he
              clear p1 p2 hset hpu h1 h2 he e1
              go_wp2
              go_roundw
              case rel => exact ⟨k + 1, by omega, by rw [HE.out], HNEW, hB7⟩
              case measure => simp [intOf]; omega
            · have hpu : spellsP is a (k + 1) = l ++ [⟨t, t + 1⟩] := by rw [HST.out]; exact p2 he
              have he2 : (s.tt == t) = false := by simpa using he
              have HPU := Lib.hid hpu
              clear p1 p2 hset hpu he e1 f1
              obtain ⟨i0, hi0, hz0, hz1, hz2⟩ := info_parts info_spl
              have hWs := hxx.size
              have hx6 : Ext W5 (W5.alloc (.cells #[.int .i64 t, .int .i64 (t + 1)] 34)) := bl_alloc (Below.refl _ _) _
              have jx : Blk (W5.alloc (.cells #[.int .i64 t, .int .i64 (t + 1)] 34)) W5.heap.size 34 #[.int .i64 t, .int .i64 (t + 1)] := Blk.new _ _ _
              obtain ⟨v2, W7, hr, hrow2, hg2, -⟩ := run_append_own (P := Try.prog) (W5.alloc (.cells #[.int .i64 t, .int .i64 (t + 1)] 34)) Wb.heap.size 54 54 34 i0 _ 2 16 Try.underlying54 hi0 hz0 hz1 hz2 rfl (by omega) _ L _ (own_ext HROW.out hx6) ⟨W5.heap.size, 0, none⟩ 1 1 (splCells ⟨t, t + 1⟩) (by rfl) (by intro i u hu; rw [Addr.add_lit, Nat.zero_add, jx.cell]; simpa [splCells] using hu) (by simp [splCells, Value.oneCell']) (by unfold maxLen; omega) (by omega) (by simp; omega)
              have hB7 : Ext Wb W7 := (Ext.trans hxx hx6).grown hg2 (by simp; omega) (fun q e => (World.ownsRow.lt HROW.out q e).1)
              have hnew : W7.ownsRow Wb.heap.size 34 2 v2 (spellsP is a (k + 1)).length ((spellsP is a (k + 1)).flatMap splCells) := by
                rw [HPU.out, List.flatMap_append, List.length_append, ← HLL.out]
                simpa using hrow2
              have HNEW := Lib.hid hnew
              have HRUN := Lib.hid hr
              clear hr hrow2 hg2 hnew jx hx6
              go_wp2_with (refine wpList_append_run_ rfl _ _ _ rfl rfl rfl HRUN.out ?_)
              go_roundw
              case rel => exact ⟨k + 1, by omega, by rw [HE.out], HNEW, hB7⟩
              case measure => simp [intOf]; omega
          · have h02 : ¬ (1 : Int) < (L : Int) := by omega
            have c1z : W5.cell? ⟨g, 1, none⟩ = some (.int .i64 s.tt) := by have := c1; rwa [show (L - 1) * 2 + 1 = 1 by omega] at this
            by_cases he : s.tt = t
            · have hpu := p1 he
              have he2 : (s.tt == t) = true := by simpa using he
              obtain ⟨h1, h2⟩ := HROW.out.stored ((L - 1) * 2 + 1) (.int .i64 (t + 1))
              have hB7 : Ext Wb (W5.setCell ⟨g, (L - 1) * 2 + 1, none⟩ (.int .i64 (t + 1))) := hxx.setCell (p := ⟨g, (L - 1) * 2 + 1, none⟩) hgb _
              have HNEW : Hid ((W5.setCell ⟨g, (L - 1) * 2 + 1, none⟩ (.int .i64 (t + 1))).ownsRow Wb.heap.size 34 2 (.slice (some ⟨g, 0, none⟩) L c') (spellsP is a (k + 1)).length ((spellsP is a (k + 1)).flatMap splCells)) := Lib.hid (by
                rw [HST.out, hpu, List.length_set, ← HLL.out, ← hset]
                exact h1)
              have HHE := Lib.hid he
              clear p1 p2 hset hpu h1 h2 he e1
              go_wp2
              go_roundw
              case rel => exact ⟨k + 1, by omega, by rw [HE.out], HNEW, hB7⟩
              case measure => simp [intOf]; omega
            · have hpu : spellsP is a (k + 1) = l ++ [⟨t, t + 1⟩] := by rw [HST.out]; exact p2 he
              have he2 : (s.tt == t) = false := by simpa using he
              have HPU := Lib.hid hpu
              clear p1 p2 hset hpu he e1 f1
              obtain ⟨i0, hi0, hz0, hz1, hz2⟩ := info_parts info_spl
              have hWs := hxx.size
              have hx6 : Ext W5 (W5.alloc (.cells #[.int .i64 t, .int .i64 (t + 1)] 34)) := bl_alloc (Below.refl _ _) _
              have jx : Blk (W5.alloc (.cells #[.int .i64 t, .int .i64 (t + 1)] 34)) W5.heap.size 34 #[.int .i64 t, .int .i64 (t + 1)] := Blk.new _ _ _
              obtain ⟨v2, W7, hr, hrow2, hg2, -⟩ := run_append_own (P := Try.prog) (W5.alloc (.cells #[.int .i64 t, .int .i64 (t + 1)] 34)) Wb.heap.size 54 54 34 i0 _ 2 16 Try.underlying54 hi0 hz0 hz1 hz2 rfl (by omega) _ L _ (own_ext HROW.out hx6) ⟨W5.heap.size, 0, none⟩ 1 1 (splCells ⟨t, t + 1⟩) (by rfl) (by intro i u hu; rw [Addr.add_lit, Nat.zero_add, jx.cell]; simpa [splCells] using hu) (by simp [splCells, Value.oneCell']) (by unfold maxLen; omega) (by omega) (by simp; omega)
              have hB7 : Ext Wb W7 := (Ext.trans hxx hx6).grown hg2 (by simp; omega) (fun q e => (World.ownsRow.lt HROW.out q e).1)
              have hnew : W7.ownsRow Wb.heap.size 34 2 v2 (spellsP is a (k + 1)).length ((spellsP is a (k + 1)).flatMap splCells) := by
                rw [HPU.out, List.flatMap_append, List.length_append, ← HLL.out]
                simpa using hrow2
              have HNEW := Lib.hid hnew
              have HRUN := Lib.hid hr
              clear hr hrow2 hg2 hnew jx hx6
              go_wp2_with (refine wpList_append_run_ rfl _ _ _ rfl rfl rfl HRUN.out ?_)
              go_roundw
              case rel => exact ⟨k + 1, by omega, by rw [HE.out], HNEW, hB7⟩
              case measure => simp [intOf]; omega
    · have hkN : k = N := by omega
      subst hkN
      have HHT := Lib.hid ht
      have HHN := Lib.hid htN
      have HEND := Lib.hid (own_base HR.out hBb)
      have hB9 := Lib.hid (bl_then hB hx)
      clear ht htN HR hx
      go_wp2
      go_ret2
      exact (by rw [show res = some (spellsP is a k) by rw [HRES.out]; simp]; exact ⟨_, rfl, HEND.out, hB9.out⟩)

end Go.Proofs.Ytlmpmhfbjblhnaa
