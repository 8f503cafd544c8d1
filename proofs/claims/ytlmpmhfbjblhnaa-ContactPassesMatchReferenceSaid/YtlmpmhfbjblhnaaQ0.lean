/- The reference: Passes (printed by contact_q3.py). -/
import Derived.Test.YtlmpmhfbjblhnaaC10
import Derived.Test.YtlmpmhfbjblhnaaC4
import Derived.Test.YtlmpmhfbjblhnaaP3b
import Derived.Test.YtlmpmhfbjblhnaaTn2
import Derived.ArgAppend
import Derived.Deep.CutRange
import Derived.BigQuiet
namespace Go.Proofs.Ytlmpmhfbjblhnaa
open Go.RowKit

set_option maxHeartbeats 2000000 in
theorem cut_any (a b p q : Int) (w : World) :
    Calls Try.prog 67 #[.agg #[.int .i64 a, .int .i64 b], .agg #[.int .i64 p, .int .i64 q]] w
      fun e w' => e = .returned (.agg #[.int .i64 (widerP ⟨a, b⟩ 0 ⟨p, q⟩).fr, .int .i64 (widerP ⟨a, b⟩ 0 ⟨p, q⟩).tt]) ∧ Below w.heap.size w w' := by
  obtain ⟨m, hm⟩ : ∃ m, m = max a p := ⟨_, rfl⟩
  obtain ⟨n, hn⟩ : ∃ n, n = min b q := ⟨_, rfl⟩
  have hw : widerP ⟨a, b⟩ 0 ⟨p, q⟩ = if n ≤ m then ⟨0, 0⟩ else ⟨m, n⟩ := by rw [hm, hn]; unfold widerP; dsimp only; rw [Int.sub_zero, Int.add_zero]
  rw [hw]
  clear hw
  have hm2 : (p ≤ a ∧ m = a) ∨ (a < p ∧ m = p) := by omega
  have hn2 : (b ≤ q ∧ n = b) ∨ (q < b ∧ n = q) := by omega
  clear hm hn
  rcases hm2 with ⟨k1, rfl⟩ | ⟨k1, rfl⟩ <;> rcases hn2 with ⟨k2, rfl⟩ | ⟨k2, rfl⟩
  · by_cases h : n ≤ m
    · rw [if_pos h]
      go_enter Try.func67, Try.ntmps67
      go_wp2
      exact bodyPost_ret (v := .agg #[.int .i64 0, .int .i64 0]) (by simp [results, Try.results67, go_sem]) rfl ⟨rfl, (by repeat (first | exact Below.refl _ _ | assumption | refine Below.drew ?_ | refine below_drewN ?_ _ | refine bl_alloc ?_ _ | refine Below.setCell ?_ (by first | (simp; done) | omega | (simp; omega)) _ | refine bl_then ?_ (by assumption)))⟩
    · rw [if_neg h]
      go_enter Try.func67, Try.ntmps67
      go_wp2
      exact bodyPost_ret (v := .agg #[.int .i64 m, .int .i64 n]) (by simp [results, Try.results67, go_sem]) rfl ⟨rfl, (by repeat (first | exact Below.refl _ _ | assumption | refine Below.drew ?_ | refine below_drewN ?_ _ | refine bl_alloc ?_ _ | refine Below.setCell ?_ (by first | (simp; done) | omega | (simp; omega)) _ | refine bl_then ?_ (by assumption)))⟩
  · by_cases h : n ≤ m
    · rw [if_pos h]
      go_enter Try.func67, Try.ntmps67
      go_wp2
      exact bodyPost_ret (v := .agg #[.int .i64 0, .int .i64 0]) (by simp [results, Try.results67, go_sem]) rfl ⟨rfl, (by repeat (first | exact Below.refl _ _ | assumption | refine Below.drew ?_ | refine below_drewN ?_ _ | refine bl_alloc ?_ _ | refine Below.setCell ?_ (by first | (simp; done) | omega | (simp; omega)) _ | refine bl_then ?_ (by assumption)))⟩
    · rw [if_neg h]
      go_enter Try.func67, Try.ntmps67
      go_wp2
      exact bodyPost_ret (v := .agg #[.int .i64 m, .int .i64 n]) (by simp [results, Try.results67, go_sem]) rfl ⟨rfl, (by repeat (first | exact Below.refl _ _ | assumption | refine Below.drew ?_ | refine below_drewN ?_ _ | refine bl_alloc ?_ _ | refine Below.setCell ?_ (by first | (simp; done) | omega | (simp; omega)) _ | refine bl_then ?_ (by assumption)))⟩
  · by_cases h : n ≤ m
    · rw [if_pos h]
      go_enter Try.func67, Try.ntmps67
      go_wp2
      exact bodyPost_ret (v := .agg #[.int .i64 0, .int .i64 0]) (by simp [results, Try.results67, go_sem]) rfl ⟨rfl, (by repeat (first | exact Below.refl _ _ | assumption | refine Below.drew ?_ | refine below_drewN ?_ _ | refine bl_alloc ?_ _ | refine Below.setCell ?_ (by first | (simp; done) | omega | (simp; omega)) _ | refine bl_then ?_ (by assumption)))⟩
    · rw [if_neg h]
      go_enter Try.func67, Try.ntmps67
      go_wp2
      exact bodyPost_ret (v := .agg #[.int .i64 m, .int .i64 n]) (by simp [results, Try.results67, go_sem]) rfl ⟨rfl, (by repeat (first | exact Below.refl _ _ | assumption | refine Below.drew ?_ | refine below_drewN ?_ _ | refine bl_alloc ?_ _ | refine Below.setCell ?_ (by first | (simp; done) | omega | (simp; omega)) _ | refine bl_then ?_ (by assumption)))⟩
  · by_cases h : n ≤ m
    · rw [if_pos h]
      go_enter Try.func67, Try.ntmps67
      go_wp2
      exact bodyPost_ret (v := .agg #[.int .i64 0, .int .i64 0]) (by simp [results, Try.results67, go_sem]) rfl ⟨rfl, (by repeat (first | exact Below.refl _ _ | assumption | refine Below.drew ?_ | refine below_drewN ?_ _ | refine bl_alloc ?_ _ | refine Below.setCell ?_ (by first | (simp; done) | omega | (simp; omega)) _ | refine bl_then ?_ (by assumption)))⟩
    · rw [if_neg h]
      go_enter Try.func67, Try.ntmps67
      go_wp2
      exact bodyPost_ret (v := .agg #[.int .i64 m, .int .i64 n]) (by simp [results, Try.results67, go_sem]) rfl ⟨rfl, (by repeat (first | exact Below.refl _ _ | assumption | refine Below.drew ?_ | refine below_drewN ?_ _ | refine bl_alloc ?_ _ | refine Below.setCell ?_ (by first | (simp; done) | omega | (simp; omega)) _ | refine bl_then ?_ (by assumption)))⟩

set_option maxRecDepth 100000 in
set_option maxHeartbeats 2000000 in
theorem plainly_any (p f lo hi no tu sl id x y re an sk m : Int) (w : World) (ho : orbOK ⟨p, f, lo, hi, no, tu, sl⟩ = true) (hs : stnOK ⟨id, ⟨x, y⟩, re, an, sk⟩ = true) (h1 : -10 ≤ m) (h2 : m ≤ 1000010) :
    Calls Try.prog 66 #[.agg #[.int .i64 p, .int .i64 f, .int .i64 lo, .int .i64 hi, .int .i64 no, .int .i64 tu, .int .i64 sl], .agg #[.int .i64 id, .int .i64 x, .int .i64 y, .int .i64 re, .int .i64 an, .int .i64 sk], .int .i64 m] w fun e w' => e = .returned (.bool (plainP ⟨p, f, lo, hi, no, tu, sl⟩ ⟨id, ⟨x, y⟩, re, an, sk⟩ m)) ∧ Below w.heap.size w w' := by
  have hv := fun (t u : Int) (ht : 0 ≤ t ∧ t ≤ 1000000) (hl : -10 ≤ u ∧ u ≤ 10) (he : t - u = m) (w : World) => by
    have h := rView_any p f lo hi no tu sl id x y re an sk t u w
    rw [view_plain ho hs ht hl, he, show viewV (some (plainP ⟨p, f, lo, hi, no, tu, sl⟩ ⟨id, ⟨x, y⟩, re, an, sk⟩ m)) = .tuple #[.bool (plainP ⟨p, f, lo, hi, no, tu, sl⟩ ⟨id, ⟨x, y⟩, re, an, sk⟩ m), .int .i64 0] from rfl] at h
    exact h
  generalize plainP ⟨p, f, lo, hi, no, tu, sl⟩ ⟨id, ⟨x, y⟩, re, an, sk⟩ m = r at hv ⊢
  have HV := Lib.hid hv
  clear hv ho hs
  rcases show m ≤ 0 ∨ (0 < m ∧ m < 1000000) ∨ 1000000 ≤ m by omega with c | c | c

  · have c1 : ¬ (0 : Int) < m := by omega
    have hw : IntKind.i64.wrap (-m) = -m := IntWalk.i64_in _ (by omega)
    have hw2 : IntKind.i64.wrap (0 - m) = -m := by rw [show (0 : Int) - m = -m by omega]; exact IntWalk.i64_in _ (by omega)
    go_enter Try.func66, Try.ntmps66
    go_wp2_with (go_at_call 27; refine (HV.out (0) (-m) (by omega) (by omega) (by omega) _).mono ?_; rintro e w' ⟨rfl, hb⟩)
    all_goals
      go_ret
      exact ⟨by simp_all, (by repeat (first | exact Below.refl _ _ | assumption | refine Below.drew ?_ | refine below_drewN ?_ _ | refine bl_alloc ?_ _ | refine Below.setCell ?_ (by first | (simp; done) | omega | (simp; omega)) _ | refine bl_then ?_ (by assumption)))⟩
  · obtain ⟨c1, c2⟩ := c
    have hw : IntKind.i64.wrap (0) = 0 := IntWalk.i64_in _ (by omega)
    have hw2 : IntKind.i64.wrap (m - m) = 0 := by rw [show m - m = 0 by omega]; exact IntWalk.i64_in _ (by omega)
    go_enter Try.func66, Try.ntmps66
    go_wp2_with (go_at_call 27; refine (HV.out (m) (0) (by omega) (by omega) (by omega) _).mono ?_; rintro e w' ⟨rfl, hb⟩)
    all_goals
      go_ret
      exact ⟨by simp_all, (by repeat (first | exact Below.refl _ _ | assumption | refine Below.drew ?_ | refine below_drewN ?_ _ | refine bl_alloc ?_ _ | refine Below.setCell ?_ (by first | (simp; done) | omega | (simp; omega)) _ | refine bl_then ?_ (by assumption)))⟩
  · have c1 : (0 : Int) < m := by omega
    have c2 : ¬ m < 1000000 := by omega
    have hw : IntKind.i64.wrap (1000000 - m) = 1000000 - m := IntWalk.i64_in _ (by omega)
    have hw2 : IntKind.i64.wrap (1000000 - m) = 1000000 - m := by rw [show (1000000 : Int) - m = 1000000 - m by omega]; exact IntWalk.i64_in _ (by omega)
    go_enter Try.func66, Try.ntmps66
    go_wp2_with (go_at_call 27; refine (HV.out (1000000) (1000000 - m) (by omega) (by omega) (by omega) _).mono ?_; rintro e w' ⟨rfl, hb⟩)
    all_goals
      go_ret
      exact ⟨by simp_all, (by repeat (first | exact Below.refl _ _ | assumption | refine Below.drew ?_ | refine below_drewN ?_ _ | refine bl_alloc ?_ _ | refine Below.setCell ?_ (by first | (simp; done) | omega | (simp; omega)) _ | refine bl_then ?_ (by assumption)))⟩

section
variable {is : Int → Bool} {a e : Int}
/-- What is still to be found, where no spell is open at m, or one that began at fr. -/
def restP (is : Int → Bool) (e m : Int) : List Spl := spellsP is m (e - m).toNat
theorem rest_end {m : Int} (h : e ≤ m) : restP is e m = [] := by
  rw [restP, show (e - m).toNat = 0 by omega]
  rfl
theorem rest_skip {m : Int} (hm : m < e) (h : is m = false) : restP is e m = restP is e (m + 1) := by
  rw [restP, show (e - m).toNat = (e - (m + 1)).toNat + 1 by omega, spells_skip _ h]
  rfl
/-- A spell that is closed at m. -/
theorem rest_close {fr m : Int} (h1 : fr < m) (h2 : m ≤ e) (hi : ∀ t, fr ≤ t → t < m → is t = true) (hs : m = e ∨ is m = false) : restP is e fr = ⟨fr, m⟩ :: restP is e m := by
  have h := spells_run is (m - fr).toNat (e - fr).toNat fr (by omega) (by omega) (fun i hi2 => hi _ (by omega) (by omega)) (by
    rcases hs with hs | hs
    · exact .inl (by omega)
    · exact .inr (by rw [show fr + ((m - fr).toNat : Int) = m by omega]; exact hs))
  rw [show fr + ((m - fr).toNat : Int) = m by omega, show (e - fr).toNat - (m - fr).toNat = (e - m).toNat by omega] at h
  exact h
end
/-- A spell made longer, as the reference makes it. -/
theorem cut_wider {a b k : Int} {span : Spl} : widerP ⟨a - k, b + k⟩ 0 span = widerP ⟨a, b⟩ k span := by
  unfold widerP
  dsimp only
  rw [Int.sub_zero, Int.add_zero]
end Go.Proofs.Ytlmpmhfbjblhnaa
namespace Go.Proofs.Ytlmpmhfbjblhnaa
open Go.RowKit

theorem pas_sizeQ : (Try.prog.info? 47).map (·.size) = some 6 := by kernel_rfl
theorem info_pas2Q : (Try.prog.info? 47).map (fun i => (i.zero.map (fun z => z.cells.size), i.size)) = some (some 6, 6) := by kernel_rfl
theorem pas_oneQ (x : Pas) : ∀ u ∈ pasCells x, u.oneCell' = true := by simp [pasCells, Value.oneCell']
theorem pas_ones (l : List Pas) : ∀ u ∈ l.flatMap pasCells, u.oneCell' = true := by
  intro u hu
  obtain ⟨x, _, hx⟩ := List.mem_flatMap.1 hu
  exact pas_oneQ x u hx
def orbQ (o : Orb) : List Value := [.int .i64 o.period, .int .i64 o.phase, .int .i64 o.low, .int .i64 o.high, .int .i64 o.node, .int .i64 o.turn, .int .i64 o.slack]
theorem orb_oneQ (x : Orb) : (orbQ x).toArray.all (·.oneCell') = true := by simp [orbQ, Value.oneCell']
theorem RA.orbQ {w : World} {B n c : Nat} {A : Option Addr} {l : List St} (h : RA satCells 21 w B A n c l) {k : Nat} (hk : k < n) : ∃ (b o : Nat) (hz : k < l.length), A = some ⟨b, o, none⟩ ∧ b < B ∧ w.rangeAt b (o + k * 21) (satCells l[k]) ∧ w.rangeAt b (o + k * 21 + 2) (Go.Proofs.Ytlmpmhfbjblhnaa.orbQ l[k].orbit) := by
  obtain ⟨b, o, hz, hA, hb, hr⟩ := h.range sat_len hk
  refine ⟨b, o, hz, hA, hb, hr, fun j v hv => ?_⟩
  rw [Nat.add_assoc]
  refine hr (2 + j) v ?_
  rw [← hv]
  match j, hv with
  | 0, _ => rfl
  | 1, _ => rfl
  | 2, _ => rfl
  | 3, _ => rfl
  | 4, _ => rfl
  | 5, _ => rfl
  | 6, _ => rfl
  | j + 7, hv => simp [Go.Proofs.Ytlmpmhfbjblhnaa.orbQ] at hv
theorem Blk.set6 {w : World} {g : Nat} {t : TypeId} {a0 a1 a2 a3 a4 a5 : Value} (h : Blk w g t #[a0, a1, a2, a3, a4, a5]) (b0 b1 b2 b3 b4 b5 : Value) :
    Blk ((((((w.setCell ⟨g, 0, none⟩ b0).setCell ⟨g, 1, none⟩ b1).setCell ⟨g, 2, none⟩ b2).setCell ⟨g, 3, none⟩ b3).setCell ⟨g, 4, none⟩ b4).setCell ⟨g, 5, none⟩ b5) g t #[b0, b1, b2, b3, b4, b5] := by
  have k := (((((h.set_ 0 b0).set_ 1 b1).set_ 2 b2).set_ 3 b3).set_ 4 b4).set_ 5 b5
  simp only [List.setIfInBounds_toArray, List.set_cons_zero, List.set_cons_succ] at k
  exact k
/-- Nothing is appended. -/
theorem run_append_none {P : Program} (w : World) (t ty e : TypeId) (i : TypeInfo) (ht : P.underlying t = some (.slice e)) (hi : P.info? e = some i) (b : Addr) (n c : Nat) (hn : n ≤ c) (A : Option Addr) (c' : Nat) :
    (Builtin.append_ #[t, t] ty #[.slice (some b) n c, .slice A 0 c']).run P w = .ok (.slice (some b) n c) w := by
  cases A <;> simp [Builtin.append_, run_underlying ht, sizeOf, typeInfo, hi, Builtin.lenOf, Builtin.firstCells, hn, storeCells, loadCells, loadCellsFrom]
/-- A slice reads these passes. -/
def ConsR (W : World) (v : Value) (l : List Pas) : Prop := ∃ A c, v = .slice (some A) l.length c ∧ ∀ q u, (l.flatMap pasCells)[q]? = some u → W.cell? (A.add q) = some u
theorem ConsR.ext {W W' : World} {v : Value} {l : List Pas} (h : ConsR W v l) (hx : Ext W W') : ConsR W' v l := by
  obtain ⟨A, c, h1, h2⟩ := h
  exact ⟨A, c, h1, fun q u hu => ext_cell hx (h2 q u hu)⟩
/-- A row of one's own holds these passes. -/
def OwnP (W : World) (b : Nat) (v : Value) (l : List Pas) : Prop := W.ownsRow b 47 6 v l.length (l.flatMap pasCells)
theorem OwnP.ext {W W' : World} {b : Nat} {v : Value} {l : List Pas} (h : OwnP W b v l) (hx : Ext W W') : OwnP W' b v l := own_ext h hx
theorem OwnP.base {W : World} {b b' : Nat} {v : Value} {l : List Pas} (h : OwnP W b v l) (hb : b' ≤ b) : OwnP W b' v l := own_base h hb
/-- One pass, and the rest of a list behind it. -/
theorem run_cons {w : World} (ty : TypeId) (g : Nat) (z : Pas) (l : List Pas) (A : Option Addr) (m c B : Nat) (hg : Blk w g 47 (pasCells z).toArray) (hr : Reads w B 6 A m (l.flatMap pasCells)) (hm : m ≤ 1000) :
    ∃ v' w', (Builtin.append_ #[32, 32] ty #[.slice (some ⟨g, 0, none⟩) 1 1, .slice A m c]).run Try.prog w = .ok v' w' ∧ Ext w w' ∧ ConsR w' v' (z :: l) := by
  obtain ⟨i0, hi0, hz0, hz1, hz2⟩ := info_parts info_pas
  have hlm : l.length = m := by have h1 := hr.1; rw [flat_len pas_len] at h1; omega
  rcases Nat.eq_zero_or_pos m with h0 | h0
  · subst h0
    obtain rfl : l = [] := List.eq_nil_of_length_eq_zero hlm
    refine ⟨_, _, run_append_none w _ _ _ i0 Try.underlying32 hi0 ⟨g, 0, none⟩ 1 1 (Nat.le_refl _) A c, Ext.refl _, ⟨g, 0, none⟩, 1, rfl, fun j u hu => ?_⟩
    rw [Addr.add_lit, Nat.zero_add, hg.cell]
    simpa using hu
  · obtain ⟨b, o, rfl, hb, hc⟩ := hr.2 h0
    obtain ⟨v', w', h1, h2, h3⟩ := run_append_arg_grows (P := Try.prog) (w := w) 32 ty 47 i0 _ 6 48 Try.underlying32 hi0 hz0 hz1 hz2 rfl (by omega) ⟨g, 0, none⟩ 1 1 (pasCells z) rfl (fun j u hu => by rw [Addr.add_lit, Nat.zero_add, hg.cell]; simpa using hu) ⟨b, o, none⟩ m c _ hr.1 (fun j u hu => by rw [Addr.add_lit]; exact hc j u hu) (by omega) (by unfold maxLen; omega) (by omega)
    rcases h2.2 with ⟨rfl, hn⟩ | ⟨g', cap, cur, rfl, _, _, _, _, _⟩
    · omega
    · have hrd := Reads.of_own h2
      obtain ⟨b', o', hA, _, hc'⟩ := hrd.2 (by omega)
      injection hA with hA
      refine ⟨_, _, h1, ⟨h3.os, h3.tape, h3.output, h3.size, fun k hk => h3.block k hk (by simp)⟩, ⟨g', 0, none⟩, cap, by rw [List.length_cons, hlm, Nat.add_comm], fun j u hu => ?_⟩
      rw [hA, Addr.add_lit]
      exact hc' j u (by rw [← List.flatMap_cons]; exact hu)
/-- Onto a list whose room is full. -/
theorem run_onto {w : World} (ty : TypeId) (xs ys : List Pas) (v : Value) (n c' : Nat) (A' : Addr) (hv : (v = .slice none 0 0 ∧ n = 0) ∨ ∃ g, v = .slice (some ⟨g, 0, none⟩) n n ∧ ∀ j u, (xs.flatMap pasCells)[j]? = some u → w.cell? ⟨g, j, none⟩ = some u) (hx : xs.length = n) (hm : 0 < ys.length) (hn : n + ys.length ≤ 1000)
    (hr : ∀ j u, (ys.flatMap pasCells)[j]? = some u → w.cell? (A'.add j) = some u) :
    ∃ v' w', (Builtin.append_ #[32, 32] ty #[v, .slice (some A') ys.length c']).run Try.prog w = .ok v' w' ∧ Ext w w' ∧ OwnP w' w.heap.size v' (xs ++ ys) := by
  obtain ⟨i0, hi0, hz0, hz1, hz2⟩ := info_parts info_pas
  have hly : (ys.flatMap pasCells).length = ys.length * 6 := by rw [flat_len pas_len]
  have hlx : (xs.flatMap pasCells).length = n * 6 := by rw [flat_len pas_len, hx]
  unfold OwnP
  rw [List.flatMap_append, List.length_append, hx]
  rcases hv with ⟨rfl, rfl⟩ | ⟨g, rfl, hc⟩
  · obtain rfl : xs = [] := List.eq_nil_of_length_eq_zero hx
    obtain ⟨v', w', h1, h2, h3, -⟩ := run_append_own (P := Try.prog) w w.heap.size 32 ty 47 i0 _ 6 48 Try.underlying32 hi0 hz0 hz1 hz2 rfl (by omega) _ 0 [] (World.ownsRow_nil _ _ _ _) A' ys.length c' _ hly hr (pas_ones ys) (by unfold maxLen; omega) (by omega) (Nat.le_refl _)
    exact ⟨v', w', h1, ⟨h3.os, h3.tape, h3.output, h3.size, fun k hk => h3.block k hk (by simp [Value.ownBlock])⟩, h2⟩
  · obtain ⟨v', w', h1, h2, h3⟩ := run_append_arg_grows (P := Try.prog) (w := w) 32 ty 47 i0 _ 6 48 Try.underlying32 hi0 hz0 hz1 hz2 rfl (by omega) ⟨g, 0, none⟩ n n _ hlx (fun j u hu => by rw [Addr.add_lit, Nat.zero_add]; exact hc j u hu) A' ys.length c' _ hly hr (by omega) (by unfold maxLen; omega) (by omega)
    exact ⟨v', w', h1, ⟨h3.os, h3.tape, h3.output, h3.size, fun k hk => h3.block k hk (by simp)⟩, h2⟩
/-- What is found so far, and what is not yet. -/
def ScanI (is : Int → Bool) (a0 e0 : Int) (m fr : Int) (D : List Spl) : Prop :=
  (fr = a0 - 1 ∧ spellsP is a0 (e0 - a0).toNat = D ++ restP is e0 m) ∨ (a0 ≤ fr ∧ fr < m ∧ m ≤ e0 ∧ (∀ t, fr ≤ t → t < m → is t = true) ∧ spellsP is a0 (e0 - a0).toNat = D ++ restP is e0 fr)


end Go.Proofs.Ytlmpmhfbjblhnaa
namespace Go.Proofs.Ytlmpmhfbjblhnaa
open Go.RowKit

def preP (S : List St) (T : List Stn) (span : Spl) (i : Nat) : List Pas := (S.take i).flatMap fun s => T.flatMap (pairP s span)
def preQ (s : St) (T : List Stn) (span : Spl) (k : Nat) : List Pas := (T.take k).flatMap (pairP s span)
theorem preP_next {S : List St} {T : List Stn} {span : Spl} {i : Nat} (h : i < S.length) : preP S T span (i + 1) = preP S T span i ++ preQ S[i] T span T.length := by
  unfold preP preQ
  rw [List.take_succ_eq_append_getElem h, List.flatMap_append, List.take_length]
  simp
theorem preQ_next {s : St} {T : List Stn} {span : Spl} {k : Nat} (h : k < T.length) : preQ s T span (k + 1) = preQ s T span k ++ pairP s span T[k] := by
  unfold preQ
  rw [List.take_succ_eq_append_getElem h, List.flatMap_append]
  simp
theorem preP_all {S : List St} {T : List Stn} {span : Spl} : preP S T span S.length = allP S T span := by
  unfold preP allP
  rw [List.take_length]
theorem take_flat_le {α β : Type} (f : α → List β) (l : List α) (i : Nat) : ((l.take i).flatMap f).length ≤ (l.flatMap f).length := by
  have h := List.take_append_drop i l
  have : (l.flatMap f).length = ((l.take i).flatMap f).length + ((l.drop i).flatMap f).length := by rw [← List.length_append, ← List.flatMap_append, h]
  omega
theorem pre_le {S : List St} {T : List Stn} {span : Spl} {i k : Nat} (hi : i < S.length) (hk : k < T.length) : (preP S T span i ++ preQ S[i] T span k).length + (pairP S[i] span T[k]).length ≤ (allP S T span).length := by
  have h1 : (preP S T span (i + 1)).length ≤ (allP S T span).length := take_flat_le _ _ _
  have h2 : (preQ S[i] T span (k + 1)).length ≤ (preQ S[i] T span T.length).length := by
    have := take_flat_le (pairP S[i] span) T (k + 1)
    unfold preQ
    rw [List.take_length]
    exact this
  rw [preP_next hi, List.length_append] at h1
  rw [preQ_next hk, List.length_append] at h2
  rw [List.length_append]
  omega
theorem len_sortQ {α : Type} {lt : α → α → Bool} (l : List α) : (sortP lt l).length = l.length := by
  suffices h : ∀ (l B : List α), (l.foldl (insR lt) B).length = l.length + B.length by simpa [sortP] using h l []
  intro l
  induction l with
  | nil => intro B; simp
  | cons x l ih =>
    intro B
    rw [List.foldl_cons, ih]
    have : (insR lt B x).length = B.length + 1 := by
      unfold insR
      simp only [List.length_append, List.length_take, List.length_cons, List.length_drop]
      have : posR lt B x ≤ B.length := by unfold posR; omega
      omega
    rw [this, List.length_cons]
    omega
theorem flat_dropQ {α : Type} {cells : α → List Value} {s : Nat} (hs : ∀ x, (cells x).length = s) (l : List α) (k : Nat) : (l.flatMap cells).drop (k * s) = (l.drop k).flatMap cells := by
  induction l generalizing k with
  | nil => simp
  | cons x r ih =>
    cases k with
    | zero => simp
    | succ k => rw [List.flatMap_cons, List.drop_succ_cons, List.drop_append, hs, List.drop_of_length_le (by rw [hs, Nat.succ_mul]; omega), show (k + 1) * s - s = k * s by rw [Nat.succ_mul]; omega, ih, List.nil_append]
/-- The list so far, in order, and as long as it may be. -/
def OutR (w W : World) (v : Value) (l : List Pas) : Prop := W.ownsRow w.heap.size 47 6 v l.length ((sortP (ltOf cmpPas) l).flatMap pasCells) ∧ l.length ≤ 64
theorem OutR.ext {w W W' : World} {v : Value} {l : List Pas} (h : OutR w W v l) (hx : Ext W W') : OutR w W' v l := ⟨own_ext h.1 hx, h.2⟩
theorem OutR.ra {w W : World} {A : Option Addr} {n c : Nat} {l : List Pas} (h : OutR w W (.slice A n c) l) (hn : n = l.length) : RA pasCells 6 W W.heap.size A n c (sortP (ltOf cmpPas) l) := by
  subst hn
  exact RA.of_own h.1 (len_sortQ l) (by have := h.2; omega)
theorem OutR.form {w W : World} {v : Value} {l : List Pas} (h : OutR w W v l) : ∃ A c, v = .slice A l.length c ∧ l.length ≤ c ∧ c ≤ maxLen ∧ ((A = none ∧ l.length = 0 ∧ c = 0) ∨ ∃ g, A = some ⟨g, 0, none⟩) := by
  rcases h.1.2 with ⟨rfl, hn⟩ | ⟨g, cap, cur, rfl, _, _, h1, h2, _⟩
  · rw [hn]
    exact ⟨none, 0, rfl, Nat.le_refl _, Nat.zero_le _, .inl ⟨rfl, rfl, rfl⟩⟩
  · exact ⟨_, _, rfl, h1, h2, .inr ⟨g, rfl⟩⟩
/-- Where a pass goes in. -/
theorem ins_at {L : List Pas} {P : Pas} {j : Nat} (hj : j ≤ (sortP (ltOf cmpPas) L).length) (h1 : ∀ z ∈ (sortP (ltOf cmpPas) L).drop j, ltOf cmpPas P z = true) (h2 : j = 0 ∨ ∃ h : j - 1 < (sortP (ltOf cmpPas) L).length, 0 < j ∧ ltOf cmpPas P (sortP (ltOf cmpPas) L)[j - 1] = false) :
    sortP (ltOf cmpPas) (L ++ [P]) = (sortP (ltOf cmpPas) L).take j ++ P :: (sortP (ltOf cmpPas) L).drop j := by
  rw [sortP_snoc]
  have h := insR_stop (ltOf cmpPas) ((sortP (ltOf cmpPas) L).take j) ((sortP (ltOf cmpPas) L).drop j) P (fun y hy => by
    rcases h2 with rfl | ⟨h, hj0, h2⟩
    · simp at hy
    · rw [List.getLast?_take, if_neg (by omega)] at hy
      rw [List.getElem?_eq_getElem h] at hy
      simp at hy
      rw [← hy]
      exact h2) h1
  rw [List.take_append_drop] at h
  exact h
set_option maxRecDepth 100000 in
set_option maxHeartbeats 16000000 in
theorem rPasses_any (S : List St) (T : List Stn) (SA TA : Option Addr) (ns cs nt ct : Nat) (a b : Int) (w : World) (hS : RA satCells 21 w w.heap.size SA ns cs S) (hT : RA stnCells 6 w w.heap.size TA nt ct T) :
    Calls Try.prog 32 #[.slice SA ns cs, .slice TA nt ct, .agg #[.int .i64 a, .int .i64 b]] w (PassesRet (passesP S T ⟨a, b⟩) w) := by
  have HVS : Hid (∀ W, Ext w W → Calls Try.prog 15 #[.slice SA ns cs] W fun e w' => e = .returned (.bool (satsOK S)) ∧ Ext W w') := Lib.hid (fun W h => rvalidSats_any S SA ns cs W ((hS.below h).more (Below.size h)))
  have HVT : Hid (∀ W, Ext w W → Calls Try.prog 17 #[.slice TA nt ct] W fun e w' => e = .returned (.bool (stnsOK T)) ∧ Ext W w') := Lib.hid (fun W h => rvalidStns_any T TA nt ct W ((hT.below h).more (Below.size h)))
  have HVP := Lib.hid (rspan_any a b)
  have HRS := Lib.hid hS
  have HRT := Lib.hid hT
  have hns := hS.len
  have hnt := hT.len
  have hcs := hS.cap
  have hct := hT.cap
  have hcsm : cs ≤ 9223372036854775807 := by have h9 := hS.capM; unfold maxLen at h9; exact h9
  have hctm : ct ≤ 9223372036854775807 := by have h9 := hT.capM; unfold maxLen at h9; exact h9
  clear hS hT
  obtain ⟨res, hres⟩ : ∃ r, r = passesP S T ⟨a, b⟩ := ⟨_, rfl⟩
  rw [← hres]
  rw [passesP] at hres
  obtain ⟨AL, hAL⟩ : ∃ l, l = allP S T ⟨a, b⟩ := ⟨_, rfl⟩
  rw [← hAL] at hres
  have hso := fun h : satsOK S = true => sats_at h
  have hto := fun h : stnsOK T = true => stns_at h
  have hsp : spanOK ⟨a, b⟩ = true → 0 ≤ a ∧ a < b ∧ b ≤ 1000001 ∧ b - a ≤ 4320 := fun h => by simpa [spanOK] using h
  generalize satsOK S = qs at HVS hres hso
  generalize stnsOK T = qt at HVT hres hto
  generalize spanOK ⟨a, b⟩ = qp at HVP hres hsp
  have HRES := Lib.hid hres
  have HSO := Lib.hid hso
  have HTO := Lib.hid hto
  have HSP := Lib.hid hsp
  have HAL := Lib.hid hAL
  have HNS := Lib.hid hns
  have HNT := Lib.hid hnt
  clear hres hso hto hsp hAL hns hnt
  go_enter Try.func32, Try.ntmps32
  go_wp2_with fail
  have J5 : Blk (w.alloc (.cells #[.int .i64 a, .int .i64 b] 34)) w.heap.size 34 #[.int .i64 a, .int .i64 b] := Blk.new _ _ _
  have hB : Ext w (w.alloc (.cells #[.int .i64 a, .int .i64 b] 34)) := bl_alloc (Below.refl _ _) _
  obtain ⟨g5, hg5⟩ : ∃ g, g = w.heap.size := ⟨_, rfl⟩
  rw [← hg5] at J5 ⊢
  generalize w.alloc (.cells #[.int .i64 a, .int .i64 b] 34) = W0 at J5 hB ⊢
  clear hg5
  refine (HVS.out _ hB).mono ?_
  rintro e W1 ⟨rfl, hx⟩
  have J5 := J5.ext hx
  have hB := Ext.trans hB hx
  clear hx
  cases qs
  · skip
    go_wp2
    have hr := HRES.out
    simp at hr
    subst hr
    exact bodyPost_ret (v := .tuple #[.slice none 0 0, .int .i64 90]) (by simp [results, Try.results32, go_sem]) rfl ⟨rfl, hB⟩
  · skip
    go_wp2_with (fail)
    refine (HVT.out _ hB).mono ?_
    rintro e W2 ⟨rfl, hx⟩
    have J5 := J5.ext hx
    have hB := Ext.trans hB hx
    clear hx
    cases qt
    · skip
      go_wp2
      have hr := HRES.out
      simp at hr
      subst hr
      exact bodyPost_ret (v := .tuple #[.slice none 0 0, .int .i64 90]) (by simp [results, Try.results32, go_sem]) rfl ⟨rfl, hB⟩
    · skip
      have t0 : W2.cell? ⟨g5, 0, none⟩ = some (.int .i64 a) := J5.cell 0
      have t1 : W2.cell? ⟨g5, 1, none⟩ = some (.int .i64 b) := J5.cell 1
      go_wp2_with (fail)
      refine (HVP.out _).mono ?_
      rintro e W3 ⟨rfl, hx⟩
      have J5 := J5.ext hx
      have hB := Ext.trans hB hx
      clear hx
      clear t0 t1
      cases qp
      · skip
        go_wp2
        have hr := HRES.out
        simp at hr
        subst hr
        exact bodyPost_ret (v := .tuple #[.slice none 0 0, .int .i64 90]) (by simp [results, Try.results32, go_sem]) rfl ⟨rfl, hB⟩
      · skip
        obtain ⟨b1, b2, b3, b4⟩ := HSP.out (by trivial)
        obtain ⟨hs24, hsv⟩ := HSO.out (by trivial)
        obtain ⟨ht12, htv⟩ := HTO.out (by trivial)
        have hres := HRES.out
        simp only [Bool.and_self, if_true] at hres
        have HRES := Lib.hid hres
        have HSV := Lib.hid hsv
        have HTV := Lib.hid htv
        rw [HNS.out] at hs24
        rw [HNT.out] at ht12
        clear hres hsv htv HVS HVT HVP HSO HTO HSP
        have HRS := Lib.hid ((HRS.out.below hB).more (Below.size hB))
        have HRT := Lib.hid ((HRT.out.below hB).more (Below.size hB))
        obtain ⟨Wb, hWb⟩ : ∃ W : World, W = W3 := ⟨_, rfl⟩
        rw [← hWb] at J5 hB HRS HRT ⊢
        clear hWb
        have hbs := Below.size hB
        go_wp2
        go_loopw [8, 9] (fun x y wr => ∃ i : Nat, i ≤ ns ∧ y = .int .i64 i ∧ Hid (OutR w wr x (preP S T ⟨a, b⟩ i)) ∧ Ext Wb wr) (fun _ y _ => ns - (intOf y).toNat)
        case atStart => exact ⟨0, Nat.zero_le _, rfl, Lib.hid ⟨World.ownsRow_nil _ _ _ _, Nat.zero_le _⟩, Ext.refl _⟩
        case round =>
          obtain ⟨i, hi, rfl, HO, hx⟩ := hrel
          by_cases hin : i < ns
          · skip
            obtain ⟨gs, gso, hz, hA, _, hr, hro⟩ := (HRS.out.below hx).orbQ hin
            have hpn : preP S T ⟨a, b⟩ (i + 1) = preP S T ⟨a, b⟩ i ++ preQ S[i] T ⟨a, b⟩ nt := by have := preP_next (T := T) (span := ⟨a, b⟩) hz; rw [HNT.out] at this; exact this
            have hpl : ∀ (k : Nat) (hk : k < T.length), (preP S T ⟨a, b⟩ i ++ preQ S[i] T ⟨a, b⟩ k).length + (pairP S[i] ⟨a, b⟩ T[k]).length ≤ AL.length := fun k hk => by rw [HAL.out]; exact pre_le hz hk
            have hsv := HSV.out S[i] (List.getElem_mem hz)
            generalize preP S T ⟨a, b⟩ i = P0 at HO hpn hpl
            generalize S[i] = xs at hr hro hpn hpl hsv
            obtain ⟨hor, hsl0, hsl1⟩ := sat_orb hsv
            obtain ⟨sid, hsid⟩ : ∃ n, n = xs.id := ⟨_, rfl⟩
            obtain ⟨sl, hsl⟩ : ∃ n, n = xs.orbit.slack := ⟨_, rfl⟩
            rw [← hsl] at hsl0 hsl1
            have hs0 : wr.cell? ⟨gs, gso + i * 21, none⟩ = some (.int .i64 sid) := by rw [hsid]; exact hr 0 _ rfl
            obtain ⟨OX, hOX⟩ : ∃ X, (orbQ xs.orbit).toArray = X := ⟨_, rfl⟩
            have HZO : Hid (OX.size = 7) := Lib.hid (by rw [← hOX]; rfl)
            have HOO : Hid (OX.all (·.oneCell') = true) := Lib.hid (by rw [← hOX]; exact orb_oneQ _)
            have HC6 : Hid (OX[6]? = some (.int .i64 sl)) := Lib.hid (by rw [← hOX, hsl]; rfl)
            have HRO : Hid (wr.rangeAt gs (gso + i * 21 + 2) OX.toList) := Lib.hid (by rw [← hOX]; exact hro)
            have HPN := Lib.hid hpn
            have HPL := Lib.hid hpl
            have HOR := Lib.hid hor
            have HOX := Lib.hid hOX
            have HSID := Lib.hid hsid
            have HSL := Lib.hid hsl
            have HS0 := Lib.hid hs0
            clear hpn hpl hor hOX hsid hsl hsv hr hro hz hs0
            subst hA
            go_upto_region 8 with (first | (refine wpList_load_st rfl 25 _ rfl gs (gso + i * 21 + 2) rfl OX OX.toList (by simp) _ HRO.out Try.underlying25 rfl (by rw [Array.length_toList, HZO.out]; exact orb_size) ?_) | (refine wpList_store_new rfl 25 _ _ rfl _ OX rfl rfl (by rw [HZO.out]; exact orb_size) (by rw [HZO.out]; rfl) HOO.out ?_))
            have J10 : Blk (wr.alloc (.cells OX 25)) wr.heap.size 25 OX := Blk.new _ _ _
            have hc : Ext wr (wr.alloc (.cells OX 25)) := bl_alloc (Below.refl _ _) _
            obtain ⟨g10, hg⟩ : ∃ g, g = wr.heap.size := ⟨_, rfl⟩
            rw [← hg] at J10 ⊢
            generalize wr.alloc (.cells OX 25) = Wc at J10 hc ⊢
            clear hg HRO
            have hx := Ext.trans hx hc
            have HO := Lib.hid (HO.out.ext hc)
            have HS0 := Lib.hid (ext_cell hc HS0.out)
            clear hc
            go_wp2
            go_loopw [8, 11] (fun x y wr => ∃ k : Nat, k ≤ nt ∧ y = .int .i64 k ∧ Hid (OutR w wr x (P0 ++ preQ xs T ⟨a, b⟩ k)) ∧ Ext Wc wr) (fun _ y _ => nt - (intOf y).toNat)
            case atStart => exact ⟨0, Nat.zero_le _, rfl, Lib.hid (by simpa [preQ] using HO.out), Ext.refl _⟩
            case round =>
              clear HO
              obtain ⟨k, hk, rfl, HO, hy⟩ := hrel
              by_cases hkn : k < nt
              · skip
                obtain ⟨gt, gto, hz, hA, _, hr⟩ := (HRT.out.below (Ext.trans hx hy)).range stn_len hkn
                have hqn : preQ xs T ⟨a, b⟩ (k + 1) = preQ xs T ⟨a, b⟩ k ++ pairP xs ⟨a, b⟩ T[k] := preQ_next hz
                have hql := HPL.out k hz
                have htv := HTV.out T[k] (List.getElem_mem hz)
                skip
                have hqn2 : P0 ++ preQ xs T ⟨a, b⟩ (k + 1) = (P0 ++ preQ xs T ⟨a, b⟩ k) ++ pairP xs ⟨a, b⟩ T[k] := by rw [hqn, List.append_assoc]
                clear hqn
                generalize P0 ++ preQ xs T ⟨a, b⟩ k = Q0 at HO hqn2 hql
                generalize T[k] = ys at hr hqn2 hql htv
                obtain ⟨yid, hyid⟩ : ∃ n, n = ys.id := ⟨_, rfl⟩
                have hy0 : wr.cell? ⟨gt, gto + k * 6, none⟩ = some (.int .i64 yid) := by rw [hyid]; exact hr 0 _ rfl
                obtain ⟨TX, hTX⟩ : ∃ X, (stnCells ys).toArray = X := ⟨_, rfl⟩
                have HZT : Hid (TX.size = 6) := Lib.hid (by rw [← hTX]; rfl)
                have HRT2 : Hid (wr.rangeAt gt (gto + k * 6) TX.toList) := Lib.hid (by rw [← hTX]; exact hr)
                obtain ⟨a0, ha0⟩ : ∃ n, n = a - sl := ⟨_, rfl⟩
                obtain ⟨ee, he0⟩ : ∃ n, n = b + sl := ⟨_, rfl⟩
                have a01 : -10 ≤ a0 := by omega
                have a02 : a0 < ee := by omega
                have e01 : ee ≤ 1000011 := by omega
                have w1_ : IntKind.i64.wrap (a - sl) = a0 := by rw [ha0]; exact IntWalk.i64_in _ (by omega)
                have w2_ : IntKind.i64.wrap (a0 - 1) = a0 - 1 := IntWalk.i64_in _ (by omega)
                have w3_ : IntKind.i64.wrap (b + sl) = ee := by rw [he0]; exact IntWalk.i64_in _ (by omega)
                obtain ⟨is, his⟩ : ∃ f, f = plainP xs.orbit ys := ⟨_, rfl⟩
                obtain ⟨po, hpo⟩ : ∃ f, f = passOne xs ys ⟨a, b⟩ := ⟨_, rfl⟩
                have hpp : pairP xs ⟨a, b⟩ ys = (spellsP is a0 (ee - a0).toNat).map po := by rw [his, hpo, ha0, he0]; unfold pairP; rw [← HSL.out, show b + sl - (a - sl) = b - a + 2 * sl by omega]
                rw [hpp] at hqn2 hql
                have HPO : Hid (∀ u v, po ⟨u, v⟩ = ⟨sid, yid, widerP ⟨u, v⟩ (-sl) ⟨a, b⟩, widerP ⟨u, v⟩ sl ⟨a, b⟩⟩) := Lib.hid (fun u v => by rw [hpo, passOne, HSID.out, hyid, HSL.out])
                have HPY : Hid (∀ m W, -10 ≤ m → m ≤ 1000010 → Calls Try.prog 66 #[.agg OX, .agg TX, .int .i64 m] W fun e w' => e = .returned (.bool (is m)) ∧ Ext W w') := Lib.hid (by
                  rw [← HOX.out, ← hTX, his]
                  have hor := HOR.out
                  generalize xs.orbit = o at hor
                  obtain ⟨p, f, lo, hi, no, tu, sl⟩ := o
                  obtain ⟨id, ⟨x, y⟩, re, an, sk⟩ := ys
                  intro m W h1 h2
                  exact plainly_any p f lo hi no tu sl id x y re an sk m W hor htv h1 h2)
                have HQN := Lib.hid hqn2
                have HQL := Lib.hid hql
                have HY0 := Lib.hid hy0
                have HA0 := Lib.hid ha0
                have HE0 := Lib.hid he0
                clear hqn2 hql hy0 hTX hyid his hpo hpp htv hr hz ha0 he0
                subst hA
                have K5 := J5.ext (Ext.trans hx hy)
                have K10 := J10.ext hy
                have HS1 := Lib.hid (ext_cell hy HS0.out)
                obtain ⟨Wd, hWd⟩ : ∃ W : World, W = wr := ⟨_, rfl⟩
                rw [← hWd] at hy HO HRT2 HY0 K5 K10 HS1 ⊢
                clear hWd
                have hdx := Ext.trans hB (Ext.trans hx hy)
                have hds := Below.size hdx
                have t0 : Wd.cell? ⟨g5, 0, none⟩ = some (.int .i64 a) := K5.cell 0
                have s6 : Wd.cell? ⟨g10, 6, none⟩ = some (.int .i64 sl) := (K10.cell 6).trans HC6.out
                go_wp2
                clear t0 s6
                go_loopw [8, 12, 13] (fun x y z wr => ∃ (m fr : Int) (D : List Spl), a0 ≤ m ∧ m ≤ ee + 1 ∧ z = .int .i64 m ∧ y = .int .i64 fr ∧ Hid (OutR w wr x (Q0 ++ D.map po)) ∧ Hid (ScanI is a0 ee m fr D) ∧ Ext Wd wr) (fun _ _ z _ => (ee + 1 - intOf z).toNat)
                case atStart => exact ⟨a0, a0 - 1, [], Int.le_refl _, by omega, rfl, rfl, Lib.hid (by simpa using HO.out), Lib.hid (.inl ⟨rfl, rfl⟩), Ext.refl _⟩
                case round =>
                  clear HO
                  obtain ⟨m, fr, D, m1, m2, rfl, rfl, HO, HSC, hv⟩ := hrel
                  have t0 : wr.cell? ⟨g5, 0, none⟩ = some (.int .i64 a) := (K5.ext hv).cell 0
                  have t1 : wr.cell? ⟨g5, 1, none⟩ = some (.int .i64 b) := (K5.ext hv).cell 1
                  have s6 : wr.cell? ⟨g10, 6, none⟩ = some (.int .i64 sl) := ((K10.ext hv).cell 6).trans HC6.out
                  have wm_ : IntKind.i64.wrap (m + 1) = m + 1 := IntWalk.i64_in _ (by omega)
                  by_cases hme : m ≤ ee
                  · skip
                    go_upto_region 15 with (fail)
                    go_cut [14] from 67 to 82 (fun v wc => ∃ q : Bool, v = .bool q ∧ Hid ((q = true → m < ee ∧ is m = true) ∧ (q = false → m = ee ∨ is m = false)) ∧ Ext wr wc)
                    case first =>
                      by_cases hml : m < ee
                      · have K10w := K10.ext hv
                        have HRT3 := Lib.hid (RA.range2 HRT2.out hv)
                        have hpc := fun W => HPY.out m W (by omega) (by omega)
                        generalize hqm : is m = q at hpc
                        have HQM := Lib.hid hqm
                        have HPC := Lib.hid hpc
                        clear hpc hqm
                        refine wp_region_obl 16 (fun ix vals v w1 => match ix with | 0 => v = .int .i64 m | 1 => v = .pointer (some ⟨g5, 1, none⟩) | 2 => v = .int .i64 b | 3 => v = .pointer (some ⟨g10, 6, none⟩) | 4 => v = .int .i64 sl | 5 => v = .int .i64 ee | 6 => v = .bool true | 7 => v = .bool true | 8 => v = .agg OX | 9 => v = .slice (some ⟨gt, gto, none⟩) nt ct | 10 => v = .int .i64 (k : Int) | 11 => v = .pointer (some ⟨gt, gto + k * 6, none⟩) | 12 => v = .agg TX | 13 => v = .int .i64 m | 14 => v = .bool q | _ => v = .bool q) (by kernel_rfl) (by kernel_rfl) ?_ ?_ ?_ ?_
                        · intro ix vals v w1 w2 hi hr hx
                          match ix, hr with
                          | 0, hr => exact hr
                          | 1, hr => exact hr
                          | 2, hr => exact hr
                          | 3, hr => exact hr
                          | 4, hr => exact hr
                          | 5, hr => exact hr
                          | 6, hr => exact hr
                          | 7, hr => exact hr
                          | 8, hr => exact hr
                          | 9, hr => exact hr
                          | 10, hr => exact hr
                          | 11, hr => exact hr
                          | 12, hr => exact hr
                          | 13, hr => exact hr
                          | 14, hr => exact hr
                          | (kx + 15), hr => exact hr
                        · intro ix vals vals_ v w1 hi hv hr
                          exact hr
                        · refine obls_ofT [some 67, some 68, some 69, some 70, some 71, some 72, some 73, some 74, some 75, some 76, some 77, some 78, some 79, some 80, some 81, some 82, some 14] [(13, .int .i64 m), (5, .pointer (some ⟨g5, 0, none⟩)), (10, .pointer (some ⟨g10, 0, none⟩)), (1, .slice (some ⟨gt, gto, none⟩) nt ct), (11, .int .i64 (k : Int))] 175 (by kernel_rfl) (by kernel_rfl) ⟨by kernel_rfl, by kernel_rfl, by kernel_rfl, by kernel_rfl, by kernel_rfl, trivial⟩ ?_
                          refine ⟨?_, ?_, ?_, ?_, ?_, ?_, ?_, ?_, ?_, ?_, ?_, ?_, ?_, ?_, ?_, ?_, trivial⟩
                          · intro vals w1 hx hd
                            refine .run [(13, .int .i64 m)] { dst := some 0, op := Go.Op.move (Go.Operand.const (.int .i64 m)), type := 3, pos := "", after := #[], guard := none } 67 ⟨.out (by kernel_rfl) (by kernel_rfl), trivial⟩ (by kernel_rfl) (by kernel_rfl) (by kernel_rfl) rfl rfl rfl ?_
                            clear hd
                            go_wp2
                            exact ⟨rfl, Ext.refl _, rfl⟩
                          · intro vals w1 hx hd
                            refine .run [(5, .pointer (some ⟨g5, 0, none⟩))] { dst := some 0, op := Go.Op.fieldAddr 34 (Go.Operand.const (.pointer (some ⟨g5, 0, none⟩))) 1, type := 0, pos := "", after := #[], guard := none } 68 ⟨.out (by kernel_rfl) (by kernel_rfl), trivial⟩ (by kernel_rfl) (by kernel_rfl) (by kernel_rfl) rfl rfl rfl ?_
                            clear hd
                            go_wp2
                            exact ⟨rfl, Ext.refl _, rfl⟩
                          · intro vals w1 hx hd
                            have e1 : vals 1 = .pointer (some ⟨g5, 1, none⟩) := hd 1 (by decide)
                            refine .run [(68, .pointer (some ⟨g5, 1, none⟩))] { dst := some 0, op := Go.Op.load 3 (Go.Operand.const (.pointer (some ⟨g5, 1, none⟩))), type := 3, pos := "", after := #[], guard := none } 69 ⟨.inn 1 (by kernel_rfl) e1, trivial⟩ (by kernel_rfl) (by kernel_rfl) (by kernel_rfl) rfl rfl rfl ?_
                            clear hd e1
                            have t1 := ext_cell hx t1
                            go_wp2
                            exact ⟨rfl, Ext.refl _, rfl⟩
                          · intro vals w1 hx hd
                            refine .run [(10, .pointer (some ⟨g10, 0, none⟩))] { dst := some 0, op := Go.Op.fieldAddr 25 (Go.Operand.const (.pointer (some ⟨g10, 0, none⟩))) 6, type := 0, pos := "", after := #[], guard := none } 70 ⟨.out (by kernel_rfl) (by kernel_rfl), trivial⟩ (by kernel_rfl) (by kernel_rfl) (by kernel_rfl) rfl rfl rfl ?_
                            clear hd
                            go_wp2
                            exact ⟨rfl, Ext.refl _, rfl⟩
                          · intro vals w1 hx hd
                            have e3 : vals 3 = .pointer (some ⟨g10, 6, none⟩) := hd 3 (by decide)
                            refine .run [(70, .pointer (some ⟨g10, 6, none⟩))] { dst := some 0, op := Go.Op.load 3 (Go.Operand.const (.pointer (some ⟨g10, 6, none⟩))), type := 3, pos := "", after := #[], guard := none } 71 ⟨.inn 3 (by kernel_rfl) e3, trivial⟩ (by kernel_rfl) (by kernel_rfl) (by kernel_rfl) rfl rfl rfl ?_
                            clear hd e3
                            have s6 := ext_cell hx s6
                            go_wp2
                            exact ⟨rfl, Ext.refl _, rfl⟩
                          · intro vals w1 hx hd
                            have e2 : vals 2 = .int .i64 b := hd 2 (by decide)
                            have e4 : vals 4 = .int .i64 sl := hd 4 (by decide)
                            refine .run [(69, .int .i64 b), (71, .int .i64 sl)] { dst := some 0, op := Go.Op.binOp Go.BinOp.add 3 (Go.Operand.const (.int .i64 b)) (Go.Operand.const (.int .i64 sl)) 3, type := 3, pos := "", after := #[], guard := none } 72 ⟨.inn 2 (by kernel_rfl) e2, .inn 4 (by kernel_rfl) e4, trivial⟩ (by kernel_rfl) (by kernel_rfl) (by kernel_rfl) rfl rfl rfl ?_
                            clear hd e2 e4
                            go_wp2
                            exact ⟨rfl, Ext.refl _, rfl⟩
                          · intro vals w1 hx hd
                            have e0 : vals 0 = .int .i64 m := hd 0 (by decide)
                            have e5 : vals 5 = .int .i64 ee := hd 5 (by decide)
                            refine .run [(67, .int .i64 m), (72, .int .i64 ee)] { dst := some 0, op := Go.Op.binOp Go.BinOp.lss 3 (Go.Operand.const (.int .i64 m)) (Go.Operand.const (.int .i64 ee)) 3, type := 4, pos := "", after := #[], guard := none } 73 ⟨.inn 0 (by kernel_rfl) e0, .inn 5 (by kernel_rfl) e5, trivial⟩ (by kernel_rfl) (by kernel_rfl) (by kernel_rfl) rfl rfl rfl ?_
                            clear hd e0 e5
                            go_wp2
                            exact ⟨rfl, Ext.refl _, rfl⟩
                          · intro vals w1 hx hd
                            have e6 : vals 6 = .bool true := hd 6 (by decide)
                            refine .run [(73, .bool true)] { dst := some 0, op := Go.Op.move (Go.Operand.const (.bool true)), type := 4, pos := "", after := #[], guard := none } 74 ⟨.inn 6 (by kernel_rfl) e6, trivial⟩ (by kernel_rfl) (by kernel_rfl) (by kernel_rfl) rfl rfl rfl ?_
                            clear hd e6
                            go_wp2
                            exact ⟨rfl, Ext.refl _, rfl⟩
                          · intro vals w1 hx hd
                            have e7 : vals 7 = .bool true := hd 7 (by decide)
                            refine .run [(10, .pointer (some ⟨g10, 0, none⟩)), (74, .bool true)] { dst := some 0, op := Go.Op.load 25 (Go.Operand.const (.pointer (some ⟨g10, 0, none⟩))), type := 25, pos := "", after := #[], guard := none } 75 ⟨.out (by kernel_rfl) (by kernel_rfl), .inn 7 (by kernel_rfl) e7, trivial⟩ (by kernel_rfl) (by kernel_rfl) (by kernel_rfl) rfl rfl rfl ?_
                            clear hd e7
                            refine wpList_load_st rfl 25 _ rfl g10 0 rfl OX OX.toList (by simp) _ (Blk.range (K10w.ext hx.undrew) _ rfl) Try.underlying25 rfl (by rw [Array.length_toList, HZO.out]; exact orb_size) ?_
                            go_wp2
                            exact ⟨rfl, Ext.refl _, rfl⟩
                          · intro vals w1 hx hd
                            have e7 : vals 7 = .bool true := hd 7 (by decide)
                            refine .run [(1, .slice (some ⟨gt, gto, none⟩) nt ct), (74, .bool true)] { dst := some 0, op := Go.Op.move (Go.Operand.const (.slice (some ⟨gt, gto, none⟩) nt ct)), type := 38, pos := "", after := #[], guard := none } 76 ⟨.out (by kernel_rfl) (by kernel_rfl), .inn 7 (by kernel_rfl) e7, trivial⟩ (by kernel_rfl) (by kernel_rfl) (by kernel_rfl) rfl rfl rfl ?_
                            clear hd e7
                            go_wp2
                            exact ⟨rfl, Ext.refl _, rfl⟩
                          · intro vals w1 hx hd
                            have e7 : vals 7 = .bool true := hd 7 (by decide)
                            refine .run [(11, .int .i64 (k : Int)), (74, .bool true)] { dst := some 0, op := Go.Op.move (Go.Operand.const (.int .i64 (k : Int))), type := 3, pos := "", after := #[], guard := none } 77 ⟨.out (by kernel_rfl) (by kernel_rfl), .inn 7 (by kernel_rfl) e7, trivial⟩ (by kernel_rfl) (by kernel_rfl) (by kernel_rfl) rfl rfl rfl ?_
                            clear hd e7
                            go_wp2
                            exact ⟨rfl, Ext.refl _, rfl⟩
                          · intro vals w1 hx hd
                            have e9 : vals 9 = .slice (some ⟨gt, gto, none⟩) nt ct := hd 9 (by decide)
                            have e10 : vals 10 = .int .i64 (k : Int) := hd 10 (by decide)
                            have e7 : vals 7 = .bool true := hd 7 (by decide)
                            refine .run [(76, .slice (some ⟨gt, gto, none⟩) nt ct), (77, .int .i64 (k : Int)), (74, .bool true)] { dst := some 0, op := Go.Op.indexAddr 38 (Go.Operand.const (.slice (some ⟨gt, gto, none⟩) nt ct)) (Go.Operand.const (.int .i64 (k : Int))), type := 0, pos := "", after := #[], guard := none } 78 ⟨.inn 9 (by kernel_rfl) e9, .inn 10 (by kernel_rfl) e10, .inn 7 (by kernel_rfl) e7, trivial⟩ (by kernel_rfl) (by kernel_rfl) (by kernel_rfl) rfl rfl rfl ?_
                            clear hd e9 e10 e7
                            go_wp2
                            exact ⟨rfl, Ext.refl _, rfl⟩
                          · intro vals w1 hx hd
                            have e11 : vals 11 = .pointer (some ⟨gt, gto + k * 6, none⟩) := hd 11 (by decide)
                            have e7 : vals 7 = .bool true := hd 7 (by decide)
                            refine .run [(78, .pointer (some ⟨gt, gto + k * 6, none⟩)), (74, .bool true)] { dst := some 0, op := Go.Op.load 31 (Go.Operand.const (.pointer (some ⟨gt, gto + k * 6, none⟩))), type := 31, pos := "", after := #[], guard := none } 79 ⟨.inn 11 (by kernel_rfl) e11, .inn 7 (by kernel_rfl) e7, trivial⟩ (by kernel_rfl) (by kernel_rfl) (by kernel_rfl) rfl rfl rfl ?_
                            clear hd e11 e7
                            refine wpList_load_st rfl 31 _ rfl gt (gto + k * 6) rfl TX TX.toList (by simp) _ (RA.range2 HRT3.out hx.undrew) Try.underlying31 rfl (by rw [Array.length_toList, HZT.out]; exact stn_size_) ?_
                            go_wp2
                            exact ⟨rfl, Ext.refl _, rfl⟩
                          · intro vals w1 hx hd
                            have e7 : vals 7 = .bool true := hd 7 (by decide)
                            refine .run [(13, .int .i64 m), (74, .bool true)] { dst := some 0, op := Go.Op.move (Go.Operand.const (.int .i64 m)), type := 3, pos := "", after := #[], guard := none } 80 ⟨.out (by kernel_rfl) (by kernel_rfl), .inn 7 (by kernel_rfl) e7, trivial⟩ (by kernel_rfl) (by kernel_rfl) (by kernel_rfl) rfl rfl rfl ?_
                            clear hd e7
                            go_wp2
                            exact ⟨rfl, Ext.refl _, rfl⟩
                          · intro vals w1 hx hd
                            have e8 : vals 8 = .agg OX := hd 8 (by decide)
                            have e12 : vals 12 = .agg TX := hd 12 (by decide)
                            have e13 : vals 13 = .int .i64 m := hd 13 (by decide)
                            have e7 : vals 7 = .bool true := hd 7 (by decide)
                            refine .run [(75, .agg OX), (79, .agg TX), (80, .int .i64 m), (74, .bool true)] { dst := some 0, op := Go.Op.call { callee := Go.Callee.value (Go.Operand.func 66), args := #[(Go.Operand.const (.agg OX)), (Go.Operand.const (.agg TX)), (Go.Operand.const (.int .i64 m))], argTypes := #[25, 31, 3] }, type := 4, pos := "", after := #[], guard := none } 81 ⟨.inn 8 (by kernel_rfl) e8, .inn 12 (by kernel_rfl) e12, .inn 13 (by kernel_rfl) e13, .inn 7 (by kernel_rfl) e7, trivial⟩ (by kernel_rfl) (by kernel_rfl) (by kernel_rfl) rfl rfl rfl ?_
                            clear hd e8 e12 e13 e7
                            go_wp2_with fail
                            refine (HPC.out _).mono ?_
                            rintro e w2 ⟨rfl, hb2⟩
                            go_wp2
                            exact ⟨rfl, hb2, rfl⟩
                          · intro vals w1 hx hd
                            have e7 : vals 7 = .bool true := hd 7 (by decide)
                            have e14 : vals 14 = .bool q := hd 14 (by decide)
                            refine .run [(74, .bool true), (81, .bool q)] { dst := some 0, op := Go.Op.pick (Go.Operand.const (.bool true)) (Go.Operand.const (.bool q)) (Go.Operand.const (Go.Value.bool false)), type := 4, pos := "", after := #[], guard := none } 82 ⟨.inn 7 (by kernel_rfl) e7, .inn 14 (by kernel_rfl) e14, trivial⟩ (by kernel_rfl) (by kernel_rfl) (by kernel_rfl) rfl rfl rfl ?_
                            clear hd e7 e14
                            go_wp2
                            exact ⟨rfl, Ext.refl _, rfl⟩
                        intro vals W5 hx hf
                        have e15 : vals 15 = .bool q := hf 15 (by omega)
                        clear hf
                        have hx := hx.undrew
                        refine tail1 16 _ (by kernel_rfl) (by kernel_rfl) rfl ?_
                        simp only [Lf, dstAt, Act.put, List.getElem?_toArray, List.getElem?_cons_zero, List.getElem?_cons_succ, Option.bind_some, List.setIfInBounds_toArray, List.set_cons_zero, List.set_cons_succ]
                        rw [e15]
                        clear e15
                        go_wp2_with fail
                        go_meet
                        case rel => exact ⟨q, rfl, Lib.hid ⟨fun h => ⟨hml, by rw [HQM.out]; exact h⟩, fun h => .inr (by rw [HQM.out]; exact h)⟩, hx⟩
                      · skip
                        have hmf : decide (m < ee) = false := by simp; omega
                        refine wp_region_obl 16 (fun ix vals v w1 => match ix with | 0 => v = .int .i64 m | 1 => v = .pointer (some ⟨g5, 1, none⟩) | 2 => v = .int .i64 b | 3 => v = .pointer (some ⟨g10, 6, none⟩) | 4 => v = .int .i64 sl | 5 => v = .int .i64 ee | 6 => v = .bool false | 7 => v = .bool false | 8 => v = undef | 9 => v = undef | 10 => v = undef | 11 => v = undef | 12 => v = undef | 13 => v = undef | 14 => v = undef | _ => v = .bool false) (by kernel_rfl) (by kernel_rfl) ?_ ?_ ?_ ?_
                        · intro ix vals v w1 w2 hi hr hx
                          match ix, hr with
                          | 0, hr => exact hr
                          | 1, hr => exact hr
                          | 2, hr => exact hr
                          | 3, hr => exact hr
                          | 4, hr => exact hr
                          | 5, hr => exact hr
                          | 6, hr => exact hr
                          | 7, hr => exact hr
                          | 8, hr => exact hr
                          | 9, hr => exact hr
                          | 10, hr => exact hr
                          | 11, hr => exact hr
                          | 12, hr => exact hr
                          | 13, hr => exact hr
                          | 14, hr => exact hr
                          | (kx + 15), hr => exact hr
                        · intro ix vals vals_ v w1 hi hv hr
                          exact hr
                        · refine obls_ofT [some 67, some 68, some 69, some 70, some 71, some 72, some 73, some 74, some 75, some 76, some 77, some 78, some 79, some 80, some 81, some 82, some 14] [(13, .int .i64 m), (5, .pointer (some ⟨g5, 0, none⟩)), (10, .pointer (some ⟨g10, 0, none⟩)), (1, .slice (some ⟨gt, gto, none⟩) nt ct), (11, .int .i64 (k : Int))] 175 (by kernel_rfl) (by kernel_rfl) ⟨by kernel_rfl, by kernel_rfl, by kernel_rfl, by kernel_rfl, by kernel_rfl, trivial⟩ ?_
                          refine ⟨?_, ?_, ?_, ?_, ?_, ?_, ?_, ?_, ?_, ?_, ?_, ?_, ?_, ?_, ?_, ?_, trivial⟩
                          · intro vals w1 hx hd
                            refine .run [(13, .int .i64 m)] { dst := some 0, op := Go.Op.move (Go.Operand.const (.int .i64 m)), type := 3, pos := "", after := #[], guard := none } 67 ⟨.out (by kernel_rfl) (by kernel_rfl), trivial⟩ (by kernel_rfl) (by kernel_rfl) (by kernel_rfl) rfl rfl rfl ?_
                            clear hd
                            go_wp2
                            exact ⟨rfl, Ext.refl _, rfl⟩
                          · intro vals w1 hx hd
                            refine .run [(5, .pointer (some ⟨g5, 0, none⟩))] { dst := some 0, op := Go.Op.fieldAddr 34 (Go.Operand.const (.pointer (some ⟨g5, 0, none⟩))) 1, type := 0, pos := "", after := #[], guard := none } 68 ⟨.out (by kernel_rfl) (by kernel_rfl), trivial⟩ (by kernel_rfl) (by kernel_rfl) (by kernel_rfl) rfl rfl rfl ?_
                            clear hd
                            go_wp2
                            exact ⟨rfl, Ext.refl _, rfl⟩
                          · intro vals w1 hx hd
                            have e1 : vals 1 = .pointer (some ⟨g5, 1, none⟩) := hd 1 (by decide)
                            refine .run [(68, .pointer (some ⟨g5, 1, none⟩))] { dst := some 0, op := Go.Op.load 3 (Go.Operand.const (.pointer (some ⟨g5, 1, none⟩))), type := 3, pos := "", after := #[], guard := none } 69 ⟨.inn 1 (by kernel_rfl) e1, trivial⟩ (by kernel_rfl) (by kernel_rfl) (by kernel_rfl) rfl rfl rfl ?_
                            clear hd e1
                            have t1 := ext_cell hx t1
                            go_wp2
                            exact ⟨rfl, Ext.refl _, rfl⟩
                          · intro vals w1 hx hd
                            refine .run [(10, .pointer (some ⟨g10, 0, none⟩))] { dst := some 0, op := Go.Op.fieldAddr 25 (Go.Operand.const (.pointer (some ⟨g10, 0, none⟩))) 6, type := 0, pos := "", after := #[], guard := none } 70 ⟨.out (by kernel_rfl) (by kernel_rfl), trivial⟩ (by kernel_rfl) (by kernel_rfl) (by kernel_rfl) rfl rfl rfl ?_
                            clear hd
                            go_wp2
                            exact ⟨rfl, Ext.refl _, rfl⟩
                          · intro vals w1 hx hd
                            have e3 : vals 3 = .pointer (some ⟨g10, 6, none⟩) := hd 3 (by decide)
                            refine .run [(70, .pointer (some ⟨g10, 6, none⟩))] { dst := some 0, op := Go.Op.load 3 (Go.Operand.const (.pointer (some ⟨g10, 6, none⟩))), type := 3, pos := "", after := #[], guard := none } 71 ⟨.inn 3 (by kernel_rfl) e3, trivial⟩ (by kernel_rfl) (by kernel_rfl) (by kernel_rfl) rfl rfl rfl ?_
                            clear hd e3
                            have s6 := ext_cell hx s6
                            go_wp2
                            exact ⟨rfl, Ext.refl _, rfl⟩
                          · intro vals w1 hx hd
                            have e2 : vals 2 = .int .i64 b := hd 2 (by decide)
                            have e4 : vals 4 = .int .i64 sl := hd 4 (by decide)
                            refine .run [(69, .int .i64 b), (71, .int .i64 sl)] { dst := some 0, op := Go.Op.binOp Go.BinOp.add 3 (Go.Operand.const (.int .i64 b)) (Go.Operand.const (.int .i64 sl)) 3, type := 3, pos := "", after := #[], guard := none } 72 ⟨.inn 2 (by kernel_rfl) e2, .inn 4 (by kernel_rfl) e4, trivial⟩ (by kernel_rfl) (by kernel_rfl) (by kernel_rfl) rfl rfl rfl ?_
                            clear hd e2 e4
                            go_wp2
                            exact ⟨rfl, Ext.refl _, rfl⟩
                          · intro vals w1 hx hd
                            have e0 : vals 0 = .int .i64 m := hd 0 (by decide)
                            have e5 : vals 5 = .int .i64 ee := hd 5 (by decide)
                            refine .run [(67, .int .i64 m), (72, .int .i64 ee)] { dst := some 0, op := Go.Op.binOp Go.BinOp.lss 3 (Go.Operand.const (.int .i64 m)) (Go.Operand.const (.int .i64 ee)) 3, type := 4, pos := "", after := #[], guard := none } 73 ⟨.inn 0 (by kernel_rfl) e0, .inn 5 (by kernel_rfl) e5, trivial⟩ (by kernel_rfl) (by kernel_rfl) (by kernel_rfl) rfl rfl rfl ?_
                            clear hd e0 e5
                            go_wp2
                            exact ⟨rfl, Ext.refl _, rfl⟩
                          · intro vals w1 hx hd
                            have e6 : vals 6 = .bool false := hd 6 (by decide)
                            refine .run [(73, .bool false)] { dst := some 0, op := Go.Op.move (Go.Operand.const (.bool false)), type := 4, pos := "", after := #[], guard := none } 74 ⟨.inn 6 (by kernel_rfl) e6, trivial⟩ (by kernel_rfl) (by kernel_rfl) (by kernel_rfl) rfl rfl rfl ?_
                            clear hd e6
                            go_wp2
                            exact ⟨rfl, Ext.refl _, rfl⟩
                          · intro vals w1 hx hd
                            have e7 : vals 7 = .bool false := hd 7 (by decide)
                            exact .no [(74, .bool false)] 75 ⟨.inn 7 (by kernel_rfl) e7, trivial⟩ (by kernel_rfl) rfl (by kernel_rfl) rfl
                          · intro vals w1 hx hd
                            have e7 : vals 7 = .bool false := hd 7 (by decide)
                            exact .no [(74, .bool false)] 76 ⟨.inn 7 (by kernel_rfl) e7, trivial⟩ (by kernel_rfl) rfl (by kernel_rfl) rfl
                          · intro vals w1 hx hd
                            have e7 : vals 7 = .bool false := hd 7 (by decide)
                            exact .no [(74, .bool false)] 77 ⟨.inn 7 (by kernel_rfl) e7, trivial⟩ (by kernel_rfl) rfl (by kernel_rfl) rfl
                          · intro vals w1 hx hd
                            have e7 : vals 7 = .bool false := hd 7 (by decide)
                            exact .no [(74, .bool false)] 78 ⟨.inn 7 (by kernel_rfl) e7, trivial⟩ (by kernel_rfl) rfl (by kernel_rfl) rfl
                          · intro vals w1 hx hd
                            have e7 : vals 7 = .bool false := hd 7 (by decide)
                            exact .no [(74, .bool false)] 79 ⟨.inn 7 (by kernel_rfl) e7, trivial⟩ (by kernel_rfl) rfl (by kernel_rfl) rfl
                          · intro vals w1 hx hd
                            have e7 : vals 7 = .bool false := hd 7 (by decide)
                            exact .no [(74, .bool false)] 80 ⟨.inn 7 (by kernel_rfl) e7, trivial⟩ (by kernel_rfl) rfl (by kernel_rfl) rfl
                          · intro vals w1 hx hd
                            have e7 : vals 7 = .bool false := hd 7 (by decide)
                            exact .no [(74, .bool false)] 81 ⟨.inn 7 (by kernel_rfl) e7, trivial⟩ (by kernel_rfl) rfl (by kernel_rfl) rfl
                          · intro vals w1 hx hd
                            have e7 : vals 7 = .bool false := hd 7 (by decide)
                            have e14 : vals 14 = undef := hd 14 (by decide)
                            refine .run [(74, .bool false), (81, undef)] { dst := some 0, op := Go.Op.pick (Go.Operand.const (.bool false)) (Go.Operand.const (undef)) (Go.Operand.const (Go.Value.bool false)), type := 4, pos := "", after := #[], guard := none } 82 ⟨.inn 7 (by kernel_rfl) e7, .inn 14 (by kernel_rfl) e14, trivial⟩ (by kernel_rfl) (by kernel_rfl) (by kernel_rfl) rfl rfl rfl ?_
                            clear hd e7 e14
                            go_wp2
                            exact ⟨rfl, Ext.refl _, rfl⟩
                        intro vals W5 hx hf
                        have e15 : vals 15 = .bool false := hf 15 (by omega)
                        clear hf
                        have hx := hx.undrew
                        refine tail1 16 _ (by kernel_rfl) (by kernel_rfl) rfl ?_
                        simp only [Lf, dstAt, Act.put, List.getElem?_toArray, List.getElem?_cons_zero, List.getElem?_cons_succ, Option.bind_some, List.setIfInBounds_toArray, List.set_cons_zero, List.set_cons_succ]
                        rw [e15]
                        clear e15
                        go_wp2_with fail
                        go_meet
                        case rel => exact ⟨false, rfl, Lib.hid ⟨fun h => (by cases h), fun _ => .inl (by omega)⟩, hx⟩
                    obtain ⟨q, rfl, HQ, hxc⟩ := hcut
                    have HO := Lib.hid (HO.out.ext hxc)
                    have hv := Ext.trans hv hxc
                    clear hxc t0 t1 s6
                    obtain ⟨Wx, hWx⟩ : ∃ W : World, W = wc := ⟨_, rfl⟩
                    rw [← hWx] at HO hv ⊢
                    clear hWx
                    have t0 : Wx.cell? ⟨g5, 0, none⟩ = some (.int .i64 a) := (K5.ext hv).cell 0
                    have s6 : Wx.cell? ⟨g10, 6, none⟩ = some (.int .i64 sl) := ((K10.ext hv).cell 6).trans HC6.out
                    rcases HSC.out with ⟨hf1, hall⟩ | ⟨hf1, hf2, hf3, hop, hall⟩
                    · skip
                      have hfa : a0 - 1 < a0 := by omega
                      subst hf1
                      cases q
                      · skip
                        have hq := HQ.out.2 rfl
                        have HSC2 : Hid (ScanI is a0 ee (m + 1) (a0 - 1) D) := Lib.hid (.inl ⟨rfl, by
                          rw [hall]
                          rcases Int.lt_or_le m ee with h | h
                          · rw [rest_skip h (hq.resolve_left (by omega))]
                          · rw [rest_end h, rest_end (by omega)]⟩)
                        clear hall HSC hq
                        go_wp2
                        clear t0 s6
                        go_roundw
                        case rel => exact ⟨m + 1, a0 - 1, D, by omega, by omega, rfl, rfl, HO, HSC2, hv⟩
                        case measure => simp [intOf]; omega
                      · skip
                        obtain ⟨hq1, hq2⟩ := HQ.out.1 rfl
                        have HSC2 : Hid (ScanI is a0 ee (m + 1) m D) := Lib.hid (.inr ⟨m1, by omega, by omega, fun t h1 h2 => by rw [show t = m by omega]; exact hq2, hall⟩)
                        clear hall HSC hq2
                        go_wp2
                        clear t0 s6
                        go_roundw
                        case rel => exact ⟨m + 1, m, D, by omega, by omega, rfl, rfl, HO, HSC2, hv⟩
                        case measure => simp [intOf]; omega
                    · skip
                      have hfa : ¬ fr < a0 := by omega
                      cases q
                      · have hcl := rest_close hf2 hf3 hop (HQ.out.2 rfl)
                        have hrr : restP is ee m = restP is ee (m + 1) := by
                          rcases Int.lt_or_le m ee with h | h
                          · rw [rest_skip h ((HQ.out.2 rfl).resolve_left (by omega))]
                          · rw [rest_end h, rest_end (by omega)]
                        have hall2 : spellsP is a0 (ee - a0).toNat = (D ++ [⟨fr, m⟩]) ++ restP is ee (m + 1) := by
                          rw [hall, hcl, hrr, List.append_assoc]
                          rfl
                        have hlen : (Q0 ++ (D ++ [(⟨fr, m⟩ : Spl)]).map po).length ≤ AL.length := by
                          have := HQL.out
                          rw [hall2] at this
                          simp only [List.length_append, List.length_map, List.length_cons, List.length_nil] at this ⊢
                          omega
                        have HSC2 : Hid (ScanI is a0 ee (m + 1) (a0 - 1) (D ++ [⟨fr, m⟩])) := Lib.hid (.inl ⟨rfl, hall2⟩)
                        have HLEN := Lib.hid hlen
                        clear hcl hall hall2 hrr hop HSC hlen HQ
                        have hpm := HPO.out fr m
                        have hcut1 := cut_any (fr + sl) (m - sl) a b
                        have hcut2 := cut_any (fr - sl) (m + sl) a b
                        rw [show (⟨fr + sl, m - sl⟩ : Spl) = ⟨fr - -sl, m + -sl⟩ by congr 1; omega, cut_wider] at hcut1
                        rw [cut_wider] at hcut2
                        obtain ⟨P, hP⟩ : ∃ P, P = po ⟨fr, m⟩ := ⟨_, rfl⟩
                        rw [← hP] at hpm
                        generalize widerP ⟨fr, m⟩ (-sl) ⟨a, b⟩ = u1 at hpm hcut1
                        generalize widerP ⟨fr, m⟩ sl ⟨a, b⟩ = u2 at hpm hcut2
                        obtain ⟨p2, p3⟩ := u1
                        obtain ⟨p4, p5⟩ := u2
                        dsimp only at hcut1 hcut2
                        have hmap : (Q0 ++ (D ++ [(⟨fr, m⟩ : Spl)]).map po) = (Q0 ++ D.map po) ++ [P] := by rw [hP]; simp
                        rw [hmap] at HLEN
                        have HMAP := Lib.hid hmap
                        have HPM := Lib.hid hpm
                        have HC1 := Lib.hid hcut1
                        have HC2 := Lib.hid hcut2
                        clear hmap hpm hP hcut1 hcut2
                        obtain ⟨QL, hQL⟩ : ∃ l, l = Q0 ++ D.map po := ⟨_, rfl⟩
                        rw [← hQL] at HLEN HO
                        have HQ2 := Lib.hid hQL
                        clear hQL
                        obtain ⟨AO, cO, hvo, ho1, ho2, hAO⟩ := HO.out.form
                        obtain ⟨nO, hnO⟩ : ∃ n, n = QL.length := ⟨_, rfl⟩
                        rw [← hnO] at hvo ho1 hAO
                        subst hvo
                        have hO64 : nO ≤ 64 := by rw [hnO]; exact HO.out.2
                        have HRA := Lib.hid (HO.out.ra hnO)
                        obtain ⟨OL, hOL⟩ : ∃ l, l = sortP (ltOf cmpPas) QL := ⟨_, rfl⟩
                        have hOLn : OL.length = nO := by rw [hOL, len_sortQ, hnO]
                        rw [← hOL] at HRA
                        have HOL := Lib.hid hOL
                        have HNO := Lib.hid hnO
                        have HOLN := Lib.hid hOLn
                        have HAO := Lib.hid hAO
                        have hcO : cO ≤ 9223372036854775807 := by unfold maxLen at ho2; exact ho2
                        clear hOL hnO hOLn hAO ho2 HO
                        have w4_ : IntKind.i64.wrap (fr + sl) = fr + sl := IntWalk.i64_in _ (by omega)
                        have w5_ : IntKind.i64.wrap (m - sl) = m - sl := IntWalk.i64_in _ (by omega)
                        have w6_ : IntKind.i64.wrap (fr - sl) = fr - sl := IntWalk.i64_in _ (by omega)
                        have w7_ : IntKind.i64.wrap (m + sl) = m + sl := IntWalk.i64_in _ (by omega)
                        go_upto_region 19 with (fail)
                        have hs0 := ext_cell hv HS1.out
                        have hy0 := ext_cell hv HY0.out
                        refine wp_region_obl 12 (fun ix vals v w1 => match ix with | 0 => v = .slice (some ⟨gs, gso, none⟩) ns cs | 1 => v = .int .i64 (i : Int) | 2 => v = .pointer (some ⟨gs, gso + i * 21, none⟩) | 3 => v = .pointer (some ⟨gs, gso + i * 21, none⟩) | 4 => v = .int .i64 sid | 5 => v = .slice (some ⟨gt, gto, none⟩) nt ct | 6 => v = .int .i64 (k : Int) | 7 => v = .pointer (some ⟨gt, gto + k * 6, none⟩) | 8 => v = .pointer (some ⟨gt, gto + k * 6, none⟩) | 9 => v = .int .i64 yid | 10 => v = .agg #[.int .i64 sid, .int .i64 yid, .int .i64 0, .int .i64 0, .int .i64 0, .int .i64 0] | _ => ∃ g, v = .pointer (some ⟨g, 0, none⟩) ∧ Wx.heap.size ≤ g ∧ Blk w1 g 47 #[.int .i64 0, .int .i64 0, .int .i64 0, .int .i64 0, .int .i64 0, .int .i64 0]) (by kernel_rfl) (by kernel_rfl) ?_ ?_ ?_ ?_
                        · intro ix vals v w1 w2 hi hr hx
                          match ix, hr with
                          | 0, hr => exact hr
                          | 1, hr => exact hr
                          | 2, hr => exact hr
                          | 3, hr => exact hr
                          | 4, hr => exact hr
                          | 5, hr => exact hr
                          | 6, hr => exact hr
                          | 7, hr => exact hr
                          | 8, hr => exact hr
                          | 9, hr => exact hr
                          | 10, hr => exact hr
                          | (kx + 11), hr => obtain ⟨g, h1, h2, h3⟩ := hr; exact ⟨g, h1, h2, h3.ext hx⟩
                        · intro ix vals vals_ v w1 hi hv hr
                          exact hr
                        · refine obls_ofT [some 104, some 105, some 106, some 107, some 108, some 109, some 110, some 111, some 112, some 113, some 114, some 15, none] [(0, .slice (some ⟨gs, gso, none⟩) ns cs), (9, .int .i64 (i : Int)), (1, .slice (some ⟨gt, gto, none⟩) nt ct), (11, .int .i64 (k : Int))] 175 (by kernel_rfl) (by kernel_rfl) ⟨by kernel_rfl, by kernel_rfl, by kernel_rfl, by kernel_rfl, trivial⟩ ?_
                          refine ⟨?_, ?_, ?_, ?_, ?_, ?_, ?_, ?_, ?_, ?_, ?_, ?_, trivial⟩
                          · intro vals w1 hx hd
                            refine .run [(0, .slice (some ⟨gs, gso, none⟩) ns cs)] { dst := some 0, op := Go.Op.move (Go.Operand.const (.slice (some ⟨gs, gso, none⟩) ns cs)), type := 36, pos := "", after := #[], guard := none } 104 ⟨.out (by kernel_rfl) (by kernel_rfl), trivial⟩ (by kernel_rfl) (by kernel_rfl) (by kernel_rfl) rfl rfl rfl ?_
                            clear hd
                            go_wp2
                            exact ⟨rfl, Ext.refl _, rfl⟩
                          · intro vals w1 hx hd
                            refine .run [(9, .int .i64 (i : Int))] { dst := some 0, op := Go.Op.move (Go.Operand.const (.int .i64 (i : Int))), type := 3, pos := "", after := #[], guard := none } 105 ⟨.out (by kernel_rfl) (by kernel_rfl), trivial⟩ (by kernel_rfl) (by kernel_rfl) (by kernel_rfl) rfl rfl rfl ?_
                            clear hd
                            go_wp2
                            exact ⟨rfl, Ext.refl _, rfl⟩
                          · intro vals w1 hx hd
                            have e0 : vals 0 = .slice (some ⟨gs, gso, none⟩) ns cs := hd 0 (by decide)
                            have e1 : vals 1 = .int .i64 (i : Int) := hd 1 (by decide)
                            refine .run [(104, .slice (some ⟨gs, gso, none⟩) ns cs), (105, .int .i64 (i : Int))] { dst := some 0, op := Go.Op.indexAddr 36 (Go.Operand.const (.slice (some ⟨gs, gso, none⟩) ns cs)) (Go.Operand.const (.int .i64 (i : Int))), type := 0, pos := "", after := #[], guard := none } 106 ⟨.inn 0 (by kernel_rfl) e0, .inn 1 (by kernel_rfl) e1, trivial⟩ (by kernel_rfl) (by kernel_rfl) (by kernel_rfl) rfl rfl rfl ?_
                            clear hd e0 e1
                            go_wp2
                            exact ⟨rfl, Ext.refl _, rfl⟩
                          · intro vals w1 hx hd
                            have e2 : vals 2 = .pointer (some ⟨gs, gso + i * 21, none⟩) := hd 2 (by decide)
                            refine .run [(106, .pointer (some ⟨gs, gso + i * 21, none⟩))] { dst := some 0, op := Go.Op.fieldAddr 27 (Go.Operand.const (.pointer (some ⟨gs, gso + i * 21, none⟩))) 0, type := 0, pos := "", after := #[], guard := none } 107 ⟨.inn 2 (by kernel_rfl) e2, trivial⟩ (by kernel_rfl) (by kernel_rfl) (by kernel_rfl) rfl rfl rfl ?_
                            clear hd e2
                            go_wp2
                            exact ⟨rfl, Ext.refl _, rfl⟩
                          · intro vals w1 hx hd
                            have e3 : vals 3 = .pointer (some ⟨gs, gso + i * 21, none⟩) := hd 3 (by decide)
                            refine .run [(107, .pointer (some ⟨gs, gso + i * 21, none⟩))] { dst := some 0, op := Go.Op.load 3 (Go.Operand.const (.pointer (some ⟨gs, gso + i * 21, none⟩))), type := 3, pos := "", after := #[], guard := none } 108 ⟨.inn 3 (by kernel_rfl) e3, trivial⟩ (by kernel_rfl) (by kernel_rfl) (by kernel_rfl) rfl rfl rfl ?_
                            clear hd e3
                            have hs0 := ext_cell hx hs0
                            go_wp2
                            exact ⟨rfl, Ext.refl _, rfl⟩
                          · intro vals w1 hx hd
                            refine .run [(1, .slice (some ⟨gt, gto, none⟩) nt ct)] { dst := some 0, op := Go.Op.move (Go.Operand.const (.slice (some ⟨gt, gto, none⟩) nt ct)), type := 38, pos := "", after := #[], guard := none } 109 ⟨.out (by kernel_rfl) (by kernel_rfl), trivial⟩ (by kernel_rfl) (by kernel_rfl) (by kernel_rfl) rfl rfl rfl ?_
                            clear hd
                            go_wp2
                            exact ⟨rfl, Ext.refl _, rfl⟩
                          · intro vals w1 hx hd
                            refine .run [(11, .int .i64 (k : Int))] { dst := some 0, op := Go.Op.move (Go.Operand.const (.int .i64 (k : Int))), type := 3, pos := "", after := #[], guard := none } 110 ⟨.out (by kernel_rfl) (by kernel_rfl), trivial⟩ (by kernel_rfl) (by kernel_rfl) (by kernel_rfl) rfl rfl rfl ?_
                            clear hd
                            go_wp2
                            exact ⟨rfl, Ext.refl _, rfl⟩
                          · intro vals w1 hx hd
                            have e5 : vals 5 = .slice (some ⟨gt, gto, none⟩) nt ct := hd 5 (by decide)
                            have e6 : vals 6 = .int .i64 (k : Int) := hd 6 (by decide)
                            refine .run [(109, .slice (some ⟨gt, gto, none⟩) nt ct), (110, .int .i64 (k : Int))] { dst := some 0, op := Go.Op.indexAddr 38 (Go.Operand.const (.slice (some ⟨gt, gto, none⟩) nt ct)) (Go.Operand.const (.int .i64 (k : Int))), type := 0, pos := "", after := #[], guard := none } 111 ⟨.inn 5 (by kernel_rfl) e5, .inn 6 (by kernel_rfl) e6, trivial⟩ (by kernel_rfl) (by kernel_rfl) (by kernel_rfl) rfl rfl rfl ?_
                            clear hd e5 e6
                            go_wp2
                            exact ⟨rfl, Ext.refl _, rfl⟩
                          · intro vals w1 hx hd
                            have e7 : vals 7 = .pointer (some ⟨gt, gto + k * 6, none⟩) := hd 7 (by decide)
                            refine .run [(111, .pointer (some ⟨gt, gto + k * 6, none⟩))] { dst := some 0, op := Go.Op.fieldAddr 31 (Go.Operand.const (.pointer (some ⟨gt, gto + k * 6, none⟩))) 0, type := 0, pos := "", after := #[], guard := none } 112 ⟨.inn 7 (by kernel_rfl) e7, trivial⟩ (by kernel_rfl) (by kernel_rfl) (by kernel_rfl) rfl rfl rfl ?_
                            clear hd e7
                            go_wp2
                            exact ⟨rfl, Ext.refl _, rfl⟩
                          · intro vals w1 hx hd
                            have e8 : vals 8 = .pointer (some ⟨gt, gto + k * 6, none⟩) := hd 8 (by decide)
                            refine .run [(112, .pointer (some ⟨gt, gto + k * 6, none⟩))] { dst := some 0, op := Go.Op.load 3 (Go.Operand.const (.pointer (some ⟨gt, gto + k * 6, none⟩))), type := 3, pos := "", after := #[], guard := none } 113 ⟨.inn 8 (by kernel_rfl) e8, trivial⟩ (by kernel_rfl) (by kernel_rfl) (by kernel_rfl) rfl rfl rfl ?_
                            clear hd e8
                            have hy0 := ext_cell hx hy0
                            go_wp2
                            exact ⟨rfl, Ext.refl _, rfl⟩
                          · intro vals w1 hx hd
                            have e4 : vals 4 = .int .i64 sid := hd 4 (by decide)
                            have e9 : vals 9 = .int .i64 yid := hd 9 (by decide)
                            refine .run [(108, .int .i64 sid), (113, .int .i64 yid)] { dst := some 0, op := Go.Op.build 47 #[(0, (Go.Operand.const (.int .i64 sid))), (1, (Go.Operand.const (.int .i64 yid)))], type := 47, pos := "", after := #[], guard := none } 114 ⟨.inn 4 (by kernel_rfl) e4, .inn 9 (by kernel_rfl) e9, trivial⟩ (by kernel_rfl) (by kernel_rfl) (by kernel_rfl) rfl rfl rfl ?_
                            clear hd e4 e9
                            go_wp2
                            exact ⟨rfl, Ext.refl _, rfl⟩
                          · intro vals w1 hx hd
                            refine .run [] { dst := some 0, op := Go.Op.alloc 47, type := 0, pos := "", after := #[], guard := none } 15 trivial (by kernel_rfl) (by kernel_rfl) (by kernel_rfl) rfl rfl rfl ?_
                            clear hd
                            have hz := Below.size hx.undrew
                            go_wp2
                            exact ⟨rfl, (by repeat (first | exact Below.refl _ _ | assumption | refine Below.drew ?_ | refine below_drewN ?_ _ | refine bl_alloc ?_ _ | refine Below.setCell ?_ (by first | (simp; done) | omega | (simp; omega)) _ | refine bl_then ?_ (by assumption))), _, rfl, by omega, Blk.new _ _ _⟩
                        intro vals We hz hf
                        have e10 : vals 10 = .agg #[.int .i64 sid, .int .i64 yid, .int .i64 0, .int .i64 0, .int .i64 0, .int .i64 0] := hf 10 (by omega)
                        obtain ⟨g15, e11, n15, J15⟩ : ∃ g, vals 11 = .pointer (some ⟨g, 0, none⟩) ∧ Wx.heap.size ≤ g ∧ Blk We g 47 #[.int .i64 0, .int .i64 0, .int .i64 0, .int .i64 0, .int .i64 0, .int .i64 0] := hf 11 (by omega)
                        clear hf hs0 hy0 t0 s6
                        have hz := hz.undrew
                        refine tail1 12 _ (by kernel_rfl) (by kernel_rfl) rfl ?_
                        simp only [Lf, dstAt, Act.put, List.getElem?_toArray, List.getElem?_cons_zero, List.getElem?_cons_succ, Option.bind_some, List.setIfInBounds_toArray, List.set_cons_zero, List.set_cons_succ]
                        rw [e10, e11]
                        clear e10 e11
                        have z0 : We.cell? ⟨g15, 0, none⟩ = some (.int .i64 0) := J15.cell 0
                        have z1 : We.cell? ⟨g15, 1, none⟩ = some (.int .i64 0) := J15.cell 1
                        have z2 : We.cell? ⟨g15, 2, none⟩ = some (.int .i64 0) := J15.cell 2
                        have z3 : We.cell? ⟨g15, 3, none⟩ = some (.int .i64 0) := J15.cell 3
                        have z4 : We.cell? ⟨g15, 4, none⟩ = some (.int .i64 0) := J15.cell 4
                        have z5 : We.cell? ⟨g15, 5, none⟩ = some (.int .i64 0) := J15.cell 5
                        have y0 : We.frozen? ⟨g15, 0, none⟩ = false := J15.frozen 0
                        have y1 : We.frozen? ⟨g15, 1, none⟩ = false := J15.frozen 1
                        have y2 : We.frozen? ⟨g15, 2, none⟩ = false := J15.frozen 2
                        have y3 : We.frozen? ⟨g15, 3, none⟩ = false := J15.frozen 3
                        have y4 : We.frozen? ⟨g15, 4, none⟩ = false := J15.frozen 4
                        have y5 : We.frozen? ⟨g15, 5, none⟩ = false := J15.frozen 5
                        go_upto_region 20 with (fail)
                        clear z0 y0 z1 y1 z2 y2 z3 y3 z4 y4 z5 y5
                        have J15 := J15.set6 (.int .i64 sid) (.int .i64 yid) (.int .i64 0) (.int .i64 0) (.int .i64 0) (.int .i64 0)
                        have hz : Ext Wx ((((((We.setCell ⟨g15, 0, none⟩ (.int .i64 sid)).setCell ⟨g15, 1, none⟩ (.int .i64 yid)).setCell ⟨g15, 2, none⟩ (.int .i64 0)).setCell ⟨g15, 3, none⟩ (.int .i64 0)).setCell ⟨g15, 4, none⟩ (.int .i64 0)).setCell ⟨g15, 5, none⟩ (.int .i64 0)) := ((((((hz.setCell (p := ⟨g15, 0, none⟩) n15 _).setCell (p := ⟨g15, 1, none⟩) n15 _).setCell (p := ⟨g15, 2, none⟩) n15 _).setCell (p := ⟨g15, 3, none⟩) n15 _).setCell (p := ⟨g15, 4, none⟩) n15 _).setCell (p := ⟨g15, 5, none⟩) n15 _)
                        generalize (((((We.setCell ⟨g15, 0, none⟩ (.int .i64 sid)).setCell ⟨g15, 1, none⟩ (.int .i64 yid)).setCell ⟨g15, 2, none⟩ (.int .i64 0)).setCell ⟨g15, 3, none⟩ (.int .i64 0)).setCell ⟨g15, 4, none⟩ (.int .i64 0)).setCell ⟨g15, 5, none⟩ (.int .i64 0) = Wf at J15 hz ⊢
                        have t0 : Wf.cell? ⟨g5, 0, none⟩ = some (.int .i64 a) := (K5.ext (Ext.trans hv hz)).cell 0
                        have t1 : Wf.cell? ⟨g5, 1, none⟩ = some (.int .i64 b) := (K5.ext (Ext.trans hv hz)).cell 1
                        have s6 : Wf.cell? ⟨g10, 6, none⟩ = some (.int .i64 sl) := ((K10.ext (Ext.trans hv hz)).cell 6).trans HC6.out
                        go_wp2_with (fail)
                        refine (HC1.out _).mono ?_
                        rintro e Wgx ⟨rfl, hx9⟩
                        have J15 := J15.ext hx9
                        have hz := Ext.trans hz hx9
                        clear hx9 t0 t1 s6
                        have z0 : Wgx.cell? ⟨g15, 2, none⟩ = some (.int .i64 0) := J15.cell 2
                        have z1 : Wgx.cell? ⟨g15, 3, none⟩ = some (.int .i64 0) := J15.cell 3
                        have y0 : Wgx.frozen? ⟨g15, 2, none⟩ = false := J15.frozen 2
                        have y1 : Wgx.frozen? ⟨g15, 3, none⟩ = false := J15.frozen 3
                        go_upto_region 21 with (fail)
                        clear z0 z1 y0 y1
                        have J15 := (J15.set_ 2 (.int .i64 p2)).set_ 3 (.int .i64 p3)
                        have hz := (hz.setCell (p := ⟨g15, 2, none⟩) n15 (.int .i64 p2)).setCell (p := ⟨g15, 3, none⟩) n15 (.int .i64 p3)
                        simp only [List.setIfInBounds_toArray, List.set_cons_zero, List.set_cons_succ] at J15
                        generalize (Wgx.setCell ⟨g15, 2, none⟩ (.int .i64 p2)).setCell ⟨g15, 3, none⟩ (.int .i64 p3) = Wg at J15 hz ⊢
                        have t0 : Wg.cell? ⟨g5, 0, none⟩ = some (.int .i64 a) := (K5.ext (Ext.trans hv hz)).cell 0
                        have t1 : Wg.cell? ⟨g5, 1, none⟩ = some (.int .i64 b) := (K5.ext (Ext.trans hv hz)).cell 1
                        have s6 : Wg.cell? ⟨g10, 6, none⟩ = some (.int .i64 sl) := ((K10.ext (Ext.trans hv hz)).cell 6).trans HC6.out
                        go_wp2_with (fail)
                        refine (HC2.out _).mono ?_
                        rintro e Whx ⟨rfl, hx9⟩
                        have J15 := J15.ext hx9
                        have hz := Ext.trans hz hx9
                        clear hx9 t0 t1 s6
                        have z0 : Whx.cell? ⟨g15, 4, none⟩ = some (.int .i64 0) := J15.cell 4
                        have z1 : Whx.cell? ⟨g15, 5, none⟩ = some (.int .i64 0) := J15.cell 5
                        have y0 : Whx.frozen? ⟨g15, 4, none⟩ = false := J15.frozen 4
                        have y1 : Whx.frozen? ⟨g15, 5, none⟩ = false := J15.frozen 5
                        go_upto_region 22 with (fail)
                        clear z0 z1 y0 y1
                        have J15 := (J15.set_ 4 (.int .i64 p4)).set_ 5 (.int .i64 p5)
                        have hz := (hz.setCell (p := ⟨g15, 4, none⟩) n15 (.int .i64 p4)).setCell (p := ⟨g15, 5, none⟩) n15 (.int .i64 p5)
                        simp only [List.setIfInBounds_toArray, List.set_cons_zero, List.set_cons_succ] at J15
                        generalize (Whx.setCell ⟨g15, 4, none⟩ (.int .i64 p4)).setCell ⟨g15, 5, none⟩ (.int .i64 p5) = Wh at J15 hz ⊢
                        clear w4_ w5_ w6_ w7_ HC1 HC2
                        have t0 : Wh.cell? ⟨g5, 0, none⟩ = some (.int .i64 a) := (K5.ext (Ext.trans hv hz)).cell 0
                        have s6 : Wh.cell? ⟨g10, 6, none⟩ = some (.int .i64 sl) := ((K10.ext (Ext.trans hv hz)).cell 6).trans HC6.out
                        go_wp2
                        clear t0 s6
                        go_loopw [16] (fun x wr => ∃ j : Nat, j ≤ nO ∧ x = .int .i64 j ∧ Hid (∀ z ∈ OL.drop j, ltOf cmpPas P z = true) ∧ Ext Wh wr) (fun x _ => (intOf x).toNat)
                        case atStart => exact ⟨nO, Nat.le_refl _, rfl, Lib.hid (fun z hz => by rw [List.drop_of_length_le (by rw [HOLN.out]; exact Nat.le_refl _)] at hz; cases hz), Ext.refl _⟩
                        case round =>
                          obtain ⟨j, hj, rfl, HLT, hh⟩ := hrel
                          go_upto_region 24 with (fail)
                          go_cut [157] from 147 to 157 (fun v wc => ∃ q : Bool, v = .bool q ∧ Hid ((q = true → ∃ h : j - 1 < OL.length, 0 < j ∧ ltOf cmpPas P OL[j - 1] = true) ∧ (q = false → j = 0 ∨ ∃ h : j - 1 < OL.length, 0 < j ∧ ltOf cmpPas P OL[j - 1] = false)) ∧ Ext wr wc)
                          case first =>
                            by_cases hj0 : j = 0
                            · have cj : decide ((0 : Int) < (j : Int)) = false := by simp; omega
                              refine wp_region_obl 11 (fun ix vals v w1 => match ix with | 0 => v = .int .i64 (j : Int) | 1 => v = .bool false | 2 => v = .bool false | 3 => v = undef | 4 => v = undef | 5 => v = undef | 6 => v = undef | 7 => v = undef | 8 => v = undef | 9 => v = undef | _ => v = .bool false) (by kernel_rfl) (by kernel_rfl) ?_ ?_ ?_ ?_
                              · intro ix vals v w1 w2 hi hr hx
                                match ix, hr with
                                | 0, hr => exact hr
                                | 1, hr => exact hr
                                | 2, hr => exact hr
                                | 3, hr => exact hr
                                | 4, hr => exact hr
                                | 5, hr => exact hr
                                | 6, hr => exact hr
                                | 7, hr => exact hr
                                | 8, hr => exact hr
                                | 9, hr => exact hr
                                | (kx + 10), hr => exact hr
                              · intro ix vals vals_ v w1 hi hv hr
                                exact hr
                              · refine obls_ofT [some 147, some 148, some 149, some 150, some 151, some 152, some 153, some 154, some 155, some 156, some 157] [(16, .int .i64 (j : Int))] 175 (by kernel_rfl) (by kernel_rfl) ⟨by kernel_rfl, trivial⟩ ?_
                                refine ⟨?_, ?_, ?_, ?_, ?_, ?_, ?_, ?_, ?_, ?_, ?_, trivial⟩
                                · intro vals w1 hx hd
                                  refine .run [(16, .int .i64 (j : Int))] { dst := some 0, op := Go.Op.move (Go.Operand.const (.int .i64 (j : Int))), type := 3, pos := "", after := #[], guard := none } 147 ⟨.out (by kernel_rfl) (by kernel_rfl), trivial⟩ (by kernel_rfl) (by kernel_rfl) (by kernel_rfl) rfl rfl rfl ?_
                                  clear hd
                                  go_wp2
                                  exact ⟨rfl, Ext.refl _, rfl⟩
                                · intro vals w1 hx hd
                                  have e0 : vals 0 = .int .i64 (j : Int) := hd 0 (by decide)
                                  refine .run [(147, .int .i64 (j : Int))] { dst := some 0, op := Go.Op.binOp Go.BinOp.gtr 3 (Go.Operand.const (.int .i64 (j : Int))) (Go.Operand.const (Go.Value.int Go.IntKind.i64 0)) 3, type := 4, pos := "", after := #[], guard := none } 148 ⟨.inn 0 (by kernel_rfl) e0, trivial⟩ (by kernel_rfl) (by kernel_rfl) (by kernel_rfl) rfl rfl rfl ?_
                                  clear hd e0
                                  go_wp2
                                  exact ⟨rfl, Ext.refl _, rfl⟩
                                · intro vals w1 hx hd
                                  have e1 : vals 1 = .bool false := hd 1 (by decide)
                                  refine .run [(148, .bool false)] { dst := some 0, op := Go.Op.move (Go.Operand.const (.bool false)), type := 4, pos := "", after := #[], guard := none } 149 ⟨.inn 1 (by kernel_rfl) e1, trivial⟩ (by kernel_rfl) (by kernel_rfl) (by kernel_rfl) rfl rfl rfl ?_
                                  clear hd e1
                                  go_wp2
                                  exact ⟨rfl, Ext.refl _, rfl⟩
                                · intro vals w1 hx hd
                                  have e2 : vals 2 = .bool false := hd 2 (by decide)
                                  exact .no [(149, .bool false)] 150 ⟨.inn 2 (by kernel_rfl) e2, trivial⟩ (by kernel_rfl) rfl (by kernel_rfl) rfl
                                · intro vals w1 hx hd
                                  have e2 : vals 2 = .bool false := hd 2 (by decide)
                                  exact .no [(149, .bool false)] 151 ⟨.inn 2 (by kernel_rfl) e2, trivial⟩ (by kernel_rfl) rfl (by kernel_rfl) rfl
                                · intro vals w1 hx hd
                                  have e2 : vals 2 = .bool false := hd 2 (by decide)
                                  exact .no [(149, .bool false)] 152 ⟨.inn 2 (by kernel_rfl) e2, trivial⟩ (by kernel_rfl) rfl (by kernel_rfl) rfl
                                · intro vals w1 hx hd
                                  have e2 : vals 2 = .bool false := hd 2 (by decide)
                                  exact .no [(149, .bool false)] 153 ⟨.inn 2 (by kernel_rfl) e2, trivial⟩ (by kernel_rfl) rfl (by kernel_rfl) rfl
                                · intro vals w1 hx hd
                                  have e2 : vals 2 = .bool false := hd 2 (by decide)
                                  exact .no [(149, .bool false)] 154 ⟨.inn 2 (by kernel_rfl) e2, trivial⟩ (by kernel_rfl) rfl (by kernel_rfl) rfl
                                · intro vals w1 hx hd
                                  have e2 : vals 2 = .bool false := hd 2 (by decide)
                                  exact .no [(149, .bool false)] 155 ⟨.inn 2 (by kernel_rfl) e2, trivial⟩ (by kernel_rfl) rfl (by kernel_rfl) rfl
                                · intro vals w1 hx hd
                                  have e2 : vals 2 = .bool false := hd 2 (by decide)
                                  exact .no [(149, .bool false)] 156 ⟨.inn 2 (by kernel_rfl) e2, trivial⟩ (by kernel_rfl) rfl (by kernel_rfl) rfl
                                · intro vals w1 hx hd
                                  have e2 : vals 2 = .bool false := hd 2 (by decide)
                                  have e9 : vals 9 = undef := hd 9 (by decide)
                                  refine .run [(149, .bool false), (156, undef)] { dst := some 0, op := Go.Op.pick (Go.Operand.const (.bool false)) (Go.Operand.const (undef)) (Go.Operand.const (Go.Value.bool false)), type := 4, pos := "", after := #[], guard := none } 157 ⟨.inn 2 (by kernel_rfl) e2, .inn 9 (by kernel_rfl) e9, trivial⟩ (by kernel_rfl) (by kernel_rfl) (by kernel_rfl) rfl rfl rfl ?_
                                  clear hd e2 e9
                                  go_wp2
                                  exact ⟨rfl, Ext.refl _, rfl⟩
                              intro vals W5 hx9 hf
                              have e10 : vals 10 = .bool false := hf 10 (by omega)
                              clear hf
                              have hx9 := hx9.undrew
                              refine tail0 (by kernel_rfl) ?_
                              simp only [Lf, dstAt, Act.put, List.getElem?_toArray, List.getElem?_cons_zero, List.getElem?_cons_succ, Option.bind_some, List.setIfInBounds_toArray, List.set_cons_zero, List.set_cons_succ]
                              rw [e10]
                              clear e10
                              go_wp2_with fail
                              go_meet
                              case rel => exact ⟨false, rfl, Lib.hid ⟨fun h => (by cases h), fun _ => .inl hj0⟩, hx9⟩
                            · have hj1 : 0 < j := by omega
                              have cj : decide ((0 : Int) < (j : Int)) = true := by simp; omega
                              have hki : IntKind.i64.wrap ((j : Int) - 1) = (j : Int) - 1 := IntWalk.i64_in _ (by omega)
                              have hkn1 : ((j : Int) - 1).toNat = j - 1 := by omega
                              have hkz : (0 : Int) ≤ (j : Int) - 1 := by omega
                              have hkl : (j : Int) - 1 < (nO : Int) := by omega
                              obtain ⟨go, goo, hzo, hA, _, hc1⟩ := (HRA.out.below (Ext.trans hz hh)).at_ pas_len (show j - 1 < nO by omega)
                              have hb := before_any
                              have hst : ∀ q, ltOf cmpPas P OL[j - 1] = q → (∃ h : j - 1 < OL.length, 0 < j ∧ ltOf cmpPas P OL[j - 1] = q) := fun q h => ⟨hzo, hj1, h⟩
                              skip
                              have hbf := fun W => before_any sid yid p2 p3 p4 p5 OL[j - 1].sat OL[j - 1].station OL[j - 1].sure.fr OL[j - 1].sure.tt OL[j - 1].can.fr OL[j - 1].can.tt W
                              have hpe : P = ⟨sid, yid, ⟨p2, p3⟩, ⟨p4, p5⟩⟩ := HPM.out
                              rw [← hpe] at hbf
                              obtain ⟨lq, hlq⟩ : ∃ q, q = ltOf cmpPas P OL[j - 1] := ⟨_, rfl⟩
                              have hbf2 : ∀ W, Calls Try.prog 48 #[.agg #[.int .i64 sid, .int .i64 yid, .int .i64 p2, .int .i64 p3, .int .i64 p4, .int .i64 p5], .agg #[.int .i64 OL[j - 1].sat, .int .i64 OL[j - 1].station, .int .i64 OL[j - 1].sure.fr, .int .i64 OL[j - 1].sure.tt, .int .i64 OL[j - 1].can.fr, .int .i64 OL[j - 1].can.tt]] W fun e w' => e = .returned (.bool lq) ∧ Ext W w' := by rw [hlq]; exact hbf
                              have HLQ : Hid ((lq = true → ∃ h : j - 1 < OL.length, 0 < j ∧ ltOf cmpPas P OL[j - 1] = true) ∧ (lq = false → j = 0 ∨ ∃ h : j - 1 < OL.length, 0 < j ∧ ltOf cmpPas P OL[j - 1] = false)) := Lib.hid ⟨fun h => hst true (by rw [← hlq]; exact h), fun h => .inr (hst false (by rw [← hlq]; exact h))⟩
                              generalize OL[j - 1] = ez at hc1 hbf2
                              have v0 : wr.cell? ⟨go, goo + (j - 1) * 6, none⟩ = some (.int .i64 ez.sat) := hc1 0 (by omega)
                              have v1 : wr.cell? ⟨go, goo + (j - 1) * 6 + 1, none⟩ = some (.int .i64 ez.station) := hc1 1 (by omega)
                              have v2 : wr.cell? ⟨go, goo + (j - 1) * 6 + 2, none⟩ = some (.int .i64 ez.sure.fr) := hc1 2 (by omega)
                              have v3 : wr.cell? ⟨go, goo + (j - 1) * 6 + 3, none⟩ = some (.int .i64 ez.sure.tt) := hc1 3 (by omega)
                              have v4 : wr.cell? ⟨go, goo + (j - 1) * 6 + 4, none⟩ = some (.int .i64 ez.can.fr) := hc1 4 (by omega)
                              have v5 : wr.cell? ⟨go, goo + (j - 1) * 6 + 5, none⟩ = some (.int .i64 ez.can.tt) := hc1 5 (by omega)
                              generalize ez.sat = z0_ at v0 hbf2
                              generalize ez.station = z1_ at v1 hbf2
                              generalize ez.sure.fr = z2_ at v2 hbf2
                              generalize ez.sure.tt = z3_ at v3 hbf2
                              generalize ez.can.fr = z4_ at v4 hbf2
                              generalize ez.can.tt = z5_ at v5 hbf2
                              have HBF := Lib.hid hbf2
                              clear hb hst hbf hpe hlq hbf2 hc1 hzo
                              subst hA
                              have J15w := J15.ext hh
                              have u0 : wr.cell? ⟨g15, 0, none⟩ = some (.int .i64 sid) := J15w.cell 0
                              have u1 : wr.cell? ⟨g15, 1, none⟩ = some (.int .i64 yid) := J15w.cell 1
                              have u2 : wr.cell? ⟨g15, 2, none⟩ = some (.int .i64 p2) := J15w.cell 2
                              have u3 : wr.cell? ⟨g15, 3, none⟩ = some (.int .i64 p3) := J15w.cell 3
                              have u4 : wr.cell? ⟨g15, 4, none⟩ = some (.int .i64 p4) := J15w.cell 4
                              have u5 : wr.cell? ⟨g15, 5, none⟩ = some (.int .i64 p5) := J15w.cell 5
                              refine wp_region_obl 11 (fun ix vals v w1 => match ix with | 0 => v = .int .i64 (j : Int) | 1 => v = .bool true | 2 => v = .bool true | 3 => v = .agg #[.int .i64 sid, .int .i64 yid, .int .i64 p2, .int .i64 p3, .int .i64 p4, .int .i64 p5] | 4 => v = .slice (some ⟨go, goo, none⟩) nO cO | 5 => v = .int .i64 (j : Int) | 6 => v = .int .i64 ((j : Int) - 1) | 7 => v = .pointer (some ⟨go, goo + (j - 1) * 6, none⟩) | 8 => v = .agg #[.int .i64 z0_, .int .i64 z1_, .int .i64 z2_, .int .i64 z3_, .int .i64 z4_, .int .i64 z5_] | 9 => v = .bool lq | _ => v = .bool lq) (by kernel_rfl) (by kernel_rfl) ?_ ?_ ?_ ?_
                              · intro ix vals v w1 w2 hi hr hx
                                match ix, hr with
                                | 0, hr => exact hr
                                | 1, hr => exact hr
                                | 2, hr => exact hr
                                | 3, hr => exact hr
                                | 4, hr => exact hr
                                | 5, hr => exact hr
                                | 6, hr => exact hr
                                | 7, hr => exact hr
                                | 8, hr => exact hr
                                | 9, hr => exact hr
                                | (kx + 10), hr => exact hr
                              · intro ix vals vals_ v w1 hi hv hr
                                exact hr
                              · refine obls_ofT [some 147, some 148, some 149, some 150, some 151, some 152, some 153, some 154, some 155, some 156, some 157] [(16, .int .i64 (j : Int)), (15, .pointer (some ⟨g15, 0, none⟩)), (8, .slice (some ⟨go, goo, none⟩) nO cO)] 175 (by kernel_rfl) (by kernel_rfl) ⟨by kernel_rfl, by kernel_rfl, by kernel_rfl, trivial⟩ ?_
                                refine ⟨?_, ?_, ?_, ?_, ?_, ?_, ?_, ?_, ?_, ?_, ?_, trivial⟩
                                · intro vals w1 hx hd
                                  refine .run [(16, .int .i64 (j : Int))] { dst := some 0, op := Go.Op.move (Go.Operand.const (.int .i64 (j : Int))), type := 3, pos := "", after := #[], guard := none } 147 ⟨.out (by kernel_rfl) (by kernel_rfl), trivial⟩ (by kernel_rfl) (by kernel_rfl) (by kernel_rfl) rfl rfl rfl ?_
                                  clear hd
                                  go_wp2
                                  exact ⟨rfl, Ext.refl _, rfl⟩
                                · intro vals w1 hx hd
                                  have e0 : vals 0 = .int .i64 (j : Int) := hd 0 (by decide)
                                  refine .run [(147, .int .i64 (j : Int))] { dst := some 0, op := Go.Op.binOp Go.BinOp.gtr 3 (Go.Operand.const (.int .i64 (j : Int))) (Go.Operand.const (Go.Value.int Go.IntKind.i64 0)) 3, type := 4, pos := "", after := #[], guard := none } 148 ⟨.inn 0 (by kernel_rfl) e0, trivial⟩ (by kernel_rfl) (by kernel_rfl) (by kernel_rfl) rfl rfl rfl ?_
                                  clear hd e0
                                  go_wp2
                                  exact ⟨rfl, Ext.refl _, rfl⟩
                                · intro vals w1 hx hd
                                  have e1 : vals 1 = .bool true := hd 1 (by decide)
                                  refine .run [(148, .bool true)] { dst := some 0, op := Go.Op.move (Go.Operand.const (.bool true)), type := 4, pos := "", after := #[], guard := none } 149 ⟨.inn 1 (by kernel_rfl) e1, trivial⟩ (by kernel_rfl) (by kernel_rfl) (by kernel_rfl) rfl rfl rfl ?_
                                  clear hd e1
                                  go_wp2
                                  exact ⟨rfl, Ext.refl _, rfl⟩
                                · intro vals w1 hx hd
                                  have e2 : vals 2 = .bool true := hd 2 (by decide)
                                  refine .run [(15, .pointer (some ⟨g15, 0, none⟩)), (149, .bool true)] { dst := some 0, op := Go.Op.load 47 (Go.Operand.const (.pointer (some ⟨g15, 0, none⟩))), type := 47, pos := "", after := #[], guard := none } 150 ⟨.out (by kernel_rfl) (by kernel_rfl), .inn 2 (by kernel_rfl) e2, trivial⟩ (by kernel_rfl) (by kernel_rfl) (by kernel_rfl) rfl rfl rfl ?_
                                  clear hd e2
                                  have u0 := ext_cell hx u0
                                  have u1 := ext_cell hx u1
                                  have u2 := ext_cell hx u2
                                  have u3 := ext_cell hx u3
                                  have u4 := ext_cell hx u4
                                  have u5 := ext_cell hx u5
                                  go_wp2
                                  exact ⟨rfl, Ext.refl _, rfl⟩
                                · intro vals w1 hx hd
                                  have e2 : vals 2 = .bool true := hd 2 (by decide)
                                  refine .run [(8, .slice (some ⟨go, goo, none⟩) nO cO), (149, .bool true)] { dst := some 0, op := Go.Op.move (Go.Operand.const (.slice (some ⟨go, goo, none⟩) nO cO)), type := 32, pos := "", after := #[], guard := none } 151 ⟨.out (by kernel_rfl) (by kernel_rfl), .inn 2 (by kernel_rfl) e2, trivial⟩ (by kernel_rfl) (by kernel_rfl) (by kernel_rfl) rfl rfl rfl ?_
                                  clear hd e2
                                  go_wp2
                                  exact ⟨rfl, Ext.refl _, rfl⟩
                                · intro vals w1 hx hd
                                  have e2 : vals 2 = .bool true := hd 2 (by decide)
                                  refine .run [(16, .int .i64 (j : Int)), (149, .bool true)] { dst := some 0, op := Go.Op.move (Go.Operand.const (.int .i64 (j : Int))), type := 3, pos := "", after := #[], guard := none } 152 ⟨.out (by kernel_rfl) (by kernel_rfl), .inn 2 (by kernel_rfl) e2, trivial⟩ (by kernel_rfl) (by kernel_rfl) (by kernel_rfl) rfl rfl rfl ?_
                                  clear hd e2
                                  go_wp2
                                  exact ⟨rfl, Ext.refl _, rfl⟩
                                · intro vals w1 hx hd
                                  have e5 : vals 5 = .int .i64 (j : Int) := hd 5 (by decide)
                                  have e2 : vals 2 = .bool true := hd 2 (by decide)
                                  refine .run [(152, .int .i64 (j : Int)), (149, .bool true)] { dst := some 0, op := Go.Op.binOp Go.BinOp.sub 3 (Go.Operand.const (.int .i64 (j : Int))) (Go.Operand.const (Go.Value.int Go.IntKind.i64 1)) 3, type := 3, pos := "", after := #[], guard := none } 153 ⟨.inn 5 (by kernel_rfl) e5, .inn 2 (by kernel_rfl) e2, trivial⟩ (by kernel_rfl) (by kernel_rfl) (by kernel_rfl) rfl rfl rfl ?_
                                  clear hd e5 e2
                                  go_wp2
                                  exact ⟨rfl, Ext.refl _, rfl⟩
                                · intro vals w1 hx hd
                                  have e4 : vals 4 = .slice (some ⟨go, goo, none⟩) nO cO := hd 4 (by decide)
                                  have e6 : vals 6 = .int .i64 ((j : Int) - 1) := hd 6 (by decide)
                                  have e2 : vals 2 = .bool true := hd 2 (by decide)
                                  refine .run [(151, .slice (some ⟨go, goo, none⟩) nO cO), (153, .int .i64 ((j : Int) - 1)), (149, .bool true)] { dst := some 0, op := Go.Op.indexAddr 32 (Go.Operand.const (.slice (some ⟨go, goo, none⟩) nO cO)) (Go.Operand.const (.int .i64 ((j : Int) - 1))), type := 0, pos := "", after := #[], guard := none } 154 ⟨.inn 4 (by kernel_rfl) e4, .inn 6 (by kernel_rfl) e6, .inn 2 (by kernel_rfl) e2, trivial⟩ (by kernel_rfl) (by kernel_rfl) (by kernel_rfl) rfl rfl rfl ?_
                                  clear hd e4 e6 e2
                                  go_wp2
                                  exact ⟨rfl, Ext.refl _, rfl⟩
                                · intro vals w1 hx hd
                                  have e7 : vals 7 = .pointer (some ⟨go, goo + (j - 1) * 6, none⟩) := hd 7 (by decide)
                                  have e2 : vals 2 = .bool true := hd 2 (by decide)
                                  refine .run [(154, .pointer (some ⟨go, goo + (j - 1) * 6, none⟩)), (149, .bool true)] { dst := some 0, op := Go.Op.load 47 (Go.Operand.const (.pointer (some ⟨go, goo + (j - 1) * 6, none⟩))), type := 47, pos := "", after := #[], guard := none } 155 ⟨.inn 7 (by kernel_rfl) e7, .inn 2 (by kernel_rfl) e2, trivial⟩ (by kernel_rfl) (by kernel_rfl) (by kernel_rfl) rfl rfl rfl ?_
                                  clear hd e7 e2
                                  have v0 := ext_cell hx v0
                                  have v1 := ext_cell hx v1
                                  have v2 := ext_cell hx v2
                                  have v3 := ext_cell hx v3
                                  have v4 := ext_cell hx v4
                                  have v5 := ext_cell hx v5
                                  go_wp2
                                  exact ⟨rfl, Ext.refl _, rfl⟩
                                · intro vals w1 hx hd
                                  have e3 : vals 3 = .agg #[.int .i64 sid, .int .i64 yid, .int .i64 p2, .int .i64 p3, .int .i64 p4, .int .i64 p5] := hd 3 (by decide)
                                  have e8 : vals 8 = .agg #[.int .i64 z0_, .int .i64 z1_, .int .i64 z2_, .int .i64 z3_, .int .i64 z4_, .int .i64 z5_] := hd 8 (by decide)
                                  have e2 : vals 2 = .bool true := hd 2 (by decide)
                                  refine .run [(150, .agg #[.int .i64 sid, .int .i64 yid, .int .i64 p2, .int .i64 p3, .int .i64 p4, .int .i64 p5]), (155, .agg #[.int .i64 z0_, .int .i64 z1_, .int .i64 z2_, .int .i64 z3_, .int .i64 z4_, .int .i64 z5_]), (149, .bool true)] { dst := some 0, op := Go.Op.call { callee := Go.Callee.value (Go.Operand.func 48), args := #[(Go.Operand.const (.agg #[.int .i64 sid, .int .i64 yid, .int .i64 p2, .int .i64 p3, .int .i64 p4, .int .i64 p5])), (Go.Operand.const (.agg #[.int .i64 z0_, .int .i64 z1_, .int .i64 z2_, .int .i64 z3_, .int .i64 z4_, .int .i64 z5_]))], argTypes := #[47, 47] }, type := 4, pos := "", after := #[], guard := none } 156 ⟨.inn 3 (by kernel_rfl) e3, .inn 8 (by kernel_rfl) e8, .inn 2 (by kernel_rfl) e2, trivial⟩ (by kernel_rfl) (by kernel_rfl) (by kernel_rfl) rfl rfl rfl ?_
                                  clear hd e3 e8 e2
                                  go_wp2_with fail
                                  refine (HBF.out _).mono ?_
                                  rintro e w2 ⟨rfl, hb2⟩
                                  go_wp2
                                  exact ⟨rfl, hb2, rfl⟩
                                · intro vals w1 hx hd
                                  have e2 : vals 2 = .bool true := hd 2 (by decide)
                                  have e9 : vals 9 = .bool lq := hd 9 (by decide)
                                  refine .run [(149, .bool true), (156, .bool lq)] { dst := some 0, op := Go.Op.pick (Go.Operand.const (.bool true)) (Go.Operand.const (.bool lq)) (Go.Operand.const (Go.Value.bool false)), type := 4, pos := "", after := #[], guard := none } 157 ⟨.inn 2 (by kernel_rfl) e2, .inn 9 (by kernel_rfl) e9, trivial⟩ (by kernel_rfl) (by kernel_rfl) (by kernel_rfl) rfl rfl rfl ?_
                                  clear hd e2 e9
                                  go_wp2
                                  exact ⟨rfl, Ext.refl _, rfl⟩
                              intro vals W5 hx9 hf
                              have e10 : vals 10 = .bool lq := hf 10 (by omega)
                              clear hf
                              have hx9 := hx9.undrew
                              refine tail0 (by kernel_rfl) ?_
                              simp only [Lf, dstAt, Act.put, List.getElem?_toArray, List.getElem?_cons_zero, List.getElem?_cons_succ, Option.bind_some, List.setIfInBounds_toArray, List.set_cons_zero, List.set_cons_succ]
                              rw [e10]
                              clear e10
                              go_wp2_with fail
                              go_meet
                              case rel => exact ⟨lq, rfl, Lib.hid HLQ.out, hx9⟩
                          obtain ⟨q, rfl, HQQ, hx9⟩ := hcut
                          have hh := Ext.trans hh hx9
                          clear hx9
                          obtain ⟨Wk, hWk⟩ : ∃ W : World, W = wc := ⟨_, rfl⟩
                          rw [← hWk] at hh ⊢
                          clear hWk
                          cases q
                          · skip
                            have hstop := HQQ.out.2 rfl
                            have hins := ins_at (L := QL) (P := P) (j := j) (by rw [← HOL.out, HOLN.out]; exact hj) (by rw [← HOL.out]; exact HLT.out) (by rw [← HOL.out]; exact hstop)
                            rw [← HOL.out] at hins
                            obtain ⟨CL, hCL⟩ : ∃ l, l = P :: OL.drop j := ⟨_, rfl⟩
                            have hCLn : CL.length = nO - j + 1 := by rw [hCL, List.length_cons, List.length_drop, HOLN.out]
                            rw [← hCL] at hins
                            obtain ⟨NL, hNL⟩ : ∃ l, l = OL.take j ++ CL := ⟨_, rfl⟩
                            have hNLn : NL.length = nO + 1 := by rw [hNL, List.length_append, List.length_take, HOLN.out, hCLn]; omega
                            rw [← hNL] at hins
                            have HINS := Lib.hid hins
                            have HCL := Lib.hid hCL
                            have HNL := Lib.hid hNL
                            have HCLN := Lib.hid hCLn
                            have HNLN := Lib.hid hNLn
                            clear hstop hins HQQ HLT hCL hNL hCLn hNLn
                            have J15 := J15.ext hh
                            have hz := Ext.trans hz hh
                            clear hh
                            go_upto_region 26 with (fail)
                            obtain ⟨PX, hPX⟩ : ∃ X, (pasCells P).toArray = X := ⟨_, rfl⟩
                            have hpx : #[.int .i64 sid, .int .i64 yid, .int .i64 p2, .int .i64 p3, .int .i64 p4, .int .i64 p5] = PX := by rw [← hPX, HPM.out]; rfl
                            rw [hpx] at J15
                            have HZP : Hid (PX.size = 6) := Lib.hid (by rw [← hPX]; rfl)
                            have HPX := Lib.hid hPX
                            clear hpx hPX
                            have HRA2 := Lib.hid ((HRA.out.below hz).more (Below.size hz))
                            have hws := Below.size (Ext.trans hdx (Ext.trans hv hz))
                            go_cut [8] from 160 to 170 (fun v wc => Hid (OwnP wc w.heap.size v NL) ∧ Ext Wk wc)
                            case first =>
                              have hsplit : OL.flatMap pasCells = (OL.take j).flatMap pasCells ++ (OL.drop j).flatMap pasCells := by rw [← List.flatMap_append, List.take_append_drop]
                              rcases HAO.out with ⟨rfl, hn0, rfl⟩ | ⟨gO, rfl⟩
                              · skip
                                obtain rfl : nO = 0 := hn0
                                obtain rfl : j = 0 := by omega
                                clear HAO
                                have HRD : Hid (Reads Wk Wk.heap.size 6 none 0 ((OL.drop 0).flatMap pasCells)) := Lib.hid (by rw [show OL = [] from List.eq_nil_of_length_eq_zero HOLN.out]; exact Reads.none_)
                                refine wp_region_obl 11 (fun ix vals v w1 => match ix with | 0 => v = .slice none 0 0 | 1 => v = .int .i64 0 | 2 => v = .int .i64 0 | 3 => v = .slice none 0 0 | 4 => v = .agg PX | 5 => ∃ g, v = .slice (some ⟨g, 0, none⟩) 1 1 ∧ Blk w1 g 47 PX | 6 => v = .slice none 0 0 | 7 => v = .int .i64 0 | 8 => v = .slice none 0 0 | 9 => ConsR w1 v CL | _ => OwnP w1 Wk.heap.size v NL) (by kernel_rfl) (by kernel_rfl) ?_ ?_ ?_ ?_
                                · intro ix vals v w1 w2 hi hr hx
                                  match ix, hr with
                                  | 0, hr => exact hr
                                  | 1, hr => exact hr
                                  | 2, hr => exact hr
                                  | 3, hr => exact hr
                                  | 4, hr => exact hr
                                  | 5, hr => obtain ⟨g, h1, h3⟩ := hr; exact ⟨g, h1, h3.ext hx⟩
                                  | 6, hr => exact hr
                                  | 7, hr => exact hr
                                  | 8, hr => exact hr
                                  | 9, hr => exact hr.ext hx
                                  | (kx + 10), hr => exact hr.ext hx
                                · intro ix vals vals_ v w1 hi hv hr
                                  exact hr
                                · refine obls_ofT [some 160, some 161, some 162, some 163, some 164, some 165, some 166, some 167, some 168, some 169, some 170, some 8] [(8, .slice none 0 0), (16, .int .i64 0), (15, .pointer (some ⟨g15, 0, none⟩))] 175 (by kernel_rfl) (by kernel_rfl) ⟨by kernel_rfl, by kernel_rfl, by kernel_rfl, trivial⟩ ?_
                                  refine ⟨?_, ?_, ?_, ?_, ?_, ?_, ?_, ?_, ?_, ?_, ?_, trivial⟩
                                  · intro vals w1 hx hd
                                    refine .run [(8, .slice none 0 0)] { dst := some 0, op := Go.Op.move (Go.Operand.const (.slice none 0 0)), type := 32, pos := "", after := #[], guard := none } 160 ⟨.out (by kernel_rfl) (by kernel_rfl), trivial⟩ (by kernel_rfl) (by kernel_rfl) (by kernel_rfl) rfl rfl rfl ?_
                                    clear hd
                                    go_wp2
                                    exact ⟨rfl, Ext.refl _, rfl⟩
                                  · intro vals w1 hx hd
                                    refine .run [(16, .int .i64 0)] { dst := some 0, op := Go.Op.move (Go.Operand.const (.int .i64 0)), type := 3, pos := "", after := #[], guard := none } 161 ⟨.out (by kernel_rfl) (by kernel_rfl), trivial⟩ (by kernel_rfl) (by kernel_rfl) (by kernel_rfl) rfl rfl rfl ?_
                                    clear hd
                                    go_wp2
                                    exact ⟨rfl, Ext.refl _, rfl⟩
                                  · intro vals w1 hx hd
                                    refine .run [(16, .int .i64 0)] { dst := some 0, op := Go.Op.move (Go.Operand.const (.int .i64 0)), type := 3, pos := "", after := #[], guard := none } 162 ⟨.out (by kernel_rfl) (by kernel_rfl), trivial⟩ (by kernel_rfl) (by kernel_rfl) (by kernel_rfl) rfl rfl rfl ?_
                                    clear hd
                                    go_wp2
                                    exact ⟨rfl, Ext.refl _, rfl⟩
                                  · intro vals w1 hx hd
                                    have e0 : vals 0 = .slice none 0 0 := hd 0 (by decide)
                                    have e1 : vals 1 = .int .i64 0 := hd 1 (by decide)
                                    have e2 : vals 2 = .int .i64 0 := hd 2 (by decide)
                                    refine .run [(160, .slice none 0 0), (161, .int .i64 0), (162, .int .i64 0)] { dst := some 0, op := Go.Op.slice 32 (Go.Operand.const (.slice none 0 0)) none (some (Go.Operand.const (.int .i64 0))) (some (Go.Operand.const (.int .i64 0))), type := 32, pos := "", after := #[], guard := none } 163 ⟨.inn 0 (by kernel_rfl) e0, .inn 1 (by kernel_rfl) e1, .inn 2 (by kernel_rfl) e2, trivial⟩ (by kernel_rfl) (by kernel_rfl) (by kernel_rfl) rfl rfl rfl ?_
                                    clear hd e0 e1 e2
                                    go_wp2
                                    exact ⟨rfl, Ext.refl _, rfl⟩
                                  · intro vals w1 hx hd
                                    refine .run [(15, .pointer (some ⟨g15, 0, none⟩))] { dst := some 0, op := Go.Op.load 47 (Go.Operand.const (.pointer (some ⟨g15, 0, none⟩))), type := 47, pos := "", after := #[], guard := none } 164 ⟨.out (by kernel_rfl) (by kernel_rfl), trivial⟩ (by kernel_rfl) (by kernel_rfl) (by kernel_rfl) rfl rfl rfl ?_
                                    clear hd
                                    refine wpList_load_st rfl 47 _ rfl g15 0 rfl PX PX.toList (by simp) _ (Blk.range (J15.ext hx.undrew) _ rfl) Try.underlying47 rfl (by rw [Array.length_toList, HZP.out]; exact pas_sizeQ) ?_
                                    go_wp2
                                    exact ⟨rfl, Ext.refl _, rfl⟩
                                  · intro vals w1 hx hd
                                    have e4 : vals 4 = .agg PX := hd 4 (by decide)
                                    refine .run [(164, .agg PX)] { dst := some 0, op := Go.Op.buildSlice 32 1 #[(0, (Go.Operand.const (.agg PX)))], type := 32, pos := "", after := #[], guard := none } 165 ⟨.inn 4 (by kernel_rfl) e4, trivial⟩ (by kernel_rfl) (by kernel_rfl) (by kernel_rfl) rfl rfl rfl ?_
                                    clear hd e4
                                    refine wpList_buildOne rfl _ _ _ rfl PX rfl Try.underlying32 6 info_pas2Q HZP.out (by omega) (by omega) ?_
                                    go_wp2
                                    exact ⟨rfl, (by repeat (first | exact Below.refl _ _ | assumption | refine Below.drew ?_ | refine below_drewN ?_ _ | refine bl_alloc ?_ _ | refine Below.setCell ?_ (by first | (simp; done) | omega | (simp; omega)) _ | refine bl_then ?_ (by assumption))), _, rfl, Blk.new _ _ _⟩
                                  · intro vals w1 hx hd
                                    refine .run [(8, .slice none 0 0)] { dst := some 0, op := Go.Op.move (Go.Operand.const (.slice none 0 0)), type := 32, pos := "", after := #[], guard := none } 166 ⟨.out (by kernel_rfl) (by kernel_rfl), trivial⟩ (by kernel_rfl) (by kernel_rfl) (by kernel_rfl) rfl rfl rfl ?_
                                    clear hd
                                    go_wp2
                                    exact ⟨rfl, Ext.refl _, rfl⟩
                                  · intro vals w1 hx hd
                                    refine .run [(16, .int .i64 0)] { dst := some 0, op := Go.Op.move (Go.Operand.const (.int .i64 0)), type := 3, pos := "", after := #[], guard := none } 167 ⟨.out (by kernel_rfl) (by kernel_rfl), trivial⟩ (by kernel_rfl) (by kernel_rfl) (by kernel_rfl) rfl rfl rfl ?_
                                    clear hd
                                    go_wp2
                                    exact ⟨rfl, Ext.refl _, rfl⟩
                                  · intro vals w1 hx hd
                                    have e6 : vals 6 = .slice none 0 0 := hd 6 (by decide)
                                    have e7 : vals 7 = .int .i64 0 := hd 7 (by decide)
                                    refine .run [(166, .slice none 0 0), (167, .int .i64 0)] { dst := some 0, op := Go.Op.slice 32 (Go.Operand.const (.slice none 0 0)) (some (Go.Operand.const (.int .i64 0))) none none, type := 32, pos := "", after := #[], guard := none } 168 ⟨.inn 6 (by kernel_rfl) e6, .inn 7 (by kernel_rfl) e7, trivial⟩ (by kernel_rfl) (by kernel_rfl) (by kernel_rfl) rfl rfl rfl ?_
                                    clear hd e6 e7
                                    go_wp2
                                    exact ⟨rfl, Ext.refl _, rfl⟩
                                  · intro vals w1 hx hd
                                    have r5 : (fun v w1 => ∃ g, v = .slice (some ⟨g, 0, none⟩) 1 1 ∧ Blk w1 g 47 PX) (vals 5) w1 := hd 5 (by decide)
                                    dsimp only at r5
                                    obtain ⟨gx, e_5, jb⟩ := r5
                                    have e8 : vals 8 = .slice none 0 0 := hd 8 (by decide)
                                    refine .run [(165, .slice (some ⟨gx, 0, none⟩) 1 1), (168, .slice none 0 0)] { dst := some 0, op := Go.Op.call { callee := Go.Callee.builtin Go.Builtin.append, args := #[(Go.Operand.const (.slice (some ⟨gx, 0, none⟩) 1 1)), (Go.Operand.const (.slice none 0 0))], argTypes := #[32, 32] }, type := 32, pos := "", after := #[], guard := none } 169 ⟨.inn 5 (by kernel_rfl) e_5, .inn 8 (by kernel_rfl) e8, trivial⟩ (by kernel_rfl) (by kernel_rfl) (by kernel_rfl) rfl rfl rfl ?_
                                    clear hd e_5 e8
                                    rw [← HPX.out] at jb
                                    obtain ⟨v9, w9, hrun, hx9, hcs⟩ := run_cons _ gx P (OL.drop 0) none 0 _ _ jb (HRD.out.below hx.undrew) (by omega)
                                    rw [← HCL.out] at hcs
                                    refine wpList_append_run_ rfl _ _ _ rfl rfl rfl hrun ?_
                                    clear hrun
                                    go_wp2
                                    exact ⟨rfl, hx9, hcs⟩
                                  · intro vals w1 hx hd
                                    have e3 : vals 3 = .slice none 0 0 := hd 3 (by decide)
                                    have r9 : (fun v w1 => ConsR w1 v CL) (vals 9) w1 := hd 9 (by decide)
                                    dsimp only at r9
                                    obtain ⟨A9, c9, e_9, hc9⟩ := r9
                                    refine .run [(163, .slice none 0 0), (169, .slice (some A9) CL.length c9)] { dst := some 0, op := Go.Op.call { callee := Go.Callee.builtin Go.Builtin.append, args := #[(Go.Operand.const (.slice none 0 0)), (Go.Operand.const (.slice (some A9) CL.length c9))], argTypes := #[32, 32] }, type := 32, pos := "", after := #[], guard := none } 170 ⟨.inn 3 (by kernel_rfl) e3, .inn 9 (by kernel_rfl) e_9, trivial⟩ (by kernel_rfl) (by kernel_rfl) (by kernel_rfl) rfl rfl rfl ?_
                                    clear hd e3 e_9
                                    have hzz := Below.size hx.undrew
                                    have hlt9 := List.length_take (i := 0) (l := OL)
                                    have hlc9 := HCLN.out
                                    have hln9 := HOLN.out
                                    obtain ⟨v9, w9, hrun, hx9, hown⟩ := run_onto _ (OL.take 0) CL _ 0 c9 A9 (.inl ⟨rfl, rfl⟩) (by omega) (by omega) (by omega) hc9
                                    rw [← HNL.out] at hown
                                    refine wpList_append_run_ rfl _ _ _ rfl rfl rfl hrun ?_
                                    clear hrun hlt9 hlc9 hln9
                                    go_wp2
                                    exact ⟨rfl, hx9, hown.base hzz⟩
                                intro vals W5 hx9 hf
                                have hown : OwnP W5 Wk.heap.size (vals 10) NL := hf 10 (by omega)
                                clear hf
                                have hx9 := hx9.undrew
                                have HOWN := Lib.hid (hown.base hws)
                                clear hown
                                refine tail1 11 _ (by kernel_rfl) (by kernel_rfl) rfl ?_
                                simp only [Lf, dstAt, Act.put, List.getElem?_toArray, List.getElem?_cons_zero, List.getElem?_cons_succ, Option.bind_some, List.setIfInBounds_toArray, List.set_cons_zero, List.set_cons_succ]
                                generalize vals 10 = v8 at HOWN ⊢
                                go_wp2_with fail
                                go_meet
                                case rel => exact ⟨Lib.hid HOWN.out, hx9⟩
                              · skip
                                clear HAO
                                obtain ⟨A8, h8⟩ : ∃ A8 : Addr, (cO = j ∧ A8 = ⟨gO, 0, none⟩) ∨ (j < cO ∧ A8 = ⟨gO, j * 6, none⟩) := by
                                  by_cases h : cO = j
                                  · exact ⟨_, .inl ⟨h, rfl⟩⟩
                                  · exact ⟨_, .inr ⟨by omega, rfl⟩⟩
                                have hrd := HRA2.out.rd.cut hj ho1
                                rw [flat_dropQ pas_len] at hrd
                                have HRD : Hid (Reads Wk Wk.heap.size 6 (some A8) (nO - j) ((OL.drop j).flatMap pasCells)) := Lib.hid (by
                                  rcases h8 with ⟨h, rfl⟩ | ⟨h, rfl⟩
                                  · rw [if_pos h] at hrd
                                    exact hrd
                                  · rw [if_neg (by omega)] at hrd
                                    simpa [Addr.add_lit] using hrd)
                                have HCU : Hid (∀ q u, ((OL.take j).flatMap pasCells)[q]? = some u → Wk.cell? ⟨gO, q, none⟩ = some u) := Lib.hid (fun q u hu => by
                                  have hql := (List.getElem?_eq_some_iff.1 hu).1
                                  have hql2 : 0 < nO := by
                                    have := HRA2.out.len
                                    rcases Nat.eq_zero_or_pos nO with h | h
                                    · rw [show OL = [] from List.eq_nil_of_length_eq_zero (by omega)] at hql
                                      simp at hql
                                    · exact h
                                  obtain ⟨b9, o9, hA, _, hc⟩ := HRA2.out.rd.2 hql2
                                  injection hA with hA
                                  injection hA with h1 h2
                                  subst h1 h2
                                  have := hc q u (by rw [hsplit, List.getElem?_append_left hql]; exact hu)
                                  rwa [Nat.zero_add] at this)
                                have H8 := Lib.hid h8
                                clear h8 hrd hsplit
                                refine wp_region_obl 11 (fun ix vals v w1 => match ix with | 0 => v = .slice (some ⟨gO, 0, none⟩) nO cO | 1 => v = .int .i64 (j : Int) | 2 => v = .int .i64 (j : Int) | 3 => v = .slice (some ⟨gO, 0, none⟩) j j | 4 => v = .agg PX | 5 => ∃ g, v = .slice (some ⟨g, 0, none⟩) 1 1 ∧ Blk w1 g 47 PX | 6 => v = .slice (some ⟨gO, 0, none⟩) nO cO | 7 => v = .int .i64 (j : Int) | 8 => v = .slice (some A8) (nO - j) (cO - j) | 9 => ConsR w1 v CL | _ => OwnP w1 Wk.heap.size v NL) (by kernel_rfl) (by kernel_rfl) ?_ ?_ ?_ ?_
                                · intro ix vals v w1 w2 hi hr hx
                                  match ix, hr with
                                  | 0, hr => exact hr
                                  | 1, hr => exact hr
                                  | 2, hr => exact hr
                                  | 3, hr => exact hr
                                  | 4, hr => exact hr
                                  | 5, hr => obtain ⟨g, h1, h3⟩ := hr; exact ⟨g, h1, h3.ext hx⟩
                                  | 6, hr => exact hr
                                  | 7, hr => exact hr
                                  | 8, hr => exact hr
                                  | 9, hr => exact hr.ext hx
                                  | (kx + 10), hr => exact hr.ext hx
                                · intro ix vals vals_ v w1 hi hv hr
                                  exact hr
                                · refine obls_ofT [some 160, some 161, some 162, some 163, some 164, some 165, some 166, some 167, some 168, some 169, some 170, some 8] [(8, .slice (some ⟨gO, 0, none⟩) nO cO), (16, .int .i64 (j : Int)), (15, .pointer (some ⟨g15, 0, none⟩))] 175 (by kernel_rfl) (by kernel_rfl) ⟨by kernel_rfl, by kernel_rfl, by kernel_rfl, trivial⟩ ?_
                                  refine ⟨?_, ?_, ?_, ?_, ?_, ?_, ?_, ?_, ?_, ?_, ?_, trivial⟩
                                  · intro vals w1 hx hd
                                    refine .run [(8, .slice (some ⟨gO, 0, none⟩) nO cO)] { dst := some 0, op := Go.Op.move (Go.Operand.const (.slice (some ⟨gO, 0, none⟩) nO cO)), type := 32, pos := "", after := #[], guard := none } 160 ⟨.out (by kernel_rfl) (by kernel_rfl), trivial⟩ (by kernel_rfl) (by kernel_rfl) (by kernel_rfl) rfl rfl rfl ?_
                                    clear hd
                                    go_wp2
                                    exact ⟨rfl, Ext.refl _, rfl⟩
                                  · intro vals w1 hx hd
                                    refine .run [(16, .int .i64 (j : Int))] { dst := some 0, op := Go.Op.move (Go.Operand.const (.int .i64 (j : Int))), type := 3, pos := "", after := #[], guard := none } 161 ⟨.out (by kernel_rfl) (by kernel_rfl), trivial⟩ (by kernel_rfl) (by kernel_rfl) (by kernel_rfl) rfl rfl rfl ?_
                                    clear hd
                                    go_wp2
                                    exact ⟨rfl, Ext.refl _, rfl⟩
                                  · intro vals w1 hx hd
                                    refine .run [(16, .int .i64 (j : Int))] { dst := some 0, op := Go.Op.move (Go.Operand.const (.int .i64 (j : Int))), type := 3, pos := "", after := #[], guard := none } 162 ⟨.out (by kernel_rfl) (by kernel_rfl), trivial⟩ (by kernel_rfl) (by kernel_rfl) (by kernel_rfl) rfl rfl rfl ?_
                                    clear hd
                                    go_wp2
                                    exact ⟨rfl, Ext.refl _, rfl⟩
                                  · intro vals w1 hx hd
                                    have e0 : vals 0 = .slice (some ⟨gO, 0, none⟩) nO cO := hd 0 (by decide)
                                    have e1 : vals 1 = .int .i64 (j : Int) := hd 1 (by decide)
                                    have e2 : vals 2 = .int .i64 (j : Int) := hd 2 (by decide)
                                    refine .run [(160, .slice (some ⟨gO, 0, none⟩) nO cO), (161, .int .i64 (j : Int)), (162, .int .i64 (j : Int))] { dst := some 0, op := Go.Op.slice 32 (Go.Operand.const (.slice (some ⟨gO, 0, none⟩) nO cO)) none (some (Go.Operand.const (.int .i64 (j : Int)))) (some (Go.Operand.const (.int .i64 (j : Int)))), type := 32, pos := "", after := #[], guard := none } 163 ⟨.inn 0 (by kernel_rfl) e0, .inn 1 (by kernel_rfl) e1, .inn 2 (by kernel_rfl) e2, trivial⟩ (by kernel_rfl) (by kernel_rfl) (by kernel_rfl) rfl rfl rfl ?_
                                    clear hd e0 e1 e2
                                    go_wp2
                                    exact ⟨rfl, Ext.refl _, rfl⟩
                                  · intro vals w1 hx hd
                                    refine .run [(15, .pointer (some ⟨g15, 0, none⟩))] { dst := some 0, op := Go.Op.load 47 (Go.Operand.const (.pointer (some ⟨g15, 0, none⟩))), type := 47, pos := "", after := #[], guard := none } 164 ⟨.out (by kernel_rfl) (by kernel_rfl), trivial⟩ (by kernel_rfl) (by kernel_rfl) (by kernel_rfl) rfl rfl rfl ?_
                                    clear hd
                                    refine wpList_load_st rfl 47 _ rfl g15 0 rfl PX PX.toList (by simp) _ (Blk.range (J15.ext hx.undrew) _ rfl) Try.underlying47 rfl (by rw [Array.length_toList, HZP.out]; exact pas_sizeQ) ?_
                                    go_wp2
                                    exact ⟨rfl, Ext.refl _, rfl⟩
                                  · intro vals w1 hx hd
                                    have e4 : vals 4 = .agg PX := hd 4 (by decide)
                                    refine .run [(164, .agg PX)] { dst := some 0, op := Go.Op.buildSlice 32 1 #[(0, (Go.Operand.const (.agg PX)))], type := 32, pos := "", after := #[], guard := none } 165 ⟨.inn 4 (by kernel_rfl) e4, trivial⟩ (by kernel_rfl) (by kernel_rfl) (by kernel_rfl) rfl rfl rfl ?_
                                    clear hd e4
                                    refine wpList_buildOne rfl _ _ _ rfl PX rfl Try.underlying32 6 info_pas2Q HZP.out (by omega) (by omega) ?_
                                    go_wp2
                                    exact ⟨rfl, (by repeat (first | exact Below.refl _ _ | assumption | refine Below.drew ?_ | refine below_drewN ?_ _ | refine bl_alloc ?_ _ | refine Below.setCell ?_ (by first | (simp; done) | omega | (simp; omega)) _ | refine bl_then ?_ (by assumption))), _, rfl, Blk.new _ _ _⟩
                                  · intro vals w1 hx hd
                                    refine .run [(8, .slice (some ⟨gO, 0, none⟩) nO cO)] { dst := some 0, op := Go.Op.move (Go.Operand.const (.slice (some ⟨gO, 0, none⟩) nO cO)), type := 32, pos := "", after := #[], guard := none } 166 ⟨.out (by kernel_rfl) (by kernel_rfl), trivial⟩ (by kernel_rfl) (by kernel_rfl) (by kernel_rfl) rfl rfl rfl ?_
                                    clear hd
                                    go_wp2
                                    exact ⟨rfl, Ext.refl _, rfl⟩
                                  · intro vals w1 hx hd
                                    refine .run [(16, .int .i64 (j : Int))] { dst := some 0, op := Go.Op.move (Go.Operand.const (.int .i64 (j : Int))), type := 3, pos := "", after := #[], guard := none } 167 ⟨.out (by kernel_rfl) (by kernel_rfl), trivial⟩ (by kernel_rfl) (by kernel_rfl) (by kernel_rfl) rfl rfl rfl ?_
                                    clear hd
                                    go_wp2
                                    exact ⟨rfl, Ext.refl _, rfl⟩
                                  · intro vals w1 hx hd
                                    have e6 : vals 6 = .slice (some ⟨gO, 0, none⟩) nO cO := hd 6 (by decide)
                                    have e7 : vals 7 = .int .i64 (j : Int) := hd 7 (by decide)
                                    refine .run [(166, .slice (some ⟨gO, 0, none⟩) nO cO), (167, .int .i64 (j : Int))] { dst := some 0, op := Go.Op.slice 32 (Go.Operand.const (.slice (some ⟨gO, 0, none⟩) nO cO)) (some (Go.Operand.const (.int .i64 (j : Int)))) none none, type := 32, pos := "", after := #[], guard := none } 168 ⟨.inn 6 (by kernel_rfl) e6, .inn 7 (by kernel_rfl) e7, trivial⟩ (by kernel_rfl) (by kernel_rfl) (by kernel_rfl) rfl rfl rfl ?_
                                    clear hd e6 e7
                                    rcases H8.out with ⟨h8, h9⟩ | ⟨h8, h9⟩
                                    all_goals subst h9
                                    · (go_wp2; exact ⟨rfl, Ext.refl _, rfl⟩)
                                    · (go_wp2; exact ⟨rfl, Ext.refl _, rfl⟩)
                                  · intro vals w1 hx hd
                                    have r5 : (fun v w1 => ∃ g, v = .slice (some ⟨g, 0, none⟩) 1 1 ∧ Blk w1 g 47 PX) (vals 5) w1 := hd 5 (by decide)
                                    dsimp only at r5
                                    obtain ⟨gx, e_5, jb⟩ := r5
                                    have e8 : vals 8 = .slice (some A8) (nO - j) (cO - j) := hd 8 (by decide)
                                    refine .run [(165, .slice (some ⟨gx, 0, none⟩) 1 1), (168, .slice (some A8) (nO - j) (cO - j))] { dst := some 0, op := Go.Op.call { callee := Go.Callee.builtin Go.Builtin.append, args := #[(Go.Operand.const (.slice (some ⟨gx, 0, none⟩) 1 1)), (Go.Operand.const (.slice (some A8) (nO - j) (cO - j)))], argTypes := #[32, 32] }, type := 32, pos := "", after := #[], guard := none } 169 ⟨.inn 5 (by kernel_rfl) e_5, .inn 8 (by kernel_rfl) e8, trivial⟩ (by kernel_rfl) (by kernel_rfl) (by kernel_rfl) rfl rfl rfl ?_
                                    clear hd e_5 e8
                                    rw [← HPX.out] at jb
                                    obtain ⟨v9, w9, hrun, hx9, hcs⟩ := run_cons _ gx P (OL.drop j) (some A8) (nO - j) _ _ jb (HRD.out.below hx.undrew) (by omega)
                                    rw [← HCL.out] at hcs
                                    refine wpList_append_run_ rfl _ _ _ rfl rfl rfl hrun ?_
                                    clear hrun
                                    go_wp2
                                    exact ⟨rfl, hx9, hcs⟩
                                  · intro vals w1 hx hd
                                    have e3 : vals 3 = .slice (some ⟨gO, 0, none⟩) j j := hd 3 (by decide)
                                    have r9 : (fun v w1 => ConsR w1 v CL) (vals 9) w1 := hd 9 (by decide)
                                    dsimp only at r9
                                    obtain ⟨A9, c9, e_9, hc9⟩ := r9
                                    refine .run [(163, .slice (some ⟨gO, 0, none⟩) j j), (169, .slice (some A9) CL.length c9)] { dst := some 0, op := Go.Op.call { callee := Go.Callee.builtin Go.Builtin.append, args := #[(Go.Operand.const (.slice (some ⟨gO, 0, none⟩) j j)), (Go.Operand.const (.slice (some A9) CL.length c9))], argTypes := #[32, 32] }, type := 32, pos := "", after := #[], guard := none } 170 ⟨.inn 3 (by kernel_rfl) e3, .inn 9 (by kernel_rfl) e_9, trivial⟩ (by kernel_rfl) (by kernel_rfl) (by kernel_rfl) rfl rfl rfl ?_
                                    clear hd e3 e_9
                                    have hzz := Below.size hx.undrew
                                    have hlt9 := List.length_take (i := j) (l := OL)
                                    have hlc9 := HCLN.out
                                    have hln9 := HOLN.out
                                    obtain ⟨v9, w9, hrun, hx9, hown⟩ := run_onto _ (OL.take j) CL _ j c9 A9 (.inr ⟨gO, rfl, fun q u hu => ext_cell hx.undrew (HCU.out q u hu)⟩) (by omega) (by omega) (by omega) hc9
                                    rw [← HNL.out] at hown
                                    refine wpList_append_run_ rfl _ _ _ rfl rfl rfl hrun ?_
                                    clear hrun hlt9 hlc9 hln9
                                    go_wp2
                                    exact ⟨rfl, hx9, hown.base hzz⟩
                                intro vals W5 hx9 hf
                                have hown : OwnP W5 Wk.heap.size (vals 10) NL := hf 10 (by omega)
                                clear hf
                                have hx9 := hx9.undrew
                                have HOWN := Lib.hid (hown.base hws)
                                clear hown
                                refine tail1 11 _ (by kernel_rfl) (by kernel_rfl) rfl ?_
                                simp only [Lf, dstAt, Act.put, List.getElem?_toArray, List.getElem?_cons_zero, List.getElem?_cons_succ, Option.bind_some, List.setIfInBounds_toArray, List.set_cons_zero, List.set_cons_succ]
                                generalize vals 10 = v8 at HOWN ⊢
                                go_wp2_with fail
                                go_meet
                                case rel => exact ⟨Lib.hid HOWN.out, hx9⟩
                            obtain ⟨HO, hx9⟩ := hcut
                            have hv := Ext.trans hv (Ext.trans hz hx9)
                            clear hz hx9 J15 HRA2 HRA hws
                            have ho := HO.out
                            unfold OwnP at ho
                            rw [HNLN.out, ← HINS.out] at ho
                            obtain ⟨A9, c9, hv9, _, _⟩ := own_slice ho
                            subst hv9
                            have HO := Lib.hid ho
                            clear ho
                            have wn_ : IntKind.i64.wrap (m + 1) = m + 1 := wm_
                            by_cases h65 : nO + 1 ≤ 64
                            · skip
                              have h65a : ¬ (64 : Int) < (nO : Int) + 1 := by omega
                              have HON : Hid (OutR w wc (.slice A9 (nO + 1) c9) (Q0 ++ (D ++ [(⟨fr, m⟩ : Spl)]).map po)) := Lib.hid (by rw [HMAP.out, ← HQ2.out]; exact ⟨by rw [List.length_append, ← HNO.out]; exact HO.out, by rw [List.length_append, ← HNO.out]; exact h65⟩)
                              clear HO wn_
                              go_wp2
                              go_roundw
                              case rel => exact ⟨m + 1, a0 - 1, D ++ [⟨fr, m⟩], by omega, by omega, rfl, rfl, HON, HSC2, hv⟩
                              case measure => simp [intOf]; omega
                            · skip
                              have h65a : (64 : Int) < (nO : Int) + 1 := by omega
                              have hlen := HLEN.out
                              rw [List.length_append, ← HNO.out] at hlen
                              have hr := HRES.out
                              rw [if_neg (show ¬ AL.length ≤ 64 by simp at hlen; omega)] at hr
                              clear HRES
                              subst hr
                              clear wn_
                              go_wp2
                              exact bodyPost_ret (v := .tuple #[.slice none 0 0, .int .i64 90]) (by simp [results, Try.results32, go_sem]) rfl ⟨rfl, Ext.trans hdx hv⟩
                          · skip
                            obtain ⟨hzj, hj1, hlt⟩ := HQQ.out.1 rfl
                            have HLT2 : Hid (∀ z ∈ OL.drop (j - 1), ltOf cmpPas P z = true) := Lib.hid (fun z hz => by
                              rw [List.drop_eq_getElem_cons hzj, show j - 1 + 1 = j by omega, List.mem_cons] at hz
                              rcases hz with rfl | hz
                              · exact hlt
                              · exact HLT.out z hz)
                            have hki : IntKind.i64.wrap ((j : Int) - 1) = (j : Int) - 1 := IntWalk.i64_in _ (by omega)
                            clear HQQ HLT hzj hlt
                            go_wp2
                            go_roundw
                            case rel => exact ⟨j - 1, by omega, by rw [show ((j - 1 : Nat) : Int) = (j : Int) - 1 by omega], HLT2, hh⟩
                            case measure => simp [intOf]; omega
                      · have hq := HQ.out.1 rfl
                        have HSC2 : Hid (ScanI is a0 ee (m + 1) fr D) := Lib.hid (.inr ⟨hf1, by omega, by omega, fun t h1 h2 => by
                          by_cases e : t = m
                          · rw [e]; exact hq.2
                          · exact hop t h1 (by omega), hall⟩)
                        clear hall hop HSC
                        go_wp2
                        clear t0 s6
                        go_roundw
                        case rel => exact ⟨m + 1, fr, D, by omega, by omega, rfl, rfl, HO, HSC2, hv⟩
                        case measure => simp [intOf]; omega
                  · skip
                    have hmm : ee + 1 ≤ m := by omega
                    have hall : spellsP is a0 (ee - a0).toNat = D := by
                      rcases HSC.out with ⟨_, h⟩ | ⟨_, _, h, _⟩
                      · rw [h, rest_end (by omega), List.append_nil]
                      · omega
                    have HON : Hid (OutR w wr u8 (P0 ++ preQ xs T ⟨a, b⟩ (k + 1))) := Lib.hid (by rw [HQN.out, hall]; exact HO.out)
                    clear HO HSC hall
                    have hy := Ext.trans hy hv
                    go_wp2
                    clear t0 t1 s6
                    go_roundw
                    case rel => exact ⟨k + 1, by omega, by go_num, HON, hy⟩
                    case measure => simp [intOf]; omega
              · skip
                have HON : Hid (OutR w wr u8 (preP S T ⟨a, b⟩ (i + 1))) := Lib.hid (by rw [HPN.out, show nt = k by omega]; exact HO.out)
                clear HO
                have hx := Ext.trans hx hy
                go_wp2
                go_roundw
                case rel => exact ⟨i + 1, by omega, by go_num, HON, hx⟩
                case measure => simp [intOf]; omega
          · skip
            have hii : i = S.length := by rw [HNS.out]; omega
            have ho := HO.out
            rw [hii, preP_all, ← HAL.out] at ho
            have hr := HRES.out
            rw [if_pos ho.2] at hr
            clear HRES
            have HOE := Lib.hid ho
            have HRE := Lib.hid hr
            clear ho HO hii hr
            go_wp2
            rw [HRE.out]
            exact bodyPost_ret (v := .tuple #[u8, .int .i64 0]) (by simp [results, Try.results32, go_sem]) rfl ⟨_, rfl, by rw [len_sortQ]; exact HOE.out.1, Ext.trans hB hx⟩

end Go.Proofs.Ytlmpmhfbjblhnaa
