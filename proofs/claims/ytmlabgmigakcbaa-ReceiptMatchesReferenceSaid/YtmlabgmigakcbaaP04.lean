/- Maps whose keys are integers: what a look-up reads, what a store leaves. -/
import Derived.Test.YtmlabgmigakcbaaP03
import Derived.Deep.MidRow
import Derived.BigGuardPart
import Derived.Test.YtmlabgmigakcbaaP02
import Derived.MapKept
import Derived.ChangeMaps4
namespace Go.Proofs.Ytmlabgmigakcbaa
open Go.RowKit
section
variable {α : Type} {cells : α → List Value} {s : Nat} {w w' : World} {B n c : Nat} {A : Option Addr} {l : List α}
theorem RA.range (hs : ∀ x, (cells x).length = s) (h : RA cells s w B A n c l) {k : Nat} (hk : k < n) :
  ∃ (b o : Nat) (hz : k < l.length), A = some ⟨b, o, none⟩ ∧ b < B ∧ w.rangeAt b (o + k * s) (cells l[k]) := by
 obtain ⟨b, o, hz, hA, hb, hc⟩ := h.at_ hs hk
 refine ⟨b, o, hz, hA, hb, fun j v hv => ?_⟩
 have hj : j < s := by rw [← hs l[k]]; exact (List.getElem?_eq_some_iff.1 hv).1
 exact (hc j hj).trans hv
theorem RA.range2 {b o : Nat} {cs : List Value} (h : w.rangeAt b o cs) (hx : Ext w w') : w'.rangeAt b o cs := fun j v hv => ext_cell hx (h j v hv)
theorem Blk.range {g : Nat} {t : TypeId} {cs : Array Value} (h : Blk w g t cs) (l : List Value) (hl : cs.toList = l) : w.rangeAt g 0 l := fun j v hv => by
 rw [Nat.zero_add, h.cell, ← hv, ← hl]; simp
end
theorem setRow_new (w : World) (t : TypeId) (zs X : Array Value) : (w.alloc (.cells zs t)).setRow w.heap.size X = w.alloc (.cells X t) := by
 have hw : ∀ (a b : World), a.heap = b.heap → a = { b with heap := a.heap } → a = b := fun a b h1 h2 => by rw [h2, h1]
 refine hw _ _ ?_ rfl
 refine Array.ext_getElem? fun j => ?_
 by_cases hj : j = w.heap.size
 ·subst hj
  rw [setRow_heap _ _ _ _ _ _ (heap_alloc_new w _), heap_alloc_new]
 ·rw [setRow_other _ _ _ _ hj]
  rcases Nat.lt_or_ge j w.heap.size with h' | h'
  ·rw [Below.heap_alloc _ _ _ h', Below.heap_alloc _ _ _ h']
  ·rw [Array.getElem?_eq_none (by simp; omega), Array.getElem?_eq_none (by simp; omega)]
theorem wpList_load_st {P : Program} {ops : Array Oper} {rest : List Oper} {op : Oper} {a : Act} {w : World} {Q : Exit → Act → World → Prop} (hgd : op.guard = none) (ty : TypeId) (x : Operand) (ho : op.op = .load ty x)
  (b o : Nat) (hx : a.eval x = .pointer (some ⟨b, o, none⟩)) (X : Array Value) (cs : List Value) (hX : cs.toArray = X) (d : TypeDesc) (hc : w.rangeAt b o cs)
  (hu : P.underlying ty = some d) (hd : d.isRow = true) (hi : (P.info? ty).map (·.size) = some cs.length)
  (h : wpList P ops Q rest (a.put op.dst (.agg X)) w) : wpList P ops Q (op :: rest) a w := by
 subst hX
 exact wpList_load_mid hgd ty x ho b o hx cs d hc hu hd hi h
theorem wpList_load_stg {P : Program} {ops : Array Oper} {rest : List Oper} {op : Oper} {a : Act} {w : World} {Q : Exit → Act → World → Prop} (hw : Region.wanted op (yielded ops a.tmps) = true) (ty : TypeId) (x : Operand) (ho : op.op = .load ty x)
  (b o : Nat) (hx : a.eval x = .pointer (some ⟨b, o, none⟩)) (X : Array Value) (cs : List Value) (hX : cs.toArray = X) (d : TypeDesc) (hc : w.rangeAt b o cs)
  (hu : P.underlying ty = some d) (hd : d.isRow = true) (hi : (P.info? ty).map (·.size) = some cs.length)
  (h : wpList P ops Q rest (a.put op.dst (.agg X)) w) : wpList P ops Q (op :: rest) a w := by
 subst hX
 unfold wpList
 rw [if_pos hw]
 exact .inl (wp_load_mid ty x ho b o hx cs d hc hu hd hi h)
theorem wpList_store_new {P : Program} {ops : Array Oper} {rest : List Oper} {op : Oper} {a : Act} {w : World} {Q : Exit → Act → World → Prop} (hgd : op.guard = none) (ty : TypeId) (x y : Operand) (ho : op.op = .store ty x y)
  (zs X : Array Value) (hx : a.eval x = .pointer (some ⟨w.heap.size, 0, none⟩)) (hy : a.eval y = .agg X) (hi : (P.info? ty).map (·.size) = some X.size) (hz : zs.size = X.size) (h1 : X.all (·.oneCell') = true)
  (h : wpList P ops Q rest (a.put op.dst undef) (w.alloc (.cells X ty))) : wpList P ops Q (op :: rest) a (w.alloc (.cells zs ty)) := by
 refine wpList_store_row hgd ty x y ho w.heap.size X hx hy ty zs (heap_alloc_new w _) hi hz h1 ?_
 rw [setRow_new]
 exact h
theorem isNaN_any (a : Int) (w : World) : Calls Try.prog 85 #[.int .i64 a] w fun e w' => e = .returned (.bool false) ∧ w = w' := by
 go_enter Try.func85, Try.ntmps85
 go_wp2
 go_ret
 exact ⟨rfl, rfl⟩
theorem cmp_any (a b : Int) (w : World) : Calls Try.prog 57 #[.int .i64 a, .int .i64 b] w fun e w' => e = .returned (.int .i64 (cmpI a b)) ∧ w = w' := by
 by_cases h1 : a < b
 ·have hc : cmpI a b = -1 := by simp [cmpI, h1]
  rw [hc]
  clear hc
  go_enter Try.func57, Try.ntmps57
  go_wp2_with (go_at_call 85; refine (isNaN_any _ _).mono ?_; rintro e w' ⟨rfl, rfl⟩)
  go_ret
  exact ⟨rfl, rfl⟩
 ·by_cases h2 : b < a
  ·have hc : cmpI a b = 1 := by simp [cmpI, h1, h2]
   rw [hc]
   clear hc
   go_enter Try.func57, Try.ntmps57
   go_wp2_with (go_at_call 85; refine (isNaN_any _ _).mono ?_; rintro e w' ⟨rfl, rfl⟩)
   go_ret
   exact ⟨rfl, rfl⟩
  ·have hc : cmpI a b = 0 := by simp [cmpI, h1, h2]
   rw [hc]
   clear hc
   go_enter Try.func57, Try.ntmps57
   go_wp2_with (go_at_call 85; refine (isNaN_any _ _).mono ?_; rintro e w' ⟨rfl, rfl⟩)
   go_ret
   exact ⟨rfl, rfl⟩
def orL : List Int → Int
 | [] => 0
 | x :: r => if (x != 0) = true then x else orL r
theorem Blk.ints {w : World} {g : Nat} {t : TypeId} {cs : Array Value} {l : List Int} (h : Blk w g t cs) (hc : cs.toList = l.map (Value.int .i64)) : ∀ k (hk : k < l.length), w.cell? ⟨g, k, none⟩ = some (.int .i64 l[k]) := fun k hk => by
 rw [h.cell, ← Array.getElem?_toList, hc]
 simp [hk]
theorem or_any (l : List Int) (b n c : Nat) (w : World) (hl : l.length = n) (hn : n ≤ 1000) (hc : ∀ k (hk : k < l.length), w.cell? ⟨b, k, none⟩ = some (.int .i64 l[k])) :
  Calls Try.prog 56 #[.slice (some ⟨b, 0, none⟩) n c] w fun e w' => e = .returned (.int .i64 (orL l)) ∧ w = w' := by
 have HL := Lib.hid hl
 have HC := Lib.hid hc
 clear hl hc
 go_enter Try.func56, Try.ntmps56
 go_wp2
 go_loop [8] (fun i => ∃ k : Nat, k ≤ n ∧ i = .int .i64 k ∧ Hid (orL l = orL (l.drop k))) (fun i => n - (intOf i).toNat)
 case atStart => exact ⟨0, Nat.zero_le _, rfl, rfl⟩
 case round =>
  obtain ⟨k, hk, rfl, H⟩ := hrel
  by_cases hlt : k < n
  ·have hz : k < l.length := by rw [HL.out]; exact hlt
   have f0 := HC.out k hz
   have hst : orL l = if (l[k] != 0) = true then l[k] else orL (l.drop (k + 1)) := by rw [H.out, List.drop_eq_getElem_cons hz, orL]
   generalize l[k] = x at f0 hst
   cases hx : (x != 0)
   ·rw [hx] at hst
    have hx2 : (x == 0) = true := by simpa using hx
    have HS := Lib.hid hst
    have H0 := Lib.hid hx
    clear hst
    go_wp2
    go_round
    case rel => exact ⟨k + 1, by omega, by go_num, HS.out.trans (if_neg (by simp))⟩
    case measure => simp [intOf]; omega
   ·rw [hx] at hst
    have hx2 : (x == 0) = false := by simpa using hx
    have HS := Lib.hid hst
    clear hst
    go_wp2
    go_ret
    exact ⟨by rw [HS.out]; simp, rfl⟩
  ·go_wp2
   go_ret
   exact ⟨by rw [H.out, List.drop_of_length_le (by rw [HL.out]; omega)]; rfl, rfl⟩
theorem orL5 (c0 c1 c2 c3 c4 : Int) : orL [c0, c1, c2, c3, c4] = orI c0 (orI c1 (orI c2 (orI c3 c4))) := by
 simp only [orL, orI, bne_iff_ne]
 by_cases h : c4 = 0 <;> simp [h]
set_option maxHeartbeats 1000000 in
theorem compare_any (asa asn aa ab ac ad bsa bsn ba bb bc bd : Int) (w : World) :
  Calls Try.prog 74 #[.agg #[.int .i64 asa, .int .i64 asn, .int .i64 aa, .int .i64 ab, .int .i64 ac, .int .i64 ad], .agg #[.int .i64 bsa, .int .i64 bsn, .int .i64 ba, .int .i64 bb, .int .i64 bc, .int .i64 bd]] w fun e w' => e = .returned (.int .i64 (cmpPas ⟨asa, asn, ⟨aa, ab⟩, ⟨ac, ad⟩⟩ ⟨bsa, bsn, ⟨ba, bb⟩, ⟨bc, bd⟩⟩)) ∧ Below w.heap.size w w' := by
 have hr : cmpPas ⟨asa, asn, ⟨aa, ab⟩, ⟨ac, ad⟩⟩ ⟨bsa, bsn, ⟨ba, bb⟩, ⟨bc, bd⟩⟩ = orL [cmpI ac bc, cmpI asa bsa, cmpI asn bsn, cmpI aa ba, cmpI ad bd] := (orL5 _ _ _ _ _).symm
 rw [hr]
 clear hr
 generalize h0 : cmpI ac bc = c0
 generalize h1 : cmpI asa bsa = c1
 generalize h2 : cmpI asn bsn = c2
 generalize h3 : cmpI aa ba = c3
 generalize h4 : cmpI ad bd = c4
 have HC0 := Lib.hid h0
 have HC1 := Lib.hid h1
 have HC2 := Lib.hid h2
 have HC3 := Lib.hid h3
 have HC4 := Lib.hid h4
 clear h0 h1 h2 h3 h4
 go_enter Try.func74, Try.ntmps74
 go_wp2_with fail
 have K1 : Blk ((w.alloc (.cells #[.int .i64 asa, .int .i64 asn, .int .i64 aa, .int .i64 ab, .int .i64 ac, .int .i64 ad] 98)).alloc (.cells #[.int .i64 bsa, .int .i64 bsn, .int .i64 ba, .int .i64 bb, .int .i64 bc, .int .i64 bd] 98)) w.heap.size 98 #[.int .i64 asa, .int .i64 asn, .int .i64 aa, .int .i64 ab, .int .i64 ac, .int .i64 ad] := (Blk.new _ _ _).alloc _
 have K2 : Blk ((w.alloc (.cells #[.int .i64 asa, .int .i64 asn, .int .i64 aa, .int .i64 ab, .int .i64 ac, .int .i64 ad] 98)).alloc (.cells #[.int .i64 bsa, .int .i64 bsn, .int .i64 ba, .int .i64 bb, .int .i64 bc, .int .i64 bd] 98)) (w.heap.size + 1) 98 #[.int .i64 bsa, .int .i64 bsn, .int .i64 ba, .int .i64 bb, .int .i64 bc, .int .i64 bd] := Blk.new_at _ _ _ (by simp)
 have hB : Below w.heap.size w ((w.alloc (.cells #[.int .i64 asa, .int .i64 asn, .int .i64 aa, .int .i64 ab, .int .i64 ac, .int .i64 ad] 98)).alloc (.cells #[.int .i64 bsa, .int .i64 bsn, .int .i64 ba, .int .i64 bb, .int .i64 bc, .int .i64 bd] 98)) := (by repeat (first | exact Below.refl _ _ | assumption | refine Below.drew ?_ | refine below_drewN ?_ _ | refine bl_alloc ?_ _ | refine Below.setCell ?_ (by first | (simp; done) | omega | (simp; omega)) _ | refine bl_then ?_ (by assumption)))
 generalize (w.alloc (.cells #[.int .i64 asa, .int .i64 asn, .int .i64 aa, .int .i64 ab, .int .i64 ac, .int .i64 ad] 98)).alloc (.cells #[.int .i64 bsa, .int .i64 bsn, .int .i64 ba, .int .i64 bb, .int .i64 bc, .int .i64 bd] 98) = W at K1 K2 hB ⊢
 have g0 : W.cell? ⟨w.heap.size, 0, none⟩ = some (.int .i64 asa) := K1.cell 0
 have g1 : W.cell? ⟨w.heap.size, 1, none⟩ = some (.int .i64 asn) := K1.cell 1
 have g2 : W.cell? ⟨w.heap.size, 2, none⟩ = some (.int .i64 aa) := K1.cell 2
 have g3 : W.cell? ⟨w.heap.size, 3, none⟩ = some (.int .i64 ab) := K1.cell 3
 have g4 : W.cell? ⟨w.heap.size, 4, none⟩ = some (.int .i64 ac) := K1.cell 4
 have g5 : W.cell? ⟨w.heap.size, 5, none⟩ = some (.int .i64 ad) := K1.cell 5
 have k0 : W.cell? ⟨(w.heap.size + 1), 0, none⟩ = some (.int .i64 bsa) := K2.cell 0
 have k1 : W.cell? ⟨(w.heap.size + 1), 1, none⟩ = some (.int .i64 bsn) := K2.cell 1
 have k2 : W.cell? ⟨(w.heap.size + 1), 2, none⟩ = some (.int .i64 ba) := K2.cell 2
 have k3 : W.cell? ⟨(w.heap.size + 1), 3, none⟩ = some (.int .i64 bb) := K2.cell 3
 have k4 : W.cell? ⟨(w.heap.size + 1), 4, none⟩ = some (.int .i64 bc) := K2.cell 4
 have k5 : W.cell? ⟨(w.heap.size + 1), 5, none⟩ = some (.int .i64 bd) := K2.cell 5
 refine wp_region_obl 33 (fun ix vals v w1 => match ix with | 0 => v = .pointer (some ⟨w.heap.size, 4, none⟩) | 1 => v = .pointer (some ⟨w.heap.size, 4, none⟩) | 2 => v = .int .i64 ac | 3 => v = .pointer (some ⟨w.heap.size + 1, 4, none⟩) | 4 => v = .pointer (some ⟨w.heap.size + 1, 4, none⟩) | 5 => v = .int .i64 bc | 6 => v = .int .i64 c0 | 7 => v = .pointer (some ⟨w.heap.size, 0, none⟩) | 8 => v = .int .i64 asa | 9 => v = .pointer (some ⟨w.heap.size + 1, 0, none⟩) | 10 => v = .int .i64 bsa | 11 => v = .int .i64 c1 | 12 => v = .pointer (some ⟨w.heap.size, 1, none⟩) | 13 => v = .int .i64 asn | 14 => v = .pointer (some ⟨w.heap.size + 1, 1, none⟩) | 15 => v = .int .i64 bsn | 16 => v = .int .i64 c2 | 17 => v = .pointer (some ⟨w.heap.size, 2, none⟩) | 18 => v = .pointer (some ⟨w.heap.size, 2, none⟩) | 19 => v = .int .i64 aa | 20 => v = .pointer (some ⟨w.heap.size + 1, 2, none⟩) | 21 => v = .pointer (some ⟨w.heap.size + 1, 2, none⟩) | 22 => v = .int .i64 ba | 23 => v = .int .i64 c3 | 24 => v = .pointer (some ⟨w.heap.size, 4, none⟩) | 25 => v = .pointer (some ⟨w.heap.size, 5, none⟩) | 26 => v = .int .i64 ad | 27 => v = .pointer (some ⟨w.heap.size + 1, 4, none⟩) | 28 => v = .pointer (some ⟨w.heap.size + 1, 5, none⟩) | 29 => v = .int .i64 bd | 30 => v = .int .i64 c4 | 31 => ∃ g, v = .slice (some ⟨g, 0, none⟩) 5 5 ∧ Blk w1 g 3 #[.int .i64 c0, .int .i64 c1, .int .i64 c2, .int .i64 c3, .int .i64 c4] | _ => v = .int .i64 (orL [c0, c1, c2, c3, c4])) (by kernel_rfl) (by kernel_rfl) ?_ ?_ ?_ ?_
 ·intro ix vals v w1 w2 hi hr hx
  match ix, hr with
  | 0, hr => exact hr
  | 1, hr => exact hr
  | 2, hr => exact hr
  | 3, hr => exact hr
  | 4, hr => exact hr
  | 5, hr => exact hr
  | 6, hr => exact hr
  | 7, hr => exact hr
  | 8, hr => exact hr
  | 9, hr => exact hr
  | 10, hr => exact hr
  | 11, hr => exact hr
  | 12, hr => exact hr
  | 13, hr => exact hr
  | 14, hr => exact hr
  | 15, hr => exact hr
  | 16, hr => exact hr
  | 17, hr => exact hr
  | 18, hr => exact hr
  | 19, hr => exact hr
  | 20, hr => exact hr
  | 21, hr => exact hr
  | 22, hr => exact hr
  | 23, hr => exact hr
  | 24, hr => exact hr
  | 25, hr => exact hr
  | 26, hr => exact hr
  | 27, hr => exact hr
  | 28, hr => exact hr
  | 29, hr => exact hr
  | 30, hr => exact hr
  | 31, hr => obtain ⟨g, h1, h2⟩ := hr; exact ⟨g, h1, h2.ext hx⟩
  | (kx + 32), hr => exact hr
 ·intro ix vals vals_ v w1 hi hv hr
  exact hr
 ·refine ⟨?_, ?_, ?_, ?_, ?_, ?_, ?_, ?_, ?_, ?_, ?_, ?_, ?_, ?_, ?_, ?_, ?_, ?_, ?_, ?_, ?_, ?_, ?_, ?_, ?_, ?_, ?_, ?_, ?_, ?_, ?_, ?_, ?_, trivial⟩
  ·intro vals w1 hx hd ha
   clear hd ha
   simp only [Lf]
   go_wp2
   exact ⟨rfl, Ext.refl _, rfl⟩
  ·intro vals w1 hx hd ha
   have e0 : vals 0 = .pointer (some ⟨w.heap.size, 4, none⟩) := hd 0 (by decide)
   clear hd ha
   simp only [Lf, dstAt, Act.put, List.getElem?_toArray, List.getElem?_cons_zero, Option.bind_some, List.setIfInBounds_toArray, List.set_cons_zero, List.set_cons_succ]
   simp only [e0]
   clear e0
   go_wp2
   exact ⟨rfl, Ext.refl _, rfl⟩
  ·intro vals w1 hx hd ha
   have e1 : vals 1 = .pointer (some ⟨w.heap.size, 4, none⟩) := hd 1 (by decide)
   clear hd ha
   simp only [Lf, dstAt, Act.put, List.getElem?_toArray, List.getElem?_cons_zero, List.getElem?_cons_succ, Option.bind_some, List.setIfInBounds_toArray, List.set_cons_zero, List.set_cons_succ]
   simp only [e1]
   clear e1
   have g4 := ext_cell hx g4
   go_wp2
   exact ⟨rfl, Ext.refl _, rfl⟩
  ·intro vals w1 hx hd ha
   clear hd ha
   simp only [Lf, dstAt, Act.put, List.getElem?_toArray, List.getElem?_cons_zero, List.getElem?_cons_succ, Option.bind_some, List.setIfInBounds_toArray, List.set_cons_zero, List.set_cons_succ]
   go_wp2
   exact ⟨rfl, Ext.refl _, rfl⟩
  ·intro vals w1 hx hd ha
   have e3 : vals 3 = .pointer (some ⟨w.heap.size + 1, 4, none⟩) := hd 3 (by decide)
   clear hd ha
   simp only [Lf, dstAt, Act.put, List.getElem?_toArray, List.getElem?_cons_zero, List.getElem?_cons_succ, Option.bind_some, List.setIfInBounds_toArray, List.set_cons_zero, List.set_cons_succ]
   simp only [e3]
   clear e3
   go_wp2
   exact ⟨rfl, Ext.refl _, rfl⟩
  ·intro vals w1 hx hd ha
   have e4 : vals 4 = .pointer (some ⟨w.heap.size + 1, 4, none⟩) := hd 4 (by decide)
   clear hd ha
   simp only [Lf, dstAt, Act.put, List.getElem?_toArray, List.getElem?_cons_zero, List.getElem?_cons_succ, Option.bind_some, List.setIfInBounds_toArray, List.set_cons_zero, List.set_cons_succ]
   simp only [e4]
   clear e4
   have k4 := ext_cell hx k4
   go_wp2
   exact ⟨rfl, Ext.refl _, rfl⟩
  ·intro vals w1 hx hd ha
   have e2 : vals 2 = .int .i64 ac := hd 2 (by decide)
   have e5 : vals 5 = .int .i64 bc := hd 5 (by decide)
   clear hd ha
   simp only [Lf, dstAt, Act.put, List.getElem?_toArray, List.getElem?_cons_zero, List.getElem?_cons_succ, Option.bind_some, List.setIfInBounds_toArray, List.set_cons_zero, List.set_cons_succ]
   simp only [e2]
   simp only [e5]
   clear e2 e5
   go_wp2_with fail
   refine (cmp_any ac bc _).mono ?_
   rintro e w2 ⟨rfl, rfl⟩
   rw [HC0.out]
   go_wp2
   exact ⟨rfl, Ext.refl _, rfl⟩
  ·intro vals w1 hx hd ha
   clear hd ha
   simp only [Lf, dstAt, Act.put, List.getElem?_toArray, List.getElem?_cons_zero, List.getElem?_cons_succ, Option.bind_some, List.setIfInBounds_toArray, List.set_cons_zero, List.set_cons_succ]
   go_wp2
   exact ⟨rfl, Ext.refl _, rfl⟩
  ·intro vals w1 hx hd ha
   have e7 : vals 7 = .pointer (some ⟨w.heap.size, 0, none⟩) := hd 7 (by decide)
   clear hd ha
   simp only [Lf, dstAt, Act.put, List.getElem?_toArray, List.getElem?_cons_zero, List.getElem?_cons_succ, Option.bind_some, List.setIfInBounds_toArray, List.set_cons_zero, List.set_cons_succ]
   simp only [e7]
   clear e7
   have g0 := ext_cell hx g0
   go_wp2
   exact ⟨rfl, Ext.refl _, rfl⟩
  ·intro vals w1 hx hd ha
   clear hd ha
   simp only [Lf, dstAt, Act.put, List.getElem?_toArray, List.getElem?_cons_zero, List.getElem?_cons_succ, Option.bind_some, List.setIfInBounds_toArray, List.set_cons_zero, List.set_cons_succ]
   go_wp2
   exact ⟨rfl, Ext.refl _, rfl⟩
  ·intro vals w1 hx hd ha
   have e9 : vals 9 = .pointer (some ⟨w.heap.size + 1, 0, none⟩) := hd 9 (by decide)
   clear hd ha
   simp only [Lf, dstAt, Act.put, List.getElem?_toArray, List.getElem?_cons_zero, List.getElem?_cons_succ, Option.bind_some, List.setIfInBounds_toArray, List.set_cons_zero, List.set_cons_succ]
   simp only [e9]
   clear e9
   have k0 := ext_cell hx k0
   go_wp2
   exact ⟨rfl, Ext.refl _, rfl⟩
  ·intro vals w1 hx hd ha
   have e6 : vals 6 = .int .i64 c0 := hd 6 (by decide)
   have e8 : vals 8 = .int .i64 asa := hd 8 (by decide)
   have e10 : vals 10 = .int .i64 bsa := hd 10 (by decide)
   clear hd ha
   simp only [Lf, dstAt, Act.put, List.getElem?_toArray, List.getElem?_cons_zero, List.getElem?_cons_succ, Option.bind_some, List.setIfInBounds_toArray, List.set_cons_zero, List.set_cons_succ]
   simp only [e6]
   simp only [e8]
   simp only [e10]
   clear e6 e8 e10
   go_wp2_with fail
   refine (cmp_any asa bsa _).mono ?_
   rintro e w2 ⟨rfl, rfl⟩
   rw [HC1.out]
   go_wp2
   exact ⟨rfl, Ext.refl _, rfl⟩
  ·intro vals w1 hx hd ha
   clear hd ha
   simp only [Lf, dstAt, Act.put, List.getElem?_toArray, List.getElem?_cons_zero, List.getElem?_cons_succ, Option.bind_some, List.setIfInBounds_toArray, List.set_cons_zero, List.set_cons_succ]
   go_wp2
   exact ⟨rfl, Ext.refl _, rfl⟩
  ·intro vals w1 hx hd ha
   have e12 : vals 12 = .pointer (some ⟨w.heap.size, 1, none⟩) := hd 12 (by decide)
   clear hd ha
   simp only [Lf, dstAt, Act.put, List.getElem?_toArray, List.getElem?_cons_zero, List.getElem?_cons_succ, Option.bind_some, List.setIfInBounds_toArray, List.set_cons_zero, List.set_cons_succ]
   simp only [e12]
   clear e12
   have g1 := ext_cell hx g1
   go_wp2
   exact ⟨rfl, Ext.refl _, rfl⟩
  ·intro vals w1 hx hd ha
   clear hd ha
   simp only [Lf, dstAt, Act.put, List.getElem?_toArray, List.getElem?_cons_zero, List.getElem?_cons_succ, Option.bind_some, List.setIfInBounds_toArray, List.set_cons_zero, List.set_cons_succ]
   go_wp2
   exact ⟨rfl, Ext.refl _, rfl⟩
  ·intro vals w1 hx hd ha
   have e14 : vals 14 = .pointer (some ⟨w.heap.size + 1, 1, none⟩) := hd 14 (by decide)
   clear hd ha
   simp only [Lf, dstAt, Act.put, List.getElem?_toArray, List.getElem?_cons_zero, List.getElem?_cons_succ, Option.bind_some, List.setIfInBounds_toArray, List.set_cons_zero, List.set_cons_succ]
   simp only [e14]
   clear e14
   have k1 := ext_cell hx k1
   go_wp2
   exact ⟨rfl, Ext.refl _, rfl⟩
  ·intro vals w1 hx hd ha
   have e11 : vals 11 = .int .i64 c1 := hd 11 (by decide)
   have e13 : vals 13 = .int .i64 asn := hd 13 (by decide)
   have e15 : vals 15 = .int .i64 bsn := hd 15 (by decide)
   clear hd ha
   simp only [Lf, dstAt, Act.put, List.getElem?_toArray, List.getElem?_cons_zero, List.getElem?_cons_succ, Option.bind_some, List.setIfInBounds_toArray, List.set_cons_zero, List.set_cons_succ]
   simp only [e11]
   simp only [e13]
   simp only [e15]
   clear e11 e13 e15
   go_wp2_with fail
   refine (cmp_any asn bsn _).mono ?_
   rintro e w2 ⟨rfl, rfl⟩
   rw [HC2.out]
   go_wp2
   exact ⟨rfl, Ext.refl _, rfl⟩
  ·intro vals w1 hx hd ha
   clear hd ha
   simp only [Lf, dstAt, Act.put, List.getElem?_toArray, List.getElem?_cons_zero, List.getElem?_cons_succ, Option.bind_some, List.setIfInBounds_toArray, List.set_cons_zero, List.set_cons_succ]
   go_wp2
   exact ⟨rfl, Ext.refl _, rfl⟩
  ·intro vals w1 hx hd ha
   have e17 : vals 17 = .pointer (some ⟨w.heap.size, 2, none⟩) := hd 17 (by decide)
   clear hd ha
   simp only [Lf, dstAt, Act.put, List.getElem?_toArray, List.getElem?_cons_zero, List.getElem?_cons_succ, Option.bind_some, List.setIfInBounds_toArray, List.set_cons_zero, List.set_cons_succ]
   simp only [e17]
   clear e17
   go_wp2
   exact ⟨rfl, Ext.refl _, rfl⟩
  ·intro vals w1 hx hd ha
   have e18 : vals 18 = .pointer (some ⟨w.heap.size, 2, none⟩) := hd 18 (by decide)
   clear hd ha
   simp only [Lf, dstAt, Act.put, List.getElem?_toArray, List.getElem?_cons_zero, List.getElem?_cons_succ, Option.bind_some, List.setIfInBounds_toArray, List.set_cons_zero, List.set_cons_succ]
   simp only [e18]
   clear e18
   have g2 := ext_cell hx g2
   go_wp2
   exact ⟨rfl, Ext.refl _, rfl⟩
  ·intro vals w1 hx hd ha
   clear hd ha
   simp only [Lf, dstAt, Act.put, List.getElem?_toArray, List.getElem?_cons_zero, List.getElem?_cons_succ, Option.bind_some, List.setIfInBounds_toArray, List.set_cons_zero, List.set_cons_succ]
   go_wp2
   exact ⟨rfl, Ext.refl _, rfl⟩
  ·intro vals w1 hx hd ha
   have e20 : vals 20 = .pointer (some ⟨w.heap.size + 1, 2, none⟩) := hd 20 (by decide)
   clear hd ha
   simp only [Lf, dstAt, Act.put, List.getElem?_toArray, List.getElem?_cons_zero, List.getElem?_cons_succ, Option.bind_some, List.setIfInBounds_toArray, List.set_cons_zero, List.set_cons_succ]
   simp only [e20]
   clear e20
   go_wp2
   exact ⟨rfl, Ext.refl _, rfl⟩
  ·intro vals w1 hx hd ha
   have e21 : vals 21 = .pointer (some ⟨w.heap.size + 1, 2, none⟩) := hd 21 (by decide)
   clear hd ha
   simp only [Lf, dstAt, Act.put, List.getElem?_toArray, List.getElem?_cons_zero, List.getElem?_cons_succ, Option.bind_some, List.setIfInBounds_toArray, List.set_cons_zero, List.set_cons_succ]
   simp only [e21]
   clear e21
   have k2 := ext_cell hx k2
   go_wp2
   exact ⟨rfl, Ext.refl _, rfl⟩
  ·intro vals w1 hx hd ha
   have e16 : vals 16 = .int .i64 c2 := hd 16 (by decide)
   have e19 : vals 19 = .int .i64 aa := hd 19 (by decide)
   have e22 : vals 22 = .int .i64 ba := hd 22 (by decide)
   clear hd ha
   simp only [Lf, dstAt, Act.put, List.getElem?_toArray, List.getElem?_cons_zero, List.getElem?_cons_succ, Option.bind_some, List.setIfInBounds_toArray, List.set_cons_zero, List.set_cons_succ]
   simp only [e16]
   simp only [e19]
   simp only [e22]
   clear e16 e19 e22
   go_wp2_with fail
   refine (cmp_any aa ba _).mono ?_
   rintro e w2 ⟨rfl, rfl⟩
   rw [HC3.out]
   go_wp2
   exact ⟨rfl, Ext.refl _, rfl⟩
  ·intro vals w1 hx hd ha
   clear hd ha
   simp only [Lf, dstAt, Act.put, List.getElem?_toArray, List.getElem?_cons_zero, List.getElem?_cons_succ, Option.bind_some, List.setIfInBounds_toArray, List.set_cons_zero, List.set_cons_succ]
   go_wp2
   exact ⟨rfl, Ext.refl _, rfl⟩
  ·intro vals w1 hx hd ha
   have e24 : vals 24 = .pointer (some ⟨w.heap.size, 4, none⟩) := hd 24 (by decide)
   clear hd ha
   simp only [Lf, dstAt, Act.put, List.getElem?_toArray, List.getElem?_cons_zero, List.getElem?_cons_succ, Option.bind_some, List.setIfInBounds_toArray, List.set_cons_zero, List.set_cons_succ]
   simp only [e24]
   clear e24
   go_wp2
   exact ⟨rfl, Ext.refl _, rfl⟩
  ·intro vals w1 hx hd ha
   have e25 : vals 25 = .pointer (some ⟨w.heap.size, 5, none⟩) := hd 25 (by decide)
   clear hd ha
   simp only [Lf, dstAt, Act.put, List.getElem?_toArray, List.getElem?_cons_zero, List.getElem?_cons_succ, Option.bind_some, List.setIfInBounds_toArray, List.set_cons_zero, List.set_cons_succ]
   simp only [e25]
   clear e25
   have g5 := ext_cell hx g5
   go_wp2
   exact ⟨rfl, Ext.refl _, rfl⟩
  ·intro vals w1 hx hd ha
   clear hd ha
   simp only [Lf, dstAt, Act.put, List.getElem?_toArray, List.getElem?_cons_zero, List.getElem?_cons_succ, Option.bind_some, List.setIfInBounds_toArray, List.set_cons_zero, List.set_cons_succ]
   go_wp2
   exact ⟨rfl, Ext.refl _, rfl⟩
  ·intro vals w1 hx hd ha
   have e27 : vals 27 = .pointer (some ⟨w.heap.size + 1, 4, none⟩) := hd 27 (by decide)
   clear hd ha
   simp only [Lf, dstAt, Act.put, List.getElem?_toArray, List.getElem?_cons_zero, List.getElem?_cons_succ, Option.bind_some, List.setIfInBounds_toArray, List.set_cons_zero, List.set_cons_succ]
   simp only [e27]
   clear e27
   go_wp2
   exact ⟨rfl, Ext.refl _, rfl⟩
  ·intro vals w1 hx hd ha
   have e28 : vals 28 = .pointer (some ⟨w.heap.size + 1, 5, none⟩) := hd 28 (by decide)
   clear hd ha
   simp only [Lf, dstAt, Act.put, List.getElem?_toArray, List.getElem?_cons_zero, List.getElem?_cons_succ, Option.bind_some, List.setIfInBounds_toArray, List.set_cons_zero, List.set_cons_succ]
   simp only [e28]
   clear e28
   have k5 := ext_cell hx k5
   go_wp2
   exact ⟨rfl, Ext.refl _, rfl⟩
  ·intro vals w1 hx hd ha
   have e23 : vals 23 = .int .i64 c3 := hd 23 (by decide)
   have e26 : vals 26 = .int .i64 ad := hd 26 (by decide)
   have e29 : vals 29 = .int .i64 bd := hd 29 (by decide)
   clear hd ha
   simp only [Lf, dstAt, Act.put, List.getElem?_toArray, List.getElem?_cons_zero, List.getElem?_cons_succ, Option.bind_some, List.setIfInBounds_toArray, List.set_cons_zero, List.set_cons_succ]
   simp only [e23]
   simp only [e26]
   simp only [e29]
   clear e23 e26 e29
   go_wp2_with fail
   refine (cmp_any ad bd _).mono ?_
   rintro e w2 ⟨rfl, rfl⟩
   rw [HC4.out]
   go_wp2
   exact ⟨rfl, Ext.refl _, rfl⟩
  ·intro vals w1 hx hd ha
   have e6 : vals 6 = .int .i64 c0 := hd 6 (by decide)
   have e11 : vals 11 = .int .i64 c1 := hd 11 (by decide)
   have e16 : vals 16 = .int .i64 c2 := hd 16 (by decide)
   have e23 : vals 23 = .int .i64 c3 := hd 23 (by decide)
   have e30 : vals 30 = .int .i64 c4 := hd 30 (by decide)
   clear hd ha
   simp only [Lf, dstAt, Act.put, List.getElem?_toArray, List.getElem?_cons_zero, List.getElem?_cons_succ, Option.bind_some, List.setIfInBounds_toArray, List.set_cons_zero, List.set_cons_succ]
   simp only [e6]
   simp only [e11]
   simp only [e16]
   simp only [e23]
   simp only [e30]
   clear e6 e11 e16 e23 e30
   go_wp2
   exact ⟨rfl, (by repeat (first | exact Below.refl _ _ | assumption | refine Below.drew ?_ | refine below_drewN ?_ _ | refine bl_alloc ?_ _ | refine Below.setCell ?_ (by first | (simp; done) | omega | (simp; omega)) _ | refine bl_then ?_ (by assumption))), _, rfl, Blk.new _ _ _⟩
  ·intro vals w1 hx hd ha
   have e30 : vals 30 = .int .i64 c4 := hd 30 (by decide)
   have r31 : (fun v w1 => ∃ g, v = .slice (some ⟨g, 0, none⟩) 5 5 ∧ Blk w1 g 3 #[.int .i64 c0, .int .i64 c1, .int .i64 c2, .int .i64 c3, .int .i64 c4]) (vals 31) w1 := hd 31 (by decide)
   dsimp only at r31
   clear hd ha
   simp only [Lf, dstAt, Act.put, List.getElem?_toArray, List.getElem?_cons_zero, List.getElem?_cons_succ, Option.bind_some, List.setIfInBounds_toArray, List.set_cons_zero, List.set_cons_succ]
   obtain ⟨g, h1, h2⟩ := r31
   simp only [h1]
   go_wp2_with fail
   refine (or_any [c0, c1, c2, c3, c4] g 5 5 _ rfl (by omega) (h2.ints rfl)).mono ?_
   rintro e w2 ⟨rfl, rfl⟩
   go_wp2
   exact ⟨rfl, Ext.refl _, rfl⟩
 intro vals w5 hx hf
 have e32 : vals 32 = .int .i64 (orL [c0, c1, c2, c3, c4]) := hf 32 (by omega)
 clear hf
 have hB5 : Below w.heap.size w w5 := bl_then hB hx.undrew
 refine tail1 33 _ (by kernel_rfl) (by kernel_rfl) rfl ?_
 simp only [Lf, dstAt, Act.put, List.getElem?_toArray, List.getElem?_cons_zero, List.getElem?_cons_succ, Option.bind_some, List.setIfInBounds_toArray, List.set_cons_zero, List.set_cons_succ]
 rw [e32]
 go_wp2
 go_ret
 exact ⟨rfl, hB5⟩
end Go.Proofs.Ytmlabgmigakcbaa
namespace Go.Proofs.Ytmlabgmigakcbaa
open Go.RowKit
theorem BndR.of_blk2 {w : World} {b : Nat} {t : TypeId} {b0 b1 : Bnd} (h : Blk w b t (bndCells b0 ++ bndCells b1).toArray) : BndR w b [b0, b1] := fun k hk => by
 have hk : k < 2 := hk
 match k, hk with
 | 0, _ => exact ⟨h.cell 0, h.cell 1, h.cell 2⟩
 | 1, _ => exact ⟨h.cell 3, h.cell 4, h.cell 5⟩
set_option maxHeartbeats 4000000 in
theorem isPass_any (sa sn a b c d : Int) (w : World) :
  Calls Try.prog 72 #[.agg #[.int .i64 sa, .int .i64 sn, .int .i64 a, .int .i64 b, .int .i64 c, .int .i64 d]] w fun e w' => e = .returned (.bool (pasOK ⟨sa, sn, ⟨a, b⟩, ⟨c, d⟩⟩)) ∧ Below w.heap.size w w' := by
 have hs : pasOK ⟨sa, sn, ⟨a, b⟩, ⟨c, d⟩⟩ = (([⟨sa, 0, 23⟩, ⟨sn, 0, 11⟩] : List Bnd).all (fun b => inB b.n b.lo b.hi) && decide (0 ≤ c ∧ c < d ∧ d ≤ 1000001) && (decide (a = 0 ∧ b = 0) || decide (c ≤ a ∧ a < b ∧ b ≤ d))) := by
  simp only [pasOK, List.all_cons, List.all_nil, Bool.and_true, splIn, Spl.mk.injEq]
 rw [hs]
 clear hs
 generalize ha : ([⟨sa, 0, 23⟩, ⟨sn, 0, 11⟩] : List Bnd).all (fun b => inB b.n b.lo b.hi) = q
 have HA := Lib.hid ha
 clear ha
 go_enter Try.func72, Try.ntmps72
 go_wp2_with fail
 have K : Blk ((w.alloc (.cells #[.int .i64 sa, .int .i64 sn, .int .i64 a, .int .i64 b, .int .i64 c, .int .i64 d] 98)).alloc (.cells #[.int .i64 sa, .int .i64 0, .int .i64 23, .int .i64 sn, .int .i64 0, .int .i64 11] 149)) w.heap.size 98 #[.int .i64 sa, .int .i64 sn, .int .i64 a, .int .i64 b, .int .i64 c, .int .i64 d] := (Blk.new _ _ _).alloc _
 have K2 : Blk ((w.alloc (.cells #[.int .i64 sa, .int .i64 sn, .int .i64 a, .int .i64 b, .int .i64 c, .int .i64 d] 98)).alloc (.cells #[.int .i64 sa, .int .i64 0, .int .i64 23, .int .i64 sn, .int .i64 0, .int .i64 11] 149)) (w.heap.size + 1) 149 #[.int .i64 sa, .int .i64 0, .int .i64 23, .int .i64 sn, .int .i64 0, .int .i64 11] := Blk.new_at _ _ _ (by simp)
 have hb : Below w.heap.size w ((w.alloc (.cells #[.int .i64 sa, .int .i64 sn, .int .i64 a, .int .i64 b, .int .i64 c, .int .i64 d] 98)).alloc (.cells #[.int .i64 sa, .int .i64 0, .int .i64 23, .int .i64 sn, .int .i64 0, .int .i64 11] 149)) := (by repeat (first | exact Below.refl _ _ | assumption | refine Below.drew ?_ | refine below_drewN ?_ _ | refine bl_alloc ?_ _ | refine Below.setCell ?_ (by first | (simp; done) | omega | (simp; omega)) _ | refine bl_then ?_ (by assumption)))
 generalize (w.alloc (.cells #[.int .i64 sa, .int .i64 sn, .int .i64 a, .int .i64 b, .int .i64 c, .int .i64 d] 98)).alloc (.cells #[.int .i64 sa, .int .i64 0, .int .i64 23, .int .i64 sn, .int .i64 0, .int .i64 11] 149) = W at K K2 hb ⊢
 refine (areIn_any [⟨sa, 0, 23⟩, ⟨sn, 0, 11⟩] (w.heap.size + 1) 2 2 W rfl (BndR.of_blk2 K2) K2.lt (by omega)).mono ?_
 rintro e W2 ⟨rfl, hb2⟩
 have K := K.below hb2 (by have := K.lt; omega)
 have hB2 : Below w.heap.size w W2 := hb.trans (Below.mono hb2 hb.size)
 clear K2 hb hb2
 have g2 : W2.cell? ⟨w.heap.size, 2, none⟩ = some (.int .i64 a) := K.cell 2
 have g3 : W2.cell? ⟨w.heap.size, 3, none⟩ = some (.int .i64 b) := K.cell 3
 have g4 : W2.cell? ⟨w.heap.size, 4, none⟩ = some (.int .i64 c) := K.cell 4
 have g5 : W2.cell? ⟨w.heap.size, 5, none⟩ = some (.int .i64 d) := K.cell 5
 rw [HA.out]
 clear HA K
 go_upto_region 4 with (fail)
 all_goals cases q
 all_goals
  go_wp2
 all_goals
  go_ret
  exact ⟨by first | (simp [*]; done) | (simp [*]; omega), hB2⟩
theorem pas_size : (Try.prog.info? 98).map (·.size) = some 6 := by kernel_rfl
theorem isPass_x (x : Pas) (w : World) : Calls Try.prog 72 #[.agg (pasCells x).toArray] w fun e w' => e = .returned (.bool (pasOK x)) ∧ Below w.heap.size w w' := by
 obtain ⟨sa, sn, ⟨a, b⟩, ⟨c, d⟩⟩ := x
 exact isPass_any sa sn a b c d w
theorem compare_x (x y : Pas) (w : World) : Calls Try.prog 74 #[.agg (pasCells x).toArray, .agg (pasCells y).toArray] w fun e w' => e = .returned (.int .i64 (cmpPas x y)) ∧ Below w.heap.size w w' := by
 obtain ⟨sa, sn, ⟨a, b⟩, ⟨c, d⟩⟩ := x
 obtain ⟨sa', sn', ⟨a', b'⟩, ⟨c', d'⟩⟩ := y
 exact compare_any sa sn a b c d sa' sn' a' b' c' d' w
theorem proper1_any (x : Pas) (w : World) : Calls Try.prog 71 #[.agg (pasCells x).toArray] w fun e w' => e = .returned (.bool (!pasOK x)) ∧ Below w.heap.size w w' := by
 have hv := isPass_x x
 generalize pasOK x = q at hv ⊢
 obtain ⟨sa, sn, ⟨a, b⟩, ⟨c, d⟩⟩ := x
 have HV := Lib.hid hv
 clear hv
 show Calls Try.prog 71 #[.agg #[.int .i64 sa, .int .i64 sn, .int .i64 a, .int .i64 b, .int .i64 c, .int .i64 d]] w _
 go_enter Try.func71, Try.ntmps71
 go_wp2_with fail
 refine (HV.out _).mono ?_
 rintro e w2 ⟨rfl, hb⟩
 have hB : Below w.heap.size w w2 := bl_then (by repeat (first | exact Below.refl _ _ | assumption | refine Below.drew ?_ | refine below_drewN ?_ _ | refine bl_alloc ?_ _ | refine Below.setCell ?_ (by first | (simp; done) | omega | (simp; omega)) _ | refine bl_then ?_ (by assumption))) hb
 go_wp2
 go_ret
 exact ⟨rfl, hB⟩
def idxA {α : Type} (p : α → Bool) : List α → Int → Int
 | [], _ => -1
 | x :: r, k => if p x then k else idxA p r (k + 1)
theorem idxA_any {α : Type} (p : α → Bool) (l : List α) (k : Int) (hk : 0 ≤ k) : (0 ≤ idxA p l k) = (l.any p = true) := by
 induction l generalizing k with
 | nil => simp [idxA]
 | cons x r ih =>
  unfold idxA
  cases hx : p x
  ·simp [hx, ih (k + 1) (by omega)]
  ·simp [hx, hk]
theorem idxA_drop {α : Type} (p : α → Bool) (l : List α) (k : Nat) (h : k < l.length) : idxA p (l.drop k) k = if p l[k] then (k : Int) else idxA p (l.drop (k + 1)) (k + 1 : Nat) := by
 rw [List.drop_eq_getElem_cons h, idxA]
 split <;> simp
theorem indexPas (l : List Pas) (A : Option Addr) (n c : Nat) (w : World) (h : RA pasCells 6 w w.heap.size A n c l) :
  Calls Try.prog 90 #[.slice A n c, .func (.func 71) #[] #[]] w
   fun e w' => e = .returned (.int .i64 (idxA (fun x => !pasOK x) l 0)) ∧ Below w.heap.size w w' := by
 have HR := Lib.hid h
 have hle := h.le
 have HL := Lib.hid h.len
 clear h
 go_enter Try.func90, Try.ntmps90
 go_wp2
 go_loopw [8] (fun i wr => ∃ k : Nat, k ≤ n ∧ i = .int .i64 k ∧ Hid (idxA (fun x => !pasOK x) l 0 = idxA (fun x => !pasOK x) (l.drop k) k) ∧ Below w.heap.size w wr) (fun i _ => n - (intOf i).toNat)
 case atStart => exact ⟨0, Nat.zero_le _, rfl, rfl, Below.refl _ _⟩
 case round =>
  obtain ⟨k, hk, rfl, H, hB⟩ := hrel
  by_cases hlt : k < n
  ·obtain ⟨b, o, hz, hA, hbl, hc⟩ := RA.range pas_len (HR.out.below hB) hlt
   have hst := idxA_drop (fun x => !pasOK x) l k hz
   rw [← H.out] at hst
   generalize l[k] = x at hst hc
   have hv := proper1_any x
   obtain ⟨X, hX⟩ : ∃ X, (pasCells x).toArray = X := ⟨_, rfl⟩
   rw [hX] at hv
   generalize (!pasOK x) = q at hst hv
   have HX := Lib.hid hX
   have HV := Lib.hid hv
   have HS := Lib.hid hst
   have HCC := Lib.hid hc
   clear hX hv hst hc
   subst hA
   go_wp2_with (refine wpList_load_st rfl _ _ rfl b (o + k * 6) rfl X (pasCells x) HX.out _ HCC.out Try.underlying98 rfl pas_size ?_)
   refine (HV.out _).mono ?_
   rintro e w2 ⟨rfl, hb2⟩
   have hB2 : Below w.heap.size w w2 := bl_then hB hb2
   cases q
   ·go_wp2
    go_roundw
    case rel => exact ⟨k + 1, by omega, by go_num, HS.out.trans (by simp), hB2⟩
    case measure => simp [intOf]; omega
   ·go_wp2
    go_ret
    exact ⟨by rw [HS.out]; simp, hB2⟩
  ·go_wp2
   go_ret
   exact ⟨by rw [H.out, List.drop_of_length_le (by rw [HL.out]; omega)]; rfl, hB⟩
theorem containsPas (l : List Pas) (A : Option Addr) (n c : Nat) (w : World) (h : RA pasCells 6 w w.heap.size A n c l) :
  Calls Try.prog 70 #[.slice A n c, .func (.func 71) #[] #[]] w
   fun e w' => e = .returned (.bool (!l.all pasOK)) ∧ Below w.heap.size w w' := by
 have hf := indexPas l A n c w h
 have hbb : (!l.all pasOK) = decide (0 ≤ idxA (fun x => !pasOK x) l 0) := by
  rw [Bool.eq_iff_iff, decide_eq_true_iff, idxA_any _ _ 0 (by omega)]
  simp
 rw [hbb]
 generalize idxA (fun x => !pasOK x) l 0 = r at hf
 have HF := Lib.hid hf
 clear hf hbb h
 go_enter Try.func70, Try.ntmps70
 go_wp2_with (go_at_call 90; refine HF.out.mono ?_; rintro e w' ⟨rfl, hb'⟩)
 go_ret
 exact ⟨rfl, (by repeat (first | exact Below.refl _ _ | assumption | refine Below.drew ?_ | refine below_drewN ?_ _ | refine bl_alloc ?_ _ | refine Below.setCell ?_ (by first | (simp; done) | omega | (simp; omega)) _ | refine bl_then ?_ (by assumption)))⟩
def sortedP : List Pas → Bool
 | [] => true
 | [_] => true
 | x :: y :: r => !decide (cmpPas y x < 0) && sortedP (y :: r)
theorem sortedP_end (l : List Pas) (k : Nat) (h : l.length ≤ k + 1) : sortedP (l.drop k) = true := by
 match hl : l.drop k with
 | [] => rfl
 | [_] => rfl
 | x :: y :: r =>
  have := congrArg List.length hl
  simp at this
  omega
theorem sortedP_step (l : List Pas) (k : Nat) (h0 : 0 < k) (h : k < l.length) : sortedP (l.drop (k - 1)) = (!decide (cmpPas l[k] (l[k - 1]'(by omega)) < 0) && sortedP (l.drop k)) := by
 obtain ⟨k, rfl⟩ : ∃ j, k = j + 1 := ⟨k - 1, by omega⟩
 simp only [Nat.add_sub_cancel]
 rw [List.drop_eq_getElem_cons (by omega : k < l.length), List.drop_eq_getElem_cons h, sortedP]
theorem sortedP_false (l : List Pas) (k : Nat) (h : sortedP (l.drop k) = false) : sortedP l = false := by
 induction k generalizing l with
 | zero => simpa using h
 | succ k ih =>
  match l with
  | [] => simpa using h
  | [x] => simp [sortedP] at h
  | x :: y :: r =>
   have := ih (y :: r) (by simpa using h)
   rw [sortedP, this, Bool.and_false]
theorem sortedPas (l : List Pas) (A : Option Addr) (n c : Nat) (w : World) (h : RA pasCells 6 w w.heap.size A n c l) :
  Calls Try.prog 73 #[.slice A n c, .func (.func 74) #[] #[]] w
   fun e w' => e = .returned (.bool (sortedP l)) ∧ Below w.heap.size w w' := by
 have HR := Lib.hid h
 have hle := h.le
 have HL := Lib.hid h.len
 have h0 : sortedP (l.drop (n - 1)) = true := sortedP_end l _ (by rw [h.len]; omega)
 have H0 := Lib.hid h0
 clear h h0
 go_enter Try.func73, Try.ntmps73
 go_wp2
 go_loopw [5] (fun i wr => ∃ k : Int, -1 ≤ k ∧ k < n ∧ i = .int .i64 k ∧ Hid (sortedP (l.drop k.toNat) = true) ∧ Below w.heap.size w wr) (fun i _ => (intOf i).toNat)
 case atStart => exact ⟨(n : Int) - 1, by omega, by omega, rfl, by rw [show ((n : Int) - 1).toNat = n - 1 by omega]; exact H0, Below.refl _ _⟩
 case round =>
  clear H0
  obtain ⟨i, hi1, hi2, rfl, H, hB⟩ := hrel
  by_cases hpos : 0 < i
  ·obtain ⟨k, rfl⟩ : ∃ k : Nat, i = k := ⟨i.toNat, by omega⟩
   have hkn : k < n := by omega
   have hk0 : 0 < k := by omega
   rw [Int.toNat_natCast] at H
   obtain ⟨b, o, hz, hA, hbl, hx_⟩ := RA.range pas_len (HR.out.below hB) hkn
   obtain ⟨b', o', hz', hA', hbl', hy_⟩ := RA.range pas_len (HR.out.below hB) (k := k - 1) (by omega)
   have hst := sortedP_step l k hk0 hz
   rw [H.out, Bool.and_true] at hst
   generalize l[k] = x at hst hx_
   generalize l[k - 1] = y at hst hy_
   obtain ⟨hb1, ho1⟩ : b' = b ∧ o' = o := by rw [hA] at hA'; injection hA' with hA'; injection hA' with h1 h2; exact ⟨h1.symm, h2.symm⟩
   rw [hb1, ho1] at hy_
   have hv := compare_x x y
   obtain ⟨X, hX⟩ : ∃ X, (pasCells x).toArray = X := ⟨_, rfl⟩
   obtain ⟨Y, hY⟩ : ∃ Y, (pasCells y).toArray = Y := ⟨_, rfl⟩
   rw [hX, hY] at hv
   generalize cmpPas x y = cv at hst hv
   have HX := Lib.hid hX
   have HY := Lib.hid hY
   have HC := Lib.hid hv
   have HS := Lib.hid hst
   clear hX hY hv hst hA' hbl' hb1 ho1 b' o'
   subst hA
   have hki : IntKind.i64.wrap ((k : Int) - 1) = (k : Int) - 1 := IntWalk.i64_in _ (by omega)
   have hkt : ((k : Int) - 1).toNat = k - 1 := by omega
   have HKT := Lib.hid hkt
   go_wp2_with fail
   refine wp_region_obl 12 (fun ix vals v w1 => match ix with | 0 => v = .func (.func 74) #[] #[] | 1 => v = .slice (some ⟨b, o, none⟩) n c | 2 => v = .int .i64 (k : Int) | 3 => v = .pointer (some ⟨b, o + k * 6, none⟩) | 4 => v = .agg X | 5 => v = .slice (some ⟨b, o, none⟩) n c | 6 => v = .int .i64 (k : Int) | 7 => v = .int .i64 ((k : Int) - 1) | 8 => v = .pointer (some ⟨b, o + (k - 1) * 6, none⟩) | 9 => v = .agg Y | 10 => v = .int .i64 cv | _ => v = .bool (decide (cv < 0))) (by kernel_rfl) (by kernel_rfl) ?_ ?_ ?_ ?_
   ·intro ix vals v w1 w2 hi hr hx
    match ix, hr with
    | 0, hr => exact hr
    | 1, hr => exact hr
    | 2, hr => exact hr
    | 3, hr => exact hr
    | 4, hr => exact hr
    | 5, hr => exact hr
    | 6, hr => exact hr
    | 7, hr => exact hr
    | 8, hr => exact hr
    | 9, hr => exact hr
    | 10, hr => exact hr
    | (kx + 11), hr => exact hr
   ·intro ix vals vals_ v w1 hi hv hr
    exact hr
   ·refine ⟨?_, ?_, ?_, ?_, ?_, ?_, ?_, ?_, ?_, ?_, ?_, ?_, trivial⟩
    ·intro vals w1 hx hd ha
     clear hd ha
     simp only [Lf]
     go_wp2
     exact ⟨rfl, Ext.refl _, rfl⟩
    ·intro vals w1 hx hd ha
     clear hd ha
     simp only [Lf, dstAt, Act.put, List.getElem?_toArray, List.getElem?_cons_zero, Option.bind_some, List.setIfInBounds_toArray, List.set_cons_zero, List.set_cons_succ]
     go_wp2
     exact ⟨rfl, Ext.refl _, rfl⟩
    ·intro vals w1 hx hd ha
     clear hd ha
     simp only [Lf, dstAt, Act.put, List.getElem?_toArray, List.getElem?_cons_zero, List.getElem?_cons_succ, Option.bind_some, List.setIfInBounds_toArray, List.set_cons_zero, List.set_cons_succ]
     go_wp2
     exact ⟨rfl, Ext.refl _, rfl⟩
    ·intro vals w1 hx hd ha
     have e1 : vals 1 = .slice (some ⟨b, o, none⟩) n c := hd 1 (by decide)
     have e2 : vals 2 = .int .i64 (k : Int) := hd 2 (by decide)
     clear hd ha
     simp only [Lf, dstAt, Act.put, List.getElem?_toArray, List.getElem?_cons_zero, List.getElem?_cons_succ, Option.bind_some, List.setIfInBounds_toArray, List.set_cons_zero, List.set_cons_succ]
     simp only [e1, e2]
     clear e1 e2
     go_wp2
     exact ⟨rfl, Ext.refl _, rfl⟩
    ·intro vals w1 hx hd ha
     have e3 : vals 3 = .pointer (some ⟨b, o + k * 6, none⟩) := hd 3 (by decide)
     clear hd ha
     simp only [Lf, dstAt, Act.put, List.getElem?_toArray, List.getElem?_cons_zero, List.getElem?_cons_succ, Option.bind_some, List.setIfInBounds_toArray, List.set_cons_zero, List.set_cons_succ]
     simp only [e3]
     clear e3
     refine wpList_load_st rfl _ _ rfl b (o + k * 6) rfl X (pasCells x) HX.out _ (RA.range2 hx_ hx.undrew) Try.underlying98 rfl pas_size ?_
     go_wp2
     exact ⟨rfl, Ext.refl _, rfl⟩
    ·intro vals w1 hx hd ha
     clear hd ha
     simp only [Lf, dstAt, Act.put, List.getElem?_toArray, List.getElem?_cons_zero, List.getElem?_cons_succ, Option.bind_some, List.setIfInBounds_toArray, List.set_cons_zero, List.set_cons_succ]
     go_wp2
     exact ⟨rfl, Ext.refl _, rfl⟩
    ·intro vals w1 hx hd ha
     clear hd ha
     simp only [Lf, dstAt, Act.put, List.getElem?_toArray, List.getElem?_cons_zero, List.getElem?_cons_succ, Option.bind_some, List.setIfInBounds_toArray, List.set_cons_zero, List.set_cons_succ]
     go_wp2
     exact ⟨rfl, Ext.refl _, rfl⟩
    ·intro vals w1 hx hd ha
     have e6 : vals 6 = .int .i64 (k : Int) := hd 6 (by decide)
     clear hd ha
     simp only [Lf, dstAt, Act.put, List.getElem?_toArray, List.getElem?_cons_zero, List.getElem?_cons_succ, Option.bind_some, List.setIfInBounds_toArray, List.set_cons_zero, List.set_cons_succ]
     simp only [e6]
     clear e6
     go_wp2
     exact ⟨rfl, Ext.refl _, rfl⟩
    ·intro vals w1 hx hd ha
     have e5 : vals 5 = .slice (some ⟨b, o, none⟩) n c := hd 5 (by decide)
     have e7 : vals 7 = .int .i64 ((k : Int) - 1) := hd 7 (by decide)
     clear hd ha
     simp only [Lf, dstAt, Act.put, List.getElem?_toArray, List.getElem?_cons_zero, List.getElem?_cons_succ, Option.bind_some, List.setIfInBounds_toArray, List.set_cons_zero, List.set_cons_succ]
     simp only [e5, e7]
     clear e5 e7
     go_wp2
     exact ⟨rfl, Ext.refl _, rfl⟩
    ·intro vals w1 hx hd ha
     have e8 : vals 8 = .pointer (some ⟨b, o + (k - 1) * 6, none⟩) := hd 8 (by decide)
     clear hd ha
     simp only [Lf, dstAt, Act.put, List.getElem?_toArray, List.getElem?_cons_zero, List.getElem?_cons_succ, Option.bind_some, List.setIfInBounds_toArray, List.set_cons_zero, List.set_cons_succ]
     simp only [e8]
     clear e8
     refine wpList_load_st rfl _ _ rfl b (o + (k - 1) * 6) rfl Y (pasCells y) HY.out _ (RA.range2 hy_ hx.undrew) Try.underlying98 rfl pas_size ?_
     go_wp2
     exact ⟨rfl, Ext.refl _, rfl⟩
    ·intro vals w1 hx hd ha
     have e0 : vals 0 = .func (.func 74) #[] #[] := hd 0 (by decide)
     have e4 : vals 4 = .agg X := hd 4 (by decide)
     have e9 : vals 9 = .agg Y := hd 9 (by decide)
     clear hd ha
     simp only [Lf, dstAt, Act.put, List.getElem?_toArray, List.getElem?_cons_zero, List.getElem?_cons_succ, Option.bind_some, List.setIfInBounds_toArray, List.set_cons_zero, List.set_cons_succ]
     simp only [e0]
     simp only [e4]
     simp only [e9]
     clear e0 e4 e9
     go_wp2_with fail
     refine (HC.out _).mono ?_
     rintro e w2 ⟨rfl, hb2⟩
     go_wp2
     exact ⟨rfl, hb2, rfl⟩
    ·intro vals w1 hx hd ha
     have e10 : vals 10 = .int .i64 cv := hd 10 (by decide)
     clear hd ha
     simp only [Lf, dstAt, Act.put, List.getElem?_toArray, List.getElem?_cons_zero, List.getElem?_cons_succ, Option.bind_some, List.setIfInBounds_toArray, List.set_cons_zero, List.set_cons_succ]
     simp only [e10]
     clear e10
     go_wp2
     exact ⟨rfl, Ext.refl _, rfl⟩
   intro vals w5 hxx hf
   have e11 : vals 11 = .bool (decide (cv < 0)) := hf 11 (by omega)
   clear hf
   have hB5 := bl_then hB hxx.undrew
   refine tail0 (by kernel_rfl) ?_
   simp only [Lf, dstAt, Act.put, List.getElem?_toArray, List.getElem?_cons_zero, List.getElem?_cons_succ, Option.bind_some, List.setIfInBounds_toArray, List.set_cons_zero, List.set_cons_succ]
   rw [e11]
   clear e11 hki hkt
   by_cases hcv : cv < 0
   ·have hd : decide (cv < 0) = true := by simpa using hcv
    have HD := Lib.hid hd
    clear hd
    go_wp2
    go_ret
    have h := sortedP_false l _ (show sortedP (l.drop (k - 1)) = false by rw [HS.out, HD.out]; rfl)
    rw [h]
    exact ⟨rfl, hB5⟩
   ·have hd : decide (cv < 0) = false := by simpa using hcv
    have HD := Lib.hid hd
    clear hd
    go_wp2
    go_roundw
    case rel => exact ⟨(k : Int) - 1, by omega, by omega, rfl, Lib.hid (by rw [HKT.out, HS.out, HD.out]; rfl), hB5⟩
    case measure => simp [intOf]; omega
  ·go_wp2
   go_ret
   have h := H.out
   rw [show i.toNat = 0 by omega, List.drop_zero] at h
   rw [h]
   exact ⟨rfl, hB⟩
def properP (l : List Pas) : Bool := decide (l.length ≤ 64) && l.all pasOK && sortedP l
theorem proper_any (l : List Pas) (A : Option Addr) (n c : Nat) (w : World) (h : RA pasCells 6 w w.heap.size A n c l) :
  Calls Try.prog 39 #[.slice A n c] w fun e w' => e = .returned (.bool (properP l)) ∧ Below w.heap.size w w' := by
 have HR := Lib.hid h
 have hle := h.le
 have hpp : properP l = (decide (n ≤ 64) && l.all pasOK && sortedP l) := by rw [properP, h.len]
 rw [hpp]
 clear hpp h
 have h1 := fun w h => containsPas l A n c w h
 have h2 := fun w h => sortedPas l A n c w h
 generalize l.all pasOK = q1 at h1 ⊢
 generalize sortedP l = q2 at h2 ⊢
 have H1 := Lib.hid h1
 have H2 := Lib.hid h2
 clear h1 h2
 by_cases hn : n ≤ 64
 ·have hd : decide (n ≤ 64) = true := by simpa using hn
  have hn2 : (n : Int) ≤ 64 := by omega
  rw [hd]
  clear hd
  go_enter Try.func39, Try.ntmps39
  go_wp2_with fail
  refine (H1.out _ HR.out).mono ?_
  rintro e w2 ⟨rfl, hb⟩
  cases q1
  ·go_wp2
   go_ret
   exact ⟨by simp, hb⟩
  ·go_wp2_with fail
   refine (H2.out _ ((HR.out.below hb).more hb.size)).mono ?_
   rintro e w3 ⟨rfl, hb3⟩
   go_wp2
   go_ret
   exact ⟨by simp, bl_then hb hb3⟩
 ·have hd : decide (n ≤ 64) = false := by simpa using hn
  have hn2 : ¬ (n : Int) ≤ 64 := by omega
  rw [hd]
  clear hd
  go_enter Try.func39, Try.ntmps39
  go_wp2
  go_ret
  exact ⟨by simp, (by repeat (first | exact Below.refl _ _ | assumption | refine Below.drew ?_ | refine below_drewN ?_ _ | refine bl_alloc ?_ _ | refine Below.setCell ?_ (by first | (simp; done) | omega | (simp; omega)) _ | refine bl_then ?_ (by assumption)))⟩
theorem pas_bd {x : Pas} (h : pasOK x = true) : 0 ≤ x.sure.fr ∧ x.sure.fr ≤ 1000001 ∧ 0 ≤ x.sure.tt ∧ x.sure.tt ≤ 1000001 := by
 simp only [pasOK, Bool.and_eq_true, Bool.or_eq_true, decide_eq_true_eq, splIn] at h
 obtain ⟨⟨_, h1⟩, h2⟩ := h
 rcases h2 with h2 | h2
 ·rw [h2]; simp
 ·omega
end Go.Proofs.Ytmlabgmigakcbaa
namespace Go.Proofs.Ytmlabgmigakcbaa
open Go.RowKit Go.MapKept
def mkE (p : Int × Value × Nat) : MapEntry := { key := .int .i64 p.1, val := p.2.1, born := p.2.2 }
def lookL (k : Int) : List (Int × Value × Nat) → Option Value
 | [] => none
 | p :: r => if p.1 = k then some p.2.1 else lookL k r
def updL (k : Int) (v : Value) (c : Nat) : List (Int × Value × Nat) → List (Int × Value × Nat)
 | [] => [(k, v, c)]
 | p :: r => if p.1 = k then (k, v, p.2.2) :: r else p :: updL k v c r
theorem look_upd (k j : Int) (v : Value) (c : Nat) : ∀ L, lookL j (updL k v c L) = if j = k then some v else lookL j L
 | [] => by
  simp only [updL, lookL]
  by_cases h : k = j
  ·subst h; simp
  ·rw [if_neg h, if_neg (fun e => h e.symm)]
 | p :: r => by
  simp only [updL]
  by_cases h : p.1 = k
  ·rw [if_pos h]
   simp only [lookL]
   by_cases hj : j = k
   ·subst hj; simp
   ·rw [if_neg (fun e => hj e.symm), if_neg hj, if_neg (fun e => hj (e.symm.trans h))]
  ·rw [if_neg h]
   simp only [lookL]
   rw [look_upd k j v c r]
   by_cases hp : p.1 = j
   ·rw [if_pos hp, if_pos hp, if_neg (fun e => h (hp.trans e))]
   ·rw [if_neg hp, if_neg hp]
theorem find_none {k : Int} : ∀ {L : List (Int × Value × Nat)} (i : Nat), lookL k L = none → Instr.findNow (.int .i64) (.int .i64 k) (L.map mkE) i = some none ∧ ∀ v c, updL k v c L = L ++ [(k, v, c)]
 | [], _, _ => ⟨rfl, fun _ _ => rfl⟩
 | p :: r, i, h => by
  simp only [lookL] at h
  by_cases hp : p.1 = k
  ·rw [if_pos hp] at h; cases h
  ·rw [if_neg hp] at h
   obtain ⟨h1, h2⟩ := find_none (i + 1) h
   refine ⟨?_, fun v c => by simp only [updL]; rw [if_neg hp, h2]; rfl⟩
   have hs : (k == p.1) = false := by simp; exact fun e => hp e.symm
   simp only [List.map_cons, Instr.findNow, Instr.sameNow, mkE, if_true, hs]
   exact h1
theorem find_some {k : Int} {v : Value} : ∀ {L : List (Int × Value × Nat)} (i : Nat), lookL k L = some v → ∃ j p, L[j]? = some p ∧ p.1 = k ∧ p.2.1 = v ∧ Instr.findNow (.int .i64) (.int .i64 k) (L.map mkE) i = some (some (i + j, v)) ∧ ∀ u c, updL k u c L = L.set j (k, u, p.2.2)
 | [], _, h => by cases h
 | p :: r, i, h => by
  simp only [lookL] at h
  by_cases hp : p.1 = k
  ·rw [if_pos hp] at h
   have hv : p.2.1 = v := by simpa using h
   refine ⟨0, p, rfl, hp, hv, ?_, fun u c => by simp only [updL]; rw [if_pos hp]; rfl⟩
   have hs : (k == p.1) = true := by simp [hp]
   simp only [List.map_cons, Instr.findNow, Instr.sameNow, mkE, if_true, hs, hv, Nat.add_zero]
  ·rw [if_neg hp] at h
   obtain ⟨j, q, h1, h2, h3, h4, h5⟩ := find_some (i + 1) h
   refine ⟨j + 1, q, by simpa using h1, h2, h3, ?_, fun u c => by simp only [updL]; rw [if_neg hp, h5]; rfl⟩
   have hs : (k == p.1) = false := by simp; exact fun e => hp e.symm
   simp only [List.map_cons, Instr.findNow, Instr.sameNow, mkE, if_true, hs]
   rw [show i + (j + 1) = i + 1 + j by omega]
   exact h4
def MapI (w : World) (g : Nat) (f : Int → Option Value) : Prop := ∃ L clock, w.heap[g]? = some (.map (L.map mkE).toArray clock) ∧ ∀ k, lookL k L = f k
theorem MapI.lt {w : World} {g : Nat} {f : Int → Option Value} (h : MapI w g f) : g < w.heap.size := by
 obtain ⟨L, c, h, _⟩ := h
 exact (Array.getElem?_eq_some_iff.1 h).1
theorem MapI.ext {w w' : World} {g : Nat} {f : Int → Option Value} (h : MapI w g f) (hx : Ext w w') : MapI w' g f := by
 have hl := h.lt
 obtain ⟨L, c, h1, h2⟩ := h
 exact ⟨L, c, (hx.block g hl).trans h1, h2⟩
theorem MapI.grown {w w' : World} {g : Nat} {f : Int → Option Value} {row : Option Nat} (h : MapI w g f) (hx : w.grownBy w' row) (hne : some g ≠ row) : MapI w' g f := by
 have hl := h.lt
 obtain ⟨L, c, h1, h2⟩ := h
 exact ⟨L, c, (hx.block g hl hne).trans h1, h2⟩
theorem MapI.far {w : World} {g : Nat} {f : Int → Option Value} (h : MapI w g f) {p : Addr} (hp : g ≠ p.block) (u : Value) : MapI (w.setCell p u) g f := by
 obtain ⟨L, c, h1, h2⟩ := h
 exact ⟨L, c, (Below.heap_setCell w p u g hp).trans h1, h2⟩
theorem MapI.new (w : World) : MapI (w.alloc (.map #[] 0)) w.heap.size (fun _ => none) := ⟨[], 0, heap_alloc_new w _, fun _ => rfl⟩
theorem MapI.congr {w : World} {g : Nat} {f f' : Int → Option Value} (h : MapI w g f) (hf : ∀ k, f k = f' k) : MapI w g f' := by
 obtain ⟨L, c, h1, h2⟩ := h
 exact ⟨L, c, h1, fun k => (h2 k).trans (hf k)⟩
def putMap (w : World) (g : Nat) (L : List (Int × Value × Nat)) (c : Nat) : World := { w with heap := w.heap.setIfInBounds g (.map (L.map mkE).toArray c) }
theorem putMap_grown (w : World) (g : Nat) (L : List (Int × Value × Nat)) (c : Nat) : w.grownBy (putMap w g L c) (some g) :=
 ⟨rfl, rfl, rfl, by simp [putMap], fun k _ hne => by
  have : k ≠ g := fun e => hne (by rw [e])
  simp [putMap, Ne.symm this]⟩
section
variable {P : Program} {w : World} {g : Nat} {f : Int → Option Value} {t kt et : TypeId}
theorem MapI.look (h : MapI w g f) (ht : P.underlying t = some (.map kt et)) (hk : P.underlying kt = some (.int .i64)) {z : Value} (hz : (zeroValue et).run P w = .ok z w) (k : Int) :
  (Instr.lookup t (.map (some g)) (.int .i64 k) false).run P w = .ok ((f k).getD z) w := by
 obtain ⟨L, c, hb, hf⟩ := h
 have hc : ∀ e, (Instr.checkKey e 10000 kt (.int .i64 k)).run P w = .ok () w := fun e => MapKept.run_checkKey (k := .int .i64 k) hk (by simp [IsKey]) e 9999
 have hfk := hf k
 cases hl : lookL k L with
 | none =>
  obtain ⟨h1, _⟩ := find_none (k := k) 0 hl
  rw [hl] at hfk
  rw [← hfk]
  simp [Instr.lookup, run_underlying ht, MapKept.run_getObj_map hb, hc, MapKept.run_findKey hk h1, Result.andThen, hz]
 | some v =>
  obtain ⟨j, p, _, _, _, h1, _⟩ := find_some (k := k) 0 hl
  rw [hl] at hfk
  rw [← hfk]
  simp [Instr.lookup, run_underlying ht, MapKept.run_getObj_map hb, hc, MapKept.run_findKey hk h1, Result.andThen]
theorem MapI.look_ok (h : MapI w g f) (ht : P.underlying t = some (.map kt et)) (hk : P.underlying kt = some (.int .i64)) {z : Value} (hz : (zeroValue et).run P w = .ok z w) (k : Int) :
  (Instr.lookup t (.map (some g)) (.int .i64 k) true).run P w = .ok (.tuple #[(f k).getD z, .bool (f k).isSome]) w := by
 obtain ⟨L, c, hb, hf⟩ := h
 have hc : ∀ e, (Instr.checkKey e 10000 kt (.int .i64 k)).run P w = .ok () w := fun e => MapKept.run_checkKey (k := .int .i64 k) hk (by simp [IsKey]) e 9999
 have hfk := hf k
 cases hl : lookL k L with
 | none =>
  obtain ⟨h1, _⟩ := find_none (k := k) 0 hl
  rw [hl] at hfk
  rw [← hfk]
  simp [Instr.lookup, run_underlying ht, MapKept.run_getObj_map hb, hc, MapKept.run_findKey hk h1, Result.andThen, hz]
 | some v =>
  obtain ⟨j, p, _, _, _, h1, _⟩ := find_some (k := k) 0 hl
  rw [hl] at hfk
  rw [← hfk]
  simp [Instr.lookup, run_underlying ht, MapKept.run_getObj_map hb, hc, MapKept.run_findKey hk h1, Result.andThen]
theorem MapI.update (h : MapI w g f) (ht : P.underlying t = some (.map kt et)) (hk : P.underlying kt = some (.int .i64)) (k : Int) (v : Value) :
  ∃ w', (Instr.mapUpdate t (.map (some g)) (.int .i64 k) v).run P w = .ok () w' ∧ MapI w' g (fun j => if j = k then some v else f j) ∧ w.grownBy w' (some g) := by
 have hlt := h.lt
 obtain ⟨L, c, hb, hf⟩ := h
 have hc : ∀ e, (Instr.checkKey e 10000 kt (.int .i64 k)).run P w = .ok () w := fun e => MapKept.run_checkKey (k := .int .i64 k) hk (by simp [IsKey]) e 9999
 have hnew : ∀ c c', MapI (putMap w g (updL k v c L) c') g (fun j => if j = k then some v else f j) := fun c c' => ⟨updL k v c L, c', by simp [putMap, hlt], fun j => by rw [look_upd, hf]⟩
 cases hl : lookL k L with
 | none =>
  obtain ⟨h1, h2⟩ := find_none (k := k) 0 hl
  refine ⟨putMap w g (updL k v c L) (c + 1), ?_, hnew _ _, putMap_grown _ _ _ _⟩
  rw [h2]
  simp [Instr.mapUpdate, run_underlying ht, MapKept.run_getObj_map hb, hc, MapKept.run_findKey hk h1, MapKept.run_setObj_map _ hb, Result.andThen, putMap, mkE]
 | some u =>
  obtain ⟨j, p, hj, hpk, _, h1, h2⟩ := find_some (k := k) 0 hl
  refine ⟨putMap w g (updL k v c L) c, ?_, hnew _ _, putMap_grown _ _ _ _⟩
  rw [h2]
  have hjl : j < L.length := (List.getElem?_eq_some_iff.1 hj).1
  have hjp : L[j] = p := (List.getElem?_eq_some_iff.1 hj).2
  have hst : (Instr.keyThatStays (.int .i64 p.1) (.int .i64 k)).run P w = .ok (.int .i64 k) w := by simp [Instr.keyThatStays, Instr.sameBits, hpk]
  have hmod : (L.map mkE).toArray.modify j (fun e => { e with key := .int .i64 k, val := v }) = ((L.set j (k, v, p.2.2)).map mkE).toArray := by
   refine Array.ext_getElem? fun i => ?_
   rw [Array.getElem?_modify]
   simp only [List.getElem?_toArray, List.getElem?_map, List.getElem?_set]
   by_cases hji : j = i
   ·subst hji
    simp [hjl, hjp, mkE]
   ·simp [hji]
  have hkey : ((((L.map mkE).toArray[j]?).map (·.key)).getD (.int .i64 k)) = .int .i64 p.1 := by simp [hj, mkE]
  simp only [Nat.zero_add] at h1
  have hkey2 : (Option.map (fun x => x.key) (L.map mkE).toArray[j]?).getD (.int .i64 k) = .int .i64 p.1 := hkey
  simp only [Instr.mapUpdate, Sem.run_bind, run_underlying ht, Result.andThen_ok, MapKept.run_getObj_map hb, hc, MapKept.run_findKey hk h1, hkey2, hst, MapKept.run_setObj_map _ hb, hmod]
  rfl
end
end Go.Proofs.Ytmlabgmigakcbaa
