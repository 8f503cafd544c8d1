/- Comparisons of passes (from contact's texts). -/
import Derived.Test.YtmlabgmigakcbaaB2
import Derived.Deep.MidRow
namespace Go.Proofs.Ytmlabgmigakcbaa
open Go.RowKit

section
variable {α : Type} {cells : α → List Value} {s : Nat} {w w' : World} {B n c : Nat} {A : Option Addr} {l : List α}
theorem RA.range (hs : ∀ x, (cells x).length = s) (h : RA cells s w B A n c l) {k : Nat} (hk : k < n) :
    ∃ (b o : Nat) (hz : k < l.length), A = some ⟨b, o, none⟩ ∧ b < B ∧ w.rangeAt b (o + k * s) (cells l[k]) := by
  obtain ⟨b, o, hz, hA, hb, hc⟩ := h.at_ hs hk
  refine ⟨b, o, hz, hA, hb, fun j v hv => ?_⟩
  have hj : j < s := by rw [← hs l[k]]; exact (List.getElem?_eq_some_iff.1 hv).1
  exact (hc j hj).trans hv
theorem RA.range2 {b o : Nat} {cs : List Value} (h : w.rangeAt b o cs) (hx : Ext w w') : w'.rangeAt b o cs := fun j v hv => ext_cell hx (h j v hv)
theorem Blk.range {g : Nat} {t : TypeId} {cs : Array Value} (h : Blk w g t cs) (l : List Value) (hl : cs.toList = l) : w.rangeAt g 0 l := fun j v hv => by
  rw [Nat.zero_add, h.cell, ← hv, ← hl]; simp
end
theorem setRow_new (w : World) (t : TypeId) (zs X : Array Value) : (w.alloc (.cells zs t)).setRow w.heap.size X = w.alloc (.cells X t) := by
  have hw : ∀ (a b : World), a.heap = b.heap → a = { b with heap := a.heap } → a = b := fun a b h1 h2 => by rw [h2, h1]
  refine hw _ _ ?_ rfl
  refine Array.ext_getElem? fun j => ?_
  by_cases hj : j = w.heap.size
  · subst hj
    rw [setRow_heap _ _ _ _ _ _ (heap_alloc_new w _), heap_alloc_new]
  · rw [setRow_other _ _ _ _ hj]
    rcases Nat.lt_or_ge j w.heap.size with h' | h'
    · rw [Below.heap_alloc _ _ _ h', Below.heap_alloc _ _ _ h']
    · rw [Array.getElem?_eq_none (by simp; omega), Array.getElem?_eq_none (by simp; omega)]
/-- A whole struct is loaded from a row of cells. -/
theorem wpList_load_st {P : Program} {ops : Array Oper} {rest : List Oper} {op : Oper} {a : Act} {w : World} {Q : Exit → Act → World → Prop} (hgd : op.guard = none) (ty : TypeId) (x : Operand) (ho : op.op = .load ty x)
    (b o : Nat) (hx : a.eval x = .pointer (some ⟨b, o, none⟩)) (X : Array Value) (cs : List Value) (hX : cs.toArray = X) (d : TypeDesc) (hc : w.rangeAt b o cs)
    (hu : P.underlying ty = some d) (hd : d.isRow = true) (hi : (P.info? ty).map (·.size) = some cs.length)
    (h : wpList P ops Q rest (a.put op.dst (.agg X)) w) : wpList P ops Q (op :: rest) a w := by
  subst hX
  exact wpList_load_mid hgd ty x ho b o hx cs d hc hu hd hi h
/-- The same where the operation is guarded and wanted. -/
theorem wpList_load_stg {P : Program} {ops : Array Oper} {rest : List Oper} {op : Oper} {a : Act} {w : World} {Q : Exit → Act → World → Prop} (hw : Region.wanted op (yielded ops a.tmps) = true) (ty : TypeId) (x : Operand) (ho : op.op = .load ty x)
    (b o : Nat) (hx : a.eval x = .pointer (some ⟨b, o, none⟩)) (X : Array Value) (cs : List Value) (hX : cs.toArray = X) (d : TypeDesc) (hc : w.rangeAt b o cs)
    (hu : P.underlying ty = some d) (hd : d.isRow = true) (hi : (P.info? ty).map (·.size) = some cs.length)
    (h : wpList P ops Q rest (a.put op.dst (.agg X)) w) : wpList P ops Q (op :: rest) a w := by
  subst hX
  unfold wpList
  rw [if_pos hw]
  exact .inl (wp_load_mid ty x ho b o hx cs d hc hu hd hi h)
/-- A whole struct is stored into a variable that was just made. -/
theorem wpList_store_new {P : Program} {ops : Array Oper} {rest : List Oper} {op : Oper} {a : Act} {w : World} {Q : Exit → Act → World → Prop} (hgd : op.guard = none) (ty : TypeId) (x y : Operand) (ho : op.op = .store ty x y)
    (zs X : Array Value) (hx : a.eval x = .pointer (some ⟨w.heap.size, 0, none⟩)) (hy : a.eval y = .agg X) (hi : (P.info? ty).map (·.size) = some X.size) (hz : zs.size = X.size) (h1 : X.all (·.oneCell') = true)
    (h : wpList P ops Q rest (a.put op.dst undef) (w.alloc (.cells X ty))) : wpList P ops Q (op :: rest) a (w.alloc (.cells zs ty)) := by
  refine wpList_store_row hgd ty x y ho w.heap.size X hx hy ty zs (heap_alloc_new w _) hi hz h1 ?_
  rw [setRow_new]
  exact h
theorem isNaN_any (a : Int) (w : World) : Calls Try.prog 85 #[.int .i64 a] w fun e w' => e = .returned (.bool false) ∧ w = w' := by
  go_enter Try.func85, Try.ntmps85
  go_wp2
  go_ret
  exact ⟨rfl, rfl⟩
theorem cmp_any (a b : Int) (w : World) : Calls Try.prog 57 #[.int .i64 a, .int .i64 b] w fun e w' => e = .returned (.int .i64 (cmpI a b)) ∧ w = w' := by
  by_cases h1 : a < b
  · have hc : cmpI a b = -1 := by simp [cmpI, h1]
    rw [hc]
    clear hc
    go_enter Try.func57, Try.ntmps57
    go_wp2_with (go_at_call 85; refine (isNaN_any _ _).mono ?_; rintro e w' ⟨rfl, rfl⟩)
    go_ret
    exact ⟨rfl, rfl⟩
  · by_cases h2 : b < a
    · have hc : cmpI a b = 1 := by simp [cmpI, h1, h2]
      rw [hc]
      clear hc
      go_enter Try.func57, Try.ntmps57
      go_wp2_with (go_at_call 85; refine (isNaN_any _ _).mono ?_; rintro e w' ⟨rfl, rfl⟩)
      go_ret
      exact ⟨rfl, rfl⟩
    · have hc : cmpI a b = 0 := by simp [cmpI, h1, h2]
      rw [hc]
      clear hc
      go_enter Try.func57, Try.ntmps57
      go_wp2_with (go_at_call 85; refine (isNaN_any _ _).mono ?_; rintro e w' ⟨rfl, rfl⟩)
      go_ret
      exact ⟨rfl, rfl⟩
def orL : List Int → Int
  | [] => 0
  | x :: r => if (x != 0) = true then x else orL r
theorem Blk.ints {w : World} {g : Nat} {t : TypeId} {cs : Array Value} {l : List Int} (h : Blk w g t cs) (hc : cs.toList = l.map (Value.int .i64)) : ∀ k (hk : k < l.length), w.cell? ⟨g, k, none⟩ = some (.int .i64 l[k]) := fun k hk => by
  rw [h.cell, ← Array.getElem?_toList, hc]
  simp [hk]
theorem or_any (l : List Int) (b n c : Nat) (w : World) (hl : l.length = n) (hn : n ≤ 1000) (hc : ∀ k (hk : k < l.length), w.cell? ⟨b, k, none⟩ = some (.int .i64 l[k])) :
    Calls Try.prog 56 #[.slice (some ⟨b, 0, none⟩) n c] w fun e w' => e = .returned (.int .i64 (orL l)) ∧ w = w' := by
  have HL := Lib.hid hl
  have HC := Lib.hid hc
  clear hl hc
  go_enter Try.func56, Try.ntmps56
  go_wp2
  go_loop [8] (fun i => ∃ k : Nat, k ≤ n ∧ i = .int .i64 k ∧ Hid (orL l = orL (l.drop k))) (fun i => n - (intOf i).toNat)
  case atStart => exact ⟨0, Nat.zero_le _, rfl, rfl⟩
  case round =>
    obtain ⟨k, hk, rfl, H⟩ := hrel
    by_cases hlt : k < n
    · have hz : k < l.length := by rw [HL.out]; exact hlt
      have f0 := HC.out k hz
      have hst : orL l = if (l[k] != 0) = true then l[k] else orL (l.drop (k + 1)) := by rw [H.out, List.drop_eq_getElem_cons hz, orL]
      generalize l[k] = x at f0 hst
      cases hx : (x != 0)
      · rw [hx] at hst
        have hx2 : (x == 0) = true := by simpa using hx
        have HS := Lib.hid hst
        have H0 := Lib.hid hx
        clear hst
        go_wp2
        go_round
        case rel => exact ⟨k + 1, by omega, by go_num, HS.out.trans (if_neg (by simp))⟩
        case measure => simp [intOf]; omega
      · rw [hx] at hst
        have hx2 : (x == 0) = false := by simpa using hx
        have HS := Lib.hid hst
        clear hst
        go_wp2
        go_ret
        exact ⟨by rw [HS.out]; simp, rfl⟩
    · go_wp2
      go_ret
      exact ⟨by rw [H.out, List.drop_of_length_le (by rw [HL.out]; omega)]; rfl, rfl⟩
theorem orL5 (c0 c1 c2 c3 c4 : Int) : orL [c0, c1, c2, c3, c4] = orI c0 (orI c1 (orI c2 (orI c3 c4))) := by
  simp only [orL, orI, bne_iff_ne]
  by_cases h : c4 = 0 <;> simp [h]
set_option maxHeartbeats 1000000 in
theorem compare_any (asa asn aa ab ac ad bsa bsn ba bb bc bd : Int) (w : World) :
    Calls Try.prog 74 #[.agg #[.int .i64 asa, .int .i64 asn, .int .i64 aa, .int .i64 ab, .int .i64 ac, .int .i64 ad], .agg #[.int .i64 bsa, .int .i64 bsn, .int .i64 ba, .int .i64 bb, .int .i64 bc, .int .i64 bd]] w fun e w' => e = .returned (.int .i64 (cmpPas ⟨asa, asn, ⟨aa, ab⟩, ⟨ac, ad⟩⟩ ⟨bsa, bsn, ⟨ba, bb⟩, ⟨bc, bd⟩⟩)) ∧ Below w.heap.size w w' := by
  have hr : cmpPas ⟨asa, asn, ⟨aa, ab⟩, ⟨ac, ad⟩⟩ ⟨bsa, bsn, ⟨ba, bb⟩, ⟨bc, bd⟩⟩ = orL [cmpI ac bc, cmpI asa bsa, cmpI asn bsn, cmpI aa ba, cmpI ad bd] := (orL5 _ _ _ _ _).symm
  rw [hr]
  clear hr
  generalize h0 : cmpI ac bc = c0
  generalize h1 : cmpI asa bsa = c1
  generalize h2 : cmpI asn bsn = c2
  generalize h3 : cmpI aa ba = c3
  generalize h4 : cmpI ad bd = c4
  have HC0 := Lib.hid h0
  have HC1 := Lib.hid h1
  have HC2 := Lib.hid h2
  have HC3 := Lib.hid h3
  have HC4 := Lib.hid h4
  clear h0 h1 h2 h3 h4
  go_enter Try.func74, Try.ntmps74
  go_wp2_with fail
  have K1 : Blk ((w.alloc (.cells #[.int .i64 asa, .int .i64 asn, .int .i64 aa, .int .i64 ab, .int .i64 ac, .int .i64 ad] 98)).alloc (.cells #[.int .i64 bsa, .int .i64 bsn, .int .i64 ba, .int .i64 bb, .int .i64 bc, .int .i64 bd] 98)) w.heap.size 98 #[.int .i64 asa, .int .i64 asn, .int .i64 aa, .int .i64 ab, .int .i64 ac, .int .i64 ad] := (Blk.new _ _ _).alloc _
  have K2 : Blk ((w.alloc (.cells #[.int .i64 asa, .int .i64 asn, .int .i64 aa, .int .i64 ab, .int .i64 ac, .int .i64 ad] 98)).alloc (.cells #[.int .i64 bsa, .int .i64 bsn, .int .i64 ba, .int .i64 bb, .int .i64 bc, .int .i64 bd] 98)) (w.heap.size + 1) 98 #[.int .i64 bsa, .int .i64 bsn, .int .i64 ba, .int .i64 bb, .int .i64 bc, .int .i64 bd] := Blk.new_at _ _ _ (by simp)
  have hB : Below w.heap.size w ((w.alloc (.cells #[.int .i64 asa, .int .i64 asn, .int .i64 aa, .int .i64 ab, .int .i64 ac, .int .i64 ad] 98)).alloc (.cells #[.int .i64 bsa, .int .i64 bsn, .int .i64 ba, .int .i64 bb, .int .i64 bc, .int .i64 bd] 98)) := (by repeat (first | exact Below.refl _ _ | assumption | refine Below.drew ?_ | refine below_drewN ?_ _ | refine bl_alloc ?_ _ | refine Below.setCell ?_ (by first | (simp; done) | omega | (simp; omega)) _ | refine bl_then ?_ (by assumption)))
  generalize (w.alloc (.cells #[.int .i64 asa, .int .i64 asn, .int .i64 aa, .int .i64 ab, .int .i64 ac, .int .i64 ad] 98)).alloc (.cells #[.int .i64 bsa, .int .i64 bsn, .int .i64 ba, .int .i64 bb, .int .i64 bc, .int .i64 bd] 98) = W at K1 K2 hB ⊢
  have g0 : W.cell? ⟨w.heap.size, 0, none⟩ = some (.int .i64 asa) := K1.cell 0
  have g1 : W.cell? ⟨w.heap.size, 1, none⟩ = some (.int .i64 asn) := K1.cell 1
  have g2 : W.cell? ⟨w.heap.size, 2, none⟩ = some (.int .i64 aa) := K1.cell 2
  have g3 : W.cell? ⟨w.heap.size, 3, none⟩ = some (.int .i64 ab) := K1.cell 3
  have g4 : W.cell? ⟨w.heap.size, 4, none⟩ = some (.int .i64 ac) := K1.cell 4
  have g5 : W.cell? ⟨w.heap.size, 5, none⟩ = some (.int .i64 ad) := K1.cell 5
  have k0 : W.cell? ⟨(w.heap.size + 1), 0, none⟩ = some (.int .i64 bsa) := K2.cell 0
  have k1 : W.cell? ⟨(w.heap.size + 1), 1, none⟩ = some (.int .i64 bsn) := K2.cell 1
  have k2 : W.cell? ⟨(w.heap.size + 1), 2, none⟩ = some (.int .i64 ba) := K2.cell 2
  have k3 : W.cell? ⟨(w.heap.size + 1), 3, none⟩ = some (.int .i64 bb) := K2.cell 3
  have k4 : W.cell? ⟨(w.heap.size + 1), 4, none⟩ = some (.int .i64 bc) := K2.cell 4
  have k5 : W.cell? ⟨(w.heap.size + 1), 5, none⟩ = some (.int .i64 bd) := K2.cell 5
  refine wp_region_obl 33 (fun ix vals v w1 => match ix with | 0 => v = .pointer (some ⟨w.heap.size, 4, none⟩) | 1 => v = .pointer (some ⟨w.heap.size, 4, none⟩) | 2 => v = .int .i64 ac | 3 => v = .pointer (some ⟨w.heap.size + 1, 4, none⟩) | 4 => v = .pointer (some ⟨w.heap.size + 1, 4, none⟩) | 5 => v = .int .i64 bc | 6 => v = .int .i64 c0 | 7 => v = .pointer (some ⟨w.heap.size, 0, none⟩) | 8 => v = .int .i64 asa | 9 => v = .pointer (some ⟨w.heap.size + 1, 0, none⟩) | 10 => v = .int .i64 bsa | 11 => v = .int .i64 c1 | 12 => v = .pointer (some ⟨w.heap.size, 1, none⟩) | 13 => v = .int .i64 asn | 14 => v = .pointer (some ⟨w.heap.size + 1, 1, none⟩) | 15 => v = .int .i64 bsn | 16 => v = .int .i64 c2 | 17 => v = .pointer (some ⟨w.heap.size, 2, none⟩) | 18 => v = .pointer (some ⟨w.heap.size, 2, none⟩) | 19 => v = .int .i64 aa | 20 => v = .pointer (some ⟨w.heap.size + 1, 2, none⟩) | 21 => v = .pointer (some ⟨w.heap.size + 1, 2, none⟩) | 22 => v = .int .i64 ba | 23 => v = .int .i64 c3 | 24 => v = .pointer (some ⟨w.heap.size, 4, none⟩) | 25 => v = .pointer (some ⟨w.heap.size, 5, none⟩) | 26 => v = .int .i64 ad | 27 => v = .pointer (some ⟨w.heap.size + 1, 4, none⟩) | 28 => v = .pointer (some ⟨w.heap.size + 1, 5, none⟩) | 29 => v = .int .i64 bd | 30 => v = .int .i64 c4 | 31 => ∃ g, v = .slice (some ⟨g, 0, none⟩) 5 5 ∧ Blk w1 g 3 #[.int .i64 c0, .int .i64 c1, .int .i64 c2, .int .i64 c3, .int .i64 c4] | _ => v = .int .i64 (orL [c0, c1, c2, c3, c4])) (by kernel_rfl) (by kernel_rfl) ?_ ?_ ?_ ?_
  · intro ix vals v w1 w2 hi hr hx
    match ix, hr with
    | 0, hr => exact hr
    | 1, hr => exact hr
    | 2, hr => exact hr
    | 3, hr => exact hr
    | 4, hr => exact hr
    | 5, hr => exact hr
    | 6, hr => exact hr
    | 7, hr => exact hr
    | 8, hr => exact hr
    | 9, hr => exact hr
    | 10, hr => exact hr
    | 11, hr => exact hr
    | 12, hr => exact hr
    | 13, hr => exact hr
    | 14, hr => exact hr
    | 15, hr => exact hr
    | 16, hr => exact hr
    | 17, hr => exact hr
    | 18, hr => exact hr
    | 19, hr => exact hr
    | 20, hr => exact hr
    | 21, hr => exact hr
    | 22, hr => exact hr
    | 23, hr => exact hr
    | 24, hr => exact hr
    | 25, hr => exact hr
    | 26, hr => exact hr
    | 27, hr => exact hr
    | 28, hr => exact hr
    | 29, hr => exact hr
    | 30, hr => exact hr
    | 31, hr => obtain ⟨g, h1, h2⟩ := hr; exact ⟨g, h1, h2.ext hx⟩
    | (kx + 32), hr => exact hr
  · intro ix vals vals_ v w1 hi hv hr
    exact hr
  · refine ⟨?_, ?_, ?_, ?_, ?_, ?_, ?_, ?_, ?_, ?_, ?_, ?_, ?_, ?_, ?_, ?_, ?_, ?_, ?_, ?_, ?_, ?_, ?_, ?_, ?_, ?_, ?_, ?_, ?_, ?_, ?_, ?_, ?_, trivial⟩
    · intro vals w1 hx hd ha
      clear hd ha
      simp only [Lf]
      go_wp2
      exact ⟨rfl, Ext.refl _, rfl⟩
    · intro vals w1 hx hd ha
      have e0 : vals 0 = .pointer (some ⟨w.heap.size, 4, none⟩) := hd 0 (by decide)
      clear hd ha
      simp only [Lf, dstAt, Act.put, List.getElem?_toArray, List.getElem?_cons_zero, Option.bind_some, List.setIfInBounds_toArray, List.set_cons_zero, List.set_cons_succ]
      simp only [e0]
      clear e0
      go_wp2
      exact ⟨rfl, Ext.refl _, rfl⟩
    · intro vals w1 hx hd ha
      have e1 : vals 1 = .pointer (some ⟨w.heap.size, 4, none⟩) := hd 1 (by decide)
      clear hd ha
      simp only [Lf, dstAt, Act.put, List.getElem?_toArray, List.getElem?_cons_zero, List.getElem?_cons_succ, Option.bind_some, List.setIfInBounds_toArray, List.set_cons_zero, List.set_cons_succ]
      simp only [e1]
      clear e1
      have g4 := ext_cell hx g4
      go_wp2
      exact ⟨rfl, Ext.refl _, rfl⟩
    · intro vals w1 hx hd ha
      clear hd ha
      simp only [Lf, dstAt, Act.put, List.getElem?_toArray, List.getElem?_cons_zero, List.getElem?_cons_succ, Option.bind_some, List.setIfInBounds_toArray, List.set_cons_zero, List.set_cons_succ]
      go_wp2
      exact ⟨rfl, Ext.refl _, rfl⟩
    · intro vals w1 hx hd ha
      have e3 : vals 3 = .pointer (some ⟨w.heap.size + 1, 4, none⟩) := hd 3 (by decide)
      clear hd ha
      simp only [Lf, dstAt, Act.put, List.getElem?_toArray, List.getElem?_cons_zero, List.getElem?_cons_succ, Option.bind_some, List.setIfInBounds_toArray, List.set_cons_zero, List.set_cons_succ]
      simp only [e3]
      clear e3
      go_wp2
      exact ⟨rfl, Ext.refl _, rfl⟩
    · intro vals w1 hx hd ha
      have e4 : vals 4 = .pointer (some ⟨w.heap.size + 1, 4, none⟩) := hd 4 (by decide)
      clear hd ha
      simp only [Lf, dstAt, Act.put, List.getElem?_toArray, List.getElem?_cons_zero, List.getElem?_cons_succ, Option.bind_some, List.setIfInBounds_toArray, List.set_cons_zero, List.set_cons_succ]
      simp only [e4]
      clear e4
      have k4 := ext_cell hx k4
      go_wp2
      exact ⟨rfl, Ext.refl _, rfl⟩
    · intro vals w1 hx hd ha
      have e2 : vals 2 = .int .i64 ac := hd 2 (by decide)
      have e5 : vals 5 = .int .i64 bc := hd 5 (by decide)
      clear hd ha
      simp only [Lf, dstAt, Act.put, List.getElem?_toArray, List.getElem?_cons_zero, List.getElem?_cons_succ, Option.bind_some, List.setIfInBounds_toArray, List.set_cons_zero, List.set_cons_succ]
      simp only [e2]
      simp only [e5]
      clear e2 e5
      go_wp2_with fail
      refine (cmp_any ac bc _).mono ?_
      rintro e w2 ⟨rfl, rfl⟩
      rw [HC0.out]
      go_wp2
      exact ⟨rfl, Ext.refl _, rfl⟩
    · intro vals w1 hx hd ha
      clear hd ha
      simp only [Lf, dstAt, Act.put, List.getElem?_toArray, List.getElem?_cons_zero, List.getElem?_cons_succ, Option.bind_some, List.setIfInBounds_toArray, List.set_cons_zero, List.set_cons_succ]
      go_wp2
      exact ⟨rfl, Ext.refl _, rfl⟩
    · intro vals w1 hx hd ha
      have e7 : vals 7 = .pointer (some ⟨w.heap.size, 0, none⟩) := hd 7 (by decide)
      clear hd ha
      simp only [Lf, dstAt, Act.put, List.getElem?_toArray, List.getElem?_cons_zero, List.getElem?_cons_succ, Option.bind_some, List.setIfInBounds_toArray, List.set_cons_zero, List.set_cons_succ]
      simp only [e7]
      clear e7
      have g0 := ext_cell hx g0
      go_wp2
      exact ⟨rfl, Ext.refl _, rfl⟩
    · intro vals w1 hx hd ha
      clear hd ha
      simp only [Lf, dstAt, Act.put, List.getElem?_toArray, List.getElem?_cons_zero, List.getElem?_cons_succ, Option.bind_some, List.setIfInBounds_toArray, List.set_cons_zero, List.set_cons_succ]
      go_wp2
      exact ⟨rfl, Ext.refl _, rfl⟩
    · intro vals w1 hx hd ha
      have e9 : vals 9 = .pointer (some ⟨w.heap.size + 1, 0, none⟩) := hd 9 (by decide)
      clear hd ha
      simp only [Lf, dstAt, Act.put, List.getElem?_toArray, List.getElem?_cons_zero, List.getElem?_cons_succ, Option.bind_some, List.setIfInBounds_toArray, List.set_cons_zero, List.set_cons_succ]
      simp only [e9]
      clear e9
      have k0 := ext_cell hx k0
      go_wp2
      exact ⟨rfl, Ext.refl _, rfl⟩
    · intro vals w1 hx hd ha
      have e6 : vals 6 = .int .i64 c0 := hd 6 (by decide)
      have e8 : vals 8 = .int .i64 asa := hd 8 (by decide)
      have e10 : vals 10 = .int .i64 bsa := hd 10 (by decide)
      clear hd ha
      simp only [Lf, dstAt, Act.put, List.getElem?_toArray, List.getElem?_cons_zero, List.getElem?_cons_succ, Option.bind_some, List.setIfInBounds_toArray, List.set_cons_zero, List.set_cons_succ]
      simp only [e6]
      simp only [e8]
      simp only [e10]
      clear e6 e8 e10
      go_wp2_with fail
      refine (cmp_any asa bsa _).mono ?_
      rintro e w2 ⟨rfl, rfl⟩
      rw [HC1.out]
      go_wp2
      exact ⟨rfl, Ext.refl _, rfl⟩
    · intro vals w1 hx hd ha
      clear hd ha
      simp only [Lf, dstAt, Act.put, List.getElem?_toArray, List.getElem?_cons_zero, List.getElem?_cons_succ, Option.bind_some, List.setIfInBounds_toArray, List.set_cons_zero, List.set_cons_succ]
      go_wp2
      exact ⟨rfl, Ext.refl _, rfl⟩
    · intro vals w1 hx hd ha
      have e12 : vals 12 = .pointer (some ⟨w.heap.size, 1, none⟩) := hd 12 (by decide)
      clear hd ha
      simp only [Lf, dstAt, Act.put, List.getElem?_toArray, List.getElem?_cons_zero, List.getElem?_cons_succ, Option.bind_some, List.setIfInBounds_toArray, List.set_cons_zero, List.set_cons_succ]
      simp only [e12]
      clear e12
      have g1 := ext_cell hx g1
      go_wp2
      exact ⟨rfl, Ext.refl _, rfl⟩
    · intro vals w1 hx hd ha
      clear hd ha
      simp only [Lf, dstAt, Act.put, List.getElem?_toArray, List.getElem?_cons_zero, List.getElem?_cons_succ, Option.bind_some, List.setIfInBounds_toArray, List.set_cons_zero, List.set_cons_succ]
      go_wp2
      exact ⟨rfl, Ext.refl _, rfl⟩
    · intro vals w1 hx hd ha
      have e14 : vals 14 = .pointer (some ⟨w.heap.size + 1, 1, none⟩) := hd 14 (by decide)
      clear hd ha
      simp only [Lf, dstAt, Act.put, List.getElem?_toArray, List.getElem?_cons_zero, List.getElem?_cons_succ, Option.bind_some, List.setIfInBounds_toArray, List.set_cons_zero, List.set_cons_succ]
      simp only [e14]
      clear e14
      have k1 := ext_cell hx k1
      go_wp2
      exact ⟨rfl, Ext.refl _, rfl⟩
    · intro vals w1 hx hd ha
      have e11 : vals 11 = .int .i64 c1 := hd 11 (by decide)
      have e13 : vals 13 = .int .i64 asn := hd 13 (by decide)
      have e15 : vals 15 = .int .i64 bsn := hd 15 (by decide)
      clear hd ha
      simp only [Lf, dstAt, Act.put, List.getElem?_toArray, List.getElem?_cons_zero, List.getElem?_cons_succ, Option.bind_some, List.setIfInBounds_toArray, List.set_cons_zero, List.set_cons_succ]
      simp only [e11]
      simp only [e13]
      simp only [e15]
      clear e11 e13 e15
      go_wp2_with fail
      refine (cmp_any asn bsn _).mono ?_
      rintro e w2 ⟨rfl, rfl⟩
      rw [HC2.out]
      go_wp2
      exact ⟨rfl, Ext.refl _, rfl⟩
    · intro vals w1 hx hd ha
      clear hd ha
      simp only [Lf, dstAt, Act.put, List.getElem?_toArray, List.getElem?_cons_zero, List.getElem?_cons_succ, Option.bind_some, List.setIfInBounds_toArray, List.set_cons_zero, List.set_cons_succ]
      go_wp2
      exact ⟨rfl, Ext.refl _, rfl⟩
    · intro vals w1 hx hd ha
      have e17 : vals 17 = .pointer (some ⟨w.heap.size, 2, none⟩) := hd 17 (by decide)
      clear hd ha
      simp only [Lf, dstAt, Act.put, List.getElem?_toArray, List.getElem?_cons_zero, List.getElem?_cons_succ, Option.bind_some, List.setIfInBounds_toArray, List.set_cons_zero, List.set_cons_succ]
      simp only [e17]
      clear e17
      go_wp2
      exact ⟨rfl, Ext.refl _, rfl⟩
    · intro vals w1 hx hd ha
      have e18 : vals 18 = .pointer (some ⟨w.heap.size, 2, none⟩) := hd 18 (by decide)
      clear hd ha
      simp only [Lf, dstAt, Act.put, List.getElem?_toArray, List.getElem?_cons_zero, List.getElem?_cons_succ, Option.bind_some, List.setIfInBounds_toArray, List.set_cons_zero, List.set_cons_succ]
      simp only [e18]
      clear e18
      have g2 := ext_cell hx g2
      go_wp2
      exact ⟨rfl, Ext.refl _, rfl⟩
    · intro vals w1 hx hd ha
      clear hd ha
      simp only [Lf, dstAt, Act.put, List.getElem?_toArray, List.getElem?_cons_zero, List.getElem?_cons_succ, Option.bind_some, List.setIfInBounds_toArray, List.set_cons_zero, List.set_cons_succ]
      go_wp2
      exact ⟨rfl, Ext.refl _, rfl⟩
    · intro vals w1 hx hd ha
      have e20 : vals 20 = .pointer (some ⟨w.heap.size + 1, 2, none⟩) := hd 20 (by decide)
      clear hd ha
      simp only [Lf, dstAt, Act.put, List.getElem?_toArray, List.getElem?_cons_zero, List.getElem?_cons_succ, Option.bind_some, List.setIfInBounds_toArray, List.set_cons_zero, List.set_cons_succ]
      simp only [e20]
      clear e20
      go_wp2
      exact ⟨rfl, Ext.refl _, rfl⟩
    · intro vals w1 hx hd ha
      have e21 : vals 21 = .pointer (some ⟨w.heap.size + 1, 2, none⟩) := hd 21 (by decide)
      clear hd ha
      simp only [Lf, dstAt, Act.put, List.getElem?_toArray, List.getElem?_cons_zero, List.getElem?_cons_succ, Option.bind_some, List.setIfInBounds_toArray, List.set_cons_zero, List.set_cons_succ]
      simp only [e21]
      clear e21
      have k2 := ext_cell hx k2
      go_wp2
      exact ⟨rfl, Ext.refl _, rfl⟩
    · intro vals w1 hx hd ha
      have e16 : vals 16 = .int .i64 c2 := hd 16 (by decide)
      have e19 : vals 19 = .int .i64 aa := hd 19 (by decide)
      have e22 : vals 22 = .int .i64 ba := hd 22 (by decide)
      clear hd ha
      simp only [Lf, dstAt, Act.put, List.getElem?_toArray, List.getElem?_cons_zero, List.getElem?_cons_succ, Option.bind_some, List.setIfInBounds_toArray, List.set_cons_zero, List.set_cons_succ]
      simp only [e16]
      simp only [e19]
      simp only [e22]
      clear e16 e19 e22
      go_wp2_with fail
      refine (cmp_any aa ba _).mono ?_
      rintro e w2 ⟨rfl, rfl⟩
      rw [HC3.out]
      go_wp2
      exact ⟨rfl, Ext.refl _, rfl⟩
    · intro vals w1 hx hd ha
      clear hd ha
      simp only [Lf, dstAt, Act.put, List.getElem?_toArray, List.getElem?_cons_zero, List.getElem?_cons_succ, Option.bind_some, List.setIfInBounds_toArray, List.set_cons_zero, List.set_cons_succ]
      go_wp2
      exact ⟨rfl, Ext.refl _, rfl⟩
    · intro vals w1 hx hd ha
      have e24 : vals 24 = .pointer (some ⟨w.heap.size, 4, none⟩) := hd 24 (by decide)
      clear hd ha
      simp only [Lf, dstAt, Act.put, List.getElem?_toArray, List.getElem?_cons_zero, List.getElem?_cons_succ, Option.bind_some, List.setIfInBounds_toArray, List.set_cons_zero, List.set_cons_succ]
      simp only [e24]
      clear e24
      go_wp2
      exact ⟨rfl, Ext.refl _, rfl⟩
    · intro vals w1 hx hd ha
      have e25 : vals 25 = .pointer (some ⟨w.heap.size, 5, none⟩) := hd 25 (by decide)
      clear hd ha
      simp only [Lf, dstAt, Act.put, List.getElem?_toArray, List.getElem?_cons_zero, List.getElem?_cons_succ, Option.bind_some, List.setIfInBounds_toArray, List.set_cons_zero, List.set_cons_succ]
      simp only [e25]
      clear e25
      have g5 := ext_cell hx g5
      go_wp2
      exact ⟨rfl, Ext.refl _, rfl⟩
    · intro vals w1 hx hd ha
      clear hd ha
      simp only [Lf, dstAt, Act.put, List.getElem?_toArray, List.getElem?_cons_zero, List.getElem?_cons_succ, Option.bind_some, List.setIfInBounds_toArray, List.set_cons_zero, List.set_cons_succ]
      go_wp2
      exact ⟨rfl, Ext.refl _, rfl⟩
    · intro vals w1 hx hd ha
      have e27 : vals 27 = .pointer (some ⟨w.heap.size + 1, 4, none⟩) := hd 27 (by decide)
      clear hd ha
      simp only [Lf, dstAt, Act.put, List.getElem?_toArray, List.getElem?_cons_zero, List.getElem?_cons_succ, Option.bind_some, List.setIfInBounds_toArray, List.set_cons_zero, List.set_cons_succ]
      simp only [e27]
      clear e27
      go_wp2
      exact ⟨rfl, Ext.refl _, rfl⟩
    · intro vals w1 hx hd ha
      have e28 : vals 28 = .pointer (some ⟨w.heap.size + 1, 5, none⟩) := hd 28 (by decide)
      clear hd ha
      simp only [Lf, dstAt, Act.put, List.getElem?_toArray, List.getElem?_cons_zero, List.getElem?_cons_succ, Option.bind_some, List.setIfInBounds_toArray, List.set_cons_zero, List.set_cons_succ]
      simp only [e28]
      clear e28
      have k5 := ext_cell hx k5
      go_wp2
      exact ⟨rfl, Ext.refl _, rfl⟩
    · intro vals w1 hx hd ha
      have e23 : vals 23 = .int .i64 c3 := hd 23 (by decide)
      have e26 : vals 26 = .int .i64 ad := hd 26 (by decide)
      have e29 : vals 29 = .int .i64 bd := hd 29 (by decide)
      clear hd ha
      simp only [Lf, dstAt, Act.put, List.getElem?_toArray, List.getElem?_cons_zero, List.getElem?_cons_succ, Option.bind_some, List.setIfInBounds_toArray, List.set_cons_zero, List.set_cons_succ]
      simp only [e23]
      simp only [e26]
      simp only [e29]
      clear e23 e26 e29
      go_wp2_with fail
      refine (cmp_any ad bd _).mono ?_
      rintro e w2 ⟨rfl, rfl⟩
      rw [HC4.out]
      go_wp2
      exact ⟨rfl, Ext.refl _, rfl⟩
    · intro vals w1 hx hd ha
      have e6 : vals 6 = .int .i64 c0 := hd 6 (by decide)
      have e11 : vals 11 = .int .i64 c1 := hd 11 (by decide)
      have e16 : vals 16 = .int .i64 c2 := hd 16 (by decide)
      have e23 : vals 23 = .int .i64 c3 := hd 23 (by decide)
      have e30 : vals 30 = .int .i64 c4 := hd 30 (by decide)
      clear hd ha
      simp only [Lf, dstAt, Act.put, List.getElem?_toArray, List.getElem?_cons_zero, List.getElem?_cons_succ, Option.bind_some, List.setIfInBounds_toArray, List.set_cons_zero, List.set_cons_succ]
      simp only [e6]
      simp only [e11]
      simp only [e16]
      simp only [e23]
      simp only [e30]
      clear e6 e11 e16 e23 e30
      go_wp2
      exact ⟨rfl, (by repeat (first | exact Below.refl _ _ | assumption | refine Below.drew ?_ | refine below_drewN ?_ _ | refine bl_alloc ?_ _ | refine Below.setCell ?_ (by first | (simp; done) | omega | (simp; omega)) _ | refine bl_then ?_ (by assumption))), _, rfl, Blk.new _ _ _⟩
    · intro vals w1 hx hd ha
      have e30 : vals 30 = .int .i64 c4 := hd 30 (by decide)
      have r31 : (fun v w1 => ∃ g, v = .slice (some ⟨g, 0, none⟩) 5 5 ∧ Blk w1 g 3 #[.int .i64 c0, .int .i64 c1, .int .i64 c2, .int .i64 c3, .int .i64 c4]) (vals 31) w1 := hd 31 (by decide)
      dsimp only at r31
      clear hd ha
      simp only [Lf, dstAt, Act.put, List.getElem?_toArray, List.getElem?_cons_zero, List.getElem?_cons_succ, Option.bind_some, List.setIfInBounds_toArray, List.set_cons_zero, List.set_cons_succ]
      obtain ⟨g, h1, h2⟩ := r31
      simp only [h1]
      go_wp2_with fail
      refine (or_any [c0, c1, c2, c3, c4] g 5 5 _ rfl (by omega) (h2.ints rfl)).mono ?_
      rintro e w2 ⟨rfl, rfl⟩
      go_wp2
      exact ⟨rfl, Ext.refl _, rfl⟩
  intro vals w5 hx hf
  have e32 : vals 32 = .int .i64 (orL [c0, c1, c2, c3, c4]) := hf 32 (by omega)
  clear hf
  have hB5 : Below w.heap.size w w5 := bl_then hB hx.undrew
  refine tail1 33 _ (by kernel_rfl) (by kernel_rfl) rfl ?_
  simp only [Lf, dstAt, Act.put, List.getElem?_toArray, List.getElem?_cons_zero, List.getElem?_cons_succ, Option.bind_some, List.setIfInBounds_toArray, List.set_cons_zero, List.set_cons_succ]
  rw [e32]
  go_wp2
  go_ret
  exact ⟨rfl, hB5⟩
end Go.Proofs.Ytmlabgmigakcbaa
