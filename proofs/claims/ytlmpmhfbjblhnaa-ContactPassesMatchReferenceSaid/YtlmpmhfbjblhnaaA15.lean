/- Lists of satellites that are valid: isList at satellites (printed by contact_a15.py). -/
import Derived.Test.YtlmpmhfbjblhnaaA13
import Derived.Test.YtlmpmhfbjblhnaaLst
import Derived.Deep.MidRow
namespace Go.Proofs.Ytlmpmhfbjblhnaa
open Go.RowKit

section
variable {α : Type} {cells : α → List Value} {s : Nat} {w w' : World} {B n c : Nat} {A : Option Addr} {l : List α}
theorem RA.range (hs : ∀ x, (cells x).length = s) (h : RA cells s w B A n c l) {k : Nat} (hk : k < n) :
    ∃ (b o : Nat) (hz : k < l.length), A = some ⟨b, o, none⟩ ∧ b < B ∧ w.rangeAt b (o + k * s) (cells l[k]) := by
  obtain ⟨b, o, hz, hA, hb, hc⟩ := h.at_ hs hk
  refine ⟨b, o, hz, hA, hb, fun j v hv => ?_⟩
  have hj : j < s := by rw [← hs l[k]]; exact (List.getElem?_eq_some_iff.1 hv).1
  exact (hc j hj).trans hv
theorem RA.range2 {b o : Nat} {cs : List Value} (h : w.rangeAt b o cs) (hx : Ext w w') : w'.rangeAt b o cs := fun j v hv => ext_cell hx (h j v hv)
theorem Blk.range {g : Nat} {t : TypeId} {cs : Array Value} (h : Blk w g t cs) (l : List Value) (hl : cs.toList = l) : w.rangeAt g 0 l := fun j v hv => by
  rw [Nat.zero_add, h.cell, ← hv, ← hl]; simp
end
theorem setRow_new (w : World) (t : TypeId) (zs X : Array Value) : (w.alloc (.cells zs t)).setRow w.heap.size X = w.alloc (.cells X t) := by
  have hw : ∀ (a b : World), a.heap = b.heap → a = { b with heap := a.heap } → a = b := fun a b h1 h2 => by rw [h2, h1]
  refine hw _ _ ?_ rfl
  refine Array.ext_getElem? fun j => ?_
  by_cases hj : j = w.heap.size
  · subst hj
    rw [setRow_heap _ _ _ _ _ _ (heap_alloc_new w _), heap_alloc_new]
  · rw [setRow_other _ _ _ _ hj]
    rcases Nat.lt_or_ge j w.heap.size with h' | h'
    · rw [Below.heap_alloc _ _ _ h', Below.heap_alloc _ _ _ h']
    · rw [Array.getElem?_eq_none (by simp; omega), Array.getElem?_eq_none (by simp; omega)]
/-- A whole struct is loaded from a row of cells. -/
theorem wpList_load_st {P : Program} {ops : Array Oper} {rest : List Oper} {op : Oper} {a : Act} {w : World} {Q : Exit → Act → World → Prop} (hgd : op.guard = none) (ty : TypeId) (x : Operand) (ho : op.op = .load ty x)
    (b o : Nat) (hx : a.eval x = .pointer (some ⟨b, o, none⟩)) (X : Array Value) (cs : List Value) (hX : cs.toArray = X) (d : TypeDesc) (hc : w.rangeAt b o cs)
    (hu : P.underlying ty = some d) (hd : d.isRow = true) (hi : (P.info? ty).map (·.size) = some cs.length)
    (h : wpList P ops Q rest (a.put op.dst (.agg X)) w) : wpList P ops Q (op :: rest) a w := by
  subst hX
  exact wpList_load_mid hgd ty x ho b o hx cs d hc hu hd hi h
/-- The same where the operation is guarded and wanted. -/
theorem wpList_load_stg {P : Program} {ops : Array Oper} {rest : List Oper} {op : Oper} {a : Act} {w : World} {Q : Exit → Act → World → Prop} (hw : Region.wanted op (yielded ops a.tmps) = true) (ty : TypeId) (x : Operand) (ho : op.op = .load ty x)
    (b o : Nat) (hx : a.eval x = .pointer (some ⟨b, o, none⟩)) (X : Array Value) (cs : List Value) (hX : cs.toArray = X) (d : TypeDesc) (hc : w.rangeAt b o cs)
    (hu : P.underlying ty = some d) (hd : d.isRow = true) (hi : (P.info? ty).map (·.size) = some cs.length)
    (h : wpList P ops Q rest (a.put op.dst (.agg X)) w) : wpList P ops Q (op :: rest) a w := by
  subst hX
  unfold wpList
  rw [if_pos hw]
  exact .inl (wp_load_mid ty x ho b o hx cs d hc hu hd hi h)
/-- A whole struct is stored into a variable that was just made. -/
theorem wpList_store_new {P : Program} {ops : Array Oper} {rest : List Oper} {op : Oper} {a : Act} {w : World} {Q : Exit → Act → World → Prop} (hgd : op.guard = none) (ty : TypeId) (x y : Operand) (ho : op.op = .store ty x y)
    (zs X : Array Value) (hx : a.eval x = .pointer (some ⟨w.heap.size, 0, none⟩)) (hy : a.eval y = .agg X) (hi : (P.info? ty).map (·.size) = some X.size) (hz : zs.size = X.size) (h1 : X.all (·.oneCell') = true)
    (h : wpList P ops Q rest (a.put op.dst undef) (w.alloc (.cells X ty))) : wpList P ops Q (op :: rest) a (w.alloc (.cells zs ty)) := by
  refine wpList_store_row hgd ty x y ho w.heap.size X hx hy ty zs (heap_alloc_new w _) hi hz h1 ?_
  rw [setRow_new]
  exact h
theorem sat_size : (Try.prog.info? 27).map (·.size) = some 21 := by kernel_rfl
theorem sat_one (x : St) : (satCells x).toArray.all (·.oneCell') = true := by simp [satCells, Value.oneCell']

theorem idSt (x : St) (w : World) :
    Calls Try.prog 39 #[.agg (satCells x).toArray] w fun e w' => e = .returned (.int .i64 x.id) ∧ Below w.heap.size w w' := by
  obtain ⟨id, ow, ⟨p, f, lo, hi, no, tu, sl⟩, wi, st, ch, su, idl, sh, se, wa, co, ho, sw, ra⟩ := x
  show Calls Try.prog 39 #[.agg #[.int .i64 id, .int .i64 ow, .int .i64 p, .int .i64 f, .int .i64 lo, .int .i64 hi, .int .i64 no, .int .i64 tu, .int .i64 sl, .int .i64 wi, .int .i64 st, .int .i64 ch, .int .i64 su, .int .i64 idl, .int .i64 sh, .int .i64 se, .int .i64 wa, .int .i64 co, .int .i64 ho, .int .i64 sw, .int .i64 ra]] w _
  go_enter Try.func39, Try.ntmps39
  go_wp2
  go_ret
  exact ⟨rfl, (by repeat (first | exact Below.refl _ _ | assumption | refine Below.drew ?_ | refine below_drewN ?_ _ | refine bl_alloc ?_ _ | refine Below.setCell ?_ (by first | (simp; done) | omega | (simp; omega)) _ | refine bl_then ?_ (by assumption)))⟩
theorem satVal (x : St) (w : World) : Calls Try.prog 20 #[.agg (satCells x).toArray] w fun e w' => e = .returned (.bool (satOK x)) ∧ Below w.heap.size w w' := by
  obtain ⟨id, ow, ⟨p, f, lo, hi, no, tu, sl⟩, wi, st, ch, su, idl, sh, se, wa, co, ho, sw, ra⟩ := x
  exact sat_valid id ow p f lo hi no tu sl wi st ch su idl sh se wa co ho sw ra w

set_option maxRecDepth 100000 in
set_option maxHeartbeats 2000000 in
theorem isListSt (l : List St) (A : Option Addr) (n c : Nat) (w : World) (h : RA satCells 21 w w.heap.size A n c l) :
    Calls Try.prog 38 #[.slice A n c, .int .i64 24, .func (.func 20) #[] #[], .func (.func 39) #[] #[]] w fun e w' => e = .returned (.bool (satsOK l)) ∧ Below w.heap.size w w' := by
  have HR := Lib.hid h
  have hle := h.le
  have hlen := h.len
  have HL := Lib.hid hlen
  have hs : satsOK l = (decide (n ≤ 24) && listOK satOK (·.id) none l) := by rw [satsOK, hlen]
  rw [hs]
  clear h hs hlen
  by_cases hm : n ≤ 24
  · have hd : decide (n ≤ 24) = true := by simpa using hm
    rw [hd, Bool.true_and]
    clear hd
    have hrl : listOK satOK (·.id) none l = listOK satOK (·.id) (prevAt l 0) (l.drop 0) := by simp [prevAt]
    have HQ := Lib.hid hrl
    clear hrl
    go_enter Try.func38, Try.ntmps38
    go_wp2
    go_loopw [17] (fun i wr => ∃ k : Nat, k ≤ n ∧ i = .int .i64 k ∧ Hid (listOK satOK (·.id) none l = listOK satOK (·.id) (prevAt l k) (l.drop k)) ∧ Below w.heap.size w wr) (fun i _ => n - (intOf i).toNat)
    case atStart => exact ⟨0, Nat.zero_le _, rfl, HQ, Below.refl _ _⟩
    case round =>
      clear HQ
      obtain ⟨k, hk, rfl, HK, hB⟩ := hrel
      by_cases hlt : k < n
      · obtain ⟨b, o, hz, hA, hbl, hc⟩ := RA.range sat_len (HR.out.below hB) hlt
        have hst := listOK_step satOK (fun x => x.id) l k hz
        rw [← HK.out] at hst
        generalize l[k] = x at hst hc
        have hv := satVal x
        have hid := idSt x
        have h1 := sat_one x
        have hsx : (satCells x).toArray.size = 21 := rfl
        have HC := Lib.hid hc
        have KX : Blk (wr.alloc (.cells (satCells x).toArray 27)) wr.heap.size 27 (satCells x).toArray := Blk.new _ _ _
        obtain ⟨X, hX⟩ : ∃ X, (satCells x).toArray = X := ⟨_, rfl⟩
        rw [hX] at hv hid h1 hsx KX
        have HON := Lib.hid h1
        have HSX := Lib.hid hsx
        have HV := Lib.hid hv
        have HIX := Lib.hid hid
        have HXX := Lib.hid hX
        generalize satOK x = q at hst HV
        have HS := Lib.hid hst
        clear hst hc HK hX hv hid h1 hsx
        subst hA
        have hblt : b < w.heap.size := hbl
        go_wp2_with (first | (refine wpList_load_st rfl _ _ rfl b (o + k * 21) rfl X (satCells x) HXX.out _ HC.out Try.underlying27 rfl sat_size ?_) | (refine wpList_store_new rfl 27 _ _ rfl _ X rfl rfl (by rw [HSX.out]; exact sat_size) (by rw [HSX.out]; rfl) HON.out ?_))
        have hB1 : Below w.heap.size w (wr.alloc (.cells X 27)) := bl_alloc hB _
        have hx1 : Ext wr (wr.alloc (.cells X 27)) := bl_alloc (Below.refl _ _) _
        obtain ⟨gb, hgb⟩ : ∃ g, g = wr.heap.size := ⟨_, rfl⟩
        rw [← hgb] at KX ⊢
        generalize wr.alloc (.cells X 27) = W at KX hB1 hx1 ⊢
        have HX1 := Lib.hid hx1
        have K := Lib.hid KX
        have K : Blk W gb 27 (satCells x).toArray := by rw [HXX.out]; exact KX
        clear hx1 hgb KX
        cases q
        · skip
          refine wp_region_obl 21 (fun ix vals v w1 => match ix with | 0 => v = .func (.func 20) #[] #[] | 1 => v = .agg X | 2 => v = .bool false | 3 => v = .bool true | 4 => v = .bool true | 5 => v = undef | 6 => v = undef | 7 => v = undef | 8 => v = undef | 9 => v = undef | 10 => v = undef | 11 => v = undef | 12 => v = undef | 13 => v = undef | 14 => v = undef | 15 => v = undef | 16 => v = undef | 17 => v = undef | 18 => v = undef | 19 => v = undef | _ => v = .bool true) (by kernel_rfl) (by kernel_rfl) ?_ ?_ ?_ ?_
          · intro ix vals v w1 w2 hi hr hx
            match ix, hr with
            | 0, hr => exact hr
            | 1, hr => exact hr
            | 2, hr => exact hr
            | 3, hr => exact hr
            | 4, hr => exact hr
            | 5, hr => exact hr
            | 6, hr => exact hr
            | 7, hr => exact hr
            | 8, hr => exact hr
            | 9, hr => exact hr
            | 10, hr => exact hr
            | 11, hr => exact hr
            | 12, hr => exact hr
            | 13, hr => exact hr
            | 14, hr => exact hr
            | 15, hr => exact hr
            | 16, hr => exact hr
            | 17, hr => exact hr
            | 18, hr => exact hr
            | 19, hr => exact hr
            | (kx + 20), hr => exact hr
          · intro ix vals vals_ v w1 hi hv hr
            exact hr
          · refine ⟨?_, ?_, ?_, ?_, ?_, ?_, ?_, ?_, ?_, ?_, ?_, ?_, ?_, ?_, ?_, ?_, ?_, ?_, ?_, ?_, ?_, trivial⟩
            · intro vals w1 hx hd ha
              clear hd ha
              simp only [Lf]
              go_wp2
              exact ⟨rfl, Ext.refl _, rfl⟩
            · intro vals w1 hx hd ha
              clear hd ha
              simp only [Lf, dstAt, Act.put, List.getElem?_toArray, List.getElem?_cons_zero, Option.bind_some, List.setIfInBounds_toArray, List.set_cons_zero, List.set_cons_succ]
              refine wpList_load_st rfl _ _ rfl gb 0 rfl X (satCells x) HXX.out _ (Blk.range (K.ext (hx.undrew)) (satCells x) (by simp)) Try.underlying27 rfl sat_size ?_
              go_wp2
              exact ⟨rfl, Ext.refl _, rfl⟩
            · intro vals w1 hx hd ha
              have e0 : vals 0 = .func (.func 20) #[] #[] := hd 0 (by decide)
              have e1 : vals 1 = .agg X := hd 1 (by decide)
              clear hd ha
              simp only [Lf, dstAt, Act.put, List.getElem?_toArray, List.getElem?_cons_zero, List.getElem?_cons_succ, Option.bind_some, List.setIfInBounds_toArray, List.set_cons_zero, List.set_cons_succ]
              simp only [e0]
              simp only [e1]
              clear e0 e1
              go_wp2_with fail
              refine (HV.out _).mono ?_
              rintro e w2 ⟨rfl, hb2⟩
              go_wp2
              exact ⟨rfl, hb2, rfl⟩
            · intro vals w1 hx hd ha
              have e2 : vals 2 = .bool false := hd 2 (by decide)
              clear hd ha
              simp only [Lf, dstAt, Act.put, List.getElem?_toArray, List.getElem?_cons_zero, List.getElem?_cons_succ, Option.bind_some, List.setIfInBounds_toArray, List.set_cons_zero, List.set_cons_succ]
              simp only [e2]
              clear e2
              go_wp2
              exact ⟨rfl, Ext.refl _, rfl⟩
            · intro vals w1 hx hd ha
              have e2 : vals 2 = .bool false := hd 2 (by decide)
              have e3 : vals 3 = .bool true := hd 3 (by decide)
              clear hd ha
              simp only [Lf, dstAt, Act.put, List.getElem?_toArray, List.getElem?_cons_zero, List.getElem?_cons_succ, Option.bind_some, List.setIfInBounds_toArray, List.set_cons_zero, List.set_cons_succ]
              simp only [e2, e3]
              clear e2 e3
              go_wp2
              exact ⟨rfl, Ext.refl _, rfl⟩
            · intro vals w1 hx hd ha
              have e4 : vals 4 = .bool true := hd 4 (by decide)
              clear hd ha
              simp only [Lf, dstAt, Act.put, List.getElem?_toArray, List.getElem?_cons_zero, List.getElem?_cons_succ, Option.bind_some, List.setIfInBounds_toArray, List.set_cons_zero, List.set_cons_succ]
              simp only [e4]
              clear e4
              go_wp2
              exact ⟨rfl, Ext.refl _, rfl⟩
            · intro vals w1 hx hd ha
              have e4 : vals 4 = .bool true := hd 4 (by decide)
              have e5 : vals 5 = undef := hd 5 (by decide)
              clear hd ha
              simp only [Lf, dstAt, Act.put, List.getElem?_toArray, List.getElem?_cons_zero, List.getElem?_cons_succ, Option.bind_some, List.setIfInBounds_toArray, List.set_cons_zero, List.set_cons_succ]
              simp only [e4, e5]
              clear e4 e5
              go_wp2
              exact ⟨rfl, Ext.refl _, rfl⟩
            · intro vals w1 hx hd ha
              have e4 : vals 4 = .bool true := hd 4 (by decide)
              have e6 : vals 6 = undef := hd 6 (by decide)
              clear hd ha
              simp only [Lf, dstAt, Act.put, List.getElem?_toArray, List.getElem?_cons_zero, List.getElem?_cons_succ, Option.bind_some, List.setIfInBounds_toArray, List.set_cons_zero, List.set_cons_succ]
              simp only [e4, e6]
              clear e4 e6
              go_wp2
              exact ⟨rfl, Ext.refl _, rfl⟩
            · intro vals w1 hx hd ha
              have e7 : vals 7 = undef := hd 7 (by decide)
              clear hd ha
              simp only [Lf, dstAt, Act.put, List.getElem?_toArray, List.getElem?_cons_zero, List.getElem?_cons_succ, Option.bind_some, List.setIfInBounds_toArray, List.set_cons_zero, List.set_cons_succ]
              simp only [e7]
              clear e7
              go_wp2
              exact ⟨rfl, Ext.refl _, rfl⟩
            · intro vals w1 hx hd ha
              have e7 : vals 7 = undef := hd 7 (by decide)
              clear hd ha
              simp only [Lf, dstAt, Act.put, List.getElem?_toArray, List.getElem?_cons_zero, List.getElem?_cons_succ, Option.bind_some, List.setIfInBounds_toArray, List.set_cons_zero, List.set_cons_succ]
              simp only [e7]
              clear e7
              go_wp2
              exact ⟨rfl, Ext.refl _, rfl⟩
            · intro vals w1 hx hd ha
              have e7 : vals 7 = undef := hd 7 (by decide)
              have e8 : vals 8 = undef := hd 8 (by decide)
              have e9 : vals 9 = undef := hd 9 (by decide)
              clear hd ha
              simp only [Lf, dstAt, Act.put, List.getElem?_toArray, List.getElem?_cons_zero, List.getElem?_cons_succ, Option.bind_some, List.setIfInBounds_toArray, List.set_cons_zero, List.set_cons_succ]
              simp only [e7, e8, e9]
              clear e7 e8 e9
              go_wp2
              exact ⟨rfl, Ext.refl _, rfl⟩
            · intro vals w1 hx hd ha
              have e7 : vals 7 = undef := hd 7 (by decide)
              clear hd ha
              simp only [Lf, dstAt, Act.put, List.getElem?_toArray, List.getElem?_cons_zero, List.getElem?_cons_succ, Option.bind_some, List.setIfInBounds_toArray, List.set_cons_zero, List.set_cons_succ]
              simp only [e7]
              clear e7
              go_wp2
              exact ⟨rfl, Ext.refl _, rfl⟩
            · intro vals w1 hx hd ha
              have e7 : vals 7 = undef := hd 7 (by decide)
              clear hd ha
              simp only [Lf, dstAt, Act.put, List.getElem?_toArray, List.getElem?_cons_zero, List.getElem?_cons_succ, Option.bind_some, List.setIfInBounds_toArray, List.set_cons_zero, List.set_cons_succ]
              simp only [e7]
              clear e7
              go_wp2
              exact ⟨rfl, Ext.refl _, rfl⟩
            · intro vals w1 hx hd ha
              have e7 : vals 7 = undef := hd 7 (by decide)
              clear hd ha
              simp only [Lf, dstAt, Act.put, List.getElem?_toArray, List.getElem?_cons_zero, List.getElem?_cons_succ, Option.bind_some, List.setIfInBounds_toArray, List.set_cons_zero, List.set_cons_succ]
              simp only [e7]
              clear e7
              go_wp2
              exact ⟨rfl, Ext.refl _, rfl⟩
            · intro vals w1 hx hd ha
              have e7 : vals 7 = undef := hd 7 (by decide)
              have e13 : vals 13 = undef := hd 13 (by decide)
              clear hd ha
              simp only [Lf, dstAt, Act.put, List.getElem?_toArray, List.getElem?_cons_zero, List.getElem?_cons_succ, Option.bind_some, List.setIfInBounds_toArray, List.set_cons_zero, List.set_cons_succ]
              simp only [e7, e13]
              clear e7 e13
              go_wp2
              exact ⟨rfl, Ext.refl _, rfl⟩
            · intro vals w1 hx hd ha
              have e7 : vals 7 = undef := hd 7 (by decide)
              have e12 : vals 12 = undef := hd 12 (by decide)
              have e14 : vals 14 = undef := hd 14 (by decide)
              clear hd ha
              simp only [Lf, dstAt, Act.put, List.getElem?_toArray, List.getElem?_cons_zero, List.getElem?_cons_succ, Option.bind_some, List.setIfInBounds_toArray, List.set_cons_zero, List.set_cons_succ]
              simp only [e7, e12, e14]
              clear e7 e12 e14
              go_wp2
              exact ⟨rfl, Ext.refl _, rfl⟩
            · intro vals w1 hx hd ha
              have e7 : vals 7 = undef := hd 7 (by decide)
              have e15 : vals 15 = undef := hd 15 (by decide)
              clear hd ha
              simp only [Lf, dstAt, Act.put, List.getElem?_toArray, List.getElem?_cons_zero, List.getElem?_cons_succ, Option.bind_some, List.setIfInBounds_toArray, List.set_cons_zero, List.set_cons_succ]
              simp only [e7, e15]
              clear e7 e15
              go_wp2
              exact ⟨rfl, Ext.refl _, rfl⟩
            · intro vals w1 hx hd ha
              have e7 : vals 7 = undef := hd 7 (by decide)
              have e10 : vals 10 = undef := hd 10 (by decide)
              have e11 : vals 11 = undef := hd 11 (by decide)
              have e16 : vals 16 = undef := hd 16 (by decide)
              clear hd ha
              simp only [Lf, dstAt, Act.put, List.getElem?_toArray, List.getElem?_cons_zero, List.getElem?_cons_succ, Option.bind_some, List.setIfInBounds_toArray, List.set_cons_zero, List.set_cons_succ]
              simp only [e7, e10, e11, e16]
              clear e7 e10 e11 e16
              go_wp2
              exact ⟨rfl, Ext.refl _, rfl⟩
            · intro vals w1 hx hd ha
              have e7 : vals 7 = undef := hd 7 (by decide)
              have e10 : vals 10 = undef := hd 10 (by decide)
              have e17 : vals 17 = undef := hd 17 (by decide)
              clear hd ha
              simp only [Lf, dstAt, Act.put, List.getElem?_toArray, List.getElem?_cons_zero, List.getElem?_cons_succ, Option.bind_some, List.setIfInBounds_toArray, List.set_cons_zero, List.set_cons_succ]
              simp only [e7, e10, e17]
              clear e7 e10 e17
              go_wp2
              exact ⟨rfl, Ext.refl _, rfl⟩
            · intro vals w1 hx hd ha
              have e4 : vals 4 = .bool true := hd 4 (by decide)
              have e7 : vals 7 = undef := hd 7 (by decide)
              have e18 : vals 18 = undef := hd 18 (by decide)
              clear hd ha
              simp only [Lf, dstAt, Act.put, List.getElem?_toArray, List.getElem?_cons_zero, List.getElem?_cons_succ, Option.bind_some, List.setIfInBounds_toArray, List.set_cons_zero, List.set_cons_succ]
              simp only [e4, e7, e18]
              clear e4 e7 e18
              go_wp2
              exact ⟨rfl, Ext.refl _, rfl⟩
            · intro vals w1 hx hd ha
              have e4 : vals 4 = .bool true := hd 4 (by decide)
              have e19 : vals 19 = undef := hd 19 (by decide)
              clear hd ha
              simp only [Lf, dstAt, Act.put, List.getElem?_toArray, List.getElem?_cons_zero, List.getElem?_cons_succ, Option.bind_some, List.setIfInBounds_toArray, List.set_cons_zero, List.set_cons_succ]
              simp only [e4, e19]
              clear e4 e19
              go_wp2
              exact ⟨rfl, Ext.refl _, rfl⟩
          intro vals w5 hx hf
          have e20 : vals 20 = .bool true := hf 20 (by omega)
          clear hf
          have hx := hx.undrew
          have hB5 := bl_then hB1 hx
          refine tail0 (by kernel_rfl) ?_
          simp only [Lf, dstAt, Act.put, List.getElem?_toArray, List.getElem?_cons_zero, List.getElem?_cons_succ, Option.bind_some, List.setIfInBounds_toArray, List.set_cons_zero, List.set_cons_succ]
          rw [e20]
          clear e20
          go_wp2
          go_ret
          exact ⟨by rw [HS.out]; rfl, hB5⟩
        · by_cases hk0 : k = 0
          · have hk0' : (k : Int) ≤ 0 := by omega
            have hpv : prevAt l k = none := by simp [prevAt, hk0]
            have HP := Lib.hid hpv
            have hk0h := Lib.hid hk0
            have hkd : decide (0 < k) = false := by simp; omega
            clear hpv hk0
            refine wp_region_obl 21 (fun ix vals v w1 => match ix with | 0 => v = .func (.func 20) #[] #[] | 1 => v = .agg X | 2 => v = .bool true | 3 => v = .bool false | 4 => v = .bool false | 5 => v = .int .i64 (k : Int) | 6 => v = .bool false | 7 => v = .bool false | 8 => v = undef | 9 => v = undef | 10 => v = undef | 11 => v = undef | 12 => v = undef | 13 => v = undef | 14 => v = undef | 15 => v = undef | 16 => v = undef | 17 => v = undef | 18 => v = undef | 19 => v = .bool false | _ => v = .bool false) (by kernel_rfl) (by kernel_rfl) ?_ ?_ ?_ ?_
            · intro ix vals v w1 w2 hi hr hx
              match ix, hr with
              | 0, hr => exact hr
              | 1, hr => exact hr
              | 2, hr => exact hr
              | 3, hr => exact hr
              | 4, hr => exact hr
              | 5, hr => exact hr
              | 6, hr => exact hr
              | 7, hr => exact hr
              | 8, hr => exact hr
              | 9, hr => exact hr
              | 10, hr => exact hr
              | 11, hr => exact hr
              | 12, hr => exact hr
              | 13, hr => exact hr
              | 14, hr => exact hr
              | 15, hr => exact hr
              | 16, hr => exact hr
              | 17, hr => exact hr
              | 18, hr => exact hr
              | 19, hr => exact hr
              | (kx + 20), hr => exact hr
            · intro ix vals vals_ v w1 hi hv hr
              exact hr
            · refine ⟨?_, ?_, ?_, ?_, ?_, ?_, ?_, ?_, ?_, ?_, ?_, ?_, ?_, ?_, ?_, ?_, ?_, ?_, ?_, ?_, ?_, trivial⟩
              · intro vals w1 hx hd ha
                clear hd ha
                simp only [Lf]
                go_wp2
                exact ⟨rfl, Ext.refl _, rfl⟩
              · intro vals w1 hx hd ha
                clear hd ha
                simp only [Lf, dstAt, Act.put, List.getElem?_toArray, List.getElem?_cons_zero, Option.bind_some, List.setIfInBounds_toArray, List.set_cons_zero, List.set_cons_succ]
                refine wpList_load_st rfl _ _ rfl gb 0 rfl X (satCells x) HXX.out _ (Blk.range (K.ext (hx.undrew)) (satCells x) (by simp)) Try.underlying27 rfl sat_size ?_
                go_wp2
                exact ⟨rfl, Ext.refl _, rfl⟩
              · intro vals w1 hx hd ha
                have e0 : vals 0 = .func (.func 20) #[] #[] := hd 0 (by decide)
                have e1 : vals 1 = .agg X := hd 1 (by decide)
                clear hd ha
                simp only [Lf, dstAt, Act.put, List.getElem?_toArray, List.getElem?_cons_zero, List.getElem?_cons_succ, Option.bind_some, List.setIfInBounds_toArray, List.set_cons_zero, List.set_cons_succ]
                simp only [e0]
                simp only [e1]
                clear e0 e1
                go_wp2_with fail
                refine (HV.out _).mono ?_
                rintro e w2 ⟨rfl, hb2⟩
                go_wp2
                exact ⟨rfl, hb2, rfl⟩
              · intro vals w1 hx hd ha
                have e2 : vals 2 = .bool true := hd 2 (by decide)
                clear hd ha
                simp only [Lf, dstAt, Act.put, List.getElem?_toArray, List.getElem?_cons_zero, List.getElem?_cons_succ, Option.bind_some, List.setIfInBounds_toArray, List.set_cons_zero, List.set_cons_succ]
                simp only [e2]
                clear e2
                go_wp2
                exact ⟨rfl, Ext.refl _, rfl⟩
              · intro vals w1 hx hd ha
                have e2 : vals 2 = .bool true := hd 2 (by decide)
                have e3 : vals 3 = .bool false := hd 3 (by decide)
                clear hd ha
                simp only [Lf, dstAt, Act.put, List.getElem?_toArray, List.getElem?_cons_zero, List.getElem?_cons_succ, Option.bind_some, List.setIfInBounds_toArray, List.set_cons_zero, List.set_cons_succ]
                simp only [e2, e3]
                clear e2 e3
                go_wp2
                exact ⟨rfl, Ext.refl _, rfl⟩
              · intro vals w1 hx hd ha
                have e4 : vals 4 = .bool false := hd 4 (by decide)
                clear hd ha
                simp only [Lf, dstAt, Act.put, List.getElem?_toArray, List.getElem?_cons_zero, List.getElem?_cons_succ, Option.bind_some, List.setIfInBounds_toArray, List.set_cons_zero, List.set_cons_succ]
                simp only [e4]
                clear e4
                go_wp2
                exact ⟨rfl, Ext.refl _, rfl⟩
              · intro vals w1 hx hd ha
                have e4 : vals 4 = .bool false := hd 4 (by decide)
                have e5 : vals 5 = .int .i64 (k : Int) := hd 5 (by decide)
                clear hd ha
                simp only [Lf, dstAt, Act.put, List.getElem?_toArray, List.getElem?_cons_zero, List.getElem?_cons_succ, Option.bind_some, List.setIfInBounds_toArray, List.set_cons_zero, List.set_cons_succ]
                simp only [e4, e5]
                clear e4 e5
                go_wp2
                exact ⟨rfl, Ext.refl _, rfl⟩
              · intro vals w1 hx hd ha
                have e4 : vals 4 = .bool false := hd 4 (by decide)
                have e6 : vals 6 = .bool false := hd 6 (by decide)
                clear hd ha
                simp only [Lf, dstAt, Act.put, List.getElem?_toArray, List.getElem?_cons_zero, List.getElem?_cons_succ, Option.bind_some, List.setIfInBounds_toArray, List.set_cons_zero, List.set_cons_succ]
                simp only [e4, e6]
                clear e4 e6
                go_wp2
                exact ⟨rfl, Ext.refl _, rfl⟩
              · intro vals w1 hx hd ha
                have e7 : vals 7 = .bool false := hd 7 (by decide)
                clear hd ha
                simp only [Lf, dstAt, Act.put, List.getElem?_toArray, List.getElem?_cons_zero, List.getElem?_cons_succ, Option.bind_some, List.setIfInBounds_toArray, List.set_cons_zero, List.set_cons_succ]
                simp only [e7]
                clear e7
                go_wp2
                exact ⟨rfl, Ext.refl _, rfl⟩
              · intro vals w1 hx hd ha
                have e7 : vals 7 = .bool false := hd 7 (by decide)
                clear hd ha
                simp only [Lf, dstAt, Act.put, List.getElem?_toArray, List.getElem?_cons_zero, List.getElem?_cons_succ, Option.bind_some, List.setIfInBounds_toArray, List.set_cons_zero, List.set_cons_succ]
                simp only [e7]
                clear e7
                go_wp2
                exact ⟨rfl, Ext.refl _, rfl⟩
              · intro vals w1 hx hd ha
                have e7 : vals 7 = .bool false := hd 7 (by decide)
                have e8 : vals 8 = undef := hd 8 (by decide)
                have e9 : vals 9 = undef := hd 9 (by decide)
                clear hd ha
                simp only [Lf, dstAt, Act.put, List.getElem?_toArray, List.getElem?_cons_zero, List.getElem?_cons_succ, Option.bind_some, List.setIfInBounds_toArray, List.set_cons_zero, List.set_cons_succ]
                simp only [e7, e8, e9]
                clear e7 e8 e9
                go_wp2
                exact ⟨rfl, Ext.refl _, rfl⟩
              · intro vals w1 hx hd ha
                have e7 : vals 7 = .bool false := hd 7 (by decide)
                clear hd ha
                simp only [Lf, dstAt, Act.put, List.getElem?_toArray, List.getElem?_cons_zero, List.getElem?_cons_succ, Option.bind_some, List.setIfInBounds_toArray, List.set_cons_zero, List.set_cons_succ]
                simp only [e7]
                clear e7
                go_wp2
                exact ⟨rfl, Ext.refl _, rfl⟩
              · intro vals w1 hx hd ha
                have e7 : vals 7 = .bool false := hd 7 (by decide)
                clear hd ha
                simp only [Lf, dstAt, Act.put, List.getElem?_toArray, List.getElem?_cons_zero, List.getElem?_cons_succ, Option.bind_some, List.setIfInBounds_toArray, List.set_cons_zero, List.set_cons_succ]
                simp only [e7]
                clear e7
                go_wp2
                exact ⟨rfl, Ext.refl _, rfl⟩
              · intro vals w1 hx hd ha
                have e7 : vals 7 = .bool false := hd 7 (by decide)
                clear hd ha
                simp only [Lf, dstAt, Act.put, List.getElem?_toArray, List.getElem?_cons_zero, List.getElem?_cons_succ, Option.bind_some, List.setIfInBounds_toArray, List.set_cons_zero, List.set_cons_succ]
                simp only [e7]
                clear e7
                go_wp2
                exact ⟨rfl, Ext.refl _, rfl⟩
              · intro vals w1 hx hd ha
                have e7 : vals 7 = .bool false := hd 7 (by decide)
                have e13 : vals 13 = undef := hd 13 (by decide)
                clear hd ha
                simp only [Lf, dstAt, Act.put, List.getElem?_toArray, List.getElem?_cons_zero, List.getElem?_cons_succ, Option.bind_some, List.setIfInBounds_toArray, List.set_cons_zero, List.set_cons_succ]
                simp only [e7, e13]
                clear e7 e13
                go_wp2
                exact ⟨rfl, Ext.refl _, rfl⟩
              · intro vals w1 hx hd ha
                have e7 : vals 7 = .bool false := hd 7 (by decide)
                have e12 : vals 12 = undef := hd 12 (by decide)
                have e14 : vals 14 = undef := hd 14 (by decide)
                clear hd ha
                simp only [Lf, dstAt, Act.put, List.getElem?_toArray, List.getElem?_cons_zero, List.getElem?_cons_succ, Option.bind_some, List.setIfInBounds_toArray, List.set_cons_zero, List.set_cons_succ]
                simp only [e7, e12, e14]
                clear e7 e12 e14
                go_wp2
                exact ⟨rfl, Ext.refl _, rfl⟩
              · intro vals w1 hx hd ha
                have e7 : vals 7 = .bool false := hd 7 (by decide)
                have e15 : vals 15 = undef := hd 15 (by decide)
                clear hd ha
                simp only [Lf, dstAt, Act.put, List.getElem?_toArray, List.getElem?_cons_zero, List.getElem?_cons_succ, Option.bind_some, List.setIfInBounds_toArray, List.set_cons_zero, List.set_cons_succ]
                simp only [e7, e15]
                clear e7 e15
                go_wp2
                exact ⟨rfl, Ext.refl _, rfl⟩
              · intro vals w1 hx hd ha
                have e7 : vals 7 = .bool false := hd 7 (by decide)
                have e10 : vals 10 = undef := hd 10 (by decide)
                have e11 : vals 11 = undef := hd 11 (by decide)
                have e16 : vals 16 = undef := hd 16 (by decide)
                clear hd ha
                simp only [Lf, dstAt, Act.put, List.getElem?_toArray, List.getElem?_cons_zero, List.getElem?_cons_succ, Option.bind_some, List.setIfInBounds_toArray, List.set_cons_zero, List.set_cons_succ]
                simp only [e7, e10, e11, e16]
                clear e7 e10 e11 e16
                go_wp2
                exact ⟨rfl, Ext.refl _, rfl⟩
              · intro vals w1 hx hd ha
                have e7 : vals 7 = .bool false := hd 7 (by decide)
                have e10 : vals 10 = undef := hd 10 (by decide)
                have e17 : vals 17 = undef := hd 17 (by decide)
                clear hd ha
                simp only [Lf, dstAt, Act.put, List.getElem?_toArray, List.getElem?_cons_zero, List.getElem?_cons_succ, Option.bind_some, List.setIfInBounds_toArray, List.set_cons_zero, List.set_cons_succ]
                simp only [e7, e10, e17]
                clear e7 e10 e17
                go_wp2
                exact ⟨rfl, Ext.refl _, rfl⟩
              · intro vals w1 hx hd ha
                have e4 : vals 4 = .bool false := hd 4 (by decide)
                have e7 : vals 7 = .bool false := hd 7 (by decide)
                have e18 : vals 18 = undef := hd 18 (by decide)
                clear hd ha
                simp only [Lf, dstAt, Act.put, List.getElem?_toArray, List.getElem?_cons_zero, List.getElem?_cons_succ, Option.bind_some, List.setIfInBounds_toArray, List.set_cons_zero, List.set_cons_succ]
                simp only [e4, e7, e18]
                clear e4 e7 e18
                go_wp2
                exact ⟨rfl, Ext.refl _, rfl⟩
              · intro vals w1 hx hd ha
                have e4 : vals 4 = .bool false := hd 4 (by decide)
                have e19 : vals 19 = .bool false := hd 19 (by decide)
                clear hd ha
                simp only [Lf, dstAt, Act.put, List.getElem?_toArray, List.getElem?_cons_zero, List.getElem?_cons_succ, Option.bind_some, List.setIfInBounds_toArray, List.set_cons_zero, List.set_cons_succ]
                simp only [e4, e19]
                clear e4 e19
                go_wp2
                exact ⟨rfl, Ext.refl _, rfl⟩
            intro vals w5 hx hf
            have e20 : vals 20 = .bool false := hf 20 (by omega)
            clear hf
            have hx := hx.undrew
            have hB5 := bl_then hB1 hx
            refine tail0 (by kernel_rfl) ?_
            simp only [Lf, dstAt, Act.put, List.getElem?_toArray, List.getElem?_cons_zero, List.getElem?_cons_succ, Option.bind_some, List.setIfInBounds_toArray, List.set_cons_zero, List.set_cons_succ]
            rw [e20]
            clear e20
            go_wp2
            go_roundw
            case rel => exact ⟨k + 1, by omega, by go_num, Lib.hid (by rw [HS.out, HP.out]; rfl), hB5⟩
            case measure => simp [intOf]; omega
          · have hk1 : (0 : Int) < (k : Int) := by omega
            obtain ⟨b', o', hz', hA', hbl', hc'⟩ := RA.range sat_len (HR.out.below hB) (k := k - 1) (by omega)
            obtain ⟨rfl, rfl⟩ : b' = b ∧ o' = o := by injection hA' with hA'; injection hA' with h1 h2; exact ⟨h1.symm, h2.symm⟩
            have hpv : prevAt l k = some l[k - 1] := by unfold prevAt; rw [if_neg hk0, List.getElem?_eq_getElem hz']
            generalize l[k - 1] = y at hpv hc'
            have hry := hc'
            have hid := idSt y
            obtain ⟨Y, hY⟩ : ∃ Y, (satCells y).toArray = Y := ⟨_, rfl⟩
            rw [hY] at hid
            have HIY := Lib.hid hid
            have HYY := Lib.hid hY
            have HP := Lib.hid hpv
            have hk0h := Lib.hid hk0
            clear hpv hc' hA' hbl' hk0 hid hY
            have hki : IntKind.i64.wrap ((k : Int) - 1) = (k : Int) - 1 := IntWalk.i64_in _ (by omega)
            have hkn : ((k : Int) - 1).toNat = k - 1 := by omega
            have hkd : decide (0 < k) = true := by simp; omega
            refine wp_region_obl 21 (fun ix vals v w1 => match ix with | 0 => v = .func (.func 20) #[] #[] | 1 => v = .agg X | 2 => v = .bool true | 3 => v = .bool false | 4 => v = .bool false | 5 => v = .int .i64 (k : Int) | 6 => v = .bool true | 7 => v = .bool true | 8 => v = .func (.func 39) #[] #[] | 9 => v = .agg X | 10 => v = .int .i64 x.id | 11 => v = .func (.func 39) #[] #[] | 12 => v = .slice (some ⟨b', o', none⟩) n c | 13 => v = .int .i64 (k : Int) | 14 => v = .int .i64 ((k : Int) - 1) | 15 => v = .pointer (some ⟨b', o' + (k - 1) * 21, none⟩) | 16 => v = .agg Y | 17 => v = .int .i64 y.id | 18 => v = .bool (decide (x.id ≤ y.id)) | 19 => v = .bool (decide (x.id ≤ y.id)) | _ => v = .bool (decide (x.id ≤ y.id))) (by kernel_rfl) (by kernel_rfl) ?_ ?_ ?_ ?_
            · intro ix vals v w1 w2 hi hr hx
              match ix, hr with
              | 0, hr => exact hr
              | 1, hr => exact hr
              | 2, hr => exact hr
              | 3, hr => exact hr
              | 4, hr => exact hr
              | 5, hr => exact hr
              | 6, hr => exact hr
              | 7, hr => exact hr
              | 8, hr => exact hr
              | 9, hr => exact hr
              | 10, hr => exact hr
              | 11, hr => exact hr
              | 12, hr => exact hr
              | 13, hr => exact hr
              | 14, hr => exact hr
              | 15, hr => exact hr
              | 16, hr => exact hr
              | 17, hr => exact hr
              | 18, hr => exact hr
              | 19, hr => exact hr
              | (kx + 20), hr => exact hr
            · intro ix vals vals_ v w1 hi hv hr
              exact hr
            · refine ⟨?_, ?_, ?_, ?_, ?_, ?_, ?_, ?_, ?_, ?_, ?_, ?_, ?_, ?_, ?_, ?_, ?_, ?_, ?_, ?_, ?_, trivial⟩
              · intro vals w1 hx hd ha
                clear hd ha
                simp only [Lf]
                go_wp2
                exact ⟨rfl, Ext.refl _, rfl⟩
              · intro vals w1 hx hd ha
                clear hd ha
                simp only [Lf, dstAt, Act.put, List.getElem?_toArray, List.getElem?_cons_zero, Option.bind_some, List.setIfInBounds_toArray, List.set_cons_zero, List.set_cons_succ]
                refine wpList_load_st rfl _ _ rfl gb 0 rfl X (satCells x) HXX.out _ (Blk.range (K.ext (hx.undrew)) (satCells x) (by simp)) Try.underlying27 rfl sat_size ?_
                go_wp2
                exact ⟨rfl, Ext.refl _, rfl⟩
              · intro vals w1 hx hd ha
                have e0 : vals 0 = .func (.func 20) #[] #[] := hd 0 (by decide)
                have e1 : vals 1 = .agg X := hd 1 (by decide)
                clear hd ha
                simp only [Lf, dstAt, Act.put, List.getElem?_toArray, List.getElem?_cons_zero, List.getElem?_cons_succ, Option.bind_some, List.setIfInBounds_toArray, List.set_cons_zero, List.set_cons_succ]
                simp only [e0]
                simp only [e1]
                clear e0 e1
                go_wp2_with fail
                refine (HV.out _).mono ?_
                rintro e w2 ⟨rfl, hb2⟩
                go_wp2
                exact ⟨rfl, hb2, rfl⟩
              · intro vals w1 hx hd ha
                have e2 : vals 2 = .bool true := hd 2 (by decide)
                clear hd ha
                simp only [Lf, dstAt, Act.put, List.getElem?_toArray, List.getElem?_cons_zero, List.getElem?_cons_succ, Option.bind_some, List.setIfInBounds_toArray, List.set_cons_zero, List.set_cons_succ]
                simp only [e2]
                clear e2
                go_wp2
                exact ⟨rfl, Ext.refl _, rfl⟩
              · intro vals w1 hx hd ha
                have e2 : vals 2 = .bool true := hd 2 (by decide)
                have e3 : vals 3 = .bool false := hd 3 (by decide)
                clear hd ha
                simp only [Lf, dstAt, Act.put, List.getElem?_toArray, List.getElem?_cons_zero, List.getElem?_cons_succ, Option.bind_some, List.setIfInBounds_toArray, List.set_cons_zero, List.set_cons_succ]
                simp only [e2, e3]
                clear e2 e3
                go_wp2
                exact ⟨rfl, Ext.refl _, rfl⟩
              · intro vals w1 hx hd ha
                have e4 : vals 4 = .bool false := hd 4 (by decide)
                clear hd ha
                simp only [Lf, dstAt, Act.put, List.getElem?_toArray, List.getElem?_cons_zero, List.getElem?_cons_succ, Option.bind_some, List.setIfInBounds_toArray, List.set_cons_zero, List.set_cons_succ]
                simp only [e4]
                clear e4
                go_wp2
                exact ⟨rfl, Ext.refl _, rfl⟩
              · intro vals w1 hx hd ha
                have e4 : vals 4 = .bool false := hd 4 (by decide)
                have e5 : vals 5 = .int .i64 (k : Int) := hd 5 (by decide)
                clear hd ha
                simp only [Lf, dstAt, Act.put, List.getElem?_toArray, List.getElem?_cons_zero, List.getElem?_cons_succ, Option.bind_some, List.setIfInBounds_toArray, List.set_cons_zero, List.set_cons_succ]
                simp only [e4, e5]
                clear e4 e5
                go_wp2
                exact ⟨rfl, Ext.refl _, rfl⟩
              · intro vals w1 hx hd ha
                have e4 : vals 4 = .bool false := hd 4 (by decide)
                have e6 : vals 6 = .bool true := hd 6 (by decide)
                clear hd ha
                simp only [Lf, dstAt, Act.put, List.getElem?_toArray, List.getElem?_cons_zero, List.getElem?_cons_succ, Option.bind_some, List.setIfInBounds_toArray, List.set_cons_zero, List.set_cons_succ]
                simp only [e4, e6]
                clear e4 e6
                go_wp2
                exact ⟨rfl, Ext.refl _, rfl⟩
              · intro vals w1 hx hd ha
                have e7 : vals 7 = .bool true := hd 7 (by decide)
                clear hd ha
                simp only [Lf, dstAt, Act.put, List.getElem?_toArray, List.getElem?_cons_zero, List.getElem?_cons_succ, Option.bind_some, List.setIfInBounds_toArray, List.set_cons_zero, List.set_cons_succ]
                simp only [e7]
                clear e7
                go_wp2
                exact ⟨rfl, Ext.refl _, rfl⟩
              · intro vals w1 hx hd ha
                have e7 : vals 7 = .bool true := hd 7 (by decide)
                clear hd ha
                simp only [Lf, dstAt, Act.put, List.getElem?_toArray, List.getElem?_cons_zero, List.getElem?_cons_succ, Option.bind_some, List.setIfInBounds_toArray, List.set_cons_zero, List.set_cons_succ]
                simp only [e7]
                clear e7
                refine wpList_load_stg rfl _ _ rfl gb 0 rfl X (satCells x) HXX.out _ (Blk.range (K.ext (hx.undrew)) (satCells x) (by simp)) Try.underlying27 rfl sat_size ?_
                go_wp2
                exact ⟨rfl, Ext.refl _, rfl⟩
              · intro vals w1 hx hd ha
                have e7 : vals 7 = .bool true := hd 7 (by decide)
                have e8 : vals 8 = .func (.func 39) #[] #[] := hd 8 (by decide)
                have e9 : vals 9 = .agg X := hd 9 (by decide)
                clear hd ha
                simp only [Lf, dstAt, Act.put, List.getElem?_toArray, List.getElem?_cons_zero, List.getElem?_cons_succ, Option.bind_some, List.setIfInBounds_toArray, List.set_cons_zero, List.set_cons_succ]
                simp only [e7]
                simp only [e8]
                simp only [e9]
                clear e7 e8 e9
                go_wp2_with fail
                refine (HIX.out _).mono ?_
                rintro e w2 ⟨rfl, hb2⟩
                go_wp2
                exact ⟨rfl, hb2, rfl⟩
              · intro vals w1 hx hd ha
                have e7 : vals 7 = .bool true := hd 7 (by decide)
                clear hd ha
                simp only [Lf, dstAt, Act.put, List.getElem?_toArray, List.getElem?_cons_zero, List.getElem?_cons_succ, Option.bind_some, List.setIfInBounds_toArray, List.set_cons_zero, List.set_cons_succ]
                simp only [e7]
                clear e7
                go_wp2
                exact ⟨rfl, Ext.refl _, rfl⟩
              · intro vals w1 hx hd ha
                have e7 : vals 7 = .bool true := hd 7 (by decide)
                clear hd ha
                simp only [Lf, dstAt, Act.put, List.getElem?_toArray, List.getElem?_cons_zero, List.getElem?_cons_succ, Option.bind_some, List.setIfInBounds_toArray, List.set_cons_zero, List.set_cons_succ]
                simp only [e7]
                clear e7
                go_wp2
                exact ⟨rfl, Ext.refl _, rfl⟩
              · intro vals w1 hx hd ha
                have e7 : vals 7 = .bool true := hd 7 (by decide)
                clear hd ha
                simp only [Lf, dstAt, Act.put, List.getElem?_toArray, List.getElem?_cons_zero, List.getElem?_cons_succ, Option.bind_some, List.setIfInBounds_toArray, List.set_cons_zero, List.set_cons_succ]
                simp only [e7]
                clear e7
                go_wp2
                exact ⟨rfl, Ext.refl _, rfl⟩
              · intro vals w1 hx hd ha
                have e7 : vals 7 = .bool true := hd 7 (by decide)
                have e13 : vals 13 = .int .i64 (k : Int) := hd 13 (by decide)
                clear hd ha
                simp only [Lf, dstAt, Act.put, List.getElem?_toArray, List.getElem?_cons_zero, List.getElem?_cons_succ, Option.bind_some, List.setIfInBounds_toArray, List.set_cons_zero, List.set_cons_succ]
                simp only [e7, e13]
                clear e7 e13
                go_wp2
                exact ⟨rfl, Ext.refl _, rfl⟩
              · intro vals w1 hx hd ha
                have e7 : vals 7 = .bool true := hd 7 (by decide)
                have e12 : vals 12 = .slice (some ⟨b', o', none⟩) n c := hd 12 (by decide)
                have e14 : vals 14 = .int .i64 ((k : Int) - 1) := hd 14 (by decide)
                clear hd ha
                simp only [Lf, dstAt, Act.put, List.getElem?_toArray, List.getElem?_cons_zero, List.getElem?_cons_succ, Option.bind_some, List.setIfInBounds_toArray, List.set_cons_zero, List.set_cons_succ]
                simp only [e7, e12, e14]
                clear e7 e12 e14
                go_wp2
                exact ⟨rfl, Ext.refl _, rfl⟩
              · intro vals w1 hx hd ha
                have e7 : vals 7 = .bool true := hd 7 (by decide)
                have e15 : vals 15 = .pointer (some ⟨b', o' + (k - 1) * 21, none⟩) := hd 15 (by decide)
                clear hd ha
                simp only [Lf, dstAt, Act.put, List.getElem?_toArray, List.getElem?_cons_zero, List.getElem?_cons_succ, Option.bind_some, List.setIfInBounds_toArray, List.set_cons_zero, List.set_cons_succ]
                simp only [e7]
                simp only [e15]
                clear e7 e15
                refine wpList_load_stg rfl _ _ rfl b' (o' + (k - 1) * 21) rfl Y (satCells y) HYY.out _ (RA.range2 hry (Ext.trans HX1.out hx.undrew)) Try.underlying27 rfl sat_size ?_
                go_wp2
                exact ⟨rfl, Ext.refl _, rfl⟩
              · intro vals w1 hx hd ha
                have e7 : vals 7 = .bool true := hd 7 (by decide)
                have e10 : vals 10 = .int .i64 x.id := hd 10 (by decide)
                have e11 : vals 11 = .func (.func 39) #[] #[] := hd 11 (by decide)
                have e16 : vals 16 = .agg Y := hd 16 (by decide)
                clear hd ha
                simp only [Lf, dstAt, Act.put, List.getElem?_toArray, List.getElem?_cons_zero, List.getElem?_cons_succ, Option.bind_some, List.setIfInBounds_toArray, List.set_cons_zero, List.set_cons_succ]
                simp only [e7]
                simp only [e10]
                simp only [e11]
                simp only [e16]
                clear e7 e10 e11 e16
                go_wp2_with fail
                refine (HIY.out _).mono ?_
                rintro e w2 ⟨rfl, hb2⟩
                go_wp2
                exact ⟨rfl, hb2, rfl⟩
              · intro vals w1 hx hd ha
                have e7 : vals 7 = .bool true := hd 7 (by decide)
                have e10 : vals 10 = .int .i64 x.id := hd 10 (by decide)
                have e17 : vals 17 = .int .i64 y.id := hd 17 (by decide)
                clear hd ha
                simp only [Lf, dstAt, Act.put, List.getElem?_toArray, List.getElem?_cons_zero, List.getElem?_cons_succ, Option.bind_some, List.setIfInBounds_toArray, List.set_cons_zero, List.set_cons_succ]
                simp only [e7, e10, e17]
                clear e7 e10 e17
                go_wp2
                exact ⟨rfl, Ext.refl _, rfl⟩
              · intro vals w1 hx hd ha
                have e4 : vals 4 = .bool false := hd 4 (by decide)
                have e7 : vals 7 = .bool true := hd 7 (by decide)
                have e18 : vals 18 = .bool (decide (x.id ≤ y.id)) := hd 18 (by decide)
                clear hd ha
                simp only [Lf, dstAt, Act.put, List.getElem?_toArray, List.getElem?_cons_zero, List.getElem?_cons_succ, Option.bind_some, List.setIfInBounds_toArray, List.set_cons_zero, List.set_cons_succ]
                simp only [e4, e7, e18]
                clear e4 e7 e18
                go_wp2
                exact ⟨rfl, Ext.refl _, rfl⟩
              · intro vals w1 hx hd ha
                have e4 : vals 4 = .bool false := hd 4 (by decide)
                have e19 : vals 19 = .bool (decide (x.id ≤ y.id)) := hd 19 (by decide)
                clear hd ha
                simp only [Lf, dstAt, Act.put, List.getElem?_toArray, List.getElem?_cons_zero, List.getElem?_cons_succ, Option.bind_some, List.setIfInBounds_toArray, List.set_cons_zero, List.set_cons_succ]
                simp only [e4, e19]
                clear e4 e19
                go_wp2
                exact ⟨rfl, Ext.refl _, rfl⟩
            intro vals w5 hx hf
            have e20 : vals 20 = .bool (decide (x.id ≤ y.id)) := hf 20 (by omega)
            clear hf
            have hx := hx.undrew
            have hB5 := bl_then hB1 hx
            refine tail0 (by kernel_rfl) ?_
            simp only [Lf, dstAt, Act.put, List.getElem?_toArray, List.getElem?_cons_zero, List.getElem?_cons_succ, Option.bind_some, List.setIfInBounds_toArray, List.set_cons_zero, List.set_cons_succ]
            rw [e20]
            clear e20
            by_cases hid : x.id ≤ y.id
            · have hid2 : decide (y.id < x.id) = false := by simp; omega
              have HI := Lib.hid hid2
              clear hid2
              go_wp2
              go_ret
              exact ⟨by rw [HS.out, HP.out]; simp [HI.out], hB5⟩
            · have hid2 : decide (y.id < x.id) = true := by simp; omega
              have HI := Lib.hid hid2
              clear hid2
              go_wp2
              go_roundw
              case rel => exact ⟨k + 1, by omega, by go_num, Lib.hid (by rw [HS.out, HP.out]; simp [HI.out]), hB5⟩
              case measure => simp [intOf]; omega
      · go_wp2
        go_ret
        exact ⟨by rw [HK.out, List.drop_of_length_le (by rw [HL.out]; omega)]; rfl, hB⟩
  · have hd : decide (n ≤ 24) = false := by simpa using hm
    rw [hd, Bool.false_and]
    clear hd
    go_enter Try.func38, Try.ntmps38
    go_wp2
    go_ret
    exact ⟨rfl, (by repeat (first | exact Below.refl _ _ | assumption | refine Below.drew ?_ | refine below_drewN ?_ _ | refine bl_alloc ?_ _ | refine Below.setCell ?_ (by first | (simp; done) | omega | (simp; omega)) _ | refine bl_then ?_ (by assumption)))⟩

theorem validSats_any (l : List St) (A : Option Addr) (n c : Nat) (w : World) (h : RA satCells 21 w w.heap.size A n c l) :
    Calls Try.prog 14 #[.slice A n c] w fun e w' => e = .returned (.bool (satsOK l)) ∧ Below w.heap.size w w' := by
  have hc := isListSt l A n c w h
  generalize satsOK l = r at hc ⊢
  have HC := Lib.hid hc
  clear hc h
  go_enter Try.func14, Try.ntmps14
  go_wp2_with fail
  refine HC.out.mono ?_
  rintro e w' ⟨rfl, hb⟩
  go_wp2
  go_ret
  exact ⟨rfl, hb⟩

end Go.Proofs.Ytlmpmhfbjblhnaa
