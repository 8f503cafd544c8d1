/- order: the places of uses in the order in which they begin. -/
import Derived.Test.YtgbfhkildbhhoaaB2
import Derived.Test.YtgbfhkildbhhoaaA2
namespace Go.Proofs.Ytgbfhkildbhhoaa
open Go.RowKit

theorem isNaN_any (a : Int) (w : World) : Calls Try.prog 75 #[.int .i64 a] w fun e w' => e = .returned (.bool false) ∧ w = w' := by
  go_enter Try.func75, Try.ntmps75
  go_wp2
  go_ret
  exact ⟨rfl, rfl⟩
theorem cmp_any (a b : Int) (w : World) : Calls Try.prog 65 #[.int .i64 a, .int .i64 b] w fun e w' => e = .returned (.int .i64 (cmpI a b)) ∧ w = w' := by
  by_cases h1 : a < b
  · have hc : cmpI a b = -1 := by simp [cmpI, h1]
    rw [hc]
    clear hc
    go_enter Try.func65, Try.ntmps65
    go_wp2_with (go_at_call 75; refine (isNaN_any _ _).mono ?_; rintro e w' ⟨rfl, rfl⟩)
    go_ret
    exact ⟨rfl, rfl⟩
  · by_cases h2 : b < a
    · have hc : cmpI a b = 1 := by simp [cmpI, h1, h2]
      rw [hc]
      clear hc
      go_enter Try.func65, Try.ntmps65
      go_wp2_with (go_at_call 75; refine (isNaN_any _ _).mono ?_; rintro e w' ⟨rfl, rfl⟩)
      go_ret
      exact ⟨rfl, rfl⟩
    · have hc : cmpI a b = 0 := by simp [cmpI, h1, h2]
      rw [hc]
      clear hc
      go_enter Try.func65, Try.ntmps65
      go_wp2_with (go_at_call 75; refine (isNaN_any _ _).mono ?_; rintro e w' ⟨rfl, rfl⟩)
      go_ret
      exact ⟨rfl, rfl⟩

theorem RA.grown {α : Type} {cells : α → List Value} {s : Nat} {w w' : World} {B n c : Nat} {A : Option Addr} {l : List α} (h : RA cells s w B A n c l) {row : Option Nat} (hg : w.grownBy w' row) (hB : B ≤ w.heap.size) (hr : ∀ g, row = some g → B ≤ g) : RA cells s w' B A n c l := ⟨h.rd.grown hg hB hr, h.len, h.cap, h.capM, h.le⟩
theorem frP_at (l : List Use) (k : Nat) (h : k < l.length) : frP l k = l[k].fr := by rw [frP, List.getElem?_eq_getElem h]
theorem ttP_at (l : List Use) (k : Nat) (h : k < l.length) : ttP l k = l[k].tt := by rw [ttP, List.getElem?_eq_getElem h]
/-- A use's minutes in memory. -/
theorem RA.use_at {w : World} {B n c : Nat} {A : Option Addr} {l : List Use} (h : RA useCells 3 w B A n c l) {k : Nat} (hk : k < n) :
    ∃ b o, A = some ⟨b, o, none⟩ ∧ b < B ∧ w.cell? ⟨b, o + k * 3 + 1, none⟩ = some (.int .i64 (frP l k)) ∧ w.cell? ⟨b, o + k * 3 + 2, none⟩ = some (.int .i64 (ttP l k)) := by
  obtain ⟨b, o, hz, hA, hb, hc⟩ := h.at_ use_len hk
  rw [frP_at l k hz, ttP_at l k hz]
  exact ⟨b, o, hA, hb, hc 1 (by omega), hc 2 (by omega)⟩
/-- Does one use begin before another? -/
def begP (l : List Use) (a b : Nat) : Bool := decide (cmpI (frP l a) (frP l b) < 0)
def orderP (l : List Use) : List Nat := sortP (begP l) (List.range l.length)
theorem cmpI_neg (a b : Int) : (cmpI a b < 0) ↔ a < b := by unfold cmpI; split <;> (try split) <;> omega

set_option maxHeartbeats 2000000 in
theorem order2_any (l : List Use) (SA : Option Addr) (n c gb x y : Nat) (W : World) (B : Nat) (hr : RA useCells 3 W B SA n c l) (J : Blk W gb 27 #[.slice SA n c]) (hx : x < n) (hy : y < n) :
    Calls Try.prog 64 #[.int .i64 (x : Int), .int .i64 (y : Int), .pointer (some ⟨gb, 0, none⟩)] W fun e w' => e = .returned (.int .i64 (cmpI (frP l x) (frP l y))) ∧ Below W.heap.size W w' := by
  obtain ⟨b, o, hA, hb, cx, -⟩ := hr.use_at hx
  obtain ⟨b', o', hA', -, cy, -⟩ := hr.use_at hy
  rw [hA] at hA'
  injection hA' with hA'
  injection hA' with e1 e2 _
  subst e1 e2 hA
  have hle := hr.le
  clear hr hb
  generalize frP l x = p at cx ⊢
  generalize frP l y = q at cy ⊢
  have hC := fun w => cmp_any p q w
  generalize cmpI p q = cv at hC ⊢
  have HC := Lib.hid hC
  clear hC
  have cb := J.cell 0
  rw [show (#[Value.slice (some ⟨b, o, none⟩) n c])[0]? = some (.slice (some ⟨b, o, none⟩) n c) from rfl] at cb
  clear J
  have hxn : (x : Int) < n := by omega
  have hyn : (y : Int) < n := by omega
  go_enter Try.func64, Try.ntmps64
  go_wp2_with fail
  refine wp_region_obl 13 (fun ix vals v w1 => match ix with | 0 => v = .slice (some ⟨b, o, none⟩) n c | 1 => v = .int .i64 (x : Int) | 2 => v = .pointer (some ⟨b, o + x * 3, none⟩) | 3 => v = .pointer (some ⟨b, o + x * 3 + 1, none⟩) | 4 => v = .pointer (some ⟨b, o + x * 3 + 1, none⟩) | 5 => v = .int .i64 p | 6 => v = .slice (some ⟨b, o, none⟩) n c | 7 => v = .int .i64 (y : Int) | 8 => v = .pointer (some ⟨b, o + y * 3, none⟩) | 9 => v = .pointer (some ⟨b, o + y * 3 + 1, none⟩) | 10 => v = .pointer (some ⟨b, o + y * 3 + 1, none⟩) | 11 => v = .int .i64 q | _ => v = .int .i64 cv) (by kernel_rfl) (by kernel_rfl) ?_ ?_ ?_ ?_
  · intro ix vals v w1 w2 hi hr hx
    match ix, hr with
    | 0, hr => exact hr
    | 1, hr => exact hr
    | 2, hr => exact hr
    | 3, hr => exact hr
    | 4, hr => exact hr
    | 5, hr => exact hr
    | 6, hr => exact hr
    | 7, hr => exact hr
    | 8, hr => exact hr
    | 9, hr => exact hr
    | 10, hr => exact hr
    | 11, hr => exact hr
    | (kx + 12), hr => exact hr
  · intro ix vals vals_ v w1 hi hv hr
    exact hr
  · refine ⟨?_, ?_, ?_, ?_, ?_, ?_, ?_, ?_, ?_, ?_, ?_, ?_, ?_, trivial⟩
    · intro vals w1 hx hd ha
      clear hd ha
      simp only [Lf]
      have cb := ext_cell hx cb
      go_wp2
      exact ⟨rfl, Ext.refl _, rfl⟩
    · intro vals w1 hx hd ha
      clear hd ha
      simp only [Lf, dstAt, Act.put, List.getElem?_toArray, List.getElem?_cons_zero, Option.bind_some, List.setIfInBounds_toArray, List.set_cons_zero, List.set_cons_succ]
      go_wp2
      exact ⟨rfl, Ext.refl _, rfl⟩
    · intro vals w1 hx hd ha
      have e0 : vals 0 = .slice (some ⟨b, o, none⟩) n c := hd 0 (by decide)
      have e1 : vals 1 = .int .i64 (x : Int) := hd 1 (by decide)
      clear hd ha
      simp only [Lf, dstAt, Act.put, List.getElem?_toArray, List.getElem?_cons_zero, List.getElem?_cons_succ, Option.bind_some, List.setIfInBounds_toArray, List.set_cons_zero, List.set_cons_succ]
      simp only [e0, e1]
      clear e0 e1
      go_wp2
      exact ⟨rfl, Ext.refl _, rfl⟩
    · intro vals w1 hx hd ha
      have e2 : vals 2 = .pointer (some ⟨b, o + x * 3, none⟩) := hd 2 (by decide)
      clear hd ha
      simp only [Lf, dstAt, Act.put, List.getElem?_toArray, List.getElem?_cons_zero, List.getElem?_cons_succ, Option.bind_some, List.setIfInBounds_toArray, List.set_cons_zero, List.set_cons_succ]
      simp only [e2]
      clear e2
      go_wp2
      exact ⟨rfl, Ext.refl _, rfl⟩
    · intro vals w1 hx hd ha
      have e3 : vals 3 = .pointer (some ⟨b, o + x * 3 + 1, none⟩) := hd 3 (by decide)
      clear hd ha
      simp only [Lf, dstAt, Act.put, List.getElem?_toArray, List.getElem?_cons_zero, List.getElem?_cons_succ, Option.bind_some, List.setIfInBounds_toArray, List.set_cons_zero, List.set_cons_succ]
      simp only [e3]
      clear e3
      go_wp2
      exact ⟨rfl, Ext.refl _, rfl⟩
    · intro vals w1 hx hd ha
      have e4 : vals 4 = .pointer (some ⟨b, o + x * 3 + 1, none⟩) := hd 4 (by decide)
      clear hd ha
      simp only [Lf, dstAt, Act.put, List.getElem?_toArray, List.getElem?_cons_zero, List.getElem?_cons_succ, Option.bind_some, List.setIfInBounds_toArray, List.set_cons_zero, List.set_cons_succ]
      simp only [e4]
      clear e4
      have cx := ext_cell hx cx
      go_wp2
      exact ⟨rfl, Ext.refl _, rfl⟩
    · intro vals w1 hx hd ha
      clear hd ha
      simp only [Lf, dstAt, Act.put, List.getElem?_toArray, List.getElem?_cons_zero, List.getElem?_cons_succ, Option.bind_some, List.setIfInBounds_toArray, List.set_cons_zero, List.set_cons_succ]
      have cb := ext_cell hx cb
      go_wp2
      exact ⟨rfl, Ext.refl _, rfl⟩
    · intro vals w1 hx hd ha
      clear hd ha
      simp only [Lf, dstAt, Act.put, List.getElem?_toArray, List.getElem?_cons_zero, List.getElem?_cons_succ, Option.bind_some, List.setIfInBounds_toArray, List.set_cons_zero, List.set_cons_succ]
      go_wp2
      exact ⟨rfl, Ext.refl _, rfl⟩
    · intro vals w1 hx hd ha
      have e6 : vals 6 = .slice (some ⟨b, o, none⟩) n c := hd 6 (by decide)
      have e7 : vals 7 = .int .i64 (y : Int) := hd 7 (by decide)
      clear hd ha
      simp only [Lf, dstAt, Act.put, List.getElem?_toArray, List.getElem?_cons_zero, List.getElem?_cons_succ, Option.bind_some, List.setIfInBounds_toArray, List.set_cons_zero, List.set_cons_succ]
      simp only [e6, e7]
      clear e6 e7
      go_wp2
      exact ⟨rfl, Ext.refl _, rfl⟩
    · intro vals w1 hx hd ha
      have e8 : vals 8 = .pointer (some ⟨b, o + y * 3, none⟩) := hd 8 (by decide)
      clear hd ha
      simp only [Lf, dstAt, Act.put, List.getElem?_toArray, List.getElem?_cons_zero, List.getElem?_cons_succ, Option.bind_some, List.setIfInBounds_toArray, List.set_cons_zero, List.set_cons_succ]
      simp only [e8]
      clear e8
      go_wp2
      exact ⟨rfl, Ext.refl _, rfl⟩
    · intro vals w1 hx hd ha
      have e9 : vals 9 = .pointer (some ⟨b, o + y * 3 + 1, none⟩) := hd 9 (by decide)
      clear hd ha
      simp only [Lf, dstAt, Act.put, List.getElem?_toArray, List.getElem?_cons_zero, List.getElem?_cons_succ, Option.bind_some, List.setIfInBounds_toArray, List.set_cons_zero, List.set_cons_succ]
      simp only [e9]
      clear e9
      go_wp2
      exact ⟨rfl, Ext.refl _, rfl⟩
    · intro vals w1 hx hd ha
      have e10 : vals 10 = .pointer (some ⟨b, o + y * 3 + 1, none⟩) := hd 10 (by decide)
      clear hd ha
      simp only [Lf, dstAt, Act.put, List.getElem?_toArray, List.getElem?_cons_zero, List.getElem?_cons_succ, Option.bind_some, List.setIfInBounds_toArray, List.set_cons_zero, List.set_cons_succ]
      simp only [e10]
      clear e10
      have cy := ext_cell hx cy
      go_wp2
      exact ⟨rfl, Ext.refl _, rfl⟩
    · intro vals w1 hx hd ha
      have e5 : vals 5 = .int .i64 p := hd 5 (by decide)
      have e11 : vals 11 = .int .i64 q := hd 11 (by decide)
      clear hd ha
      simp only [Lf, dstAt, Act.put, List.getElem?_toArray, List.getElem?_cons_zero, List.getElem?_cons_succ, Option.bind_some, List.setIfInBounds_toArray, List.set_cons_zero, List.set_cons_succ]
      simp only [e5]
      simp only [e11]
      clear e5 e11
      go_wp2_with fail
      refine (HC.out _).mono ?_
      rintro e w2 ⟨rfl, rfl⟩
      go_wp2
      exact ⟨rfl, Ext.refl _, rfl⟩
  intro vals w5 hx5 hf
  have e12 : vals 12 = .int .i64 cv := hf 12 (by omega)
  clear hf
  have hx5 := hx5.undrew
  refine tail1 13 _ (by kernel_rfl) (by kernel_rfl) rfl ?_
  simp only [Lf, dstAt, Act.put, List.getElem?_toArray, List.getElem?_cons_zero, List.getElem?_cons_succ, Option.bind_some, List.setIfInBounds_toArray, List.set_cons_zero, List.set_cons_succ]
  rw [e12]
  go_wp2
  go_ret
  exact ⟨rfl, hx5⟩

/-- How many uses the sort is shown for. -/
def mxS : Nat := 19
theorem order_mem (l : List Use) : ∀ i ∈ orderP l, i < l.length := fun i hi => by rw [orderP, mem_sortP] at hi; exact List.mem_range.1 hi
theorem order_len (l : List Use) : (orderP l).length = l.length := by rw [orderP, length_sortP, List.length_range]

set_option maxHeartbeats 2000000 in
theorem order_any (l : List Use) (SA : Option Addr) (n c : Nat) (w : World) (hr : RA useCells 3 w w.heap.size SA n c l) (hn : n ≤ mxS) :
    Calls Try.prog 37 #[.slice SA n c] w (ListRet natCells 1 3 (orderP l) w) := by
  have hn : n < 20 := by have : n ≤ 19 := hn; omega
  have hI := fun (W : World) (hW : Ext w W) => indices_any 62 #[] (fun _ => true) l SA n c W ((hr.below hW).more (Below.size hW)) (by omega) (enters_fn Try.func62 (by kernel_rfl) rfl) (fun u W2 _ => order1_any u.sat u.fr u.tt W2)
  have hid : idxP (fun _ => true) l 0 = List.range n := by rw [idxP_all, List.range_eq_range', hr.len]
  have hol : orderP l = sortP (begP l) (List.range n) := by rw [orderP, hr.len]
  have hlen : (orderP l).length = n := by rw [hol, length_sortP, List.length_range]
  have HI := Lib.hid hI
  have HR := Lib.hid hr
  have HOL := Lib.hid hol
  have HID := Lib.hid hid
  have HLEN := Lib.hid hlen
  clear hI hr hid hol hlen
  go_enter Try.func37, Try.ntmps37
  go_wp2_with fail
  have hx : Ext w (w.alloc (.cells #[.slice SA n c] 27)) := bl_alloc (Below.refl _ _) _
  have J : Blk (w.alloc (.cells #[.slice SA n c] 27)) w.heap.size 27 #[.slice SA n c] := Blk.new _ _ _
  obtain ⟨gb, hgb⟩ : ∃ g, g = w.heap.size := ⟨_, rfl⟩
  have hlt := J.lt
  rw [← hgb] at J hlt ⊢
  generalize w.alloc (.cells #[.slice SA n c] 27) = W1 at hx J hlt ⊢
  clear hgb
  refine (HI.out _ hx).mono ?_
  rintro e W2 ⟨v, rfl, hown, hy⟩
  rw [HID.out, List.length_range] at hown
  have J2 := J.ext hy
  have hs2 := Below.size hy
  have hw2 := Ext.trans hx hy
  have HJ := Lib.hid J2
  clear J J2
  rcases hown.2 with ⟨hv, hn0⟩ | ⟨g, cap, cur, hv, hb, hg, h1, h2, h3, h4⟩
  · subst hv hn0
    have hown2 : W2.ownsRow w.heap.size 3 1 (.slice none 0 0) (orderP l).length ((orderP l).flatMap natCells) := by
      have : orderP l = [] := List.eq_nil_of_length_eq_zero HLEN.out
      rw [this]
      exact World.ownsRow_nil _ _ _ _
    have HO := Lib.hid hown2
    clear hown hown2 HI HID
    go_wp2_with (go_at_call 63; refine (sort_nil _ _ _).mono ?_; rintro e w' ⟨rfl, rfl⟩)
    go_ret
    exact ⟨_, rfl, HO.out, hw2⟩
  · subst hv
    have hrow : RowS natCells 1 W1.heap.size 3 g n cap W2 (List.range n) := ⟨List.length_range, hown⟩
    have hcmp : CmpW 64 #[.pointer (some ⟨gb, 0, none⟩)] (fun a b => cmpI (frP l a) (frP l b)) (List.range n) g W2 := fun x hx_ y hy_ W hW => by
      have hrr : RA useCells 3 W w.heap.size SA n c l := (HR.out.below hw2).grown hW (by have := Below.size hw2; omega) (fun g' e => by injection e with e; subst e; have := Below.size hx; omega)
      exact order2_any l SA n c gb x y W _ hrr (HJ.out.grown hW (fun e => by injection e with e; omega)) (List.mem_range.1 hx_) (List.mem_range.1 hy_)
    have hs := sort_small 64 #[.pointer (some ⟨gb, 0, none⟩)] _ (enters_fn Try.func64 (by kernel_rfl) rfl) W1.heap.size g n cap (List.range n) W2 hcmp hrow hn
    have HS := Lib.hid hs
    clear hs hcmp hrow hown HI h1 h2 h3 h4 hg HJ HID
    have hbase : w.heap.size ≤ g := by have := Below.size hx; omega
    go_wp2_with fail
    refine HS.out.mono ?_
    rintro e W3 ⟨rfl, hrow, hgr⟩
    have hrow' := hrow.2
    have hfin : W3.ownsRow w.heap.size 3 1 (.slice (some ⟨g, 0, none⟩) n cap) (orderP l).length ((orderP l).flatMap natCells) := by
      rw [HLEN.out, HOL.out]
      exact own_base hrow' (Below.size hx)
    have hx3 : Ext w W3 := hw2.grown hgr (Below.size hw2) (fun q e => by injection e with e; omega)
    have HF := Lib.hid hfin
    clear hrow hgr hfin hrow' HS
    go_wp2
    go_ret
    exact ⟨_, rfl, HF.out, hx3⟩
end Go.Proofs.Ytgbfhkildbhhoaa
