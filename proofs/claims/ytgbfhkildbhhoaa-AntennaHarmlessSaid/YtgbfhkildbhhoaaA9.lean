/- Lists of lists; IndexFunc, ContainsFunc, Index, Contains; the closures of Rows (printed by antenna_a9.py). -/
import Derived.Test.YtgbfhkildbhhoaaA8
import Derived.Test.YtgbfhkildbhhoaaA3
namespace Go.Proofs.Ytgbfhkildbhhoaa
open Go.RowKit

/-- A slice of numbers, with what it holds. -/
structure Row where
  a : Option Addr
  n : Nat
  c : Nat
  l : List Nat
def rowCells (r : Row) : List Value := [.slice r.a r.n r.c]
theorem row_len (x : Row) : (rowCells x).length = 1 := rfl
theorem idxRow (K : Nat) (caps : Array Value) (q : Row → Bool) (l : List Row) (SA : Option Addr) (n c : Nat) (w : World) (hr : RA rowCells 1 w w.heap.size SA n c l) (hn : n ≤ 1000) (hent : ∀ args w, (callFunc K args).run Try.prog w = .ok (.enter K args) w)
    (hk : ∀ u ∈ l, ∀ W : World, Ext w W → Calls Try.prog K (#[.slice u.a u.n u.c] ++ caps) W fun e w' => e = .returned (.bool (q u)) ∧ Ext W w') :
    Calls Try.prog 66 #[.slice SA n c, .func (.func K) #[] caps] w fun e w' => e = .returned (.int .i64 (idxA q l 0)) ∧ Ext w w' := by
  have HK := Lib.hid hk
  have HR := Lib.hid hr
  have HL := Lib.hid hr.len
  clear hk hr
  go_enter Try.func66, Try.ntmps66
  go_wp2
  go_loopw [8] (fun y wr => ∃ k : Nat, k ≤ n ∧ y = .int .i64 k ∧ Hid (idxA q l 0 = idxA q (l.drop k) k) ∧ Ext w wr) (fun y _ => n - (intOf y).toNat)
  case atStart => exact ⟨0, Nat.zero_le _, rfl, Lib.hid rfl, Ext.refl _⟩
  case round =>
    obtain ⟨k, hk, rfl, H, hx⟩ := hrel
    by_cases hkn : k < n
    · obtain ⟨gb, go, hz, hA, _, hc⟩ := (HR.out.below hx).at_ row_len hkn
      have hst := idxA_drop q l k hz
      rw [← H.out] at hst
      have hcl := fun W h => HK.out l[k] (List.getElem_mem hz) W h
      generalize l[k] = u at hc hst hcl
      obtain ⟨ua, un, uc, ul⟩ := u
      dsimp only at hcl
      have d0 : wr.cell? ⟨gb, go + k * 1, none⟩ = some (.slice ua un uc) := hc 0 (by omega)
      rw [Nat.mul_one] at d0
      generalize q ⟨ua, un, uc, ul⟩ = b at hst hcl
      have HCL := Lib.hid hcl
      have HST := Lib.hid hst
      clear hc hst hcl hz H
      subst hA
      go_wp2_with fail
      refine (HCL.out _ hx).mono ?_
      rintro e W2 ⟨rfl, hy⟩
      have hx := Ext.trans hx hy
      clear hy d0
      cases b
      · go_wp2
        go_roundw
        case rel => exact ⟨k + 1, by omega, by go_num, Lib.hid (by rw [HST.out]; simp), hx⟩
        case measure => simp [intOf]; omega
      · go_wp2
        go_ret
        exact ⟨by rw [HST.out]; simp, hx⟩
    · have he : idxA q l 0 = -1 := by rw [H.out, List.drop_of_length_le (by rw [HL.out]; omega)]; rfl
      have HE := Lib.hid he
      clear he H
      go_wp2
      go_ret
      exact ⟨by rw [HE.out]; rfl, hx⟩
theorem conRow (K : Nat) (caps : Array Value) (q : Row → Bool) (l : List Row) (SA : Option Addr) (n c : Nat) (w : World) (hr : RA rowCells 1 w w.heap.size SA n c l) (hn : n ≤ 1000) (hent : ∀ args w, (callFunc K args).run Try.prog w = .ok (.enter K args) w)
    (hk : ∀ u ∈ l, ∀ W : World, Ext w W → Calls Try.prog K (#[.slice u.a u.n u.c] ++ caps) W fun e w' => e = .returned (.bool (q u)) ∧ Ext W w') :
    Calls Try.prog 41 #[.slice SA n c, .func (.func K) #[] caps] w fun e w' => e = .returned (.bool (l.any q)) ∧ Ext w w' := by
  have HI := Lib.hid (idxRow K caps q l SA n c w hr hn hent hk)
  have hb : l.any q = decide (0 ≤ idxA q l 0) := by rw [Bool.eq_iff_iff, decide_eq_true_eq, idxA_any q l 0 (Int.le_refl 0)]
  rw [hb]
  generalize idxA q l 0 = v at HI ⊢
  clear hb hr hk
  go_enter Try.func41, Try.ntmps41
  go_wp2_with fail
  refine HI.out.mono ?_
  rintro e W ⟨rfl, hx⟩
  go_wp2
  go_ret
  exact ⟨rfl, hx⟩
theorem idxNat (K : Nat) (caps : Array Value) (q : Nat → Bool) (l : List Nat) (SA : Option Addr) (n c : Nat) (w : World) (hr : RA natCells 1 w w.heap.size SA n c l) (hn : n ≤ 1000) (hent : ∀ args w, (callFunc K args).run Try.prog w = .ok (.enter K args) w)
    (hk : ∀ u ∈ l, ∀ W : World, Ext w W → Calls Try.prog K (#[.int .i64 (u : Int)] ++ caps) W fun e w' => e = .returned (.bool (q u)) ∧ Ext W w') :
    Calls Try.prog 67 #[.slice SA n c, .func (.func K) #[] caps] w fun e w' => e = .returned (.int .i64 (idxA q l 0)) ∧ Ext w w' := by
  have HK := Lib.hid hk
  have HR := Lib.hid hr
  have HL := Lib.hid hr.len
  clear hk hr
  go_enter Try.func67, Try.ntmps67
  go_wp2
  go_loopw [8] (fun y wr => ∃ k : Nat, k ≤ n ∧ y = .int .i64 k ∧ Hid (idxA q l 0 = idxA q (l.drop k) k) ∧ Ext w wr) (fun y _ => n - (intOf y).toNat)
  case atStart => exact ⟨0, Nat.zero_le _, rfl, Lib.hid rfl, Ext.refl _⟩
  case round =>
    obtain ⟨k, hk, rfl, H, hx⟩ := hrel
    by_cases hkn : k < n
    · obtain ⟨gb, go, hz, hA, _, hc⟩ := (HR.out.below hx).at_ nat_len hkn
      have hst := idxA_drop q l k hz
      rw [← H.out] at hst
      have hcl := fun W h => HK.out l[k] (List.getElem_mem hz) W h
      generalize l[k] = u at hc hst hcl
      have d0 : wr.cell? ⟨gb, go + k * 1, none⟩ = some (.int .i64 (u : Int)) := hc 0 (by omega)
      rw [Nat.mul_one] at d0
      generalize q u = b at hst hcl
      have HCL := Lib.hid hcl
      have HST := Lib.hid hst
      clear hc hst hcl hz H
      subst hA
      go_wp2_with fail
      refine (HCL.out _ hx).mono ?_
      rintro e W2 ⟨rfl, hy⟩
      have hx := Ext.trans hx hy
      clear hy d0
      cases b
      · go_wp2
        go_roundw
        case rel => exact ⟨k + 1, by omega, by go_num, Lib.hid (by rw [HST.out]; simp), hx⟩
        case measure => simp [intOf]; omega
      · go_wp2
        go_ret
        exact ⟨by rw [HST.out]; simp, hx⟩
    · have he : idxA q l 0 = -1 := by rw [H.out, List.drop_of_length_le (by rw [HL.out]; omega)]; rfl
      have HE := Lib.hid he
      clear he H
      go_wp2
      go_ret
      exact ⟨by rw [HE.out]; rfl, hx⟩
theorem conNat (K : Nat) (caps : Array Value) (q : Nat → Bool) (l : List Nat) (SA : Option Addr) (n c : Nat) (w : World) (hr : RA natCells 1 w w.heap.size SA n c l) (hn : n ≤ 1000) (hent : ∀ args w, (callFunc K args).run Try.prog w = .ok (.enter K args) w)
    (hk : ∀ u ∈ l, ∀ W : World, Ext w W → Calls Try.prog K (#[.int .i64 (u : Int)] ++ caps) W fun e w' => e = .returned (.bool (q u)) ∧ Ext W w') :
    Calls Try.prog 43 #[.slice SA n c, .func (.func K) #[] caps] w fun e w' => e = .returned (.bool (l.any q)) ∧ Ext w w' := by
  have HI := Lib.hid (idxNat K caps q l SA n c w hr hn hent hk)
  have hb : l.any q = decide (0 ≤ idxA q l 0) := by rw [Bool.eq_iff_iff, decide_eq_true_eq, idxA_any q l 0 (Int.le_refl 0)]
  rw [hb]
  generalize idxA q l 0 = v at HI ⊢
  clear hb hr hk
  go_enter Try.func43, Try.ntmps43
  go_wp2_with fail
  refine HI.out.mono ?_
  rintro e W ⟨rfl, hx⟩
  go_wp2
  go_ret
  exact ⟨rfl, hx⟩
theorem index_int (x : Nat) (l : List Nat) (SA : Option Addr) (n c : Nat) (w : World) (hr : RA natCells 1 w w.heap.size SA n c l) (hn : n ≤ 1000) :
    Calls Try.prog 68 #[.slice SA n c, .int .i64 (x : Int)] w fun e w' => e = .returned (.int .i64 (idxA (fun y => decide (x = y)) l 0)) ∧ Ext w w' := by
  have HR := Lib.hid hr
  have HL := Lib.hid hr.len
  clear hr
  go_enter Try.func68, Try.ntmps68
  go_wp2
  go_loopw [8] (fun y wr => ∃ k : Nat, k ≤ n ∧ y = .int .i64 k ∧ Hid (idxA (fun y => decide (x = y)) l 0 = idxA (fun y => decide (x = y)) (l.drop k) k) ∧ Ext w wr) (fun y _ => n - (intOf y).toNat)
  case atStart => exact ⟨0, Nat.zero_le _, rfl, Lib.hid rfl, Ext.refl _⟩
  case round =>
    obtain ⟨k, hk, rfl, H, hx⟩ := hrel
    by_cases hkn : k < n
    · obtain ⟨gb, go, hz, hA, _, hc⟩ := (HR.out.below hx).at_ nat_len hkn
      have hst := idxA_drop (fun y => decide (x = y)) l k hz
      rw [← H.out] at hst
      generalize l[k] = u at hc hst
      have d0 : wr.cell? ⟨gb, go + k * 1, none⟩ = some (.int .i64 (u : Int)) := hc 0 (by omega)
      rw [Nat.mul_one] at d0
      subst hA
      by_cases hxu : x = u
      · rw [if_pos (by simp [hxu])] at hst
        have HST := Lib.hid hst
        have hb : ((x : Int) == (u : Int)) = true := by simp [hxu]
        have hb2 : (x : Int) = (u : Int) := by omega
        clear hc hst hz H hxu
        go_wp2
        go_ret
        exact ⟨by rw [HST.out]; rfl, hx⟩
      · rw [if_neg (by simp [hxu])] at hst
        have HST := Lib.hid hst
        have hb : ((x : Int) == (u : Int)) = false := by simp; omega
        have hb2 : ¬ (x : Int) = (u : Int) := by omega
        clear hc hst hz H
        go_wp2
        go_roundw
        case rel => exact ⟨k + 1, by omega, by go_num, Lib.hid (by rw [HST.out]), hx⟩
        case measure => simp [intOf]; omega
    · have he : idxA (fun y => decide (x = y)) l 0 = -1 := by rw [H.out, List.drop_of_length_le (by rw [HL.out]; omega)]; rfl
      have HE := Lib.hid he
      clear he H
      go_wp2
      go_ret
      exact ⟨by rw [HE.out]; rfl, hx⟩
theorem contains_int (x : Nat) (l : List Nat) (SA : Option Addr) (n c : Nat) (w : World) (hr : RA natCells 1 w w.heap.size SA n c l) (hn : n ≤ 1000) :
    Calls Try.prog 45 #[.slice SA n c, .int .i64 (x : Int)] w fun e w' => e = .returned (.bool (l.any fun y => decide (x = y))) ∧ Ext w w' := by
  have HI := Lib.hid (index_int x l SA n c w hr hn)
  have hb : (l.any fun y => decide (x = y)) = decide (0 ≤ idxA (fun y => decide (x = y)) l 0) := by rw [Bool.eq_iff_iff, decide_eq_true_eq, idxA_any _ l 0 (Int.le_refl 0)]
  rw [hb]
  generalize idxA (fun y => decide (x = y)) l 0 = v at HI ⊢
  clear hb hr
  go_enter Try.func45, Try.ntmps45
  go_wp2_with fail
  refine HI.out.mono ?_
  rintro e W ⟨rfl, hx⟩
  go_wp2
  go_ret
  exact ⟨rfl, hx⟩

/-- Is one list part of another, longer one? -/
def insideP (a b : List Nat) : Bool := decide (a.length < b.length) && !(a.any fun x => !(b.any fun y => decide (x = y)))
theorem rows111_any (x : Nat) (b : Row) (gb : Nat) (w : World) (hb : Blk w gb 28 #[.slice b.a b.n b.c]) (hr : RA natCells 1 w w.heap.size b.a b.n b.c b.l) (hn : b.n ≤ 1000) :
    Calls Try.prog 44 #[.int .i64 (x : Int), .pointer (some ⟨gb, 0, none⟩)] w fun e w' => e = .returned (.bool (!(b.l.any fun y => decide (x = y)))) ∧ Ext w w' := by
  obtain ⟨ba, bn, bc, bl⟩ := b
  dsimp only at hb hr hn ⊢
  have HC := Lib.hid (contains_int x bl ba bn bc w hr hn)
  have d0 : w.cell? ⟨gb, 0, none⟩ = some (.slice ba bn bc) := hb.cell 0
  clear hb hr
  generalize (bl.any fun y => decide (x = y)) = q at HC ⊢
  go_enter Try.func44, Try.ntmps44
  go_wp2_with fail
  refine HC.out.mono ?_
  rintro e W ⟨rfl, hx⟩
  clear d0
  go_wp2
  go_ret
  exact ⟨rfl, hx⟩
set_option maxHeartbeats 2000000 in
theorem rows11_any (a b : Row) (ga : Nat) (w : World) (ha : Blk w ga 28 #[.slice a.a a.n a.c]) (hra : RA natCells 1 w w.heap.size a.a a.n a.c a.l) (hrb : RA natCells 1 w w.heap.size b.a b.n b.c b.l) (hna : a.n ≤ 1000) (hnb : b.n ≤ 1000) :
    Calls Try.prog 42 #[.slice b.a b.n b.c, .pointer (some ⟨ga, 0, none⟩)] w fun e w' => e = .returned (.bool (insideP a.l b.l)) ∧ Ext w w' := by
  have hcon := fun (gb : Nat) (W : World) (hW : Ext w W) (hb : Blk W gb 28 #[.slice b.a b.n b.c]) => conNat 44 #[.pointer (some ⟨gb, 0, none⟩)] (fun x => !(b.l.any fun y => decide (x = y))) a.l a.a a.n a.c W ((hra.below hW).more (Below.size hW)) hna (enters_fn Try.func44 (by kernel_rfl) rfl) (fun x _ W2 h => rows111_any x b gb W2 (hb.ext h) ((hrb.below (Ext.trans hW h)).more (Below.size (Ext.trans hW h))) hnb)
  have hi : insideP a.l b.l = (decide (a.n < b.n) && !(a.l.any fun x => !(b.l.any fun y => decide (x = y)))) := by rw [insideP, hra.len, hrb.len]
  rw [hi]
  clear hi hra hrb hna hnb
  obtain ⟨aa, an, ac, al⟩ := a
  obtain ⟨ba, bn, bc, bl⟩ := b
  dsimp only at ha hcon ⊢
  generalize (al.any fun x => !(bl.any fun y => decide (x = y))) = q at hcon ⊢
  have HC := Lib.hid hcon
  clear hcon
  by_cases hlt : an < bn
  · have h1 : (an : Int) < (bn : Int) := by omega
    have h2 : decide (an < bn) = true := by simpa using hlt
    rw [h2, Bool.true_and]
    clear h2
    go_enter Try.func42, Try.ntmps42
    go_upto_region 1 with (fail)
    have hx : Ext w (w.alloc (.cells #[.slice ba bn bc] 28)) := bl_alloc (Below.refl _ _) _
    have J : Blk (w.alloc (.cells #[.slice ba bn bc] 28)) w.heap.size 28 #[.slice ba bn bc] := Blk.new _ _ _
    have ha := ha.ext hx
    generalize w.heap.size = gb at J ⊢
    generalize w.alloc (.cells #[.slice ba bn bc] 28) = W1 at hx J ha ⊢
    have d0 : W1.cell? ⟨gb, 0, none⟩ = some (.slice ba bn bc) := J.cell 0
    have d1 : W1.cell? ⟨ga, 0, none⟩ = some (.slice aa an ac) := ha.cell 0
    have HJ := Lib.hid J
    clear J ha
    go_wp2_with fail
    refine (HC.out gb W1 hx HJ.out).mono ?_
    rintro e W ⟨rfl, hy⟩
    have hx := Ext.trans hx hy
    clear d0 d1 hy
    go_wp2
    go_ret
    exact ⟨rfl, hx⟩
  · have h1 : ¬ (an : Int) < (bn : Int) := by omega
    have h2 : decide (an < bn) = false := by simpa using hlt
    rw [h2, Bool.false_and]
    clear h2
    go_enter Try.func42, Try.ntmps42
    go_upto_region 1 with (fail)
    have hx : Ext w (w.alloc (.cells #[.slice ba bn bc] 28)) := bl_alloc (Below.refl _ _) _
    have J : Blk (w.alloc (.cells #[.slice ba bn bc] 28)) w.heap.size 28 #[.slice ba bn bc] := Blk.new _ _ _
    have ha := ha.ext hx
    generalize w.heap.size = gb at J ⊢
    generalize w.alloc (.cells #[.slice ba bn bc] 28) = W1 at hx J ha ⊢
    have d0 : W1.cell? ⟨gb, 0, none⟩ = some (.slice ba bn bc) := J.cell 0
    have d1 : W1.cell? ⟨ga, 0, none⟩ = some (.slice aa an ac) := ha.cell 0
    clear J ha HC
    go_wp2
    go_ret
    exact ⟨rfl, hx⟩
/-- Lists of lists, below a block. -/
structure Rws (w : World) (B : Nat) (A : Option Addr) (n c : Nat) (rs : List Row) : Prop where
  out : RA rowCells 1 w B A n c rs
  each : ∀ r ∈ rs, RA natCells 1 w B r.a r.n r.c r.l ∧ r.n ≤ 1000
theorem Rws.below {w w' : World} {B n c : Nat} {A : Option Addr} {rs : List Row} (h : Rws w B A n c rs) (hb : Below B w w') : Rws w' B A n c rs := ⟨h.out.below hb, fun r hr => ⟨(h.each r hr).1.below hb, (h.each r hr).2⟩⟩
theorem Rws.more {w : World} {B B' n c : Nat} {A : Option Addr} {rs : List Row} (h : Rws w B A n c rs) (hb : B ≤ B') : Rws w B' A n c rs := ⟨h.out.more hb, fun r hr => ⟨(h.each r hr).1.more hb, (h.each r hr).2⟩⟩
set_option maxHeartbeats 2000000 in
theorem rows1_any (a : Row) (rs : List Row) (A : Option Addr) (n c gs : Nat) (w : World) (hs : Blk w gs 42 #[.slice A n c]) (hra : RA natCells 1 w w.heap.size a.a a.n a.c a.l) (hna : a.n ≤ 1000) (hrs : Rws w w.heap.size A n c rs) (hn : n ≤ 1000) :
    Calls Try.prog 40 #[.slice a.a a.n a.c, .pointer (some ⟨gs, 0, none⟩)] w fun e w' => e = .returned (.bool (rs.any fun b => insideP a.l b.l)) ∧ Ext w w' := by
  have hcon := fun (ga : Nat) (W : World) (hW : Ext w W) (ha : Blk W ga 28 #[.slice a.a a.n a.c]) => conRow 42 #[.pointer (some ⟨ga, 0, none⟩)] (fun b => insideP a.l b.l) rs A n c W ((hrs.out.below hW).more (Below.size hW)) hn (enters_fn Try.func42 (by kernel_rfl) rfl) (fun b hb W2 h => rows11_any a b ga W2 (ha.ext h) ((hra.below (Ext.trans hW h)).more (Below.size (Ext.trans hW h))) (((hrs.each b hb).1.below (Ext.trans hW h)).more (Below.size (Ext.trans hW h))) hna (hrs.each b hb).2)
  clear hra hrs hna hn
  obtain ⟨aa, an, ac, al⟩ := a
  dsimp only at hcon ⊢
  generalize (rs.any fun b => insideP al b.l) = q at hcon ⊢
  have HC := Lib.hid hcon
  clear hcon
  go_enter Try.func40, Try.ntmps40
  go_upto_region 1 with (fail)
  have hx : Ext w (w.alloc (.cells #[.slice aa an ac] 28)) := bl_alloc (Below.refl _ _) _
  have J : Blk (w.alloc (.cells #[.slice aa an ac] 28)) w.heap.size 28 #[.slice aa an ac] := Blk.new _ _ _
  have hs := hs.ext hx
  generalize w.heap.size = ga at J ⊢
  generalize w.alloc (.cells #[.slice aa an ac] 28) = W1 at hx J hs ⊢
  have d1 : W1.cell? ⟨gs, 0, none⟩ = some (.slice A n c) := hs.cell 0
  have HJ := Lib.hid J
  clear J hs
  go_wp2_with fail
  refine (HC.out ga W1 hx HJ.out).mono ?_
  rintro e W ⟨rfl, hy⟩
  have hx := Ext.trans hx hy
  clear d1 hy
  go_wp2
  go_ret
  exact ⟨rfl, hx⟩
end Go.Proofs.Ytgbfhkildbhhoaa
