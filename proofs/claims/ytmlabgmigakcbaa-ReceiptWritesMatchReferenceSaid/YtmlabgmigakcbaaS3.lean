/- Delivered. -/
import Derived.Test.YtmlabgmigakcbaaS2
import Derived.Test.YtmlabgmigakcbaaI2
import Derived.Shelf.Abstract
namespace Go.Proofs.Ytmlabgmigakcbaa
open Go.RowKit

def evtL (fl : List FteP) : List Evt := (fl.filter (fun f => f.st == 1)).map (fun f => ⟨f.tt, f.im⟩)
def delP (fl : List FteP) : List Evt := sortP (ltOf cmpEvt) (evtL fl)
theorem evtL_snoc (l : List FteP) (x : FteP) : evtL (l ++ [x]) = evtL l ++ if x.st = 1 then [⟨x.tt, x.im⟩] else [] := by
  unfold evtL
  rw [List.filter_append, List.map_append]
  congr 1
  by_cases h : x.st = 1 <;> simp [h]
theorem evtL_len (l : List FteP) : (evtL l).length ≤ l.length := by unfold evtL; rw [List.length_map]; exact List.length_filter_le _ _
def OwnE (W : World) (b : Nat) (v : Value) (l : List Evt) : Prop := W.ownsRow b 59 7 v l.length (l.flatMap evtCells)
theorem OwnE.ext {W W' : World} {b : Nat} {v : Value} {l : List Evt} (h : OwnE W b v l) (hx : Ext W W') : OwnE W' b v l := own_ext h hx
theorem evt_snoc {w : World} (ty : TypeId) (xs : List Evt) (v : Value) (x : Evt) (base gx : Nat) (jx : Blk w gx 59 (evtCells x).toArray) (hx : OwnE w base v xs) (hn : xs.length ≤ 900) (hb : base ≤ w.heap.size) :
    ∃ v' w', (Builtin.append_ #[54, 54] ty #[v, .slice (some ⟨gx, 0, none⟩) 1 1]).run Try.prog w = .ok v' w' ∧ w.grownBy w' v.ownBlock ∧ OwnE w' base v' (xs ++ [x]) := by
  obtain ⟨i0, hi0, hz0, hz1, hz2⟩ := info_parts info_evt
  obtain ⟨v2, W7, hr, hrow2, hg2, -⟩ := run_append_own (P := Try.prog) w base 54 ty 59 i0 _ 7 72 Try.underlying54 hi0 hz0 hz1 hz2 rfl (by omega) _ _ _ hx ⟨gx, 0, none⟩ 1 1 (evtCells x) rfl (by intro i u hu; rw [Addr.add_lit, Nat.zero_add, jx.cell]; simpa using hu) (by simp [evtCells, Value.oneCell']) (by unfold maxLen; omega) (by omega) hb
  refine ⟨v2, W7, hr, hg2, ?_⟩
  unfold OwnE
  rw [List.length_append, List.flatMap_append]
  simpa using hrow2
theorem sort_own (w : World) (base : Nat) (l : List Evt) (A : Option Addr) (c : Nat) (h : OwnE w base (.slice A l.length c) l) (hn : l.length < 20) (hb : base ≤ w.heap.size) :
    Calls Try.prog 54 #[.slice A l.length c, .func (.func 55) #[] #[]] w fun e w' => e = .returned (.tuple #[]) ∧ OwnE w' base (.slice A l.length c) (sortP (ltOf cmpEvt) l) ∧ Below base w w' := by
  rcases h.2 with ⟨hv, h0⟩ | ⟨g, cap, cur, hv, hbg, hgg, r⟩
  · injection hv with e1 e2 e3
    subst e1 e3
    obtain rfl : l = [] := List.eq_nil_of_length_eq_zero h0
    exact (sort_nil 55 #[] w).mono (fun e w' ⟨h1, h2⟩ => ⟨h1, by rw [← h2]; exact h, by rw [← h2]; exact Below.refl _ _⟩)
  · injection hv with e1 e2 e3
    subst e1 e3
    refine (sort_small 55 #[] cmpEvt (enters_of Try.func55 (by kernel_rfl) rfl) (fun x y w => cmpEvt_any x y w) base g l.length c l w ⟨rfl, h⟩ hn).mono ?_
    rintro e w' ⟨h1, h2, h3⟩
    refine ⟨h1, ?_, (Below.refl _ _).grown h3 hb (fun q e => by injection e with e; omega)⟩
    have h4 := h2.2
    unfold OwnE
    rw [length_sortP]
    exact h4

set_option maxRecDepth 100000 in
set_option maxHeartbeats 4000000 in
theorem Delivered_any (fs : List Fte) (FA : Option Addr) (n c : Nat) (w : World) (hr : RA fteCells 5 w w.heap.size FA n c fs) (hn : n < 20) :
    Calls Try.prog 20 #[.slice FA n c] w fun e w' => ∃ v, e = .returned v ∧ OwnE w' w.heap.size v (delP (fs.map (·.p))) ∧ Ext w w' := by
  have HR := Lib.hid hr
  have HL := Lib.hid hr.len
  obtain ⟨fin, hfin⟩ : ∃ x, x = delP (fs.map (·.p)) := ⟨_, rfl⟩
  rw [← hfin]
  have HFIN := Lib.hid hfin
  clear hr hfin
  go_enter Try.func20, Try.ntmps20
  go_wp2
  go_loopw [2, 7] (fun x y wr => ∃ k : Nat, k ≤ n ∧ y = .int .i64 k ∧ Hid (OwnE wr w.heap.size x (evtL ((fs.take k).map (·.p)))) ∧ Ext w wr) (fun _ y _ => n - (intOf y).toNat)
  case atStart => exact ⟨0, Nat.zero_le _, rfl, Lib.hid (World.ownsRow_nil _ _ _ _), Ext.refl _⟩
  case round =>
    obtain ⟨k, hk, rfl, HO, hx⟩ := hrel
    have hlk := evtL_len ((fs.take k).map (·.p))
    rw [List.length_map, List.length_take] at hlk
    have HLK : Hid ((evtL ((fs.take k).map (·.p))).length ≤ k) := Lib.hid (by omega)
    clear hlk
    by_cases hkn : k < n
    · obtain ⟨b, ob, hz, hA, _, hc⟩ := (HR.out.below hx).at_ fte_len hkn
      have hst : evtL ((fs.take (k + 1)).map (·.p)) = evtL ((fs.take k).map (·.p)) ++ if fs[k].p.st = 1 then [⟨fs[k].p.tt, fs[k].p.im⟩] else [] := by
        rw [List.take_succ_eq_append_getElem hz, List.map_append]
        exact evtL_snoc _ _
      generalize fs[k] = x at hst hc
      generalize evtL ((fs.take k).map (·.p)) = L at hst HO HLK
      obtain ⟨⟨im, st, fl, fr, tt⟩, xa, xc⟩ := x
      dsimp only at hst
      have c0 : wr.cell? ⟨b, ob + k * 5, none⟩ = some (.int .i64 im) := hc 0 (by omega)
      have c1 : wr.cell? ⟨b, ob + k * 5 + 1, none⟩ = some (.int .i64 st) := hc 1 (by omega)
      have c2 : wr.cell? ⟨b, ob + k * 5 + 2, none⟩ = some (.slice xa fl.length xc) := hc 2 (by omega)
      have c3 : wr.cell? ⟨b, ob + k * 5 + 3, none⟩ = some (.int .i64 fr) := hc 3 (by omega)
      have c4 : wr.cell? ⟨b, ob + k * 5 + 4, none⟩ = some (.int .i64 tt) := hc 4 (by omega)
      have HST := Lib.hid hst
      obtain ⟨A3, c3_, hv3, _, _⟩ := own_slice HO.out
      subst hv3
      subst hA
      clear hc hz hst
      go_upto_region 4 with (fail)
      have hya : Ext wr (wr.alloc (.cells #[.int .i64 im, .int .i64 st, .slice xa fl.length xc, .int .i64 fr, .int .i64 tt] 76)) := bl_alloc (Below.refl _ _) _
      have J := Blk.new wr 76 #[.int .i64 im, .int .i64 st, .slice xa fl.length xc, .int .i64 fr, .int .i64 tt]
      generalize wr.heap.size = g4 at J ⊢
      generalize wr.alloc (.cells #[.int .i64 im, .int .i64 st, .slice xa fl.length xc, .int .i64 fr, .int .i64 tt] 76) = W5 at hya J ⊢
      have d0 : W5.cell? ⟨g4, 0, none⟩ = some (.int .i64 im) := J.cell 0
      have d1 : W5.cell? ⟨g4, 1, none⟩ = some (.int .i64 st) := J.cell 1
      have d4 : W5.cell? ⟨g4, 4, none⟩ = some (.int .i64 tt) := J.cell 4
      have hx5 := Ext.trans hx hya
      have HO5 := Lib.hid (HO.out.ext hya)
      clear c0 c1 c2 c3 c4 hya J hx HO
      by_cases hs : st = 1
      · subst hs
        have HN2 : Hid (evtL ((fs.take (k + 1)).map (·.p)) = L ++ [⟨tt, im⟩]) := Lib.hid (by rw [HST.out, if_pos rfl])
        clear HST
        have hxa : Ext W5 (W5.alloc (.cells #[.int .i64 2, .int .i64 tt, .int .i64 im, .slice none 0 0, .int .i64 0, .int .i64 0, .bool false] 59)) := bl_alloc (Below.refl _ _) _
        have hxw := Ext.trans hx5 hxa
        obtain ⟨v7, W7, hrun, hg7, ho7⟩ := evt_snoc 54 L (.slice A3 L.length c3_) ⟨tt, im⟩ w.heap.size W5.heap.size (Blk.new _ _ _) (HO5.out.ext hxa) (by have := HLK.out; omega) (Below.size hxw)
        have hx7 : Ext w W7 := hxw.grown hg7 (Below.size hxw) (fun q e => (World.ownsRow.lt HO5.out q e).1)
        have HO7 : Hid (OwnE W7 w.heap.size v7 (evtL ((fs.take (k + 1)).map (·.p)))) := Lib.hid (by rw [HN2.out]; exact ho7)
        have HRUN := Lib.hid hrun
        clear hrun hg7 ho7 hxw hxa HN2
        go_upto_region 5 with (fail)
        go_wp2_with (refine wpList_append_run_ rfl _ _ _ rfl rfl rfl HRUN.out ?_)
        go_roundw
        case rel => exact ⟨k + 1, by omega, by go_num, HO7, hx7⟩
        case measure => simp [intOf]; omega
      · have h1 : (st == 1) = false := by simpa using hs
        have HO7 : Hid (OwnE W5 w.heap.size (.slice A3 L.length c3_) (evtL ((fs.take (k + 1)).map (·.p)))) := Lib.hid (by rw [HST.out, if_neg hs, List.append_nil]; exact HO5.out)
        clear HST HO5
        go_wp2_with fail
        go_roundw
        case rel => exact ⟨k + 1, by omega, by go_num, HO7, hx5⟩
        case measure => simp [intOf]; omega
    · have hall : fs.take k = fs := List.take_of_length_le (by rw [HL.out]; omega)
      rw [hall] at HO HLK
      have HDEL : Hid (fin = sortP (ltOf cmpEvt) (evtL (fs.map (·.p)))) := HFIN
      clear hall HFIN
      generalize evtL (fs.map (·.p)) = L at HO HLK HDEL
      obtain ⟨A3, c3_, hv3, _, _⟩ := own_slice HO.out
      subst hv3
      have HS := Lib.hid (sort_own wr w.heap.size L A3 c3_ HO.out (by have := HLK.out; omega) (Below.size hx))
      go_wp2_with fail
      refine HS.out.mono ?_
      rintro e W9 ⟨rfl, ho9, hb9⟩
      have HX9 := Lib.hid (Below.trans hx hb9)
      have HO9 := Lib.hid ho9
      clear HS hx ho9 hb9
      go_wp2
      go_ret
      exact ⟨_, rfl, by rw [HDEL.out]; exact HO9.out, HX9.out⟩
end Go.Proofs.Ytmlabgmigakcbaa
