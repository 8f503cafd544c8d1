/- The example, evaluated. -/
import Derived.Test.YtmlabgmigakcbaaP09
import Derived.Test.YtmlabgmigakcbaaP18
import Derived.Shelf.Abstract
namespace Go.Proofs.Ytmlabgmigakcbaa
open Go.RowKit
def evtL (fl : List FteP) : List Evt := (fl.filter (fun f => f.st == 1)).map (fun f => ⟨f.tt, f.im⟩)
def delP (fl : List FteP) : List Evt := sortP (ltOf cmpEvt) (evtL fl)
theorem evtL_snoc (l : List FteP) (x : FteP) : evtL (l ++ [x]) = evtL l ++ if x.st = 1 then [⟨x.tt, x.im⟩] else [] := by
 unfold evtL
 rw [List.filter_append, List.map_append]
 congr 1
 by_cases h : x.st = 1 <;> simp [h]
theorem evtL_len (l : List FteP) : (evtL l).length ≤ l.length := by unfold evtL; rw [List.length_map]; exact List.length_filter_le _ _
def OwnE (W : World) (b : Nat) (v : Value) (l : List Evt) : Prop := W.ownsRow b 59 7 v l.length (l.flatMap evtCells)
theorem OwnE.ext {W W' : World} {b : Nat} {v : Value} {l : List Evt} (h : OwnE W b v l) (hx : Ext W W') : OwnE W' b v l := own_ext h hx
theorem evt_snoc {w : World} (ty : TypeId) (xs : List Evt) (v : Value) (x : Evt) (base gx : Nat) (jx : Blk w gx 59 (evtCells x).toArray) (hx : OwnE w base v xs) (hn : xs.length ≤ 900) (hb : base ≤ w.heap.size) :
  ∃ v' w', (Builtin.append_ #[54, 54] ty #[v, .slice (some ⟨gx, 0, none⟩) 1 1]).run Try.prog w = .ok v' w' ∧ w.grownBy w' v.ownBlock ∧ OwnE w' base v' (xs ++ [x]) := by
 obtain ⟨i0, hi0, hz0, hz1, hz2⟩ := info_parts info_evt
 obtain ⟨v2, W7, hr, hrow2, hg2, -⟩ := run_append_own (P := Try.prog) w base 54 ty 59 i0 _ 7 72 Try.underlying54 hi0 hz0 hz1 hz2 rfl (by omega) _ _ _ hx ⟨gx, 0, none⟩ 1 1 (evtCells x) rfl (by intro i u hu; rw [Addr.add_lit, Nat.zero_add, jx.cell]; simpa using hu) (by simp [evtCells, Value.oneCell']) (by unfold maxLen; omega) (by omega) hb
 refine ⟨v2, W7, hr, hg2, ?_⟩
 unfold OwnE
 rw [List.length_append, List.flatMap_append]
 simpa using hrow2
theorem sort_own (w : World) (base : Nat) (l : List Evt) (A : Option Addr) (c : Nat) (h : OwnE w base (.slice A l.length c) l) (hn : l.length < 20) (hb : base ≤ w.heap.size) :
  Calls Try.prog 54 #[.slice A l.length c, .func (.func 55) #[] #[]] w fun e w' => e = .returned (.tuple #[]) ∧ OwnE w' base (.slice A l.length c) (sortP (ltOf cmpEvt) l) ∧ Below base w w' := by
 rcases h.2 with ⟨hv, h0⟩ | ⟨g, cap, cur, hv, hbg, hgg, r⟩
 ·injection hv with e1 e2 e3
  subst e1 e3
  obtain rfl : l = [] := List.eq_nil_of_length_eq_zero h0
  exact (sort_nil 55 #[] w).mono (fun e w' ⟨h1, h2⟩ => ⟨h1, by rw [← h2]; exact h, by rw [← h2]; exact Below.refl _ _⟩)
 ·injection hv with e1 e2 e3
  subst e1 e3
  refine (sort_small 55 #[] cmpEvt (enters_of Try.func55 (by kernel_rfl) rfl) (fun x y w => cmpEvt_any x y w) base g l.length c l w ⟨rfl, h⟩ hn).mono ?_
  rintro e w' ⟨h1, h2, h3⟩
  refine ⟨h1, ?_, (Below.refl _ _).grown h3 hb (fun q e => by injection e with e; omega)⟩
  have h4 := h2.2
  unfold OwnE
  rw [length_sortP]
  exact h4
set_option maxRecDepth 100000 in
set_option maxHeartbeats 4000000 in
theorem Delivered_any (fs : List Fte) (FA : Option Addr) (n c : Nat) (w : World) (hr : RA fteCells 5 w w.heap.size FA n c fs) (hn : n < 20) :
  Calls Try.prog 20 #[.slice FA n c] w fun e w' => ∃ v, e = .returned v ∧ OwnE w' w.heap.size v (delP (fs.map (·.p))) ∧ Ext w w' := by
 have HR := Lib.hid hr
 have HL := Lib.hid hr.len
 obtain ⟨fin, hfin⟩ : ∃ x, x = delP (fs.map (·.p)) := ⟨_, rfl⟩
 rw [← hfin]
 have HFIN := Lib.hid hfin
 clear hr hfin
 go_enter Try.func20, Try.ntmps20
 go_wp2
 go_loopw [2, 7] (fun x y wr => ∃ k : Nat, k ≤ n ∧ y = .int .i64 k ∧ Hid (OwnE wr w.heap.size x (evtL ((fs.take k).map (·.p)))) ∧ Ext w wr) (fun _ y _ => n - (intOf y).toNat)
 case atStart => exact ⟨0, Nat.zero_le _, rfl, Lib.hid (World.ownsRow_nil _ _ _ _), Ext.refl _⟩
 case round =>
  obtain ⟨k, hk, rfl, HO, hx⟩ := hrel
  have hlk := evtL_len ((fs.take k).map (·.p))
  rw [List.length_map, List.length_take] at hlk
  have HLK : Hid ((evtL ((fs.take k).map (·.p))).length ≤ k) := Lib.hid (by omega)
  clear hlk
  by_cases hkn : k < n
  ·obtain ⟨b, ob, hz, hA, _, hc⟩ := (HR.out.below hx).at_ fte_len hkn
   have hst : evtL ((fs.take (k + 1)).map (·.p)) = evtL ((fs.take k).map (·.p)) ++ if fs[k].p.st = 1 then [⟨fs[k].p.tt, fs[k].p.im⟩] else [] := by
    rw [List.take_succ_eq_append_getElem hz, List.map_append]
    exact evtL_snoc _ _
   generalize fs[k] = x at hst hc
   generalize evtL ((fs.take k).map (·.p)) = L at hst HO HLK
   obtain ⟨⟨im, st, fl, fr, tt⟩, xa, xc⟩ := x
   dsimp only at hst
   have c0 : wr.cell? ⟨b, ob + k * 5, none⟩ = some (.int .i64 im) := hc 0 (by omega)
   have c1 : wr.cell? ⟨b, ob + k * 5 + 1, none⟩ = some (.int .i64 st) := hc 1 (by omega)
   have c2 : wr.cell? ⟨b, ob + k * 5 + 2, none⟩ = some (.slice xa fl.length xc) := hc 2 (by omega)
   have c3 : wr.cell? ⟨b, ob + k * 5 + 3, none⟩ = some (.int .i64 fr) := hc 3 (by omega)
   have c4 : wr.cell? ⟨b, ob + k * 5 + 4, none⟩ = some (.int .i64 tt) := hc 4 (by omega)
   have HST := Lib.hid hst
   obtain ⟨A3, c3_, hv3, _, _⟩ := own_slice HO.out
   subst hv3
   subst hA
   clear hc hz hst
   go_upto_region 4 with (fail)
   have hya : Ext wr (wr.alloc (.cells #[.int .i64 im, .int .i64 st, .slice xa fl.length xc, .int .i64 fr, .int .i64 tt] 76)) := bl_alloc (Below.refl _ _) _
   have J := Blk.new wr 76 #[.int .i64 im, .int .i64 st, .slice xa fl.length xc, .int .i64 fr, .int .i64 tt]
   generalize wr.heap.size = g4 at J ⊢
   generalize wr.alloc (.cells #[.int .i64 im, .int .i64 st, .slice xa fl.length xc, .int .i64 fr, .int .i64 tt] 76) = W5 at hya J ⊢
   have d0 : W5.cell? ⟨g4, 0, none⟩ = some (.int .i64 im) := J.cell 0
   have d1 : W5.cell? ⟨g4, 1, none⟩ = some (.int .i64 st) := J.cell 1
   have d4 : W5.cell? ⟨g4, 4, none⟩ = some (.int .i64 tt) := J.cell 4
   have hx5 := Ext.trans hx hya
   have HO5 := Lib.hid (HO.out.ext hya)
   clear c0 c1 c2 c3 c4 hya J hx HO
   by_cases hs : st = 1
   ·subst hs
    have HN2 : Hid (evtL ((fs.take (k + 1)).map (·.p)) = L ++ [⟨tt, im⟩]) := Lib.hid (by rw [HST.out, if_pos rfl])
    clear HST
    have hxa : Ext W5 (W5.alloc (.cells #[.int .i64 2, .int .i64 tt, .int .i64 im, .slice none 0 0, .int .i64 0, .int .i64 0, .bool false] 59)) := bl_alloc (Below.refl _ _) _
    have hxw := Ext.trans hx5 hxa
    obtain ⟨v7, W7, hrun, hg7, ho7⟩ := evt_snoc 54 L (.slice A3 L.length c3_) ⟨tt, im⟩ w.heap.size W5.heap.size (Blk.new _ _ _) (HO5.out.ext hxa) (by have := HLK.out; omega) (Below.size hxw)
    have hx7 : Ext w W7 := hxw.grown hg7 (Below.size hxw) (fun q e => (World.ownsRow.lt HO5.out q e).1)
    have HO7 : Hid (OwnE W7 w.heap.size v7 (evtL ((fs.take (k + 1)).map (·.p)))) := Lib.hid (by rw [HN2.out]; exact ho7)
    have HRUN := Lib.hid hrun
    clear hrun hg7 ho7 hxw hxa HN2
    go_upto_region 5 with (fail)
    go_wp2_with (refine wpList_append_run_ rfl _ _ _ rfl rfl rfl HRUN.out ?_)
    go_roundw
    case rel => exact ⟨k + 1, by omega, by go_num, HO7, hx7⟩
    case measure => simp [intOf]; omega
   ·have h1 : (st == 1) = false := by simpa using hs
    have HO7 : Hid (OwnE W5 w.heap.size (.slice A3 L.length c3_) (evtL ((fs.take (k + 1)).map (·.p)))) := Lib.hid (by rw [HST.out, if_neg hs, List.append_nil]; exact HO5.out)
    clear HST HO5
    go_wp2_with fail
    go_roundw
    case rel => exact ⟨k + 1, by omega, by go_num, HO7, hx5⟩
    case measure => simp [intOf]; omega
  ·have hall : fs.take k = fs := List.take_of_length_le (by rw [HL.out]; omega)
   rw [hall] at HO HLK
   have HDEL : Hid (fin = sortP (ltOf cmpEvt) (evtL (fs.map (·.p)))) := HFIN
   clear hall HFIN
   generalize evtL (fs.map (·.p)) = L at HO HLK HDEL
   obtain ⟨A3, c3_, hv3, _, _⟩ := own_slice HO.out
   subst hv3
   have HS := Lib.hid (sort_own wr w.heap.size L A3 c3_ HO.out (by have := HLK.out; omega) (Below.size hx))
   go_wp2_with fail
   refine HS.out.mono ?_
   rintro e W9 ⟨rfl, ho9, hb9⟩
   have HX9 := Lib.hid (Below.trans hx hb9)
   have HO9 := Lib.hid ho9
   clear HS hx ho9 hb9
   go_wp2
   go_ret
   exact ⟨_, rfl, by rw [HDEL.out]; exact HO9.out, HX9.out⟩
end Go.Proofs.Ytmlabgmigakcbaa
namespace Go.Proofs.Ytmlabgmigakcbaa
open Go.RowKit
def toOpt (o : Opp) : Opt := ⟨o.id, 0, 0, 0, 0, 0, 0, 0, none, 0, 0, o.l⟩
theorem optsR_map (ps : List Pas) : ∀ (os : List Opt) (seen : Int → Bool), optsR ps seen os = optsR ps seen ((os.map Opt.p).map toOpt)
 | [], _ => rfl
 | o :: r, seen => by
  rw [List.map_cons, List.map_cons, optsR_cons, optsR_cons, optsR_map ps r]
  rfl
theorem validP_map (os : List Opt) (ps : List Pas) (sts : List Stn) : validP os ps sts = validP ((os.map Opt.p).map toOpt) ps sts := by
 unfold validP
 rw [optsR_map ps os]
 simp
theorem noneP_map (ps : List Pas) (f : Int → Option Int) (now : Int) (os : List Opt) (r : Rcp) : noneP (qOf ps f now) os r = noneP (qOf ps f now) ((os.map Opt.p).map toOpt) r := by
 unfold noneP
 rw [List.all_map, List.all_map]
 rfl
theorem strL_map (ps : List Pas) (f : Int → Option Int) (now : Int) (os : List Opt) : ∀ (l : List Rcp) (i : Nat) (ds : List Dsc), strL (qOf ps f now) os i ds l = strL (qOf ps f now) ((os.map Opt.p).map toOpt) i ds l
 | [], _, _ => by rw [strL, strL]
 | r :: l, i, ds => by rw [strL_cons, strL_cons, noneP_map, strL_map ps f now os l]
theorem recP_map (ps : List Pas) (f : Int → Option Int) (now : Int) (rs : List Rcp) (ns : List Nte) : ∀ (os : List Opt) (ds : List Dsc), recP (qOf ps f now) now rs ns ds os = recP (qOf ps f now) now rs ns ds ((os.map Opt.p).map toOpt)
 | [], _ => rfl
 | o :: r, ds => by
  rw [List.map_cons, List.map_cons, recP_cons, recP_cons, recP_map ps f now rs ns r]
  rfl
theorem recV_map (os : List Opt) (ps : List Pas) (sts : List Stn) (rs : List Rcp) (ns : List Nte) (now : Int) : recV os ps sts rs ns now = recV ((os.map Opt.p).map toOpt) ps sts rs ns now := by
 unfold recV recOK
 rw [← validP_map os ps sts, recP_map ps _ now rs ns os, strL_map ps _ now os]
theorem wrtL_map (ps : List Pas) (sts : List Stn) (lost wrong : List Int) : ∀ (os : List Opt) (rs : List Rcp) (ns : List Nte), wrtL ps sts lost wrong rs ns os = wrtL ps sts lost wrong rs ns ((os.map Opt.p).map toOpt)
 | [], _, _ => rfl
 | o :: r, rs, ns => by
  rw [List.map_cons, List.map_cons, wrtL_cons, wrtL_cons, wrtL_map ps sts lost wrong r]
  rfl
theorem wrtV_map (os : List Opt) (ps : List Pas) (sts : List Stn) (lost wrong : List Int) : wrtV os ps sts lost wrong = wrtV ((os.map Opt.p).map toOpt) ps sts lost wrong := by
 unfold wrtV
 rw [← validP_map os ps sts, wrtL_map ps sts lost wrong os]
theorem fitsV_map (o : Opt) (ps : List Pas) (sts : List Stn) (r : Rcp) (now : Int) : fitsV o ps sts r now = fitsV (toOpt o.p) ps sts r now := by
 unfold fitsV
 rw [validP_map [o] ps sts]
 rfl
theorem RA.of_blk {α : Type} {cells : α → List Value} {s : Nat} {w : World} {g n : Nat} {t : TypeId} {l : List α} {X : Array Value} (h : Blk w g t X) (hX : X.toList = l.flatMap cells) (hf : (l.flatMap cells).length = n * s) (hl : l.length = n) (hn : n ≤ 1000) : RA cells s w w.heap.size (some ⟨g, 0, none⟩) n n l :=
 ⟨⟨hf, fun _ => ⟨g, 0, rfl, h.lt, fun j u hu => by rw [Nat.zero_add, h.cell, ← hu, ← hX]; simp⟩⟩, hl, Nat.le_refl _, by unfold maxLen; omega, by omega⟩
def exL : List Slt := [⟨0, 10, 12⟩, ⟨0, 14, 16⟩, ⟨1, 100, 102⟩]
def exO : List Opp := [⟨7, exL⟩]
def exP : List Pas := [⟨0, 3, ⟨10, 20⟩, ⟨10, 20⟩⟩, ⟨0, 3, ⟨100, 110⟩, ⟨100, 110⟩⟩]
def exS : List Stn := [⟨3, ⟨0, 0⟩, 0, 1, 2⟩]
structure ExR (w : World) (g1 g2 g3 : Nat) (os : List Opt) : Prop where
 ho : Ops w w.heap.size (some ⟨g1, 0, none⟩) 1 1 os
 op : os.map Opt.p = exO
 ps : RA pasCells 6 w w.heap.size (some ⟨g2, 0, none⟩) 2 2 exP
 st : RA stnCells 6 w w.heap.size (some ⟨g3, 0, none⟩) 1 1 exS
theorem ExR.ext {w w' : World} {g1 g2 g3 : Nat} {os : List Opt} (h : ExR w g1 g2 g3 os) (hx : Ext w w') : ExR w' g1 g2 g3 os := ⟨h.ho.ext hx, h.op, ra_ext h.ps hx, ra_ext h.st hx⟩
def exOp (gs : Nat) : Opt := ⟨7, 0, 0, 0, 0, 0, 0, 0, some ⟨gs, 0, none⟩, 3, 3, exL⟩
def ExRet (w : World) (e : Ending) (w' : World) : Prop := ∃ g1 g2 g3 gs, e = .returned (.tuple #[.slice (some ⟨g1, 0, none⟩) 1 1, .slice (some ⟨g2, 0, none⟩) 2 2, .slice (some ⟨g3, 0, none⟩) 1 1]) ∧ ExR w' g1 g2 g3 [exOp gs] ∧ Ext w w'
set_option maxRecDepth 100000 in
set_option maxHeartbeats 8000000 in
theorem example_any (w : World) : Calls Try.prog 34 #[] w (ExRet w) := by
 go_enter Try.func34, Try.ntmps34
 go_upto_region 4 with (fail)
 obtain ⟨W1, hW1⟩ : ∃ W, W = (w.alloc (.cells #[.int .i64 10, .int .i64 20] 29)).alloc (.cells #[.int .i64 100, .int .i64 110] 29) := ⟨_, rfl⟩
 have hs1 : W1.heap.size = w.heap.size + 1 + 1 := by rw [hW1]; simp
 rw [← hW1]
 obtain ⟨J3, J4, hx1⟩ := al2 w W1 _ _ _ _ hW1
 clear hW1
 obtain ⟨W2, hW2⟩ : ∃ W, W = (W1.alloc (.cells #[.int .i64 0, .int .i64 10, .int .i64 12, .int .i64 0, .int .i64 14, .int .i64 16, .int .i64 1, .int .i64 100, .int .i64 102] 78)).alloc (.cells #[.int .i64 7, .int .i64 0, .int .i64 0, .int .i64 0, .int .i64 0, .int .i64 0, .int .i64 0, .int .i64 0, .slice (some ⟨w.heap.size + 1 + 1, 0, none⟩) 3 3] 32) := ⟨_, rfl⟩
 rw [← hW2]
 obtain ⟨JS, JO, hx2⟩ := al2 W1 W2 _ _ _ _ hW2
 clear hW2
 rw [hs1] at JS JO
 have J3 := J3.ext hx2
 have J4 := J4.ext hx2
 generalize w.heap.size + 1 + 1 + 1 = g5 at JO ⊢
 generalize w.heap.size + 1 + 1 = gs at JS JO ⊢
 generalize w.heap.size + 1 = g4 at J4 ⊢
 obtain ⟨g3, hg3⟩ : ∃ g, g = w.heap.size := ⟨_, rfl⟩
 rw [← hg3] at J3 ⊢
 clear hg3 hs1
 have HX := Lib.hid (Ext.trans hx1 hx2)
 have HJS := Lib.hid JS
 have HJO := Lib.hid JO
 have a0 : W2.cell? ⟨g3, 0, none⟩ = some (.int .i64 10) := J3.cell 0
 have a1 : W2.cell? ⟨g3, 1, none⟩ = some (.int .i64 20) := J3.cell 1
 have b0 : W2.cell? ⟨g4, 0, none⟩ = some (.int .i64 100) := J4.cell 0
 have b1 : W2.cell? ⟨g4, 1, none⟩ = some (.int .i64 110) := J4.cell 1
 have d0 : W2.cell? ⟨g5, 0, none⟩ = some (.int .i64 7) := JO.cell 0
 have d1 : W2.cell? ⟨g5, 1, none⟩ = some (.int .i64 0) := JO.cell 1
 have d2 : W2.cell? ⟨g5, 2, none⟩ = some (.int .i64 0) := JO.cell 2
 have d3 : W2.cell? ⟨g5, 3, none⟩ = some (.int .i64 0) := JO.cell 3
 have d4 : W2.cell? ⟨g5, 4, none⟩ = some (.int .i64 0) := JO.cell 4
 have d5 : W2.cell? ⟨g5, 5, none⟩ = some (.int .i64 0) := JO.cell 5
 have d6 : W2.cell? ⟨g5, 6, none⟩ = some (.int .i64 0) := JO.cell 6
 have d7 : W2.cell? ⟨g5, 7, none⟩ = some (.int .i64 0) := JO.cell 7
 have d8 : W2.cell? ⟨g5, 8, none⟩ = some (.slice (some ⟨gs, 0, none⟩) 3 3) := JO.cell 8
 clear J3 J4 JS JO hx1 hx2
 refine wp_region_obl 14 (fun ix vals v w1 => match ix with | 0 => v = .agg #[.int .i64 7, .int .i64 0, .int .i64 0, .int .i64 0, .int .i64 0, .int .i64 0, .int .i64 0, .int .i64 0, .slice (some ⟨gs, 0, none⟩) 3 3] | 1 => ∃ g, v = .slice (some ⟨g, 0, none⟩) 1 1 ∧ Blk w1 g 32 #[.int .i64 7, .int .i64 0, .int .i64 0, .int .i64 0, .int .i64 0, .int .i64 0, .int .i64 0, .int .i64 0, .slice (some ⟨gs, 0, none⟩) 3 3] | 2 => v = .agg #[.int .i64 10, .int .i64 20] | 3 => v = .agg #[.int .i64 10, .int .i64 20] | 4 => v = .agg #[.int .i64 0, .int .i64 3, .int .i64 10, .int .i64 20, .int .i64 10, .int .i64 20] | 5 => v = .agg #[.int .i64 100, .int .i64 110] | 6 => v = .agg #[.int .i64 100, .int .i64 110] | 7 => v = .agg #[.int .i64 0, .int .i64 3, .int .i64 100, .int .i64 110, .int .i64 100, .int .i64 110] | 8 => ∃ g, v = .slice (some ⟨g, 0, none⟩) 2 2 ∧ Blk w1 g 98 #[.int .i64 0, .int .i64 3, .int .i64 10, .int .i64 20, .int .i64 10, .int .i64 20, .int .i64 0, .int .i64 3, .int .i64 100, .int .i64 110, .int .i64 100, .int .i64 110] | 9 => v = .agg #[.int .i64 3, .int .i64 0, .int .i64 0, .int .i64 0, .int .i64 1, .int .i64 2] | 10 => ∃ g, v = .slice (some ⟨g, 0, none⟩) 1 1 ∧ Blk w1 g 122 #[.int .i64 3, .int .i64 0, .int .i64 0, .int .i64 0, .int .i64 1, .int .i64 2] | 11 => ∃ g, v = .slice (some ⟨g, 0, none⟩) 1 1 ∧ Blk w1 g 32 #[.int .i64 7, .int .i64 0, .int .i64 0, .int .i64 0, .int .i64 0, .int .i64 0, .int .i64 0, .int .i64 0, .slice (some ⟨gs, 0, none⟩) 3 3] | 12 => ∃ g, v = .slice (some ⟨g, 0, none⟩) 2 2 ∧ Blk w1 g 98 #[.int .i64 0, .int .i64 3, .int .i64 10, .int .i64 20, .int .i64 10, .int .i64 20, .int .i64 0, .int .i64 3, .int .i64 100, .int .i64 110, .int .i64 100, .int .i64 110] | _ => ∃ g, v = .slice (some ⟨g, 0, none⟩) 1 1 ∧ Blk w1 g 122 #[.int .i64 3, .int .i64 0, .int .i64 0, .int .i64 0, .int .i64 1, .int .i64 2]) (by kernel_rfl) (by kernel_rfl) ?_ ?_ ?_ ?_
 ·intro ix vals v w1 w2 hi hr hx
  match ix, hr with
  | 0, hr => exact hr
  | 1, hr => obtain ⟨g, h1, h2⟩ := hr; exact ⟨g, h1, h2.ext hx⟩
  | 2, hr => exact hr
  | 3, hr => exact hr
  | 4, hr => exact hr
  | 5, hr => exact hr
  | 6, hr => exact hr
  | 7, hr => exact hr
  | 8, hr => obtain ⟨g, h1, h2⟩ := hr; exact ⟨g, h1, h2.ext hx⟩
  | 9, hr => exact hr
  | 10, hr => obtain ⟨g, h1, h2⟩ := hr; exact ⟨g, h1, h2.ext hx⟩
  | 11, hr => obtain ⟨g, h1, h2⟩ := hr; exact ⟨g, h1, h2.ext hx⟩
  | 12, hr => obtain ⟨g, h1, h2⟩ := hr; exact ⟨g, h1, h2.ext hx⟩
  | (kx + 13), hr => obtain ⟨g, h1, h2⟩ := hr; exact ⟨g, h1, h2.ext hx⟩
 ·intro ix vals vals_ v w1 hi hv hr
  exact hr
 ·refine ⟨?_, ?_, ?_, ?_, ?_, ?_, ?_, ?_, ?_, ?_, ?_, ?_, ?_, ?_, trivial⟩
  ·intro vals w1 hx hd ha
   clear hd ha
   simp only [Lf]
   have d0 := ext_cell hx d0; have d1 := ext_cell hx d1; have d2 := ext_cell hx d2; have d3 := ext_cell hx d3; have d4 := ext_cell hx d4; have d5 := ext_cell hx d5; have d6 := ext_cell hx d6; have d7 := ext_cell hx d7; have d8 := ext_cell hx d8
   go_wp2
   exact ⟨rfl, Ext.refl _, rfl⟩
  ·intro vals w1 hx hd ha
   have e0 : vals 0 = .agg #[.int .i64 7, .int .i64 0, .int .i64 0, .int .i64 0, .int .i64 0, .int .i64 0, .int .i64 0, .int .i64 0, .slice (some ⟨gs, 0, none⟩) 3 3] := hd 0 (by decide)
   clear hd ha
   simp only [Lf, dstAt, Act.put, List.getElem?_toArray, List.getElem?_cons_zero, Option.bind_some, List.setIfInBounds_toArray, List.set_cons_zero, List.set_cons_succ]
   simp only [e0]
   clear e0
   go_wp2
   exact ⟨rfl, (by repeat (first | exact Below.refl _ _ | assumption | refine Below.drew ?_ | refine below_drewN ?_ _ | refine bl_alloc ?_ _ | refine Below.setCell ?_ (by first | (simp; done) | omega | (simp; omega)) _ | refine bl_then ?_ (by assumption))), _, rfl, Blk.new _ _ _⟩
  ·intro vals w1 hx hd ha
   clear hd ha
   simp only [Lf, dstAt, Act.put, List.getElem?_toArray, List.getElem?_cons_zero, List.getElem?_cons_succ, Option.bind_some, List.setIfInBounds_toArray, List.set_cons_zero, List.set_cons_succ]
   have a0 := ext_cell hx a0; have a1 := ext_cell hx a1
   go_wp2
   exact ⟨rfl, Ext.refl _, rfl⟩
  ·intro vals w1 hx hd ha
   clear hd ha
   simp only [Lf, dstAt, Act.put, List.getElem?_toArray, List.getElem?_cons_zero, List.getElem?_cons_succ, Option.bind_some, List.setIfInBounds_toArray, List.set_cons_zero, List.set_cons_succ]
   have a0 := ext_cell hx a0; have a1 := ext_cell hx a1
   go_wp2
   exact ⟨rfl, Ext.refl _, rfl⟩
  ·intro vals w1 hx hd ha
   have e2 : vals 2 = .agg #[.int .i64 10, .int .i64 20] := hd 2 (by decide)
   have e3 : vals 3 = .agg #[.int .i64 10, .int .i64 20] := hd 3 (by decide)
   clear hd ha
   simp only [Lf, dstAt, Act.put, List.getElem?_toArray, List.getElem?_cons_zero, List.getElem?_cons_succ, Option.bind_some, List.setIfInBounds_toArray, List.set_cons_zero, List.set_cons_succ]
   simp only [e2, e3]
   clear e2 e3
   go_wp2
   exact ⟨rfl, Ext.refl _, rfl⟩
  ·intro vals w1 hx hd ha
   clear hd ha
   simp only [Lf, dstAt, Act.put, List.getElem?_toArray, List.getElem?_cons_zero, List.getElem?_cons_succ, Option.bind_some, List.setIfInBounds_toArray, List.set_cons_zero, List.set_cons_succ]
   have b0 := ext_cell hx b0; have b1 := ext_cell hx b1
   go_wp2
   exact ⟨rfl, Ext.refl _, rfl⟩
  ·intro vals w1 hx hd ha
   clear hd ha
   simp only [Lf, dstAt, Act.put, List.getElem?_toArray, List.getElem?_cons_zero, List.getElem?_cons_succ, Option.bind_some, List.setIfInBounds_toArray, List.set_cons_zero, List.set_cons_succ]
   have b0 := ext_cell hx b0; have b1 := ext_cell hx b1
   go_wp2
   exact ⟨rfl, Ext.refl _, rfl⟩
  ·intro vals w1 hx hd ha
   have e5 : vals 5 = .agg #[.int .i64 100, .int .i64 110] := hd 5 (by decide)
   have e6 : vals 6 = .agg #[.int .i64 100, .int .i64 110] := hd 6 (by decide)
   clear hd ha
   simp only [Lf, dstAt, Act.put, List.getElem?_toArray, List.getElem?_cons_zero, List.getElem?_cons_succ, Option.bind_some, List.setIfInBounds_toArray, List.set_cons_zero, List.set_cons_succ]
   simp only [e5, e6]
   clear e5 e6
   go_wp2
   exact ⟨rfl, Ext.refl _, rfl⟩
  ·intro vals w1 hx hd ha
   have e4 : vals 4 = .agg #[.int .i64 0, .int .i64 3, .int .i64 10, .int .i64 20, .int .i64 10, .int .i64 20] := hd 4 (by decide)
   have e7 : vals 7 = .agg #[.int .i64 0, .int .i64 3, .int .i64 100, .int .i64 110, .int .i64 100, .int .i64 110] := hd 7 (by decide)
   clear hd ha
   simp only [Lf, dstAt, Act.put, List.getElem?_toArray, List.getElem?_cons_zero, List.getElem?_cons_succ, Option.bind_some, List.setIfInBounds_toArray, List.set_cons_zero, List.set_cons_succ]
   simp only [e4]
   simp only [e7]
   clear e4 e7
   go_wp2
   exact ⟨rfl, (by repeat (first | exact Below.refl _ _ | assumption | refine Below.drew ?_ | refine below_drewN ?_ _ | refine bl_alloc ?_ _ | refine Below.setCell ?_ (by first | (simp; done) | omega | (simp; omega)) _ | refine bl_then ?_ (by assumption))), _, rfl, Blk.new _ _ _⟩
  ·intro vals w1 hx hd ha
   clear hd ha
   simp only [Lf, dstAt, Act.put, List.getElem?_toArray, List.getElem?_cons_zero, List.getElem?_cons_succ, Option.bind_some, List.setIfInBounds_toArray, List.set_cons_zero, List.set_cons_succ]
   go_wp2
   exact ⟨rfl, Ext.refl _, rfl⟩
  ·intro vals w1 hx hd ha
   have e9 : vals 9 = .agg #[.int .i64 3, .int .i64 0, .int .i64 0, .int .i64 0, .int .i64 1, .int .i64 2] := hd 9 (by decide)
   clear hd ha
   simp only [Lf, dstAt, Act.put, List.getElem?_toArray, List.getElem?_cons_zero, List.getElem?_cons_succ, Option.bind_some, List.setIfInBounds_toArray, List.set_cons_zero, List.set_cons_succ]
   simp only [e9]
   clear e9
   go_wp2
   exact ⟨rfl, (by repeat (first | exact Below.refl _ _ | assumption | refine Below.drew ?_ | refine below_drewN ?_ _ | refine bl_alloc ?_ _ | refine Below.setCell ?_ (by first | (simp; done) | omega | (simp; omega)) _ | refine bl_then ?_ (by assumption))), _, rfl, Blk.new _ _ _⟩
  ·intro vals w1 hx hd ha
   have e0 : vals 0 = .agg #[.int .i64 7, .int .i64 0, .int .i64 0, .int .i64 0, .int .i64 0, .int .i64 0, .int .i64 0, .int .i64 0, .slice (some ⟨gs, 0, none⟩) 3 3] := hd 0 (by decide)
   have r1 : (fun v w1 => ∃ g, v = .slice (some ⟨g, 0, none⟩) 1 1 ∧ Blk w1 g 32 #[.int .i64 7, .int .i64 0, .int .i64 0, .int .i64 0, .int .i64 0, .int .i64 0, .int .i64 0, .int .i64 0, .slice (some ⟨gs, 0, none⟩) 3 3]) (vals 1) w1 := hd 1 (by decide)
   dsimp only at r1
   clear hd ha
   simp only [Lf, dstAt, Act.put, List.getElem?_toArray, List.getElem?_cons_zero, List.getElem?_cons_succ, Option.bind_some, List.setIfInBounds_toArray, List.set_cons_zero, List.set_cons_succ]
   simp only [e0]
   clear e0
   obtain ⟨g, e1, h1⟩ := r1
   rw [e1]
   have h1 := Lib.hid h1
   go_wp2
   exact ⟨rfl, Ext.refl _, g, rfl, h1.out⟩
  ·intro vals w1 hx hd ha
   have e0 : vals 0 = .agg #[.int .i64 7, .int .i64 0, .int .i64 0, .int .i64 0, .int .i64 0, .int .i64 0, .int .i64 0, .int .i64 0, .slice (some ⟨gs, 0, none⟩) 3 3] := hd 0 (by decide)
   have r1 : (fun v w1 => ∃ g, v = .slice (some ⟨g, 0, none⟩) 1 1 ∧ Blk w1 g 32 #[.int .i64 7, .int .i64 0, .int .i64 0, .int .i64 0, .int .i64 0, .int .i64 0, .int .i64 0, .int .i64 0, .slice (some ⟨gs, 0, none⟩) 3 3]) (vals 1) w1 := hd 1 (by decide)
   dsimp only at r1
   have e2 : vals 2 = .agg #[.int .i64 10, .int .i64 20] := hd 2 (by decide)
   have e3 : vals 3 = .agg #[.int .i64 10, .int .i64 20] := hd 3 (by decide)
   have e4 : vals 4 = .agg #[.int .i64 0, .int .i64 3, .int .i64 10, .int .i64 20, .int .i64 10, .int .i64 20] := hd 4 (by decide)
   have e5 : vals 5 = .agg #[.int .i64 100, .int .i64 110] := hd 5 (by decide)
   have e6 : vals 6 = .agg #[.int .i64 100, .int .i64 110] := hd 6 (by decide)
   have e7 : vals 7 = .agg #[.int .i64 0, .int .i64 3, .int .i64 100, .int .i64 110, .int .i64 100, .int .i64 110] := hd 7 (by decide)
   have r8 : (fun v w1 => ∃ g, v = .slice (some ⟨g, 0, none⟩) 2 2 ∧ Blk w1 g 98 #[.int .i64 0, .int .i64 3, .int .i64 10, .int .i64 20, .int .i64 10, .int .i64 20, .int .i64 0, .int .i64 3, .int .i64 100, .int .i64 110, .int .i64 100, .int .i64 110]) (vals 8) w1 := hd 8 (by decide)
   dsimp only at r8
   have r11 : (fun v w1 => ∃ g, v = .slice (some ⟨g, 0, none⟩) 1 1 ∧ Blk w1 g 32 #[.int .i64 7, .int .i64 0, .int .i64 0, .int .i64 0, .int .i64 0, .int .i64 0, .int .i64 0, .int .i64 0, .slice (some ⟨gs, 0, none⟩) 3 3]) (vals 11) w1 := hd 11 (by decide)
   dsimp only at r11
   clear hd ha
   simp only [Lf, dstAt, Act.put, List.getElem?_toArray, List.getElem?_cons_zero, List.getElem?_cons_succ, Option.bind_some, List.setIfInBounds_toArray, List.set_cons_zero, List.set_cons_succ]
   simp only [e0]
   simp only [e2]
   simp only [e3]
   simp only [e4]
   simp only [e5]
   simp only [e6]
   simp only [e7]
   clear e0 e2 e3 e4 e5 e6 e7
   obtain ⟨g, e1, h1⟩ := r8
   rw [e1]
   have h1 := Lib.hid h1
   go_wp2
   exact ⟨rfl, Ext.refl _, g, rfl, h1.out⟩
  ·intro vals w1 hx hd ha
   have e0 : vals 0 = .agg #[.int .i64 7, .int .i64 0, .int .i64 0, .int .i64 0, .int .i64 0, .int .i64 0, .int .i64 0, .int .i64 0, .slice (some ⟨gs, 0, none⟩) 3 3] := hd 0 (by decide)
   have r1 : (fun v w1 => ∃ g, v = .slice (some ⟨g, 0, none⟩) 1 1 ∧ Blk w1 g 32 #[.int .i64 7, .int .i64 0, .int .i64 0, .int .i64 0, .int .i64 0, .int .i64 0, .int .i64 0, .int .i64 0, .slice (some ⟨gs, 0, none⟩) 3 3]) (vals 1) w1 := hd 1 (by decide)
   dsimp only at r1
   have e2 : vals 2 = .agg #[.int .i64 10, .int .i64 20] := hd 2 (by decide)
   have e3 : vals 3 = .agg #[.int .i64 10, .int .i64 20] := hd 3 (by decide)
   have e4 : vals 4 = .agg #[.int .i64 0, .int .i64 3, .int .i64 10, .int .i64 20, .int .i64 10, .int .i64 20] := hd 4 (by decide)
   have e5 : vals 5 = .agg #[.int .i64 100, .int .i64 110] := hd 5 (by decide)
   have e6 : vals 6 = .agg #[.int .i64 100, .int .i64 110] := hd 6 (by decide)
   have e7 : vals 7 = .agg #[.int .i64 0, .int .i64 3, .int .i64 100, .int .i64 110, .int .i64 100, .int .i64 110] := hd 7 (by decide)
   have r8 : (fun v w1 => ∃ g, v = .slice (some ⟨g, 0, none⟩) 2 2 ∧ Blk w1 g 98 #[.int .i64 0, .int .i64 3, .int .i64 10, .int .i64 20, .int .i64 10, .int .i64 20, .int .i64 0, .int .i64 3, .int .i64 100, .int .i64 110, .int .i64 100, .int .i64 110]) (vals 8) w1 := hd 8 (by decide)
   dsimp only at r8
   have e9 : vals 9 = .agg #[.int .i64 3, .int .i64 0, .int .i64 0, .int .i64 0, .int .i64 1, .int .i64 2] := hd 9 (by decide)
   have r10 : (fun v w1 => ∃ g, v = .slice (some ⟨g, 0, none⟩) 1 1 ∧ Blk w1 g 122 #[.int .i64 3, .int .i64 0, .int .i64 0, .int .i64 0, .int .i64 1, .int .i64 2]) (vals 10) w1 := hd 10 (by decide)
   dsimp only at r10
   have r11 : (fun v w1 => ∃ g, v = .slice (some ⟨g, 0, none⟩) 1 1 ∧ Blk w1 g 32 #[.int .i64 7, .int .i64 0, .int .i64 0, .int .i64 0, .int .i64 0, .int .i64 0, .int .i64 0, .int .i64 0, .slice (some ⟨gs, 0, none⟩) 3 3]) (vals 11) w1 := hd 11 (by decide)
   dsimp only at r11
   have r12 : (fun v w1 => ∃ g, v = .slice (some ⟨g, 0, none⟩) 2 2 ∧ Blk w1 g 98 #[.int .i64 0, .int .i64 3, .int .i64 10, .int .i64 20, .int .i64 10, .int .i64 20, .int .i64 0, .int .i64 3, .int .i64 100, .int .i64 110, .int .i64 100, .int .i64 110]) (vals 12) w1 := hd 12 (by decide)
   dsimp only at r12
   clear hd ha
   simp only [Lf, dstAt, Act.put, List.getElem?_toArray, List.getElem?_cons_zero, List.getElem?_cons_succ, Option.bind_some, List.setIfInBounds_toArray, List.set_cons_zero, List.set_cons_succ]
   simp only [e0]
   simp only [e2]
   simp only [e3]
   simp only [e4]
   simp only [e5]
   simp only [e6]
   simp only [e7]
   simp only [e9]
   clear e0 e2 e3 e4 e5 e6 e7 e9
   obtain ⟨g, e1, h1⟩ := r10
   rw [e1]
   have h1 := Lib.hid h1
   go_wp2
   exact ⟨rfl, Ext.refl _, g, rfl, h1.out⟩
 intro vals W5 hy hf
 obtain ⟨k1, v1, j1⟩ : ∃ g, vals 11 = .slice (some ⟨g, 0, none⟩) 1 1 ∧ Blk W5 g 32 #[.int .i64 7, .int .i64 0, .int .i64 0, .int .i64 0, .int .i64 0, .int .i64 0, .int .i64 0, .int .i64 0, .slice (some ⟨gs, 0, none⟩) 3 3] := hf 11 (by omega)
 obtain ⟨k2, v2, j2⟩ : ∃ g, vals 12 = .slice (some ⟨g, 0, none⟩) 2 2 ∧ Blk W5 g 98 #[.int .i64 0, .int .i64 3, .int .i64 10, .int .i64 20, .int .i64 10, .int .i64 20, .int .i64 0, .int .i64 3, .int .i64 100, .int .i64 110, .int .i64 100, .int .i64 110] := hf 12 (by omega)
 obtain ⟨k3, v3, j3⟩ : ∃ g, vals 13 = .slice (some ⟨g, 0, none⟩) 1 1 ∧ Blk W5 g 122 #[.int .i64 3, .int .i64 0, .int .i64 0, .int .i64 0, .int .i64 1, .int .i64 2] := hf 13 (by omega)
 have hy := hy.undrew
 have HR : Hid (ExR W5 k1 k2 k3 [exOp gs]) := Lib.hid ⟨⟨RA.of_blk j1 rfl rfl rfl (by omega), fun o ho => by rw [List.mem_singleton.1 ho]; exact RA.of_blk (HJS.out.ext hy) rfl rfl rfl (by show 3 ≤ 1000; omega)⟩, rfl, RA.of_blk j2 rfl rfl rfl (by omega), RA.of_blk j3 rfl rfl rfl (by omega)⟩
 have HXF := Lib.hid (Ext.trans HX.out hy)
 clear hf hy j1 j2 j3 a0 a1 b0 b1 d0 d1 d2 d3 d4 d5 d6 d7 d8
 refine tail0 (by kernel_rfl) ?_
 simp only [Lf, dstAt, Act.put, List.getElem?_toArray, List.getElem?_cons_zero, List.getElem?_cons_succ, Option.bind_some, List.setIfInBounds_toArray, List.set_cons_zero, List.set_cons_succ]
 rw [v1, v2, v3]
 clear v1 v2 v3
 go_wp2
 exact bodyPost_ret (v := .tuple #[.slice (some ⟨k1, 0, none⟩) 1 1, .slice (some ⟨k2, 0, none⟩) 2 2, .slice (some ⟨k3, 0, none⟩) 1 1]) (by simp [results, Try.results34, go_sem]) rfl ⟨k1, k2, k3, gs, rfl, HR.out, HXF.out⟩
def fatedP (rs : List Rcp) (ns : List Nte) (now : Int) (want : FteP) (many : Int) : Bool :=
 decide ((recV (exO.map toOpt) exP exS rs ns now).2 = 0) && (decide (((recV (exO.map toOpt) exP exS rs ns now).1.2.length : Int) = many) && decide ((recV (exO.map toOpt) exP exS rs ns now).1.1 = [want]))
end Go.Proofs.Ytmlabgmigakcbaa
namespace Go.Proofs.Ytmlabgmigakcbaa
open Go.RowKit
theorem fateE_len (now : Int) (sl : List Slt) (id : Int) (left : Nat) (h : sl.length ≤ 6) : (fateE now sl id left).l.length ≤ 6 := by
 unfold fateE endP
 split
 ·exact setL_len left
 ·split
  ·simp
  ·exact Nat.le_trans (openK_len now sl sl.length) h
theorem recP_lens (q : Opt → Rcp → Nat) (now : Int) (rs : List Rcp) (ns : List Nte) : ∀ (os : List Opt) (ds : List Dsc), (∀ o ∈ os, o.l.length ≤ 6) → ∀ x ∈ (recP q now rs ns ds os).1, x.l.length ≤ 6
 | [], _, _ => fun x hx => by cases hx
 | o :: r, ds, h => by
  rw [recP_cons]
  intro x hx
  rcases List.mem_cons.1 hx with rfl | hx
  ·exact fateE_len now o.l o.id _ (h o List.mem_cons_self)
  ·exact recP_lens q now rs ns r _ (fun y hy => h y (List.mem_cons_of_mem _ hy)) x hx
theorem recP_many (q : Opt → Rcp → Nat) (now : Int) (rs : List Rcp) (ns : List Nte) : ∀ (os : List Opt) (ds : List Dsc), (recP q now rs ns ds os).1.length = os.length
 | [], _ => rfl
 | o :: r, ds => by rw [recP_cons, List.length_cons, List.length_cons, recP_many q now rs ns r]
theorem recV_fs {os : List Opt} {ps : List Pas} {sts : List Stn} {rs : List Rcp} {ns : List Nte} {now : Int} : (recV os ps sts rs ns now).1.1.length ≤ 24 ∧ ∀ x ∈ (recV os ps sts rs ns now).1.1, x.l.length ≤ 6 := by
 unfold recV
 split
 ·rename_i h
  unfold recOK at h
  simp only [Bool.and_eq_true, decide_eq_true_eq] at h
  have hv := valid_vok h.2.2.2
  refine ⟨by rw [recP_many]; exact hv.len, recP_lens _ _ _ _ _ _ (fun o ho => (hv.sl ho).len)⟩
 ·exact ⟨by simp, fun x hx => by cases hx⟩
structure RecOut (X : (List FteP × List Dsc) × Int) (w : World) (FA : Option Addr) (fn fc : Nat) (DA : Option Addr) (dn dc : Nat) : Prop where
 fs : ∃ fs, Fts w w.heap.size FA fn fc fs ∧ fs.map (·.p) = X.1.1
 ds : RA dscCells 3 w w.heap.size DA dn dc X.1.2
theorem RecOut.ext {X : (List FteP × List Dsc) × Int} {w w' : World} {FA DA : Option Addr} {fn fc dn dc : Nat} (h : RecOut X w FA fn fc DA dn dc) (hx : Ext w w') : RecOut X w' FA fn fc DA dn dc := by
 obtain ⟨⟨fs, h1, h2⟩, h3⟩ := h
 exact ⟨⟨fs, h1.ext hx, h2⟩, ra_ext h3 hx⟩
theorem strL_len (q : Opt → Rcp → Nat) (os : List Opt) : ∀ (l : List Rcp) (i : Nat) (ds : List Dsc), (strL q os i ds l).length ≤ ds.length + l.length
 | [], _, ds => by rw [strL]; simp
 | r :: l, i, ds => by
  rw [strL_cons]
  refine Nat.le_trans (strL_len q os l (i + 1) _) ?_
  split <;> simp <;> omega
theorem recP_dlen (q : Opt → Rcp → Nat) (now : Int) (rs : List Rcp) (ns : List Nte) : ∀ (os : List Opt) (ds : List Dsc), (recP q now rs ns ds os).2.length ≤ ds.length + os.length * (rs.length + ns.length)
 | [], ds => by rw [recP]; simp
 | o :: r, ds => by
  rw [recP_cons]
  have h1 := recP_dlen q now rs ns r (fateP (q o) now o.l o.id rs ns ds).2
  have h2 := fateP_len (q o) now o.l o.id rs ns ds
  rw [List.length_cons, Nat.succ_mul]
  dsimp only
  omega
theorem recV_ds {os : List Opt} {ps : List Pas} {sts : List Stn} {rs : List Rcp} {ns : List Nte} {now : Int} : (recV os ps sts rs ns now).1.2.length ≤ 4000 := by
 unfold recV
 split
 ·rename_i h
  unfold recOK at h
  simp only [Bool.and_eq_true, decide_eq_true_eq] at h
  have hv := (valid_vok h.2.2.2).len
  have h1 := strL_len (qOf ps (skewF sts) now) os rs 0 []
  have h2 := recP_dlen (qOf ps (skewF sts) now) now rs ns os (strL (qOf ps (skewF sts) now) os 0 [] rs)
  have h3 : os.length * (rs.length + ns.length) ≤ 24 * 120 := Nat.mul_le_mul hv (by omega)
  simp at h1
  dsimp only
  omega
 ·simp
theorem RecRet.out {X : (List FteP × List Dsc) × Int} {w w' : World} {e : Ending} (h : RecRet X w e w') (h1 : X.1.1.length ≤ 24 ∧ ∀ x ∈ X.1.1, x.l.length ≤ 6) (h2 : X.1.2.length ≤ 4000) :
  ∃ FA fc DA dc, e = .returned (.tuple #[.slice FA X.1.1.length fc, .slice DA X.1.2.length dc, .int .i64 X.2]) ∧ RecOut X w' FA X.1.1.length fc DA X.1.2.length dc ∧ Ext w w' := by
 obtain ⟨v, vd, fs, he, ho, hp, hd, hx⟩ := h
 obtain ⟨FA, fc, hv, _, _⟩ := own_slice ho.1
 obtain ⟨DA, dc, hvd, _, _⟩ := own_slice hd
 have hl : fs.length = X.1.1.length := by rw [← hp, List.length_map]
 rw [hl] at hv
 subst hv hvd
 refine ⟨FA, fc, DA, dc, he, ⟨⟨fs, ho.fts (by omega) (fun x hx => ?_), hp⟩, RA.of_own hd rfl (by omega)⟩, hx⟩
 have := h1.2 x.p (by rw [← hp]; exact List.mem_map_of_mem hx)
 omega
theorem rec_any (os : List Opt) (ps : List Pas) (sts : List Stn) (rs : List Rcp) (ns : List Nte) (now : Int) (OA PA SA QA NA : Option Addr) (n c pn pc sn sc qn qc nn nc : Nat) (w : World) (ho : Ops w w.heap.size OA n c os) (hp : RA pasCells 6 w w.heap.size PA pn pc ps) (hs : RA stnCells 6 w w.heap.size SA sn sc sts) (hq : RA rcpCells 3 w w.heap.size QA qn qc rs) (hn : RA nteCells 3 w w.heap.size NA nn nc ns) :
  Calls Try.prog 16 #[.slice OA n c, .slice PA pn pc, .slice SA sn sc, .slice QA qn qc, .slice NA nn nc, .int .i64 now] w fun e w' =>
   ∃ FA fc DA dc, e = .returned (.tuple #[.slice FA (recV os ps sts rs ns now).1.1.length fc, .slice DA (recV os ps sts rs ns now).1.2.length dc, .int .i64 (recV os ps sts rs ns now).2]) ∧ RecOut (recV os ps sts rs ns now) w' FA (recV os ps sts rs ns now).1.1.length fc DA (recV os ps sts rs ns now).1.2.length dc ∧ Ext w w' :=
 (reconcile_any os ps sts rs ns now OA PA SA QA NA n c pn pc sn sc qn qc nn nc w ho hp hs hq hn).mono fun _ _ h => h.out recV_fs recV_ds
def ftpV (p : FteP) (A : Option Addr) (c : Nat) : Value := .agg #[.int .i64 p.im, .int .i64 p.st, .slice A p.l.length c, .int .i64 p.fr, .int .i64 p.tt]
def fated2 (X : (List FteP × List Dsc) × Int) (want : FteP) (many : Int) : Bool := decide (X.2 = 0) && (decide ((X.1.2.length : Int) = many) && decide (X.1.1 = [want]))
set_option maxRecDepth 100000 in
set_option maxHeartbeats 8000000 in
theorem fated_any (rs : List Rcp) (ns : List Nte) (now : Int) (want : FteP) (many : Int) (QA NA WA : Option Addr) (qn qc nn nc wc : Nat) (w : World) (hq : RA rcpCells 3 w w.heap.size QA qn qc rs) (hn : RA nteCells 3 w w.heap.size NA nn nc ns) (hw : RA natCells 1 w w.heap.size WA want.l.length wc want.l) :
  Calls Try.prog 35 #[.slice QA qn qc, .slice NA nn nc, .int .i64 now, ftpV want WA wc, .int .i64 many] w fun e w' => e = .returned (.bool (fatedP rs ns now want many)) ∧ Ext w w' := by
 have HEX := Lib.hid (fun W : World => example_any W)
 have hXX : fatedP rs ns now want many = fated2 (recV (exO.map toOpt) exP exS rs ns now) want many := rfl
 rw [hXX]
 have HRC : Hid (∀ (W : World) (g1 g2 g3 : Nat) (os : List Opt), Ext w W → ExR W g1 g2 g3 os → Calls Try.prog 16 #[.slice (some ⟨g1, 0, none⟩) 1 1, .slice (some ⟨g2, 0, none⟩) 2 2, .slice (some ⟨g3, 0, none⟩) 1 1, .slice QA qn qc, .slice NA nn nc, .int .i64 now] W fun e w' =>
   ∃ FA fc DA dc, e = .returned (.tuple #[.slice FA (recV (exO.map toOpt) exP exS rs ns now).1.1.length fc, .slice DA (recV (exO.map toOpt) exP exS rs ns now).1.2.length dc, .int .i64 (recV (exO.map toOpt) exP exS rs ns now).2]) ∧ RecOut (recV (exO.map toOpt) exP exS rs ns now) w' FA (recV (exO.map toOpt) exP exS rs ns now).1.1.length fc DA (recV (exO.map toOpt) exP exS rs ns now).1.2.length dc ∧ Ext W w') := Lib.hid (fun W g1 g2 g3 os hW h => by
  have h1 := rec_any os exP exS rs ns now _ _ _ QA NA 1 1 2 2 1 1 qn qc nn nc W h.ho h.ps h.st (ra_ext hq hW) (ra_ext hn hW)
  rw [recV_map os, h.op] at h1
  exact h1)
 generalize recV (exO.map toOpt) exP exS rs ns now = X at HRC ⊢
 obtain ⟨⟨XF, XD⟩, XE⟩ := X
 have HW := Lib.hid (fun (W : World) (hW : Ext w W) => ra_ext hw hW)
 obtain ⟨wim, wst, wl, wfr, wtt⟩ := want
 dsimp only at HRC HW ⊢
 clear hq hn hw hXX
 generalize hml : wl.length = wn at HW
 have HML := Lib.hid hml
 unfold ftpV fated2
 dsimp only
 rw [hml]
 clear hml
 obtain ⟨fin, hfin⟩ : ∃ y, y = (decide (XE = 0) && (decide ((XD.length : Int) = many) && decide (XF = [(⟨wim, wst, wl, wfr, wtt⟩ : FteP)]))) := ⟨_, rfl⟩
 rw [← hfin]
 have HFIN := Lib.hid hfin
 clear hfin
 go_enter Try.func35, Try.ntmps35
 go_upto_region 1 with (fail)
 have hx1 : Ext w (w.alloc (.cells #[.int .i64 wim, .int .i64 wst, .slice WA wn wc, .int .i64 wfr, .int .i64 wtt] 76)) := bl_alloc (Below.refl _ _) _
 have J := Blk.new w 76 #[.int .i64 wim, .int .i64 wst, .slice WA wn wc, .int .i64 wfr, .int .i64 wtt]
 obtain ⟨g8, hg8⟩ : ∃ g, g = w.heap.size := ⟨_, rfl⟩
 rw [← hg8] at J ⊢
 clear hg8
 generalize w.alloc (.cells #[.int .i64 wim, .int .i64 wst, .slice WA wn wc, .int .i64 wfr, .int .i64 wtt] 76) = W1 at hx1 J ⊢
 have HJ := Lib.hid J
 clear J
 go_wp2_with fail
 refine (HEX.out _).mono ?_
 rintro e W2 ⟨k1, k2, k3, os, rfl, hex, hy⟩
 have hx2 := Ext.trans hx1 hy
 have HJ2 := Lib.hid (HJ.out.ext hy)
 have HC := Lib.hid (HRC.out W2 k1 k2 k3 [exOp os] hx2 hex)
 clear hex hy hx1 HJ HRC HEX
 go_wp2_with fail
 refine HC.out.mono ?_
 rintro e W3 ⟨FA, fc, DA, dc, rfl, hro, hy⟩
 have hx3 := Ext.trans hx2 hy
 have HJ3 := Lib.hid (HJ2.out.ext hy)
 have HRO := Lib.hid hro
 clear hro hy hx2 HJ2 HC
 by_cases he : XE = 0
 ·subst he
  by_cases hm : (XD.length : Int) = many
  ·have hm1 : ((XD.length : Int) == many) = true := by simpa using hm
   subst hm
   have HFE : Hid (fin = decide (XF = [(⟨wim, wst, wl, wfr, wtt⟩ : FteP)])) := Lib.hid (by rw [HFIN.out]; simp)
   have hm2 : ((XD.length : Int) == (XD.length : Int)) = true := by simp
   obtain ⟨fs, hfs, hfp⟩ := HRO.out.fs
   have d0 : W3.cell? ⟨g8, 0, none⟩ = some (.int .i64 wim) := HJ3.out.cell 0
   have d1 : W3.cell? ⟨g8, 1, none⟩ = some (.int .i64 wst) := HJ3.out.cell 1
   have d2 : W3.cell? ⟨g8, 2, none⟩ = some (.slice WA wn wc) := HJ3.out.cell 2
   have d3 : W3.cell? ⟨g8, 3, none⟩ = some (.int .i64 wfr) := HJ3.out.cell 3
   have d4 : W3.cell? ⟨g8, 4, none⟩ = some (.int .i64 wtt) := HJ3.out.cell 4
   have hxa : Ext W3 (W3.alloc (.cells #[.int .i64 wim, .int .i64 wst, .slice WA wn wc, .int .i64 wfr, .int .i64 wtt] 76)) := bl_alloc (Below.refl _ _) _
   have hW := HW.out _ (Ext.trans hx3 hxa)
   have hone : Fts (W3.alloc (.cells #[.int .i64 wim, .int .i64 wst, .slice WA wn wc, .int .i64 wfr, .int .i64 wtt] 76)) (W3.alloc (.cells #[.int .i64 wim, .int .i64 wst, .slice WA wn wc, .int .i64 wfr, .int .i64 wtt] 76)).heap.size (some ⟨W3.heap.size, 0, none⟩) 1 1 [⟨⟨wim, wst, wl, wfr, wtt⟩, WA, wc⟩] :=
    ⟨RA.of_blk (Blk.new _ _ _) (by rw [← HML.out]; rfl) rfl rfl (by omega), fun x hx => by rw [List.mem_singleton.1 hx]; show RA natCells 1 _ _ WA wl.length wc wl; rw [HML.out]; exact hW⟩
   have hS := sameF_any FA (some ⟨W3.heap.size, 0, none⟩) _ 1 fc 1 fs _ _ (hfs.ext hxa) hone
   rw [hfp] at hS
   have HS := Lib.hid hS
   have HXA := Lib.hid (Ext.trans hx3 hxa)
   clear hS hone hW hxa hfs hfp HRO HJ3
   go_wp2_with fail
   refine HS.out.mono ?_
   rintro e W4 ⟨rfl, hy⟩
   have HXF := Lib.hid (Ext.trans HXA.out hy)
   clear hy hx3 d0 d1 d2 d3 d4
   go_wp2
   go_ret
   exact ⟨by rw [HFE.out]; rfl, HXF.out⟩
  ·have hm1 : ((XD.length : Int) == many) = false := by simpa using hm
   have HFE : Hid (fin = false) := Lib.hid (by rw [HFIN.out, decide_eq_false hm]; simp)
   go_wp2
   go_ret
   exact ⟨by rw [HFE.out]; rfl, hx3⟩
 ·have he1 : (XE == 0) = false := by simpa using he
  have HFE : Hid (fin = false) := Lib.hid (by rw [HFIN.out, decide_eq_false he]; rfl)
  go_wp2
  go_ret
  exact ⟨by rw [HFE.out]; rfl, hx3⟩
end Go.Proofs.Ytmlabgmigakcbaa
namespace Go.Proofs.Ytmlabgmigakcbaa
theorem passL_sorted : ∀ (l : List Tri) (a : Int), 0 ≤ a → sortedP (passL a l) = true
 | [], _, _ => rfl
 | [t], a, _ => by rw [passL_cons, passL]; rfl
 | t :: u :: r, a, ha => by
  have h0 := pickI_bd t.a 700 (by omega)
  have h1 := pickI_bd u.a 700 (by omega)
  have ih := passL_sorted (u :: r) (a + 1 + pickI t.a 700) (by omega)
  rw [passL_cons] at ih
  rw [passL_cons, passL_cons, sortedP, ih, Bool.and_true]
  have hc : cmpPas (passOf (a + 1 + pickI t.a 700 + 1 + pickI u.a 700) u) (passOf (a + 1 + pickI t.a 700) t) = 1 := by
   unfold cmpPas passOf
   dsimp only
   have h2 : cmpI (a + 1 + pickI t.a 700 + 1 + pickI u.a 700) (a + 1 + pickI t.a 700) = 1 := by
    unfold cmpI
    rw [if_neg (by omega), if_pos (by omega)]
   rw [h2]
   rfl
  rw [hc]
  rfl
theorem passP_proper (xs : List Tri) : properP (passP xs) = true := by
 unfold properP
 rw [Bool.and_eq_true, Bool.and_eq_true]
 refine ⟨⟨decide_eq_true (by have := passP_len xs; omega), ?_⟩, passL_sorted _ 5 (by omega)⟩
 rw [List.all_eq_true]
 intro p hp
 have hb := passP_bd xs p hp
 unfold pasOK splIn inB
 simp only [Bool.and_eq_true, Bool.or_eq_true, decide_eq_true_eq]
 refine ⟨⟨⟨by omega, by omega⟩, by omega⟩, .inr (by omega)⟩
theorem casS_ok (c : Cas) : stnsOK (casS c) = true := by
 have h0 := pickI_bd (triAt c.sk 0) 8 (by omega)
 have h1 := pickI_bd (triAt c.sk 1) 8 (by omega)
 have h2 := pickI_bd (triAt c.sk 2) 8 (by omega)
 show (decide ((3 : Nat) ≤ 12) && listOK stnOK (·.id) none [stnOf 0 (triAt c.sk 0), stnOf 1 (triAt c.sk 1), stnOf 2 (triAt c.sk 2)]) = true
 simp [listOK, stnOK, stnOf, celOK, inB]
 exact ⟨decide_eq_true (by omega), decide_eq_true (by omega), decide_eq_true (by omega)⟩
theorem casS_skew (c : Cas) (k : Int) (hk : 0 ≤ k ∧ k < 3) : (skewF (casS c) k).isSome = true := by
 have hc : k = 0 ∨ k = 1 ∨ k = 2 := by omega
 show (skewL (fun _ => none) [stnOf 0 (triAt c.sk 0), stnOf 1 (triAt c.sk 1), stnOf 2 (triAt c.sk 2)] k).isSome = true
 rw [skewL_cons, skewL_cons, skewL_cons]
 simp only [stnOf, skewL, List.foldl_nil]
 rcases hc with rfl | rfl | rfl <;> rfl
theorem cas_there (c : Cas) : stnIn (skewF (casS c)) (casP c) = true := by
 unfold stnIn
 rw [List.all_eq_true]
 intro p hp
 have hb := passP_bd c.ps p hp
 exact casS_skew c p.station (by omega)
theorem slotsOK_snoc (ps : List Pas) : ∀ (l : List Slt) (e : Int) (s : Slt), slotsOK ps e l = true → inB s.p 0 ((ps.length : Int) - 1) = true → (match ps[s.p.toNat]? with | none => False | some p => p.sure.fr ≤ s.fr ∧ s.fr < s.tt ∧ s.tt ≤ p.sure.tt) → (∀ x, l.getLast? = some x → x.tt ≤ s.fr) → e ≤ s.fr → slotsOK ps e (l ++ [s]) = true
 | [], e, s, _, h2, h3, _, h5 => by
  rw [List.nil_append, slotsOK_cons, h2]
  cases hq : ps[s.p.toNat]? with
  | none => rw [hq] at h3; exact h3.elim
  | some p =>
   rw [hq] at h3
   dsimp only at h3 ⊢
   rw [slotsOK, decide_eq_true (by omega), decide_eq_true (by omega), decide_eq_true (by omega)]
   rfl
 | x :: r, e, s, h1, h2, h3, h4, h5 => by
  rw [slotsOK_cons, Bool.and_eq_true] at h1
  rw [List.cons_append, slotsOK_cons, h1.1, Bool.true_and]
  refine slotsOK_snoc ps r x.tt s h1.2 h2 h3 (fun y hy => h4 y (by rw [List.getLast?_cons, hy]; rfl)) ?_
  cases hr : r.getLast? with
  | none =>
   have : r = [] := List.getLast?_eq_none_iff.1 hr
   subst this
   exact h4 x rfl
  | some y =>
   have h6 := h4 y (by rw [List.getLast?_cons, hr]; rfl)
   have hall := slotsOK_last ps r x.tt h1.2 y hr
   omega
where slotsOK_last (ps : List Pas) : ∀ (l : List Slt) (e : Int), slotsOK ps e l = true → ∀ y, l.getLast? = some y → e < y.tt
 | [], _, _ => fun y hy => by cases hy
 | x :: r, e, h => by
  intro y hy
  rw [slotsOK_cons, Bool.and_eq_true, Bool.and_eq_true] at h
  have hx : e < x.tt := by
   have := h.1.2
   cases hq : ps[x.p.toNat]? with
   | none => rw [hq] at this; cases this
   | some p =>
    rw [hq] at this
    simp only [Bool.and_eq_true, decide_eq_true_eq] at this
    omega
  cases hr : r.getLast? with
  | none =>
   have : r = [] := List.getLast?_eq_none_iff.1 hr
   subst this
   have e2 : y = x := by simpa using hy.symm
   rw [e2]; exact hx
  | some z =>
   have e2 : y = z := by rw [List.getLast?_cons, hr] at hy; simpa using hy.symm
   have := slotsOK_last ps r x.tt h.2 z hr
   rw [e2]; omega
theorem pasAt_get {ps : List Pas} {k : Int} (h : 0 ≤ k ∧ k < ps.length) : ps[k.toNat]? = some (pasAt ps k) := by
 unfold pasAt
 rw [List.getD_eq_getElem?_getD, List.getElem?_eq_getElem (by omega)]
 rfl
theorem optL_ok (ps : List Pas) (hps : 0 < ps.length) : ∀ (xs : List Int) (a : Int) (sl : List Slt), 0 ≤ a → slotsOK ps 0 sl = true → (∀ x, sl.getLast? = some x → x.tt ≤ a) → sl.length ≤ 6 → slotsOK ps 0 (optL ps a sl xs) = true ∧ (optL ps a sl xs).length ≤ 6
 | [], _, _, _, h, _, hl => by rw [optL]; exact ⟨h, hl⟩
 | x :: r, a, sl, ha, h, he, hl => by
  rw [optL_cons]
  split
  ·rename_i h6
   split
   ·rename_i hft
    have hp := pickI_bd x ps.length (by omega)
    have hfr : (pasAt ps (pickI x ps.length)).sure.fr ≤ frOf ps x a ∧ a ≤ frOf ps x a := by unfold frOf; omega
    refine optL_ok ps hps r _ _ (by omega) ?_ (fun y hy => ?_) (by simp; omega)
    ·refine slotsOK_snoc ps sl 0 _ h ?_ ?_ (fun y hy => ?_) ?_
     ·unfold inB; exact decide_eq_true (by dsimp only; omega)
     ·dsimp only
      rw [pasAt_get hp]
      dsimp only
      omega
     ·have := he y hy; dsimp only; omega
     ·dsimp only; omega
    ·rw [List.getLast?_append] at hy
     have e2 : y = ⟨pickI x ps.length, frOf ps x a, frOf ps x a + 1⟩ := by simpa using hy.symm
     rw [e2]
     exact Int.le_refl _
   ·exact optL_ok ps hps r a sl ha h he hl
  ·exact ⟨h, hl⟩
theorem optS_ok (xs : List Tri) (x : List Int) (h0 : 0 < (passP xs).length) : lossOK (passP xs) (optS (passP xs) x) = true := by
 obtain ⟨h1, h2⟩ := optL_ok (passP xs) h0 x 0 [] (by omega) rfl (fun y hy => by cases hy) (by simp)
 unfold lossOK
 rw [Bool.and_eq_true, decide_eq_true_eq]
 unfold optS
 split
 ·refine ⟨by simp, ?_⟩
  have hp : pasAt (passP xs) 0 ∈ passP xs := by
   unfold pasAt
   rw [show ((0 : Int)).toNat = 0 from rfl, List.getD_eq_getElem?_getD, List.getElem?_eq_getElem h0]
   exact List.getElem_mem h0
  have hb := passP_bd xs _ hp
  rw [slotsOK_cons]
  have hg : (passP xs)[(0 : Int).toNat]? = some (pasAt (passP xs) 0) := pasAt_get (by omega)
  dsimp only
  rw [hg]
  dsimp only
  rw [slotsOK]
  simp [inB]
  omega
 ·rename_i hne
  exact ⟨⟨by have := List.length_pos_iff.2 hne; omega, h2⟩, h1⟩
theorem optsR_ids (ps : List Pas) (hp : properP ps = true) : ∀ (l : List (List Slt)) (k : Nat) (seen : Int → Bool), k + l.length ≤ 64 → (∀ s ∈ l, lossOK ps s = true) → (∀ j : Int, (k : Int) ≤ j → seen j = false) → optsR ps seen ((l.zipIdx k).map (fun x => toOpt ⟨(x.2 : Nat), x.1⟩)) = true
 | [], _, _, _, _, _ => rfl
 | s :: r, k, seen, hl, hs, hn => by
  simp only [List.length_cons] at hl
  rw [List.zipIdx_cons, List.map_cons, optsR_cons]
  have h1 : inB (toOpt ⟨((k : Nat) : Int), s⟩).id 0 63 = true := by unfold inB toOpt; exact decide_eq_true (by dsimp only; omega)
  have h2 : seen (toOpt ⟨((k : Nat) : Int), s⟩).id = false := hn _ (Int.le_refl _)
  have h3 : lossOK ps (toOpt ⟨((k : Nat) : Int), s⟩).l = true := hs s List.mem_cons_self
  dsimp only
  rw [h1, h2, h3, hp]
  simp only [Bool.not_false, Bool.and_self, Bool.true_and]
  refine optsR_ids ps hp r (k + 1) _ (by omega) (fun x hx => hs x (List.mem_cons_of_mem _ hx)) (fun j hj => ?_)
  rw [if_neg (by show ¬ j = (k : Int); omega)]
  exact hn j (by omega)
theorem optsP_form (ps : List Pas) (xs : List (List Int)) : (optsP ps xs).map toOpt = (((xs.take 8).map (optSlt ps)).zipIdx 0).map (fun x => toOpt ⟨(x.2 : Nat), x.1⟩) := by
 unfold optsP
 rw [List.zipIdx_map, List.map_map, List.map_map]
 rfl
theorem cas_valid (c : Cas) : validP ((casO c).map toOpt) (casP c) (casS c) = true := by
 unfold validP casO
 split
 ·simp only [List.map_nil, Bool.and_eq_true, decide_eq_true_eq]
  exact ⟨by simp, passP_proper _, casS_ok c, cas_there c, rfl⟩
 ·rename_i hne
  rw [optsP_form]
  simp only [Bool.and_eq_true, decide_eq_true_eq]
  refine ⟨by simp; omega, passP_proper _, casS_ok c, cas_there c, optsR_ids _ (passP_proper _) _ 0 _ (by simp; omega) (fun s hs => ?_) (fun _ _ => rfl)⟩
  obtain ⟨x, _, rfl⟩ := List.mem_map.1 hs
  unfold optSlt
  exact optS_ok c.ps _ (by show 0 < (casP c).length; omega)
end Go.Proofs.Ytmlabgmigakcbaa
namespace Go.Proofs.Ytmlabgmigakcbaa
theorem nextP_zero (is_ : Bool) (slot : Nat) : nextP is_ 0 slot = 0 := by cases is_ <;> simp [nextP, clrB]
theorem noteP_zero (now : Int) (sl : List Slt) (id : Int) : ∀ (l : List Nte) (i slot : Nat) (done : Bool) (ds : List Dsc), (noteP now sl id i 0 slot done ds l).1 = 0
 | [], _, _, _, _ => by rw [noteP]
 | n :: l, i, slot, done, ds => by
  rw [noteP_cons]
  split
  ·exact noteP_zero now sl id l _ _ _ _
  ·split
   ·rfl
   ·split
    ·exact noteP_zero now sl id l _ _ _ _
    ·rw [nextP_zero]; exact noteP_zero now sl id l _ _ _ _
def DsOK (m : Nat) (d : Dsc) : Prop := (d.kind = 3 ∨ d.kind = 4) ∧ 0 ≤ d.ix ∧ d.ix < m
theorem noteP_ds (now : Int) (sl : List Slt) (id : Int) (m : Nat) : ∀ (l : List Nte) (i left slot : Nat) (done : Bool) (ds : List Dsc), i + l.length ≤ m → (∀ d ∈ ds, DsOK m d) → ∀ d ∈ (noteP now sl id i left slot done ds l).2, DsOK m d
 | [], _, _, _, _, _, _, h => by rw [noteP]; exact h
 | n :: l, i, left, slot, done, ds, hi, h => by
  simp only [List.length_cons] at hi
  rw [noteP_cons]
  split
  ·exact noteP_ds now sl id m l _ _ _ _ _ (by omega) h
  ·split
   ·intro d hd
    rcases List.mem_append.1 hd with hd | hd
    ·exact h d hd
    ·rw [List.mem_singleton.1 hd]; exact ⟨.inl rfl, by dsimp only; omega, by dsimp only; omega⟩
   ·split
    ·refine noteP_ds now sl id m l _ _ _ _ _ (by omega) (fun d hd => ?_)
     rcases List.mem_append.1 hd with hd | hd
     ·exact h d hd
     ·rw [List.mem_singleton.1 hd]; exact ⟨.inr rfl, by dsimp only; omega, by dsimp only; omega⟩
    ·exact noteP_ds now sl id m l _ _ _ _ _ (by omega) h
def noneE (now : Int) (o : Opp) : FteP := fateE now o.l o.id 0
theorem recP_none (q : Opt → Rcp → Nat) (now : Int) (ns : List Nte) : ∀ (os : List Opp) (ds : List Dsc), (∀ d ∈ ds, DsOK ns.length d) → (recP q now [] ns ds (os.map toOpt)).1 = os.map (noneE now) ∧ ∀ d ∈ (recP q now [] ns ds (os.map toOpt)).2, DsOK ns.length d
 | [], ds, h => ⟨rfl, h⟩
 | o :: r, ds, h => by
  rw [List.map_cons, recP_cons]
  have e1 : fateP (q (toOpt o)) now (toOpt o).l (toOpt o).id [] ns ds = (fateE now o.l o.id (noteP now o.l o.id 0 0 0 false ds ns).1, (noteP now o.l o.id 0 0 0 false ds ns).2) := by
   unfold fateP
   rw [recvP]
   rfl
  rw [e1, noteP_zero]
  have h2 := noteP_ds now o.l o.id ns.length ns 0 0 0 false ds (by omega) h
  obtain ⟨i1, i2⟩ := recP_none q now ns r _ h2
  refine ⟨?_, i2⟩
  rw [i1]
  rfl
theorem recV_none (c : Cas) (ns : List Nte) (now : Int) (hn : ns.length ≤ 60) (h0 : 0 ≤ now ∧ now ≤ 1000000) : (recV ((casO c).map toOpt) (casP c) (casS c) [] ns now).2 = 0 ∧ (recV ((casO c).map toOpt) (casP c) (casS c) [] ns now).1.1 = (casO c).map (noneE now) ∧ ∀ d ∈ (recV ((casO c).map toOpt) (casP c) (casS c) [] ns now).1.2, DsOK ns.length d := by
 have hok : recOK ((casO c).map toOpt) (casP c) (casS c) [] ns now = true := by
  unfold recOK
  rw [cas_valid, decide_eq_true h0, decide_eq_true hn]
  rfl
 unfold recV
 rw [if_pos hok, strL]
 obtain ⟨h1, h2⟩ := recP_none (qOf (casP c) (skewF (casS c)) now) now ns (casO c) [] (fun d hd => by cases hd)
 exact ⟨rfl, h1, h2⟩
theorem cas_slots (c : Cas) : ∀ o ∈ casO c, 0 < o.l.length ∧ o.l.length ≤ 6 ∧ slotsOK (casP c) 0 o.l = true := by
 intro o ho
 have hv := cas_valid c
 have h := (valid_vok hv).each (toOpt o) (List.mem_map_of_mem ho)
 have h3 := h.2.2
 unfold lossOK at h3
 rw [Bool.and_eq_true, decide_eq_true_eq] at h3
 have e : (toOpt o).l = o.l := rfl
 rw [e] at h3
 exact ⟨by omega, h3.1.2, h3.2⟩
theorem slots_tt (ps : List Pas) : ∀ (l : List Slt) (e : Int), slotsOK ps e l = true → ∀ (i j : Nat) (hi : i ≤ j) (hj : j < l.length), e < (l[i]'(by omega)).tt ∧ (l[i]'(by omega)).tt ≤ l[j].tt
 | [], _, _ => fun i j _ hj => by simp at hj
 | x :: r, e, h => by
  intro i j hi hj
  rw [slotsOK_cons, Bool.and_eq_true, Bool.and_eq_true] at h
  have hx : e < x.tt := by
   have := h.1.2
   cases hq : ps[x.p.toNat]? with
   | none => rw [hq] at this; cases this
   | some p =>
    rw [hq] at this
    simp only [Bool.and_eq_true, decide_eq_true_eq] at this
    omega
  cases j with
  | zero =>
   obtain rfl : i = 0 := by omega
   exact ⟨hx, Int.le_refl _⟩
  | succ j =>
   simp only [List.length_cons] at hj
   cases i with
   | zero =>
    have := slots_tt ps r x.tt h.2 0 j (by omega) (by omega)
    have h2 := slots_tt ps r x.tt h.2 j j (by omega) (by omega)
    simp only [List.getElem_cons_zero, List.getElem_cons_succ]
    omega
   | succ i =>
    have := slots_tt ps r x.tt h.2 i j (by omega) (by omega)
    simp only [List.getElem_cons_succ]
    omega
theorem openL_nil {ps : List Pas} {l : List Slt} {now : Int} (h : slotsOK ps 0 l = true) (hl : 0 < l.length) : openL now l = [] ↔ (l[l.length - 1]'(by omega)).tt ≤ now := by
 have hm : ∀ k, k ∈ openL now l ↔ k < l.length ∧ now < ttAt l k := fun k => by simp [openL]
 constructor
 ·intro e
  by_cases hh : (l[l.length - 1]'(by omega)).tt ≤ now
  ·exact hh
  ·have : l.length - 1 ∈ openL now l := (hm _).2 ⟨by omega, by rw [ttAt_eq (by omega)]; omega⟩
   rw [e] at this
   cases this
 ·intro hh
  cases hq : openL now l with
  | nil => rfl
  | cons k r =>
   have h1 := (hm k).1 (by rw [hq]; exact List.mem_cons_self)
   have h2 := (slots_tt ps l 0 h k (l.length - 1) (by omega) (by omega)).2
   rw [ttAt_eq h1.1] at h1
   omega
def lastT (o : Opp) : Int := (o.l.getD (o.l.length - 1) ⟨0, 0, 0⟩).tt
theorem noneE_st {c : Cas} {o : Opp} (ho : o ∈ casO c) (now : Int) : (noneE now o).st = (if lastT o ≤ now then 3 else 2) ∧ (lastT o ≤ now → (noneE now o).l = []) ∧ (¬ lastT o ≤ now → 0 < (noneE now o).l.length) ∧ (noneE now o).im = o.id := by
 obtain ⟨h1, h2, h3⟩ := cas_slots c o ho
 have hl : lastT o = (o.l[o.l.length - 1]'(by omega)).tt := by unfold lastT; rw [List.getD_eq_getElem?_getD, List.getElem?_eq_getElem (by omega)]; rfl
 have hop := openL_nil (now := now) h3 h1
 rw [← hl] at hop
 unfold noneE fateE
 rw [if_neg (by omega)]
 by_cases hh : lastT o ≤ now
 ·rw [if_pos (hop.2 hh), if_pos hh]
  exact ⟨rfl, fun _ => rfl, fun h => absurd hh h, rfl⟩
 ·have hne : ¬ openL now o.l = [] := fun e => hh (hop.1 e)
  rw [if_neg hne, if_neg hh]
  exact ⟨rfl, fun h => absurd h hh, fun _ => List.length_pos_iff.2 hne, rfl⟩
theorem lastT_bd {c : Cas} {o : Opp} (ho : o ∈ casO c) : 0 ≤ lastT o ∧ lastT o ≤ 10000 := by
 obtain ⟨h1, h2, h3⟩ := cas_slots c o ho
 have hl : lastT o = (o.l[o.l.length - 1]'(by omega)).tt := by unfold lastT; rw [List.getD_eq_getElem?_getD, List.getElem?_eq_getElem (by omega)]; rfl
 rw [hl]
 have h4 := slots_tt _ o.l 0 h3 (o.l.length - 1) (o.l.length - 1) (Nat.le_refl _) (by omega)
 refine ⟨by omega, ?_⟩
 exact slot_bd c.ps o.l 0 h3 _ (List.getElem_mem (by omega))
where slot_bd (xs : List Tri) : ∀ (l : List Slt) (e : Int), slotsOK (passP xs) e l = true → ∀ s ∈ l, s.tt ≤ 10000
 | [], _, _ => fun s hs => by cases hs
 | x :: r, e, h => by
  rw [slotsOK_cons, Bool.and_eq_true, Bool.and_eq_true] at h
  intro s hs
  rcases List.mem_cons.1 hs with rfl | hs
  ·have := h.1.2
   cases hq : (passP xs)[s.p.toNat]? with
   | none => rw [hq] at this; cases this
   | some p =>
    rw [hq] at this
    simp only [Bool.and_eq_true, decide_eq_true_eq] at this
    have hb := passP_bd xs p (List.mem_of_getElem? hq)
    omega
  ·exact slot_bd xs r x.tt h.2 s hs
theorem evt_none (c : Cas) (now : Int) : delP ((casO c).map (noneE now)) = [] := by
 unfold delP evtL
 have h : ((casO c).map (noneE now)).filter (fun f => f.st == 1) = [] := by
  rw [List.filter_eq_nil_iff]
  intro f hf
  obtain ⟨o, ho, rfl⟩ := List.mem_map.1 hf
  rw [(noneE_st ho now).1]
  split <;> simp
 rw [h]
 rfl
end Go.Proofs.Ytmlabgmigakcbaa
namespace Go.Proofs.Ytmlabgmigakcbaa
def fOpen : FteP := ⟨7, 2, [2], 102, 102⟩
def fBoth : FteP := ⟨7, 1, [0, 1], 12, 16⟩
def fOne : FteP := ⟨7, 1, [1], 16, 16⟩
def fLost : FteP := ⟨7, 3, [], 0, 0⟩
theorem ev1 : fatedP [] [] 50 fOpen 0 = true := by decide +kernel
theorem ev2 : fatedP [⟨3, 7, 14⟩] [] 50 fBoth 0 = true := by decide +kernel
theorem ev3 : fatedP [⟨3, 7, 14⟩] [⟨7, 0, false⟩] 50 fOne 0 = true := by decide +kernel
theorem ev4 : fatedP [⟨3, 7, 30⟩] [] 50 fOpen 1 = true := by decide +kernel
theorem ev5 : fatedP [] [] 102 fLost 0 = true := by decide +kernel
theorem ev6 : (delP [fBoth, fOpen]).map (fun e => (e.at_, e.im)) = [(16, 7)] := by decide +kernel
theorem ev7 : wrtV (exO.map toOpt) exP exS [0] [9] = (([⟨3, 7, 104⟩], [⟨7, 0, false⟩, ⟨7, 1, false⟩, ⟨7, 2, true⟩]), 0) := by decide +kernel
theorem ev8 : recV (exO.map toOpt) exP [] [] [] 0 = (([], []), 300) := by decide +kernel
theorem ev9 : fitsV (toOpt ⟨7, exL⟩) exP exS ⟨3, 7, 14⟩ 50 = [0, 1] := by decide +kernel
theorem ev10 : validP (exO.map toOpt) exP exS = true := by decide +kernel
theorem ev11 : validP (exO.map toOpt) exP [] = false := by decide +kernel
theorem ev6b : delP [fBoth, fOpen] = [⟨16, 7⟩] := by
 have h := ev6
 generalize delP [fBoth, fOpen] = l at h
 cases l with
 | nil => cases h
 | cons x r =>
  obtain ⟨a, b⟩ := x
  simp only [List.map_cons, List.cons.injEq, Prod.mk.injEq, List.map_eq_nil_iff] at h
  obtain ⟨⟨h1, h2⟩, h3⟩ := h
  rw [h1, h2, h3]
end Go.Proofs.Ytmlabgmigakcbaa
