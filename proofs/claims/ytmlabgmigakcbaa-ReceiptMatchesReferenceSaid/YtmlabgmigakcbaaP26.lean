/- The reference: Delivered; SameDiscords. -/
import Derived.Test.YtmlabgmigakcbaaP25
import Derived.ArgAppend
import Derived.Deep.CutRange
import Derived.Great.BuildSlice
namespace Go.Proofs.Ytmlabgmigakcbaa
open Go.RowKit
theorem info_evt2Q : (Try.prog.info? 59).map (fun i => (i.zero.map (fun z => z.cells.size), i.size)) = some (some 7, 7) := by kernel_rfl
theorem wpList_buildOne {P : Program} {ops : Array Oper} {rest : List Oper} {o : Oper} {a : Act} {w : World} {Q : Exit → Act → World → Prop} (hg : o.guard = none) (t e : TypeId) (x : Operand) (ho : o.op = .buildSlice t 1 #[(0, x)])
  (X : Array Value) (hx : a.eval x = .agg X) (hu : P.underlying t = some (.slice e)) (s : Nat) (hi : (P.info? e).map (fun i => (i.zero.map (fun z => z.cells.size), i.size)) = some (some s, s)) (hs : X.size = s) (h0 : 0 < s) (hsm : s ≤ 2 ^ 24)
  (h : wpList P ops Q rest (a.put o.dst (.slice (some ⟨w.heap.size, 0, none⟩) 1 1)) (w.alloc (.cells X e))) : wpList P ops Q (o :: rest) a w := by
 cases hie : P.info? e with
 |none => simp [hie] at hi
 |some ie =>
  cases hz : ie.zero with
  |none => simp [hie, hz] at hi
  |some z =>
   simp only [hie, hz, Option.map_some, Option.some.injEq, Prod.mk.injEq] at hi
   obtain ⟨hzs, his⟩ := hi
   refine wpList_buildSlice hg t e 1 _ ho X ie z hu hie hz (by omega) (by omega) ?_ h
   have hf := Great.fill_whole (s := s) h0 [.agg X] ((Array.range (1 * ie.size)).map (z.cells[· % z.cells.size]!)) (by intro v hv; obtain rfl := List.mem_singleton.1 hv; exact hs) (by simp [his])
   simp [hx, his] at hf ⊢
   exact hf
theorem evt_oneQ (x : Evt) : ∀ u ∈ evtCells x, u.oneCell' = true := by simp [evtCells, Value.oneCell']
theorem evt_ones (l : List Evt) : ∀ u ∈ l.flatMap evtCells, u.oneCell' = true := by
 intro u hu
 obtain ⟨x, _, hx⟩ := List.mem_flatMap.1 hu
 exact evt_oneQ x u hx
def ConsE (W : World) (v : Value) (l : List Evt) : Prop := ∃ A c, v = .slice (some A) l.length c ∧ ∀ q u, (l.flatMap evtCells)[q]? = some u → W.cell? (A.add q) = some u
theorem ConsE.ext {W W' : World} {v : Value} {l : List Evt} (h : ConsE W v l) (hx : Ext W W') : ConsE W' v l := by
 obtain ⟨A, c, h1, h2⟩ := h
 exact ⟨A, c, h1, fun q u hu => ext_cell hx (h2 q u hu)⟩
theorem run_consE {w : World} (ty : TypeId) (g : Nat) (z : Evt) (l : List Evt) (A : Option Addr) (m c B : Nat) (hg : Blk w g 59 (evtCells z).toArray) (hr : Reads w B 7 A m (l.flatMap evtCells)) (hm : m ≤ 1000) :
  ∃ v' w', (Builtin.append_ #[54, 54] ty #[.slice (some ⟨g, 0, none⟩) 1 1, .slice A m c]).run Try.prog w = .ok v' w' ∧ Ext w w' ∧ ConsE w' v' (z :: l) := by
 obtain ⟨i0, hi0, hz0, hz1, hz2⟩ := info_parts info_evt
 have hlm : l.length = m := by have h1 := hr.1; rw [flat_len evt_len] at h1; omega
 rcases Nat.eq_zero_or_pos m with h0 | h0
 ·subst h0
  obtain rfl : l = [] := List.eq_nil_of_length_eq_zero hlm
  refine ⟨_, _, run_append_none w _ _ _ i0 Try.underlying54 hi0 ⟨g, 0, none⟩ 1 1 (Nat.le_refl _) A c, Ext.refl _, ⟨g, 0, none⟩, 1, rfl, fun j u hu => ?_⟩
  rw [Addr.add_lit, Nat.zero_add, hg.cell]
  simpa using hu
 ·obtain ⟨b, o, rfl, hb, hc⟩ := hr.2 h0
  obtain ⟨v', w', h1, h2, h3⟩ := run_append_arg_grows (P := Try.prog) (w := w) 54 ty 59 i0 _ 7 72 Try.underlying54 hi0 hz0 hz1 hz2 rfl (by omega) ⟨g, 0, none⟩ 1 1 (evtCells z) rfl (fun j u hu => by rw [Addr.add_lit, Nat.zero_add, hg.cell]; simpa using hu) ⟨b, o, none⟩ m c _ hr.1 (fun j u hu => by rw [Addr.add_lit]; exact hc j u hu) (by omega) (by unfold maxLen; omega) (by omega)
  rcases h2.2 with ⟨rfl, hn⟩ | ⟨g', cap, cur, rfl, _, _, _, _, _⟩
  ·omega
  ·have hrd := Reads.of_own h2
   obtain ⟨b', o', hA, _, hc'⟩ := hrd.2 (by omega)
   injection hA with hA
   refine ⟨_, _, h1, ⟨h3.os, h3.tape, h3.output, h3.size, fun k hk => h3.block k hk (by simp)⟩, ⟨g', 0, none⟩, cap, by rw [List.length_cons, hlm, Nat.add_comm], fun j u hu => ?_⟩
   rw [hA, Addr.add_lit]
   exact hc' j u (by rw [← List.flatMap_cons]; exact hu)
theorem run_ontoE {w : World} (ty : TypeId) (xs ys : List Evt) (v : Value) (n c' : Nat) (A' : Addr) (hv : (v = .slice none 0 0 ∧ n = 0) ∨ ∃ g, v = .slice (some ⟨g, 0, none⟩) n n ∧ ∀ j u, (xs.flatMap evtCells)[j]? = some u → w.cell? ⟨g, j, none⟩ = some u) (hx : xs.length = n) (hm : 0 < ys.length) (hn : n + ys.length ≤ 1000)
  (hr : ∀ j u, (ys.flatMap evtCells)[j]? = some u → w.cell? (A'.add j) = some u) :
  ∃ v' w', (Builtin.append_ #[54, 54] ty #[v, .slice (some A') ys.length c']).run Try.prog w = .ok v' w' ∧ Ext w w' ∧ OwnE w' w.heap.size v' (xs ++ ys) := by
 obtain ⟨i0, hi0, hz0, hz1, hz2⟩ := info_parts info_evt
 have hly : (ys.flatMap evtCells).length = ys.length * 7 := by rw [flat_len evt_len]
 have hlx : (xs.flatMap evtCells).length = n * 7 := by rw [flat_len evt_len, hx]
 unfold OwnE
 rw [List.flatMap_append, List.length_append, hx]
 rcases hv with ⟨rfl, rfl⟩ | ⟨g, rfl, hc⟩
 ·obtain rfl : xs = [] := List.eq_nil_of_length_eq_zero hx
  obtain ⟨v', w', h1, h2, h3, -⟩ := run_append_own (P := Try.prog) w w.heap.size 54 ty 59 i0 _ 7 72 Try.underlying54 hi0 hz0 hz1 hz2 rfl (by omega) _ 0 [] (World.ownsRow_nil _ _ _ _) A' ys.length c' _ hly hr (evt_ones ys) (by unfold maxLen; omega) (by omega) (Nat.le_refl _)
  exact ⟨v', w', h1, ⟨h3.os, h3.tape, h3.output, h3.size, fun k hk => h3.block k hk (by simp [Value.ownBlock])⟩, h2⟩
 ·obtain ⟨v', w', h1, h2, h3⟩ := run_append_arg_grows (P := Try.prog) (w := w) 54 ty 59 i0 _ 7 72 Try.underlying54 hi0 hz0 hz1 hz2 rfl (by omega) ⟨g, 0, none⟩ n n _ hlx (fun j u hu => by rw [Addr.add_lit, Nat.zero_add]; exact hc j u hu) A' ys.length c' _ hly hr (by omega) (by unfold maxLen; omega) (by omega)
  exact ⟨v', w', h1, ⟨h3.os, h3.tape, h3.output, h3.size, fun k hk => h3.block k hk (by simp)⟩, h2⟩
theorem OwnE.base {W : World} {b b' : Nat} {v : Value} {l : List Evt} (h : OwnE W b v l) (hb : b' ≤ b) : OwnE W b' v l := own_base h hb
theorem evt_lt (a b : Evt) : ltOf cmpEvt a b = decide (b.at_ > a.at_ ∨ (b.at_ = a.at_ ∧ b.im > a.im)) := by
 unfold ltOf cmpEvt
 refine decide_eq_decide.2 ?_
 by_cases h1 : a.at_ < b.at_
 ·simp [orL, cmpI, h1]
 ·by_cases h2 : b.at_ < a.at_
  ·simp [orL, cmpI, h1, h2]
   omega
  ·have h3 : b.at_ = a.at_ := by omega
   by_cases h4 : a.im < b.im
   ·simp [orL, cmpI, h3, h4]
   ·by_cases h5 : b.im < a.im <;> simp [orL, cmpI, h3, h4, h5]
theorem ins_evt {L : List Evt} {P : Evt} {j : Nat} (hj : j ≤ (sortP (ltOf cmpEvt) L).length) (h1 : ∀ z ∈ (sortP (ltOf cmpEvt) L).drop j, ltOf cmpEvt P z = true) (h2 : j = 0 ∨ ∃ h : j - 1 < (sortP (ltOf cmpEvt) L).length, 0 < j ∧ ltOf cmpEvt P (sortP (ltOf cmpEvt) L)[j - 1] = false) :
  sortP (ltOf cmpEvt) (L ++ [P]) = (sortP (ltOf cmpEvt) L).take j ++ P :: (sortP (ltOf cmpEvt) L).drop j := by
 rw [sortP_snoc]
 have h := insR_stop (ltOf cmpEvt) ((sortP (ltOf cmpEvt) L).take j) ((sortP (ltOf cmpEvt) L).drop j) P (fun y hy => by
  rcases h2 with rfl | ⟨h, hj0, h2⟩
  ·simp at hy
  ·rw [List.getLast?_take, if_neg (by omega)] at hy
   rw [List.getElem?_eq_getElem h] at hy
   simp at hy
   rw [← hy]
   exact h2) h1
 rw [List.take_append_drop] at h
 exact h
set_option maxRecDepth 100000 in
set_option maxHeartbeats 16000000 in
theorem rDelivered_any (fs : List Fte) (FA : Option Addr) (n c : Nat) (w : World) (hr : RA fteCells 5 w w.heap.size FA n c fs) (hn : n ≤ 24) :
  Calls Try.prog 21 #[.slice FA n c] w fun e w' => ∃ v, e = .returned v ∧ OwnE w' w.heap.size v (delP (fs.map (·.p))) ∧ Ext w w' := by
 have HR := Lib.hid hr
 have HL := Lib.hid hr.len
 obtain ⟨fin, hfin⟩ : ∃ x, x = delP (fs.map (·.p)) := ⟨_, rfl⟩
 rw [← hfin]
 have HFIN := Lib.hid hfin
 clear hr hfin
 go_enter Try.func21, Try.ntmps21
 go_wp2
 go_loopw [3, 4] (fun x y wr => ∃ k : Nat, k ≤ n ∧ y = .int .i64 k ∧ Hid (OwnE wr w.heap.size x (sortP (ltOf cmpEvt) (evtL ((fs.take k).map (·.p))))) ∧ Ext w wr) (fun _ y _ => n - (intOf y).toNat)
 case atStart => exact ⟨0, Nat.zero_le _, rfl, Lib.hid (World.ownsRow_nil _ _ _ _), Ext.refl _⟩
 case round =>
  obtain ⟨k, hk, rfl, HO, hx⟩ := hrel
  have hlk := evtL_len ((fs.take k).map (·.p))
  rw [List.length_map, List.length_take] at hlk
  obtain ⟨QL, hQL⟩ : ∃ l, l = evtL ((fs.take k).map (·.p)) := ⟨_, rfl⟩
  rw [← hQL] at HO hlk
  obtain ⟨OL, hOL⟩ : ∃ l, l = sortP (ltOf cmpEvt) QL := ⟨_, rfl⟩
  rw [← hOL] at HO
  obtain ⟨AO, cO, hxe, ho1, hoM⟩ := own_slice HO.out
  subst hxe
  obtain ⟨nO, hnO⟩ : ∃ m, m = OL.length := ⟨_, rfl⟩
  have hnk : nO ≤ k := by rw [hnO, hOL, length_sortP]; omega
  have HQL := Lib.hid hQL
  have HOL := Lib.hid hOL
  have HOLN : Hid (OL.length = nO) := Lib.hid hnO.symm
  have hao := own_nil_or HO.out
  rw [← hnO] at HO hao ho1 ⊢
  have HAO : Hid ((AO = none ∧ nO = 0 ∧ cO = 0) ∨ ∃ g, AO = some ⟨g, 0, none⟩) := Lib.hid (by
   rcases hao with ⟨h1, h2, h3, _⟩ | ⟨g, h1, _⟩
   ·exact .inl ⟨h1, h2, h3⟩
   ·exact .inr ⟨g, h1⟩)
  clear hlk hQL hOL hao hnO
  by_cases hkn : k < n
  ·obtain ⟨b, ob, hz, hA, _, hc⟩ := (HR.out.below hx).at_ fte_len hkn
   have hst : evtL ((fs.take (k + 1)).map (·.p)) = QL ++ if fs[k].p.st = 1 then [⟨fs[k].p.tt, fs[k].p.im⟩] else [] := by
    rw [List.take_succ_eq_append_getElem hz, List.map_append, HQL.out]
    exact evtL_snoc _ _
   generalize fs[k] = x at hst hc
   obtain ⟨⟨im, st, fl, fr, tt⟩, xa, xc⟩ := x
   dsimp only at hst
   have c0 : wr.cell? ⟨b, ob + k * 5, none⟩ = some (.int .i64 im) := hc 0 (by omega)
   have c1 : wr.cell? ⟨b, ob + k * 5 + 1, none⟩ = some (.int .i64 st) := hc 1 (by omega)
   have c4 : wr.cell? ⟨b, ob + k * 5 + 4, none⟩ = some (.int .i64 tt) := hc 4 (by omega)
   have HST := Lib.hid hst
   have HKN := Lib.hid hkn
   have hkz : (k : Int) < (n : Int) := by omega
   subst hA
   clear hc hz hst HQL
   by_cases hs : st = 1
   ·subst hs
    have HN2 : Hid (evtL ((fs.take (k + 1)).map (·.p)) = QL ++ [⟨tt, im⟩]) := Lib.hid (by rw [HST.out, if_pos rfl])
    clear HST
    go_upto_region 6 with (fail)
    have hxz : Ext wr (wr.alloc (.cells #[.int .i64 0, .int .i64 0, .int .i64 0, .slice none 0 0, .int .i64 0, .int .i64 0, .bool false] 59)) := bl_alloc (Below.refl _ _) _
    have c0z := ext_cell hxz c0
    have c4z := ext_cell hxz c4
    go_region
    have hyd : Ext (wr.alloc (.cells #[.int .i64 2, .int .i64 tt, .int .i64 im, .slice none 0 0, .int .i64 0, .int .i64 0, .bool false] 59)) (wr.alloc (.cells #[.int .i64 2, .int .i64 tt, .int .i64 im, .slice none 0 0, .int .i64 0, .int .i64 0, .bool false] 59)).drew := (by repeat (first | exact Below.refl _ _ | assumption | refine Below.drew ?_ | refine below_drewN ?_ _ | refine bl_alloc ?_ _ | refine Below.setCell ?_ (by first | (simp; done) | omega | (simp; omega)) _ | refine bl_then ?_ (by assumption)))
    have hya : Ext wr (wr.alloc (.cells #[.int .i64 2, .int .i64 tt, .int .i64 im, .slice none 0 0, .int .i64 0, .int .i64 0, .bool false] 59)).drew := (by repeat (first | exact Below.refl _ _ | assumption | refine Below.drew ?_ | refine below_drewN ?_ _ | refine bl_alloc ?_ _ | refine Below.setCell ?_ (by first | (simp; done) | omega | (simp; omega)) _ | refine bl_then ?_ (by assumption)))
    have J5 := (Blk.new wr 59 #[.int .i64 2, .int .i64 tt, .int .i64 im, .slice none 0 0, .int .i64 0, .int .i64 0, .bool false]).ext hyd
    generalize wr.heap.size = g5 at J5 ⊢
    generalize (wr.alloc (.cells #[.int .i64 2, .int .i64 tt, .int .i64 im, .slice none 0 0, .int .i64 0, .int .i64 0, .bool false] 59)).drew = W5 at J5 hya ⊢
    have HO5 := Lib.hid (HO.out.ext hya)
    have hx5 := Ext.trans hx hya
    have HJ5 := Lib.hid J5
    have hrl : OL.length ≤ 100000 := by rw [HOLN.out]; omega
    have hro : OwnE W5 w.heap.size (.slice AO nO cO) OL := HO5.out
    have HRA : Hid (RA evtCells 7 W5 W5.heap.size AO nO cO OL) := Lib.hid (by
     unfold OwnE at hro
     rw [HOLN.out] at hro
     exact RA.of_own2 hro HOLN.out)
    clear hyd hya c0 c1 c4 c0z c4z hxz HO hx J5 hro hrl
    obtain ⟨P, hP⟩ : ∃ P : Evt, P = ⟨tt, im⟩ := ⟨_, rfl⟩
    have hPC : #[.int .i64 2, .int .i64 tt, .int .i64 im, .slice none 0 0, .int .i64 0, .int .i64 0, .bool false] = (evtCells P).toArray := by rw [hP]; rfl
    have HPM := Lib.hid hP
    have HPC := Lib.hid hPC
    rw [← hP] at HN2
    clear hP hPC
    go_wp2_with fail
    go_loopw [6] (fun x wi => ∃ j : Nat, j ≤ nO ∧ x = .int .i64 j ∧ Hid (∀ z ∈ OL.drop j, ltOf cmpEvt P z = true) ∧ Ext W5 wi) (fun x _ => (intOf x).toNat)
    case atStart => exact ⟨nO, Nat.le_refl _, rfl, Lib.hid (fun z hz => by rw [List.drop_of_length_le (by rw [HOLN.out]; exact Nat.le_refl _)] at hz; cases hz), Ext.refl _⟩
    case round =>
     obtain ⟨j, hj, rfl, HLT, hh⟩ := hrel
     go_upto_region 8 with (fail)
     go_cut [66] from 32 to 66 (fun v wc => ∃ q : Bool, v = .bool q ∧ Hid ((q = true → ∃ h : j - 1 < OL.length, 0 < j ∧ ltOf cmpEvt P OL[j - 1] = true) ∧ (q = false → j = 0 ∨ ∃ h : j - 1 < OL.length, 0 < j ∧ ltOf cmpEvt P OL[j - 1] = false)) ∧ Ext wr wc)
     case first =>
      by_cases hj0 : j = 0
      ·have cj : decide ((0 : Int) < (j : Int)) = false := by simp; omega
       go_quiet (fail)
       go_wp2_with fail
       go_meet
       case rel => exact ⟨false, rfl, Lib.hid ⟨fun h => (by cases h), fun _ => .inl hj0⟩, (by repeat (first | exact Below.refl _ _ | assumption | refine Below.drew ?_ | refine below_drewN ?_ _ | refine bl_alloc ?_ _ | refine Below.setCell ?_ (by first | (simp; done) | omega | (simp; omega)) _ | refine bl_then ?_ (by assumption)))⟩
      ·have hj1 : 0 < j := by omega
       have cj : decide ((0 : Int) < (j : Int)) = true := by simp; omega
       have hki : IntKind.i64.wrap ((j : Int) - 1) = (j : Int) - 1 := IntWalk.i64_in _ (by omega)
       have hkn1 : ((j : Int) - 1).toNat = j - 1 := by omega
       have hkz : (0 : Int) ≤ (j : Int) - 1 := by omega
       have hkl : (j : Int) - 1 < (nO : Int) := by omega
       obtain ⟨go, goo, hzo, hA, _, hc1⟩ := (ra_ext HRA.out hh).at_ evt_len (show j - 1 < nO by omega)
       have hlt : ∀ q, ltOf cmpEvt P OL[j - 1] = q → (∃ h : j - 1 < OL.length, 0 < j ∧ ltOf cmpEvt P OL[j - 1] = q) := fun q h => ⟨hzo, hj1, h⟩
       have hev := evt_lt P OL[j - 1]
       obtain ⟨lq, hlq⟩ : ∃ q, q = ltOf cmpEvt P OL[j - 1] := ⟨_, rfl⟩
       have HLQ : Hid ((lq = true → ∃ h : j - 1 < OL.length, 0 < j ∧ ltOf cmpEvt P OL[j - 1] = true) ∧ (lq = false → j = 0 ∨ ∃ h : j - 1 < OL.length, 0 < j ∧ ltOf cmpEvt P OL[j - 1] = false)) := Lib.hid ⟨fun h => hlt true (by rw [← hlq]; exact h), fun h => .inr (hlt false (by rw [← hlq]; exact h))⟩
       rw [← hlq, HPM.out] at hev
       generalize OL[j - 1] = ez at hc1 hev
       obtain ⟨zt, zi⟩ := ez
       dsimp only at hev
       have v1 : wr.cell? ⟨go, goo + (j - 1) * 7 + 1, none⟩ = some (.int .i64 zt) := hc1 1 (by omega)
       have v2 : wr.cell? ⟨go, goo + (j - 1) * 7 + 2, none⟩ = some (.int .i64 zi) := hc1 2 (by omega)
       have j5 := HJ5.out.ext hh
       have u1 : wr.cell? ⟨g5, 1, none⟩ = some (.int .i64 tt) := j5.cell 1
       have u2 : wr.cell? ⟨g5, 2, none⟩ = some (.int .i64 im) := j5.cell 2
       have HEV := Lib.hid hev
       subst hA
       clear hlt hlq hev hc1 hzo j5
       by_cases q1 : tt < zt
       ·have q1d : decide (tt < zt) = true := decide_eq_true q1
        have hq : lq = true := by rw [HEV.out]; exact decide_eq_true (.inl q1)
        have HQ := Lib.hid hq
        clear HEV hq
        go_quiet (fail)
        go_wp2_with fail
        go_meet
        case rel => exact ⟨true, rfl, Lib.hid ⟨fun _ => HLQ.out.1 HQ.out, fun h => by cases h⟩, (by repeat (first | exact Below.refl _ _ | assumption | refine Below.drew ?_ | refine below_drewN ?_ _ | refine bl_alloc ?_ _ | refine Below.setCell ?_ (by first | (simp; done) | omega | (simp; omega)) _ | refine bl_then ?_ (by assumption)))⟩
       ·have q1d : decide (tt < zt) = false := decide_eq_false q1
        by_cases q2 : zt = tt
        ·subst q2
         have q2d : (zt == zt) = true := by simp
         by_cases q3 : im < zi
         ·have q3d : decide (im < zi) = true := decide_eq_true q3
          have hq : lq = true := by rw [HEV.out]; exact decide_eq_true (.inr ⟨rfl, q3⟩)
          have HQ := Lib.hid hq
          clear HEV hq
          go_quiet (fail)
          go_wp2_with fail
          go_meet
          case rel => exact ⟨true, rfl, Lib.hid ⟨fun _ => HLQ.out.1 HQ.out, fun h => by cases h⟩, (by repeat (first | exact Below.refl _ _ | assumption | refine Below.drew ?_ | refine below_drewN ?_ _ | refine bl_alloc ?_ _ | refine Below.setCell ?_ (by first | (simp; done) | omega | (simp; omega)) _ | refine bl_then ?_ (by assumption)))⟩
         ·have q3d : decide (im < zi) = false := decide_eq_false q3
          have hq : lq = false := by rw [HEV.out]; exact decide_eq_false (by rintro (h | ⟨_, h⟩) <;> omega)
          have HQ := Lib.hid hq
          clear HEV hq
          go_quiet (fail)
          go_wp2_with fail
          go_meet
          case rel => exact ⟨false, rfl, Lib.hid ⟨fun h => (by cases h), fun _ => HLQ.out.2 HQ.out⟩, (by repeat (first | exact Below.refl _ _ | assumption | refine Below.drew ?_ | refine below_drewN ?_ _ | refine bl_alloc ?_ _ | refine Below.setCell ?_ (by first | (simp; done) | omega | (simp; omega)) _ | refine bl_then ?_ (by assumption)))⟩
        ·have q2d : (zt == tt) = false := by simpa using q2
         have hq : lq = false := by rw [HEV.out]; exact decide_eq_false (by rintro (h | ⟨h, _⟩) <;> omega)
         have HQ := Lib.hid hq
         clear HEV hq
         go_quiet (fail)
         go_wp2_with fail
         go_meet
         case rel => exact ⟨false, rfl, Lib.hid ⟨fun h => (by cases h), fun _ => HLQ.out.2 HQ.out⟩, (by repeat (first | exact Below.refl _ _ | assumption | refine Below.drew ?_ | refine below_drewN ?_ _ | refine bl_alloc ?_ _ | refine Below.setCell ?_ (by first | (simp; done) | omega | (simp; omega)) _ | refine bl_then ?_ (by assumption)))⟩
     obtain ⟨q, rfl, HQQ, hx9⟩ := hcut
     have hh := Ext.trans hh hx9
     clear hx9
     obtain ⟨Wk, hWk⟩ : ∃ W : World, W = wc := ⟨_, rfl⟩
     rw [← hWk] at hh ⊢
     clear hWk
     cases q
     ·have hstop := HQQ.out.2 rfl
      have hins := ins_evt (L := QL) (P := P) (j := j) (by rw [← HOL.out, HOLN.out]; exact hj) (by rw [← HOL.out]; exact HLT.out) (by rw [← HOL.out]; exact hstop)
      rw [← HOL.out] at hins
      obtain ⟨CL, hCL⟩ : ∃ l, l = P :: OL.drop j := ⟨_, rfl⟩
      have hCLn : CL.length = nO - j + 1 := by rw [hCL, List.length_cons, List.length_drop, HOLN.out]
      rw [← hCL] at hins
      obtain ⟨NL, hNL⟩ : ∃ l, l = OL.take j ++ CL := ⟨_, rfl⟩
      have hNLn : NL.length = nO + 1 := by rw [hNL, List.length_append, List.length_take, HOLN.out, hCLn]; omega
      rw [← hNL, ← HN2.out] at hins
      have HINS := Lib.hid hins
      have HCL := Lib.hid hCL
      have HNL := Lib.hid hNL
      have HCLN := Lib.hid hCLn
      have HNLN := Lib.hid hNLn
      clear hstop hins HQQ HLT hCL hNL hCLn hNLn HN2
      have J15 := HJ5.out.ext hh
      rw [HPC.out] at J15
      obtain ⟨PX, hPX⟩ : ∃ X, (evtCells P).toArray = X := ⟨_, rfl⟩
      rw [hPX] at J15
      have HZP : Hid (PX.size = 7) := Lib.hid (by rw [← hPX]; rfl)
      have HPX := Lib.hid hPX
      have HRA2 := Lib.hid (ra_ext HRA.out hh)
      have hxk := Ext.trans hx5 hh
      have hws := Below.size hxk
      clear hPX hh HRA
      go_upto_region 10 with (fail)
      have hsplit : OL.flatMap evtCells = (OL.take j).flatMap evtCells ++ (OL.drop j).flatMap evtCells := by rw [← List.flatMap_append, List.take_append_drop]
      rcases HAO.out with ⟨rfl, hn0, rfl⟩ | ⟨gO, rfl⟩
      ·obtain rfl : nO = 0 := hn0
       obtain rfl : j = 0 := by omega
       clear HAO
       have HRD : Hid (Reads Wk Wk.heap.size 7 none 0 ((OL.drop 0).flatMap evtCells)) := Lib.hid (by rw [show OL = [] from List.eq_nil_of_length_eq_zero HOLN.out]; exact Reads.none_)
       refine wp_region_obl 11 (fun ix vals v w1 => match ix with | 0 => v = .slice none 0 0 | 1 => v = .int .i64 0 | 2 => v = .int .i64 0 | 3 => v = .slice none 0 0 | 4 => v = .agg PX | 5 => ∃ g, v = .slice (some ⟨g, 0, none⟩) 1 1 ∧ Blk w1 g 59 PX | 6 => v = .slice none 0 0 | 7 => v = .int .i64 0 | 8 => v = .slice none 0 0 | 9 => ConsE w1 v CL | _ => OwnE w1 Wk.heap.size v NL) (by kernel_rfl) (by kernel_rfl) ?_ ?_ ?_ ?_
       ·intro ix vals v w1 w2 hi hr hx
        match ix, hr with
        |0, hr => exact hr
        |1, hr => exact hr
        |2, hr => exact hr
        |3, hr => exact hr
        |4, hr => exact hr
        |5, hr => obtain ⟨g, h1, h3⟩ := hr; exact ⟨g, h1, h3.ext hx⟩
        |6, hr => exact hr
        |7, hr => exact hr
        |8, hr => exact hr
        |9, hr => exact hr.ext hx
        |(kx + 10), hr => exact hr.ext hx
       ·intro ix vals vals_ v w1 hi hv hr
        exact hr
       ·refine obls_ofT [some 69, some 70, some 71, some 72, some 73, some 74, some 75, some 76, some 77, some 78, some 79, some 3] [(3, .slice none 0 0), (6, .int .i64 0), (5, .pointer (some ⟨g5, 0, none⟩))] 81 (by kernel_rfl) (by kernel_rfl) ⟨by kernel_rfl, by kernel_rfl, by kernel_rfl, trivial⟩ ?_
        refine ⟨?_, ?_, ?_, ?_, ?_, ?_, ?_, ?_, ?_, ?_, ?_, trivial⟩
        ·intro vals w1 hx hd
         refine .r [(3, .slice none 0 0)] (Op.move (Operand.const (.slice none 0 0))) 54 69 ⟨.out (by kernel_rfl) (by kernel_rfl), trivial⟩ ?_
         clear hd
         go_wp2
         exact ⟨rfl, Ext.refl _, rfl⟩
        ·intro vals w1 hx hd
         refine .r [(6, .int .i64 0)] (Op.move (Operand.const (.int .i64 0))) 3 70 ⟨.out (by kernel_rfl) (by kernel_rfl), trivial⟩ ?_
         clear hd
         go_wp2
         exact ⟨rfl, Ext.refl _, rfl⟩
        ·intro vals w1 hx hd
         refine .r [(6, .int .i64 0)] (Op.move (Operand.const (.int .i64 0))) 3 71 ⟨.out (by kernel_rfl) (by kernel_rfl), trivial⟩ ?_
         clear hd
         go_wp2
         exact ⟨rfl, Ext.refl _, rfl⟩
        ·intro vals w1 hx hd
         refine .r [(69, .slice none 0 0), (70, .int .i64 0), (71, .int .i64 0)] (Op.slice 54 (Operand.const (.slice none 0 0)) none (some (Operand.const (.int .i64 0))) (some (Operand.const (.int .i64 0)))) 54 72 ⟨.inn 0 (by kernel_rfl) (hd 0 (by decide)), .inn 1 (by kernel_rfl) (hd 1 (by decide)), .inn 2 (by kernel_rfl) (hd 2 (by decide)), trivial⟩ ?_
         clear hd
         go_wp2
         exact ⟨rfl, Ext.refl _, rfl⟩
        ·intro vals w1 hx hd
         refine .r [(5, .pointer (some ⟨g5, 0, none⟩))] (Op.load 59 (Operand.const (.pointer (some ⟨g5, 0, none⟩)))) 59 73 ⟨.out (by kernel_rfl) (by kernel_rfl), trivial⟩ ?_
         clear hd
         refine wpList_load_st rfl 59 _ rfl g5 0 rfl PX PX.toList (by simp) _ (Blk.range (J15.ext hx.undrew) _ rfl) Try.underlying59 rfl (by rw [Array.length_toList, HZP.out]; exact evt_size) ?_
         go_wp2
         exact ⟨rfl, Ext.refl _, rfl⟩
        ·intro vals w1 hx hd
         refine .r [(73, .agg PX)] (Op.buildSlice 54 1 #[(0, (Operand.const (.agg PX)))]) 54 74 ⟨.inn 4 (by kernel_rfl) (hd 4 (by decide)), trivial⟩ ?_
         clear hd
         refine wpList_buildOne rfl _ _ _ rfl PX rfl Try.underlying54 7 info_evt2Q HZP.out (by omega) (by omega) ?_
         go_wp2
         exact ⟨rfl, (by repeat (first | exact Below.refl _ _ | assumption | refine Below.drew ?_ | refine below_drewN ?_ _ | refine bl_alloc ?_ _ | refine Below.setCell ?_ (by first | (simp; done) | omega | (simp; omega)) _ | refine bl_then ?_ (by assumption))), _, rfl, Blk.new _ _ _⟩
        ·intro vals w1 hx hd
         refine .r [(3, .slice none 0 0)] (Op.move (Operand.const (.slice none 0 0))) 54 75 ⟨.out (by kernel_rfl) (by kernel_rfl), trivial⟩ ?_
         clear hd
         go_wp2
         exact ⟨rfl, Ext.refl _, rfl⟩
        ·intro vals w1 hx hd
         refine .r [(6, .int .i64 0)] (Op.move (Operand.const (.int .i64 0))) 3 76 ⟨.out (by kernel_rfl) (by kernel_rfl), trivial⟩ ?_
         clear hd
         go_wp2
         exact ⟨rfl, Ext.refl _, rfl⟩
        ·intro vals w1 hx hd
         refine .r [(75, .slice none 0 0), (76, .int .i64 0)] (Op.slice 54 (Operand.const (.slice none 0 0)) (some (Operand.const (.int .i64 0))) none none) 54 77 ⟨.inn 6 (by kernel_rfl) (hd 6 (by decide)), .inn 7 (by kernel_rfl) (hd 7 (by decide)), trivial⟩ ?_
         clear hd
         go_wp2
         exact ⟨rfl, Ext.refl _, rfl⟩
        ·intro vals w1 hx hd
         have r5 : (fun v w1 => ∃ g, v = .slice (some ⟨g, 0, none⟩) 1 1 ∧ Blk w1 g 59 PX) (vals 5) w1 := hd 5 (by decide)
         dsimp only at r5
         obtain ⟨gx, e_5, jb⟩ := r5
         refine .r [(74, .slice (some ⟨gx, 0, none⟩) 1 1), (77, .slice none 0 0)] (Op.call { callee := Callee.builtin Builtin.append, args := #[(Operand.const (.slice (some ⟨gx, 0, none⟩) 1 1)), (Operand.const (.slice none 0 0))], argTypes := #[54, 54] }) 54 78 ⟨.inn 5 (by kernel_rfl) e_5, .inn 8 (by kernel_rfl) (hd 8 (by decide)), trivial⟩ ?_
         clear hd e_5
         rw [← HPX.out] at jb
         obtain ⟨v9, w9, hrun, hx9, hcs⟩ := run_consE _ gx P (OL.drop 0) none 0 _ _ jb (HRD.out.below hx.undrew) (by omega)
         rw [← HCL.out] at hcs
         refine wpList_append_run_ rfl _ _ _ rfl rfl rfl hrun ?_
         clear hrun
         go_wp2
         exact ⟨rfl, hx9, hcs⟩
        ·intro vals w1 hx hd
         have r9 : (fun v w1 => ConsE w1 v CL) (vals 9) w1 := hd 9 (by decide)
         dsimp only at r9
         obtain ⟨A9, c9, e_9, hc9⟩ := r9
         refine .r [(72, .slice none 0 0), (78, .slice (some A9) CL.length c9)] (Op.call { callee := Callee.builtin Builtin.append, args := #[(Operand.const (.slice none 0 0)), (Operand.const (.slice (some A9) CL.length c9))], argTypes := #[54, 54] }) 54 79 ⟨.inn 3 (by kernel_rfl) (hd 3 (by decide)), .inn 9 (by kernel_rfl) e_9, trivial⟩ ?_
         clear hd e_9
         have hzz := Below.size hx.undrew
         have hlt9 := List.length_take (i := 0) (l := OL)
         have hlc9 := HCLN.out
         have hln9 := HOLN.out
         obtain ⟨v9, w9, hrun, hx9, hown⟩ := run_ontoE _ (OL.take 0) CL _ 0 c9 A9 (.inl ⟨rfl, rfl⟩) (by omega) (by omega) (by omega) hc9
         rw [← HNL.out] at hown
         refine wpList_append_run_ rfl _ _ _ rfl rfl rfl hrun ?_
         clear hrun hlt9 hlc9 hln9
         go_wp2
         exact ⟨rfl, hx9, hown.base hzz⟩
       intro vals W6 hx9 hf
       have hown : OwnE W6 Wk.heap.size (vals 10) NL := hf 10 (by omega)
       have hx9 := hx9.undrew
       have hx10 := Ext.trans hxk hx9
       have HO7 : Hid (OwnE W6 w.heap.size (vals 10) (sortP (ltOf cmpEvt) (evtL ((fs.take (k + 1)).map (·.p))))) := Lib.hid (by rw [HINS.out]; exact hown.base hws)
       clear hf hown hx9 hxk J15 HRA2 hws
       refine tail1 11 _ (by kernel_rfl) (by kernel_rfl) rfl ?_
       simp only [Lf, dstAt, Act.put, List.getElem?_toArray, List.getElem?_cons_zero, List.getElem?_cons_succ, Option.bind_some, List.setIfInBounds_toArray, List.set_cons_zero, List.set_cons_succ]
       generalize vals 10 = v8 at HO7 ⊢
       go_wp2_with fail
       go_roundw
       case rel => exact ⟨k + 1, HKN.out, by go_num, HO7, hx10⟩
       case measure => have := HKN.out; simp [intOf]; omega
      ·clear HAO
       obtain ⟨A8, h8⟩ : ∃ A8 : Addr, (cO = j ∧ A8 = ⟨gO, 0, none⟩) ∨ (j < cO ∧ A8 = ⟨gO, j * 7, none⟩) := by
        by_cases h : cO = j
        ·exact ⟨_, .inl ⟨h, rfl⟩⟩
        ·exact ⟨_, .inr ⟨by omega, rfl⟩⟩
       have hrd := HRA2.out.rd.cut hj ho1
       rw [← flat_drop evt_len] at hrd
       have HRD : Hid (Reads Wk Wk.heap.size 7 (some A8) (nO - j) ((OL.drop j).flatMap evtCells)) := Lib.hid (by
        rcases h8 with ⟨h, rfl⟩ | ⟨h, rfl⟩
        ·rw [if_pos h] at hrd
         exact hrd
        ·rw [if_neg (by omega)] at hrd
         simpa [Addr.add_lit] using hrd)
       have HCU : Hid (∀ q u, ((OL.take j).flatMap evtCells)[q]? = some u → Wk.cell? ⟨gO, q, none⟩ = some u) := Lib.hid (fun q u hu => by
        have hql := (List.getElem?_eq_some_iff.1 hu).1
        have hql2 : 0 < nO := by
         have := HRA2.out.len
         rcases Nat.eq_zero_or_pos nO with h | h
         ·rw [show OL = [] from List.eq_nil_of_length_eq_zero (by omega)] at hql
          simp at hql
         ·exact h
        obtain ⟨b9, o9, hA, _, hc⟩ := HRA2.out.rd.2 hql2
        injection hA with hA
        injection hA with h1 h2
        subst h1 h2
        have := hc q u (by rw [hsplit, List.getElem?_append_left hql]; exact hu)
        rwa [Nat.zero_add] at this)
       have H8 := Lib.hid h8
       clear h8 hrd hsplit
       refine wp_region_obl 11 (fun ix vals v w1 => match ix with | 0 => v = .slice (some ⟨gO, 0, none⟩) nO cO | 1 => v = .int .i64 (j : Int) | 2 => v = .int .i64 (j : Int) | 3 => v = .slice (some ⟨gO, 0, none⟩) j j | 4 => v = .agg PX | 5 => ∃ g, v = .slice (some ⟨g, 0, none⟩) 1 1 ∧ Blk w1 g 59 PX | 6 => v = .slice (some ⟨gO, 0, none⟩) nO cO | 7 => v = .int .i64 (j : Int) | 8 => v = .slice (some A8) (nO - j) (cO - j) | 9 => ConsE w1 v CL | _ => OwnE w1 Wk.heap.size v NL) (by kernel_rfl) (by kernel_rfl) ?_ ?_ ?_ ?_
       ·intro ix vals v w1 w2 hi hr hx
        match ix, hr with
        |0, hr => exact hr
        |1, hr => exact hr
        |2, hr => exact hr
        |3, hr => exact hr
        |4, hr => exact hr
        |5, hr => obtain ⟨g, h1, h3⟩ := hr; exact ⟨g, h1, h3.ext hx⟩
        |6, hr => exact hr
        |7, hr => exact hr
        |8, hr => exact hr
        |9, hr => exact hr.ext hx
        |(kx + 10), hr => exact hr.ext hx
       ·intro ix vals vals_ v w1 hi hv hr
        exact hr
       ·refine obls_ofT [some 69, some 70, some 71, some 72, some 73, some 74, some 75, some 76, some 77, some 78, some 79, some 3] [(3, .slice (some ⟨gO, 0, none⟩) nO cO), (6, .int .i64 (j : Int)), (5, .pointer (some ⟨g5, 0, none⟩))] 81 (by kernel_rfl) (by kernel_rfl) ⟨by kernel_rfl, by kernel_rfl, by kernel_rfl, trivial⟩ ?_
        refine ⟨?_, ?_, ?_, ?_, ?_, ?_, ?_, ?_, ?_, ?_, ?_, trivial⟩
        ·intro vals w1 hx hd
         refine .r [(3, .slice (some ⟨gO, 0, none⟩) nO cO)] (Op.move (Operand.const (.slice (some ⟨gO, 0, none⟩) nO cO))) 54 69 ⟨.out (by kernel_rfl) (by kernel_rfl), trivial⟩ ?_
         clear hd
         go_wp2
         exact ⟨rfl, Ext.refl _, rfl⟩
        ·intro vals w1 hx hd
         refine .r [(6, .int .i64 (j : Int))] (Op.move (Operand.const (.int .i64 (j : Int)))) 3 70 ⟨.out (by kernel_rfl) (by kernel_rfl), trivial⟩ ?_
         clear hd
         go_wp2
         exact ⟨rfl, Ext.refl _, rfl⟩
        ·intro vals w1 hx hd
         refine .r [(6, .int .i64 (j : Int))] (Op.move (Operand.const (.int .i64 (j : Int)))) 3 71 ⟨.out (by kernel_rfl) (by kernel_rfl), trivial⟩ ?_
         clear hd
         go_wp2
         exact ⟨rfl, Ext.refl _, rfl⟩
        ·intro vals w1 hx hd
         refine .r [(69, .slice (some ⟨gO, 0, none⟩) nO cO), (70, .int .i64 (j : Int)), (71, .int .i64 (j : Int))] (Op.slice 54 (Operand.const (.slice (some ⟨gO, 0, none⟩) nO cO)) none (some (Operand.const (.int .i64 (j : Int)))) (some (Operand.const (.int .i64 (j : Int))))) 54 72 ⟨.inn 0 (by kernel_rfl) (hd 0 (by decide)), .inn 1 (by kernel_rfl) (hd 1 (by decide)), .inn 2 (by kernel_rfl) (hd 2 (by decide)), trivial⟩ ?_
         clear hd
         go_wp2
         exact ⟨rfl, Ext.refl _, rfl⟩
        ·intro vals w1 hx hd
         refine .r [(5, .pointer (some ⟨g5, 0, none⟩))] (Op.load 59 (Operand.const (.pointer (some ⟨g5, 0, none⟩)))) 59 73 ⟨.out (by kernel_rfl) (by kernel_rfl), trivial⟩ ?_
         clear hd
         refine wpList_load_st rfl 59 _ rfl g5 0 rfl PX PX.toList (by simp) _ (Blk.range (J15.ext hx.undrew) _ rfl) Try.underlying59 rfl (by rw [Array.length_toList, HZP.out]; exact evt_size) ?_
         go_wp2
         exact ⟨rfl, Ext.refl _, rfl⟩
        ·intro vals w1 hx hd
         refine .r [(73, .agg PX)] (Op.buildSlice 54 1 #[(0, (Operand.const (.agg PX)))]) 54 74 ⟨.inn 4 (by kernel_rfl) (hd 4 (by decide)), trivial⟩ ?_
         clear hd
         refine wpList_buildOne rfl _ _ _ rfl PX rfl Try.underlying54 7 info_evt2Q HZP.out (by omega) (by omega) ?_
         go_wp2
         exact ⟨rfl, (by repeat (first | exact Below.refl _ _ | assumption | refine Below.drew ?_ | refine below_drewN ?_ _ | refine bl_alloc ?_ _ | refine Below.setCell ?_ (by first | (simp; done) | omega | (simp; omega)) _ | refine bl_then ?_ (by assumption))), _, rfl, Blk.new _ _ _⟩
        ·intro vals w1 hx hd
         refine .r [(3, .slice (some ⟨gO, 0, none⟩) nO cO)] (Op.move (Operand.const (.slice (some ⟨gO, 0, none⟩) nO cO))) 54 75 ⟨.out (by kernel_rfl) (by kernel_rfl), trivial⟩ ?_
         clear hd
         go_wp2
         exact ⟨rfl, Ext.refl _, rfl⟩
        ·intro vals w1 hx hd
         refine .r [(6, .int .i64 (j : Int))] (Op.move (Operand.const (.int .i64 (j : Int)))) 3 76 ⟨.out (by kernel_rfl) (by kernel_rfl), trivial⟩ ?_
         clear hd
         go_wp2
         exact ⟨rfl, Ext.refl _, rfl⟩
        ·intro vals w1 hx hd
         refine .r [(75, .slice (some ⟨gO, 0, none⟩) nO cO), (76, .int .i64 (j : Int))] (Op.slice 54 (Operand.const (.slice (some ⟨gO, 0, none⟩) nO cO)) (some (Operand.const (.int .i64 (j : Int)))) none none) 54 77 ⟨.inn 6 (by kernel_rfl) (hd 6 (by decide)), .inn 7 (by kernel_rfl) (hd 7 (by decide)), trivial⟩ ?_
         clear hd
         rcases H8.out with ⟨h8, h9⟩ | ⟨h8, h9⟩
         all_goals subst h9
         ·(go_wp2; exact ⟨rfl, Ext.refl _, rfl⟩)
         ·(go_wp2; exact ⟨rfl, Ext.refl _, rfl⟩)
        ·intro vals w1 hx hd
         have r5 : (fun v w1 => ∃ g, v = .slice (some ⟨g, 0, none⟩) 1 1 ∧ Blk w1 g 59 PX) (vals 5) w1 := hd 5 (by decide)
         dsimp only at r5
         obtain ⟨gx, e_5, jb⟩ := r5
         refine .r [(74, .slice (some ⟨gx, 0, none⟩) 1 1), (77, .slice (some A8) (nO - j) (cO - j))] (Op.call { callee := Callee.builtin Builtin.append, args := #[(Operand.const (.slice (some ⟨gx, 0, none⟩) 1 1)), (Operand.const (.slice (some A8) (nO - j) (cO - j)))], argTypes := #[54, 54] }) 54 78 ⟨.inn 5 (by kernel_rfl) e_5, .inn 8 (by kernel_rfl) (hd 8 (by decide)), trivial⟩ ?_
         clear hd e_5
         rw [← HPX.out] at jb
         obtain ⟨v9, w9, hrun, hx9, hcs⟩ := run_consE _ gx P (OL.drop j) (some A8) (nO - j) _ _ jb (HRD.out.below hx.undrew) (by omega)
         rw [← HCL.out] at hcs
         refine wpList_append_run_ rfl _ _ _ rfl rfl rfl hrun ?_
         clear hrun
         go_wp2
         exact ⟨rfl, hx9, hcs⟩
        ·intro vals w1 hx hd
         have r9 : (fun v w1 => ConsE w1 v CL) (vals 9) w1 := hd 9 (by decide)
         dsimp only at r9
         obtain ⟨A9, c9, e_9, hc9⟩ := r9
         refine .r [(72, .slice (some ⟨gO, 0, none⟩) j j), (78, .slice (some A9) CL.length c9)] (Op.call { callee := Callee.builtin Builtin.append, args := #[(Operand.const (.slice (some ⟨gO, 0, none⟩) j j)), (Operand.const (.slice (some A9) CL.length c9))], argTypes := #[54, 54] }) 54 79 ⟨.inn 3 (by kernel_rfl) (hd 3 (by decide)), .inn 9 (by kernel_rfl) e_9, trivial⟩ ?_
         clear hd e_9
         have hzz := Below.size hx.undrew
         have hlt9 := List.length_take (i := j) (l := OL)
         have hlc9 := HCLN.out
         have hln9 := HOLN.out
         obtain ⟨v9, w9, hrun, hx9, hown⟩ := run_ontoE _ (OL.take j) CL _ j c9 A9 (.inr ⟨gO, rfl, fun q u hu => ext_cell hx.undrew (HCU.out q u hu)⟩) (by omega) (by omega) (by omega) hc9
         rw [← HNL.out] at hown
         refine wpList_append_run_ rfl _ _ _ rfl rfl rfl hrun ?_
         clear hrun hlt9 hlc9 hln9
         go_wp2
         exact ⟨rfl, hx9, hown.base hzz⟩
       intro vals W6 hx9 hf
       have hown : OwnE W6 Wk.heap.size (vals 10) NL := hf 10 (by omega)
       have hx9 := hx9.undrew
       have hx10 := Ext.trans hxk hx9
       have HO7 : Hid (OwnE W6 w.heap.size (vals 10) (sortP (ltOf cmpEvt) (evtL ((fs.take (k + 1)).map (·.p))))) := Lib.hid (by rw [HINS.out]; exact hown.base hws)
       clear hf hown hx9 hxk J15 HRA2 hws
       refine tail1 11 _ (by kernel_rfl) (by kernel_rfl) rfl ?_
       simp only [Lf, dstAt, Act.put, List.getElem?_toArray, List.getElem?_cons_zero, List.getElem?_cons_succ, Option.bind_some, List.setIfInBounds_toArray, List.set_cons_zero, List.set_cons_succ]
       generalize vals 10 = v8 at HO7 ⊢
       go_wp2_with fail
       go_roundw
       case rel => exact ⟨k + 1, HKN.out, by go_num, HO7, hx10⟩
       case measure => have := HKN.out; simp [intOf]; omega
     ·obtain ⟨hzj, hj1, hlt⟩ := HQQ.out.1 rfl
      have HLT2 : Hid (∀ z ∈ OL.drop (j - 1), ltOf cmpEvt P z = true) := Lib.hid (fun z hz => by
       rw [List.drop_eq_getElem_cons hzj, show j - 1 + 1 = j by omega, List.mem_cons] at hz
       rcases hz with rfl | hz
       ·exact hlt
       ·exact HLT.out z hz)
      have hki : IntKind.i64.wrap ((j : Int) - 1) = (j : Int) - 1 := IntWalk.i64_in _ (by omega)
      have HJ1 := Lib.hid hj1
      clear hlt HQQ HLT hj1
      go_wp2_with fail
      go_roundw
      case rel => exact ⟨j - 1, by omega, by rw [show ((j - 1 : Nat) : Int) = (j : Int) - 1 by have := HJ1.out; omega], HLT2, hh⟩
      case measure => have := HJ1.out; simp [intOf]; omega
   ·have h1 : (st == 1) = false := by simpa using hs
    have h2 : (st != 1) = true := by simpa using hs
    have HO7 : Hid (OwnE wr w.heap.size (.slice AO nO cO) (sortP (ltOf cmpEvt) (evtL ((fs.take (k + 1)).map (·.p))))) := Lib.hid (by rw [HST.out, if_neg hs, List.append_nil, ← HOL.out]; exact HO.out)
    clear HST HO
    go_wp2_with fail
    go_roundw
    case rel => exact ⟨k + 1, HKN.out, by go_num, HO7, hx⟩
    case measure => have := HKN.out; simp [intOf]; omega
  ·have hkz : ¬ (k : Int) < (n : Int) := by omega
   have hall : fs.take k = fs := List.take_of_length_le (by rw [HL.out]; omega)
   have HO9 : Hid (OwnE wr w.heap.size (.slice AO nO cO) fin) := Lib.hid (by rw [HFIN.out, delP, ← hall, ← HQL.out, ← HOL.out]; exact HO.out)
   clear hall HO
   go_wp2_with fail
   go_ret
   exact ⟨_, rfl, HO9.out, hx⟩
theorem neq_dsc (a b : Dsc) (w : World) : (binOp .neq 83 (.agg #[.int .i64 a.kind, .int .i64 a.im, .int .i64 a.ix]) (.agg #[.int .i64 b.kind, .int .i64 b.im, .int .i64 b.ix])).run Try.prog w = .ok (.bool (!decide (a = b))) w := by
 have u3 := Try.underlying3
 have u4 := Try.underlying4
 have hS : Try.prog.underlying 83 = some (.struct (Try.prog.fieldsOf 83)) := by kernel_rfl
 have hp : Try.prog.stoodInHeld 83 = false := by kernel_rfl
 rw [run_neq_struct, show (10000 : Nat) = 9999 + 1 from rfl, run_equalIn_agg w 9999 83 _ _ hS hp]
 clear hS hp
 simp only [Program.fieldsOf, Try.underlying83]
 go_simp
 obtain ⟨a0, a1, a2⟩ := a
 obtain ⟨b0, b1, b2⟩ := b
 by_cases h0 : a0 = b0 <;> by_cases h1 : a1 = b1 <;> by_cases h2 : a2 = b2 <;> simp [h0, h1, h2]
set_option maxHeartbeats 1000000 in
theorem same_dsc_true (A1 A2 : Option Addr) (n1 c1 c2 : Nat) (xs : List Dsc) (w : World) (h1 : RA dscCells 3 w w.heap.size A1 n1 c1 xs) (h2 : RA dscCells 3 w w.heap.size A2 n1 c2 xs) :
  Calls Try.prog 19 #[.slice A1 n1 c1, .slice A2 n1 c2] w fun e w' => e = .returned (.bool true) ∧ Ext w w' := by
 have hn1 : n1 ≤ 9223372036854775807 := h1.le
 have H1 := Lib.hid h1
 have H2 := Lib.hid h2
 clear h1 h2
 have hd : ((n1 : Int) != (n1 : Int)) = false := by simp
 go_enter Try.func19, Try.ntmps19
 go_wp2
 go_loopw [5] (fun i wr => ∃ k : Nat, k ≤ n1 ∧ i = .int .i64 k ∧ Ext w wr) (fun i _ => n1 - (intOf i).toNat)
 case atStart => exact ⟨0, Nat.zero_le _, rfl, Ext.refl _⟩
 case round =>
  obtain ⟨k, hk, rfl, hB⟩ := hrel
  by_cases hlt : k < n1
  ·obtain ⟨b, o, hz, hA, hb, hc⟩ := (H1.out.below hB).at_ dsc_len hlt
   obtain ⟨b', o', hz', hA', hb', hc'⟩ := (H2.out.below hB).at_ dsc_len hlt
   subst hA hA'
   generalize xs[k] = x at hc hc'
   have c0 : wr.cell? ⟨b, o + k * 3, none⟩ = some (.int .i64 x.kind) := hc 0 (by omega)
   have c1 : wr.cell? ⟨b, o + k * 3 + 1, none⟩ = some (.int .i64 x.im) := hc 1 (by omega)
   have c2 : wr.cell? ⟨b, o + k * 3 + 2, none⟩ = some (.int .i64 x.ix) := hc 2 (by omega)
   have d0 : wr.cell? ⟨b', o' + k * 3, none⟩ = some (.int .i64 x.kind) := hc' 0 (by omega)
   have d1 : wr.cell? ⟨b', o' + k * 3 + 1, none⟩ = some (.int .i64 x.im) := hc' 1 (by omega)
   have d2 : wr.cell? ⟨b', o' + k * 3 + 2, none⟩ = some (.int .i64 x.ix) := hc' 2 (by omega)
   clear hc hc'
   have he : (!decide (x = x)) = false := by simp
   have hnq := neq_dsc
   go_wp2
   go_quiet (fail)
   go_wp2
   go_roundw
   case rel => exact ⟨k + 1, by omega, by go_num, (by repeat (first | exact Below.refl _ _ | assumption | refine Below.drew ?_ | refine below_drewN ?_ _ | refine bl_alloc ?_ _ | refine Below.setCell ?_ (by first | (simp; done) | omega | (simp; omega)) _ | refine bl_then ?_ (by assumption)))⟩
   case measure => simp [intOf]; omega
  ·go_wp2
   go_ret
   exact ⟨rfl, (by repeat (first | exact Below.refl _ _ | assumption | refine Below.drew ?_ | refine below_drewN ?_ _ | refine bl_alloc ?_ _ | refine Below.setCell ?_ (by first | (simp; done) | omega | (simp; omega)) _ | refine bl_then ?_ (by assumption)))⟩
end Go.Proofs.Ytmlabgmigakcbaa
