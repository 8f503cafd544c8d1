/- Inputs that integers determine: one option. -/
import Derived.Test.YtmlabgmigakcbaaP16
import Derived.Test.YtmlabgmigakcbaaP05
import Derived.Test.YtmlabgmigakcbaaP07
namespace Go.Proofs.Ytmlabgmigakcbaa
open Go.RowKit
def pasAt (ps : List Pas) (p : Int) : Pas := ps.getD p.toNat ⟨0, 0, ⟨0, 0⟩, ⟨0, 0⟩⟩
def frOf (ps : List Pas) (x at_ : Int) : Int := max (pasAt ps (pickI x ps.length)).sure.fr at_
def optL (ps : List Pas) : Int → List Slt → List Int → List Slt
 | _, sl, [] => sl
 | at_, sl, x :: r =>
  if sl.length < 6 then
   if frOf ps x at_ + 1 ≤ (pasAt ps (pickI x ps.length)).sure.tt then optL ps (frOf ps x at_ + 1) (sl ++ [⟨pickI x ps.length, frOf ps x at_, frOf ps x at_ + 1⟩]) r
   else optL ps at_ sl r
  else sl
theorem optL_cons (ps : List Pas) (at_ : Int) (sl : List Slt) (x : Int) (r : List Int) : optL ps at_ sl (x :: r) =
  if sl.length < 6 then
   if frOf ps x at_ + 1 ≤ (pasAt ps (pickI x ps.length)).sure.tt then optL ps (frOf ps x at_ + 1) (sl ++ [⟨pickI x ps.length, frOf ps x at_, frOf ps x at_ + 1⟩]) r
   else optL ps at_ sl r
  else sl := by rw [optL]
def optS (ps : List Pas) (xs : List Int) : List Slt :=
 if optL ps 0 [] xs = [] then [⟨0, (pasAt ps 0).sure.fr, (pasAt ps 0).sure.fr + 1⟩] else optL ps 0 [] xs
def OwnS (W : World) (b : Nat) (v : Value) (l : List Slt) : Prop := W.ownsRow b 78 3 v l.length (l.flatMap sltCells)
theorem OwnS.ext {W W' : World} {b : Nat} {v : Value} {l : List Slt} (h : OwnS W b v l) (hx : Ext W W') : OwnS W' b v l := own_ext h hx
theorem info_slt : (Try.prog.info? 78).map (fun i => (i.zero, i.size, i.bytes)) = some (some (.agg #[.int .i64 0, .int .i64 0, .int .i64 0]), 3, 24) := by kernel_rfl
theorem opt_size : (Try.prog.info? 32).map (·.size) = some 9 := by kernel_rfl
theorem slt_snoc {w : World} (ty : TypeId) (xs : List Slt) (v : Value) (x : Slt) (base gx : Nat) (jx : Blk w gx 78 (sltCells x).toArray) (hx : OwnS w base v xs) (hn : xs.length ≤ 900) (hb : base ≤ w.heap.size) :
  ∃ v' w', (Builtin.append_ #[30, 30] ty #[v, .slice (some ⟨gx, 0, none⟩) 1 1]).run Try.prog w = .ok v' w' ∧ w.grownBy w' v.ownBlock ∧ OwnS w' base v' (xs ++ [x]) := by
 obtain ⟨i0, hi0, hz0, hz1, hz2⟩ := info_parts info_slt
 obtain ⟨v2, W7, hr, hrow2, hg2, -⟩ := run_append_own (P := Try.prog) w base 30 ty 78 i0 _ 3 24 Try.underlying30 hi0 hz0 hz1 hz2 rfl (by omega) _ _ _ hx ⟨gx, 0, none⟩ 1 1 (sltCells x) rfl (by intro i u hu; rw [Addr.add_lit, Nat.zero_add, jx.cell]; simpa using hu) (by simp [sltCells, Value.oneCell']) (by unfold maxLen; omega) (by omega) hb
 refine ⟨v2, W7, hr, hg2, ?_⟩
 unfold OwnS
 rw [List.length_append, List.flatMap_append]
 simpa using hrow2
theorem opt_app {w : World} {g base c3 : Nat} {x0 x1 x2 x3 x4 x5 x6 x7 : Value} {A3 : Option Addr} {l : List Slt} (y : Slt) (gx : Nat) (jx : Blk w gx 78 (sltCells y).toArray) (hj : Blk w g 32 #[x0, x1, x2, x3, x4, x5, x6, x7, .slice A3 l.length c3]) (ho : OwnS w base (.slice A3 l.length c3) l) (hn : l.length ≤ 900) (hb : base ≤ g) :
  ∃ A7 c7 W7, (Builtin.append_ #[30, 30] 30 #[.slice A3 l.length c3, .slice (some ⟨gx, 0, none⟩) 1 1]).run Try.prog w = .ok (.slice A7 (l.length + 1) c7) W7 ∧ W7.cell? ⟨g, 8, none⟩ = some (.slice A3 l.length c3) ∧ W7.frozen? ⟨g, 8, none⟩ = false ∧
   Blk (W7.setCell ⟨g, 8, none⟩ (.slice A7 (l.length + 1) c7)) g 32 #[x0, x1, x2, x3, x4, x5, x6, x7, .slice A7 (l.length + 1) c7] ∧ OwnS (W7.setCell ⟨g, 8, none⟩ (.slice A7 (l.length + 1) c7)) base (.slice A7 (l.length + 1) c7) (l ++ [y]) ∧
   ∀ w0, Ext w0 w → w0.heap.size ≤ base → Ext w0 (W7.setCell ⟨g, 8, none⟩ (.slice A7 (l.length + 1) c7)) := by
 obtain ⟨v7, W7, hrun, hg7, ho7⟩ := slt_snoc 30 l (.slice A3 l.length c3) y base gx jx ho hn (Nat.le_trans hb (Nat.le_of_lt hj.lt))
 obtain ⟨A7, c7, hv7, _, _⟩ := own_slice ho7
 rw [List.length_append, List.length_singleton] at hv7
 subst hv7
 have hj7 := hj.grown hg7 (fun e => own_blk_ne ho hj (by decide) e.symm)
 refine ⟨A7, c7, W7, hrun, hj7.cell 8, hj7.frozen 8, hj7.set_ 8 _, One.own ((One.refl g W7).set 8 _) ho7 hj7 (by decide), fun w0 h0 h1 => ?_⟩
 exact (h0.grown hg7 (Below.size h0) (fun q e => Nat.le_trans h1 (World.ownsRow.lt ho q e).1)).setCell (p := ⟨g, 8, none⟩) (Nat.le_trans h1 hb) _
theorem results2c {P : Program} {fn : Func} {p c : Tmp} {t : TypeId} (h : fn.results = #[.cell p t, .tmp c]) (tmps : Array Value) (w : World) (g : Nat) (v y z : Value) (hp : tmps.getD p undef = .pointer (some ⟨g, 0, none⟩)) (hl : (loadVar t ⟨g, 0, none⟩).run P w = .ok y w) (hc : tmps.getD c undef = z) (hv : v = .tuple #[y, z]) :
  (results fn tmps).run P w = .ok v w := by
 have hp' : tmps[p]?.getD undef = .pointer (some ⟨g, 0, none⟩) := by simpa using hp
 have hc' : tmps[c]?.getD undef = z := by simpa using hc
 subst hv
 simp only [results, h]
 simp [hp', hc', asAddr, hl]
theorem load_opt {w : World} {g : Nat} {X : Array Value} (h : Blk w g 32 X) (hs : X.size = 9) : (loadVar 32 ⟨g, 0, none⟩).run Try.prog w = .ok (.agg X) w :=
 run_loadVar_row w g 32 32 X (0, 0) _ h Try.underlying32 rfl (by rw [hs]; exact opt_size)
def PsB (ps : List Pas) : Prop := ∀ p ∈ ps, (0 ≤ p.sure.fr ∧ p.sure.fr ≤ 1000000) ∧ 0 ≤ p.sure.tt ∧ p.sure.tt ≤ 1000000
def OptRet (id : Int) (sl : List Slt) (ok : Bool) (w : World) (e : Ending) (w' : World) : Prop := ∃ A c, e = .returned (.tuple #[.agg #[.int .i64 id, .int .i64 0, .int .i64 0, .int .i64 0, .int .i64 0, .int .i64 0, .int .i64 0, .int .i64 1, .slice A sl.length c], .bool ok]) ∧ OwnS w' w.heap.size (.slice A sl.length c) sl ∧ Ext w w'
set_option maxRecDepth 100000 in
set_option maxHeartbeats 8000000 in
theorem option_any (id : Int) (ps : List Pas) (xs : List Int) (PA XA : Option Addr) (pn pc n c : Nat) (w : World) (hp : RA pasCells 6 w w.heap.size PA pn pc ps) (hr : RA intCells 1 w w.heap.size XA n c xs) (hp0 : 0 < pn) (hpn : pn ≤ 100) (hok : ∀ x ∈ xs, I64ok x) (hb : PsB ps) :
  Calls Try.prog 69 #[.int .i64 id, .slice PA pn pc, .slice XA n c] w (OptRet id (optS ps xs) true w) := by
 have hle := hr.le
 have HR := Lib.hid hr
 have HP := Lib.hid hp
 have HOK := Lib.hid hok
 have HB := Lib.hid hb
 obtain ⟨fin, hfin⟩ : ∃ x, x = optS ps xs := ⟨_, rfl⟩
 rw [← hfin]
 obtain ⟨fl, hfl⟩ : ∃ x, x = optL ps 0 [] xs := ⟨_, rfl⟩
 have HFIN : Hid (fin = if fl = [] then [⟨0, (pasAt ps 0).sure.fr, (pasAt ps 0).sure.fr + 1⟩] else fl) := Lib.hid (by rw [hfin, hfl]; rfl)
 have HF0 : Hid (fl = optL ps 0 [] (xs.drop 0)) := Lib.hid hfl
 clear hfin hfl hr hp hok hb
 go_enter Try.func69, Try.ntmps69
 go_upto_region 1 with (fail)
 have hx0 : Ext w (w.alloc (.cells #[.int .i64 0, .int .i64 0, .int .i64 0, .int .i64 0, .int .i64 0, .int .i64 0, .int .i64 0, .int .i64 0, .slice none 0 0] 32)) := bl_alloc (Below.refl _ _) _
 have J6 := Blk.new w 32 #[.int .i64 0, .int .i64 0, .int .i64 0, .int .i64 0, .int .i64 0, .int .i64 0, .int .i64 0, .int .i64 0, .slice none 0 0]
 obtain ⟨g6, hg6⟩ : ∃ g, g = w.heap.size := ⟨_, rfl⟩
 have hg6w : w.heap.size ≤ g6 := by omega
 rw [← hg6] at J6 ⊢
 clear hg6
 generalize w.alloc (.cells #[.int .i64 0, .int .i64 0, .int .i64 0, .int .i64 0, .int .i64 0, .int .i64 0, .int .i64 0, .int .i64 0, .slice none 0 0] 32) = W0 at hx0 J6 ⊢
 go_upto_region 2 with (fail)
 have hx1 : Ext W0 (W0.alloc (.cells (#[.int .i64 id, .int .i64 0, .int .i64 0, .int .i64 0, .int .i64 0, .int .i64 0, .int .i64 0, .int .i64 1, .slice none 0 0]) 32)) := bl_alloc (Below.refl _ _) _
 have J8 := Blk.new W0 32 (#[.int .i64 id, .int .i64 0, .int .i64 0, .int .i64 0, .int .i64 0, .int .i64 0, .int .i64 0, .int .i64 1, .slice none 0 0])
 obtain ⟨g8, hg8⟩ : ∃ g, g = W0.heap.size := ⟨_, rfl⟩
 have hg8w : w.heap.size ≤ g8 := by have := Below.size hx0; omega
 have hg86 : g8 ≠ g6 := by have := J6.lt; omega
 have hg8W : W0.heap.size ≤ g8 := by omega
 rw [← hg8] at J8 ⊢
 clear hg8
 generalize W0.alloc (.cells (#[.int .i64 id, .int .i64 0, .int .i64 0, .int .i64 0, .int .i64 0, .int .i64 0, .int .i64 0, .int .i64 1, .slice none 0 0]) 32) = W1 at hx1 J8 ⊢
 have HJ6 := Lib.hid J6
 have hxw := Ext.trans hx0 hx1
 have HW0 := Lib.hid hx0
 have HST0 : Hid (∃ A c, Blk W1 g8 32 (#[.int .i64 id, .int .i64 0, .int .i64 0, .int .i64 0, .int .i64 0, .int .i64 0, .int .i64 0, .int .i64 1, .slice A ([] : List Slt).length c]) ∧ OwnS W1 W0.heap.size (.slice A ([] : List Slt).length c) []) := Lib.hid ⟨none, 0, J8, World.ownsRow_nil _ _ _ _⟩
 clear J6 J8 hx0
 have hpn0 : (0 : Int) < (pn : Int) := by omega
 go_wp2_with fail
 go_loopw [9, 10] (fun u i wr => ∃ (k : Nat) (a : Int) (sl : List Slt), k ≤ n ∧ i = .int .i64 k ∧ u = .int .i64 a ∧ 0 ≤ a ∧ a ≤ 1000001 ∧ sl.length ≤ 6 ∧ Hid (fl = optL ps a sl (xs.drop k)) ∧ Hid (∃ A c, Blk wr g8 32 (#[.int .i64 id, .int .i64 0, .int .i64 0, .int .i64 0, .int .i64 0, .int .i64 0, .int .i64 0, .int .i64 1, .slice A sl.length c]) ∧ OwnS wr W0.heap.size (.slice A sl.length c) sl) ∧ Ext W0 wr) (fun _ i _ => n - (intOf i).toNat)
 case atStart => exact ⟨0, 0, [], Nat.zero_le _, rfl, rfl, by omega, by omega, Nat.zero_le _, HF0, HST0, hx1⟩
 case round =>
  clear HF0 HST0 hx1 hxw
  obtain ⟨k, a, sl, hk, rfl, rfl, ha0, ha1, hsl, HF, HST, hx⟩ := hrel
  obtain ⟨A3, c3, jb, ho⟩ := HST.out
  have d8 : wr.cell? ⟨g8, 8, none⟩ = some (.slice A3 sl.length c3) := jb.cell 8
  have d8' : wr.cell? ⟨g8, 7 + 1, none⟩ = some (.slice A3 sl.length c3) := d8
  have HJB := Lib.hid jb
  have HOW := Lib.hid ho
  clear jb ho HST
  have hxw := Ext.trans HW0.out hx
  by_cases hkn : k < n
  ·by_cases hs6 : sl.length < 6
   ·have hs6z : (sl.length : Int) < 6 := by omega
    obtain ⟨b, ob, hz, hA, _, hc⟩ := (HR.out.below hxw).at_ int_len hkn
    have hst := HF.out
    rw [List.drop_eq_getElem_cons hz, optL_cons, if_pos hs6] at hst
    have hok := HOK.out xs[k] (List.getElem_mem hz)
    have c0 : wr.cell? ⟨b, ob + k, none⟩ = some (.int .i64 xs[k]) := by have h := hc 0 (by omega); rw [Nat.mul_one] at h; exact h
    generalize xs[k] = x at hst c0 hok
    have PK := fun W => pickr_any x pn W hok.1 hok.2 (by omega) (by omega)
    have hpb := pickI_bd x pn (by omega)
    unfold frOf at hst
    rw [HP.out.len] at hst
    generalize pickI x pn = p at PK hpb hst
    obtain ⟨pk, rfl⟩ : ∃ q : Nat, p = q := ⟨p.toNat, by omega⟩
    have hpk : pk < pn := by omega
    obtain ⟨bp, op, hzp, hAp, _, hcp⟩ := (HP.out.below hxw).at_ pas_len hpk
    have hpa : pasAt ps (pk : Int) = ps[pk] := by unfold pasAt; rw [show ((pk : Int)).toNat = pk by omega, List.getD_eq_getElem?_getD, List.getElem?_eq_getElem hzp]; rfl
    have hbb := HB.out ps[pk] (List.getElem_mem hzp)
    rw [hpa] at hst
    have q2 : wr.cell? ⟨bp, op + pk * 6 + 2, none⟩ = some (.int .i64 ps[pk].sure.fr) := hcp 2 (by omega)
    have q3 : wr.cell? ⟨bp, op + pk * 6 + 3, none⟩ = some (.int .i64 ps[pk].sure.tt) := hcp 3 (by omega)
    generalize ps[pk].sure.fr = sf at hst q2 hbb
    generalize ps[pk].sure.tt = st at hst q3 hbb
    have HPK := Lib.hid PK
    have HST := Lib.hid hst
    subst hA
    have hAP := hAp
    subst hAP
    clear hc hz hst HF PK hok hcp hzp hpa d8
    go_wp2_with fail
    refine (HPK.out _).mono ?_
    rintro e w2 ⟨rfl, rfl⟩
    have hpz : (pk : Int) < (pn : Int) := by omega
    clear HPK c0
    rcases Int.lt_trichotomy a sf with hlt | heq | hgt
    ·rw [show max sf a = sf by omega] at HST
     have hng : ¬ sf < a := by omega
     go_upto_region 8 with (fail)
     by_cases hft : sf + 1 ≤ st
     ·have HN2 : Hid (fl = optL ps (sf + 1) (sl ++ [⟨pk, sf, sf + 1⟩]) (xs.drop (k + 1))) := Lib.hid (by rw [HST.out, if_pos hft])
      clear HST
      go_upto_region 9 with (fail)
      have hxa : Ext wr (wr.alloc (.cells #[.int .i64 (pk : Int), .int .i64 sf, .int .i64 (sf + 1)] 78)) := bl_alloc (Below.refl _ _) _
      obtain ⟨A7, c7, W7, hrun, hf2, hfz, hj7, ho7, hx7⟩ := opt_app ⟨pk, sf, sf + 1⟩ wr.heap.size (Blk.new _ _ _) (HJB.out.ext hxa) (HOW.out.ext hxa) (by omega) hg8W
      have d8a : (wr.alloc (.cells #[.int .i64 (pk : Int), .int .i64 sf, .int .i64 (sf + 1)] 78)).cell? ⟨g8, 8, none⟩ = some (.slice A3 sl.length c3) := ext_cell hxa d8'
      have HRUN := Lib.hid hrun
      have HNEW : Hid (∃ A c, Blk (W7.setCell ⟨g8, 8, none⟩ (.slice A7 (sl.length + 1) c7)) g8 32 (#[.int .i64 id, .int .i64 0, .int .i64 0, .int .i64 0, .int .i64 0, .int .i64 0, .int .i64 0, .int .i64 1, .slice A (sl ++ [(⟨pk, sf, sf + 1⟩ : Slt)]).length c]) ∧ OwnS (W7.setCell ⟨g8, 8, none⟩ (.slice A7 (sl.length + 1) c7)) W0.heap.size (.slice A (sl ++ [(⟨pk, sf, sf + 1⟩ : Slt)]).length c) (sl ++ [(⟨pk, sf, sf + 1⟩ : Slt)])) := Lib.hid ⟨A7, c7, by rw [List.length_append]; exact hj7, by rw [List.length_append]; exact ho7⟩
      have HX7 := Lib.hid (hx7 W0 (Ext.trans hx hxa) (Nat.le_refl _))
      have hsl7 : (sl ++ [(⟨pk, sf, sf + 1⟩ : Slt)]).length ≤ 6 := by simp; omega
      have HSL7 := Lib.hid hsl7
      clear hrun hj7 ho7 hx7 hxa hsl7 q2 q3
      go_wp2_with (refine wpList_append_run_ rfl _ _ _ rfl rfl rfl HRUN.out ?_)
      go_roundw
      case rel => exact ⟨k + 1, sf + 1, _, by omega, by go_num, by go_num, by omega, by omega, HSL7.out, HN2, HNEW, HX7.out⟩
      case measure => simp [intOf]; omega
     ·have HN2 : Hid (fl = optL ps a sl (xs.drop (k + 1))) := Lib.hid (by rw [HST.out, if_neg hft])
      clear HST
      have HOLD : Hid (∃ A c, Blk wr g8 32 (#[.int .i64 id, .int .i64 0, .int .i64 0, .int .i64 0, .int .i64 0, .int .i64 0, .int .i64 0, .int .i64 1, .slice A sl.length c]) ∧ OwnS wr W0.heap.size (.slice A sl.length c) sl) := Lib.hid ⟨A3, c3, HJB.out, HOW.out⟩
      go_wp2
      go_roundw
      case rel => exact ⟨k + 1, a, sl, by omega, by go_num, rfl, by omega, by omega, by omega, HN2, HOLD, hx⟩
      case measure => simp [intOf]; omega
    ·subst heq
     rw [show max a a = a by omega] at HST
     go_upto_region 8 with (fail)
     by_cases hft : a + 1 ≤ st
     ·have HN2 : Hid (fl = optL ps (a + 1) (sl ++ [⟨pk, a, a + 1⟩]) (xs.drop (k + 1))) := Lib.hid (by rw [HST.out, if_pos hft])
      clear HST
      go_upto_region 9 with (fail)
      have hxa : Ext wr (wr.alloc (.cells #[.int .i64 (pk : Int), .int .i64 a, .int .i64 (a + 1)] 78)) := bl_alloc (Below.refl _ _) _
      obtain ⟨A7, c7, W7, hrun, hf2, hfz, hj7, ho7, hx7⟩ := opt_app ⟨pk, a, a + 1⟩ wr.heap.size (Blk.new _ _ _) (HJB.out.ext hxa) (HOW.out.ext hxa) (by omega) hg8W
      have d8a : (wr.alloc (.cells #[.int .i64 (pk : Int), .int .i64 a, .int .i64 (a + 1)] 78)).cell? ⟨g8, 8, none⟩ = some (.slice A3 sl.length c3) := ext_cell hxa d8'
      have HRUN := Lib.hid hrun
      have HNEW : Hid (∃ A c, Blk (W7.setCell ⟨g8, 8, none⟩ (.slice A7 (sl.length + 1) c7)) g8 32 (#[.int .i64 id, .int .i64 0, .int .i64 0, .int .i64 0, .int .i64 0, .int .i64 0, .int .i64 0, .int .i64 1, .slice A (sl ++ [(⟨pk, a, a + 1⟩ : Slt)]).length c]) ∧ OwnS (W7.setCell ⟨g8, 8, none⟩ (.slice A7 (sl.length + 1) c7)) W0.heap.size (.slice A (sl ++ [(⟨pk, a, a + 1⟩ : Slt)]).length c) (sl ++ [(⟨pk, a, a + 1⟩ : Slt)])) := Lib.hid ⟨A7, c7, by rw [List.length_append]; exact hj7, by rw [List.length_append]; exact ho7⟩
      have HX7 := Lib.hid (hx7 W0 (Ext.trans hx hxa) (Nat.le_refl _))
      have hsl7 : (sl ++ [(⟨pk, a, a + 1⟩ : Slt)]).length ≤ 6 := by simp; omega
      have HSL7 := Lib.hid hsl7
      clear hrun hj7 ho7 hx7 hxa hsl7 q2 q3
      go_wp2_with (refine wpList_append_run_ rfl _ _ _ rfl rfl rfl HRUN.out ?_)
      go_roundw
      case rel => exact ⟨k + 1, a + 1, _, by omega, by go_num, by go_num, by omega, by omega, HSL7.out, HN2, HNEW, HX7.out⟩
      case measure => simp [intOf]; omega
     ·have HN2 : Hid (fl = optL ps a sl (xs.drop (k + 1))) := Lib.hid (by rw [HST.out, if_neg hft])
      clear HST
      have HOLD : Hid (∃ A c, Blk wr g8 32 (#[.int .i64 id, .int .i64 0, .int .i64 0, .int .i64 0, .int .i64 0, .int .i64 0, .int .i64 0, .int .i64 1, .slice A sl.length c]) ∧ OwnS wr W0.heap.size (.slice A sl.length c) sl) := Lib.hid ⟨A3, c3, HJB.out, HOW.out⟩
      go_wp2
      go_roundw
      case rel => exact ⟨k + 1, a, sl, by omega, by go_num, rfl, by omega, by omega, by omega, HN2, HOLD, hx⟩
      case measure => simp [intOf]; omega
    ·rw [show max sf a = a by omega] at HST
     have hng : ¬ a < sf := by omega
     go_upto_region 8 with (fail)
     by_cases hft : a + 1 ≤ st
     ·have HN2 : Hid (fl = optL ps (a + 1) (sl ++ [⟨pk, a, a + 1⟩]) (xs.drop (k + 1))) := Lib.hid (by rw [HST.out, if_pos hft])
      clear HST
      go_upto_region 9 with (fail)
      have hxa : Ext wr (wr.alloc (.cells #[.int .i64 (pk : Int), .int .i64 a, .int .i64 (a + 1)] 78)) := bl_alloc (Below.refl _ _) _
      obtain ⟨A7, c7, W7, hrun, hf2, hfz, hj7, ho7, hx7⟩ := opt_app ⟨pk, a, a + 1⟩ wr.heap.size (Blk.new _ _ _) (HJB.out.ext hxa) (HOW.out.ext hxa) (by omega) hg8W
      have d8a : (wr.alloc (.cells #[.int .i64 (pk : Int), .int .i64 a, .int .i64 (a + 1)] 78)).cell? ⟨g8, 8, none⟩ = some (.slice A3 sl.length c3) := ext_cell hxa d8'
      have HRUN := Lib.hid hrun
      have HNEW : Hid (∃ A c, Blk (W7.setCell ⟨g8, 8, none⟩ (.slice A7 (sl.length + 1) c7)) g8 32 (#[.int .i64 id, .int .i64 0, .int .i64 0, .int .i64 0, .int .i64 0, .int .i64 0, .int .i64 0, .int .i64 1, .slice A (sl ++ [(⟨pk, a, a + 1⟩ : Slt)]).length c]) ∧ OwnS (W7.setCell ⟨g8, 8, none⟩ (.slice A7 (sl.length + 1) c7)) W0.heap.size (.slice A (sl ++ [(⟨pk, a, a + 1⟩ : Slt)]).length c) (sl ++ [(⟨pk, a, a + 1⟩ : Slt)])) := Lib.hid ⟨A7, c7, by rw [List.length_append]; exact hj7, by rw [List.length_append]; exact ho7⟩
      have HX7 := Lib.hid (hx7 W0 (Ext.trans hx hxa) (Nat.le_refl _))
      have hsl7 : (sl ++ [(⟨pk, a, a + 1⟩ : Slt)]).length ≤ 6 := by simp; omega
      have HSL7 := Lib.hid hsl7
      clear hrun hj7 ho7 hx7 hxa hsl7 q2 q3
      go_wp2_with (refine wpList_append_run_ rfl _ _ _ rfl rfl rfl HRUN.out ?_)
      go_roundw
      case rel => exact ⟨k + 1, a + 1, _, by omega, by go_num, by go_num, by omega, by omega, HSL7.out, HN2, HNEW, HX7.out⟩
      case measure => simp [intOf]; omega
     ·have HN2 : Hid (fl = optL ps a sl (xs.drop (k + 1))) := Lib.hid (by rw [HST.out, if_neg hft])
      clear HST
      have HOLD : Hid (∃ A c, Blk wr g8 32 (#[.int .i64 id, .int .i64 0, .int .i64 0, .int .i64 0, .int .i64 0, .int .i64 0, .int .i64 0, .int .i64 1, .slice A sl.length c]) ∧ OwnS wr W0.heap.size (.slice A sl.length c) sl) := Lib.hid ⟨A3, c3, HJB.out, HOW.out⟩
      go_wp2
      go_roundw
      case rel => exact ⟨k + 1, a, sl, by omega, by go_num, rfl, by omega, by omega, by omega, HN2, HOLD, hx⟩
      case measure => simp [intOf]; omega
   ·have hs6z : ¬ (sl.length : Int) < 6 := by omega
    have hsn : sl ≠ [] := by intro e; subst e; simp at hs6
    have hfs : fin = sl := by
     have hk' : k < xs.length := by rw [HR.out.len]; exact hkn
     have h := HF.out
     rw [List.drop_eq_getElem_cons hk', optL_cons, if_neg hs6] at h
     rw [HFIN.out, h, if_neg hsn]
    subst hfs
    have jb := HJB.out
    have hxR := hxw
    have hxQ := hx
    have hoR := own_base HOW.out (Below.size HW0.out)
    have hn0 : ¬ (fin.length : Int) = 0 := by omega
    have hn0b : ((fin.length : Int) == 0) = false := by simpa using hn0
    have hn1 : (0 : Int) < (fin.length : Int) := by omega
    have hlp : 0 < fin.length := by omega
    clear HFIN HF HOW HJB hs6 hsn d8
    go_upto_region 14 with (fail)
    have e0 : wr.cell? ⟨g8, 0, none⟩ = some (.int .i64 id) := jb.cell 0
    have e1 : wr.cell? ⟨g8, 1, none⟩ = some (.int .i64 0) := jb.cell 1
    have e2 : wr.cell? ⟨g8, 2, none⟩ = some (.int .i64 0) := jb.cell 2
    have e3 : wr.cell? ⟨g8, 3, none⟩ = some (.int .i64 0) := jb.cell 3
    have e4 : wr.cell? ⟨g8, 4, none⟩ = some (.int .i64 0) := jb.cell 4
    have e5 : wr.cell? ⟨g8, 5, none⟩ = some (.int .i64 0) := jb.cell 5
    have e6 : wr.cell? ⟨g8, 6, none⟩ = some (.int .i64 0) := jb.cell 6
    have e7 : wr.cell? ⟨g8, 7, none⟩ = some (.int .i64 1) := jb.cell 7
    have e8 : wr.cell? ⟨g8, 8, none⟩ = some (.slice A3 fin.length c3) := jb.cell 8
    have j6 := HJ6.out.ext hxQ
    obtain ⟨o1, ho1⟩ : ∃ o, o = Obj.cells (#[.int .i64 id, .int .i64 0, .int .i64 0, .int .i64 0, .int .i64 0, .int .i64 0, .int .i64 0, .int .i64 1, .slice A3 fin.length c3]) 32 (0, 0) := ⟨_, rfl⟩
    have hT := tg_tr g6 o1
    have HO1 := Lib.hid ho1
    have HJ6R := Lib.hid j6
    have HST6 : Hid (∀ W, TG g6 o1 wr W → ∃ cs, Blk W g6 32 cs ∧ cs.size = 9) := Lib.hid (fun W h => by
     rcases h.2 with h2 | h2
     ·exact ⟨_, h2.trans HJ6R.out, rfl⟩
     ·exact ⟨_, h2.trans (by rw [HO1.out]), rfl⟩)
    clear j6 ho1
    refine RB.wp_region_obl (T := _) hT 7 (fun ix vals v w1 => match ix with | 0 => v = .agg (#[.int .i64 id, .int .i64 0, .int .i64 0, .int .i64 0, .int .i64 0, .int .i64 0, .int .i64 0, .int .i64 1, .slice A3 fin.length c3]) | 1 => v = .pointer (some ⟨g8, 8, none⟩) | 2 => v = .slice A3 fin.length c3 | 3 => v = .int .i64 (fin.length : Nat) | 4 => v = .bool true | 5 => w1.heap[g6]? = some o1 | _ => v = .bool true) (by kernel_rfl) (by kernel_rfl) ?_ ?_ ?_ ?_
    ·intro ix vals v w1 w2 hi hr hx
     match ix, hr with
     | 0, hr => exact hr
     | 1, hr => exact hr
     | 2, hr => exact hr
     | 3, hr => exact hr
     | 4, hr => exact hr
     | 5, hr => rcases hx.2 with h | h; exact h.trans hr; exact h
     | (kx + 6), hr => exact hr
    ·intro ix vals vals_ v w1 hi hv hr
     exact hr
    ·refine ⟨?_, ?_, ?_, ?_, ?_, ?_, ?_, trivial⟩
     ·intro vals w1 hx hd ha
      clear hd ha
      simp only [Lf]
      have e0 := hx.undrew.1.cell e0 hg86; have e1 := hx.undrew.1.cell e1 hg86; have e2 := hx.undrew.1.cell e2 hg86; have e3 := hx.undrew.1.cell e3 hg86; have e4 := hx.undrew.1.cell e4 hg86; have e5 := hx.undrew.1.cell e5 hg86; have e6 := hx.undrew.1.cell e6 hg86; have e7 := hx.undrew.1.cell e7 hg86; have e8 := hx.undrew.1.cell e8 hg86
      go_wp2
      exact ⟨rfl, hT.refl _, rfl⟩
     ·intro vals w1 hx hd ha
      clear hd ha
      simp only [Lf, dstAt, Act.put, List.getElem?_toArray, List.getElem?_cons_zero, Option.bind_some, List.setIfInBounds_toArray, List.set_cons_zero, List.set_cons_succ]
      go_wp2
      exact ⟨rfl, hT.refl _, rfl⟩
     ·intro vals w1 hx hd ha
      have e1 : vals 1 = .pointer (some ⟨g8, 8, none⟩) := hd 1 (by decide)
      clear hd ha
      simp only [Lf, dstAt, Act.put, List.getElem?_toArray, List.getElem?_cons_zero, List.getElem?_cons_succ, Option.bind_some, List.setIfInBounds_toArray, List.set_cons_zero, List.set_cons_succ]
      simp only [e1]
      clear e1
      have e8 := hx.undrew.1.cell e8 hg86
      go_wp2
      exact ⟨rfl, hT.refl _, rfl⟩
     ·intro vals w1 hx hd ha
      have e2 : vals 2 = .slice A3 fin.length c3 := hd 2 (by decide)
      clear hd ha
      simp only [Lf, dstAt, Act.put, List.getElem?_toArray, List.getElem?_cons_zero, List.getElem?_cons_succ, Option.bind_some, List.setIfInBounds_toArray, List.set_cons_zero, List.set_cons_succ]
      simp only [e2]
      clear e2
      go_wp2
      exact ⟨rfl, hT.refl _, rfl⟩
     ·intro vals w1 hx hd ha
      have e3 : vals 3 = .int .i64 (fin.length : Nat) := hd 3 (by decide)
      clear hd ha
      simp only [Lf, dstAt, Act.put, List.getElem?_toArray, List.getElem?_cons_zero, List.getElem?_cons_succ, Option.bind_some, List.setIfInBounds_toArray, List.set_cons_zero, List.set_cons_succ]
      simp only [e3]
      clear e3
      have hn9 : decide ((0 : Int) < ((fin.length : Nat) : Int)) = true := by first | (simp; omega) | simp
      go_wp2
      exact ⟨rfl, hT.refl _, rfl⟩
     ·intro vals w1 hx hd ha
      have e0 : vals 0 = .agg (#[.int .i64 id, .int .i64 0, .int .i64 0, .int .i64 0, .int .i64 0, .int .i64 0, .int .i64 0, .int .i64 1, .slice A3 fin.length c3]) := hd 0 (by decide)
      clear hd ha
      simp only [Lf, dstAt, Act.put, List.getElem?_toArray, List.getElem?_cons_zero, List.getElem?_cons_succ, Option.bind_some, List.setIfInBounds_toArray, List.set_cons_zero, List.set_cons_succ]
      simp only [e0]
      clear e0
      obtain ⟨cs6, hj6, hs6⟩ := HST6.out w1 hx.undrew
      have HJJ := Lib.hid hj6
      have HSS := Lib.hid hs6
      clear hj6 hs6
      refine wpList_store_row rfl _ _ _ rfl g6 (#[.int .i64 id, .int .i64 0, .int .i64 0, .int .i64 0, .int .i64 0, .int .i64 0, .int .i64 0, .int .i64 1, .slice A3 fin.length c3]) rfl rfl 32 cs6 HJJ.out opt_size HSS.out (by simp [Value.oneCell']) ?_
      have hh := HJJ.out.row (#[.int .i64 id, .int .i64 0, .int .i64 0, .int .i64 0, .int .i64 0, .int .i64 0, .int .i64 0, .int .i64 1, .slice A3 fin.length c3])
      have hh2 : (w1.setRow g6 (#[.int .i64 id, .int .i64 0, .int .i64 0, .int .i64 0, .int .i64 0, .int .i64 0, .int .i64 0, .int .i64 1, .slice A3 fin.length c3])).heap[g6]? = some o1 := by rw [HO1.out]; exact hh
      go_wp2
      exact ⟨rfl, ⟨(One.refl g6 w1).row _, .inr hh2⟩, hh2⟩
     ·intro vals w1 hx hd ha
      have e0 : vals 0 = .agg (#[.int .i64 id, .int .i64 0, .int .i64 0, .int .i64 0, .int .i64 0, .int .i64 0, .int .i64 0, .int .i64 1, .slice A3 fin.length c3]) := hd 0 (by decide)
      have e1 : vals 1 = .pointer (some ⟨g8, 8, none⟩) := hd 1 (by decide)
      have e2 : vals 2 = .slice A3 fin.length c3 := hd 2 (by decide)
      have e3 : vals 3 = .int .i64 (fin.length : Nat) := hd 3 (by decide)
      have e4 : vals 4 = .bool true := hd 4 (by decide)
      have r5 : (fun v w1 => w1.heap[g6]? = some o1) (vals 5) w1 := hd 5 (by decide)
      dsimp only at r5
      clear hd ha
      simp only [Lf, dstAt, Act.put, List.getElem?_toArray, List.getElem?_cons_zero, List.getElem?_cons_succ, Option.bind_some, List.setIfInBounds_toArray, List.set_cons_zero, List.set_cons_succ]
      simp only [e0, e1, e2, e3, e4]
      clear e0 e1 e2 e3 e4
      go_wp2
      exact ⟨rfl, hT.refl _, rfl⟩
    intro vals W9 hy hf
    have v6 : vals 6 = .bool true := hf 6 (by omega)
    have h6 : W9.heap[g6]? = some o1 := hf 5 (by omega)
    have hy := hy.undrew
    have J6 : Blk W9 g6 32 (#[.int .i64 id, .int .i64 0, .int .i64 0, .int .i64 0, .int .i64 0, .int .i64 0, .int .i64 0, .int .i64 1, .slice A3 fin.length c3]) := by rw [HO1.out] at h6; exact h6
    have HLD := Lib.hid (load_opt J6 rfl)
    have HXF := Lib.hid (hy.1.ext hxR hg6w)
    have HOF := Lib.hid (hy.1.own hoR HJ6R.out (by decide))
    clear hf hy h6 J6 e0 e1 e2 e3 e4 e5 e6 e7 e8 hT hxR hoR jb
    refine tail0 (by kernel_rfl) ?_
    simp only [Lf, dstAt, Act.put, List.getElem?_toArray, List.getElem?_cons_zero, List.getElem?_cons_succ, Option.bind_some, List.setIfInBounds_toArray, List.set_cons_zero, List.set_cons_succ]
    rw [v6]
    clear v6
    go_wp2
    exact bodyPost_ret (results2c Try.results69 _ _ g6 _ _ _ rfl HLD.out rfl rfl) rfl ⟨A3, c3, rfl, HOF.out, HXF.out⟩
  ·have hfl : fl = sl := by rw [HF.out, List.drop_of_length_le (by rw [HR.out.len]; omega), optL]
   subst hfl
   by_cases hsn : fl = []
   ·have hz0 : 0 < ps.length := by rw [HP.out.len]; exact hp0
    obtain ⟨bp, op, hzp, hAp, _, hcp⟩ := (HP.out.below hxw).at_ pas_len hp0
    have hpa : pasAt ps 0 = ps[0] := by unfold pasAt; rw [show ((0 : Int)).toNat = 0 by rfl, List.getD_eq_getElem?_getD, List.getElem?_eq_getElem hz0]; rfl
    have hbb := HB.out ps[0] (List.getElem_mem hz0)
    have hfs : fin = [⟨0, ps[0].sure.fr, ps[0].sure.fr + 1⟩] := by rw [HFIN.out, if_pos hsn, hpa]
    have q2 : wr.cell? ⟨bp, op + 2, none⟩ = some (.int .i64 ps[0].sure.fr) := by have h := hcp 2 (by omega); rw [Nat.zero_mul, Nat.add_zero] at h; exact h
    generalize ps[0].sure.fr = sf at hfs q2 hbb
    subst hfs
    subst hsn
    have hAP := hAp
    subst hAP
    rw [List.length_nil] at d8 d8'
    have fz : wr.frozen? ⟨g8, 8, none⟩ = false := HJB.out.frozen 8
    clear HFIN HF hcp hpa
    have hya : Ext wr (wr.alloc (.cells #[.int .i64 0, .int .i64 sf, .int .i64 (sf + 1)] 78)) := bl_alloc (Below.refl _ _) _
    have J18 := Blk.new wr 78 #[.int .i64 0, .int .i64 sf, .int .i64 (sf + 1)]
    have hjb1 := HJB.out.ext hya
    have hne : wr.heap.size ≠ g8 := by have := HJB.out.lt; omega
    have f8 : (wr.alloc (.cells #[.int .i64 0, .int .i64 sf, .int .i64 (sf + 1)] 78)).frozen? ⟨g8, 8, none⟩ = false := hjb1.frozen 8
    have d8b : (wr.alloc (.cells #[.int .i64 0, .int .i64 sf, .int .i64 (sf + 1)] 78)).cell? ⟨g8, 8, none⟩ = some (.slice A3 0 c3) := ext_cell hya d8
    obtain ⟨gs, hgs⟩ : ∃ g, g = wr.heap.size := ⟨_, rfl⟩
    have hgsw : W0.heap.size ≤ gs := by have := Below.size hx; omega
    have jb0 := hjb1.set_ 8 (.slice (some ⟨gs, 0, none⟩) 1 1)
    have js := J18.far (p := ⟨g8, 8, none⟩) hne (.slice (some ⟨gs, 0, none⟩) 1 1)
    rw [← hgs] at js
    have hxQ0 := (Ext.trans hx hya).setCell (p := ⟨g8, 8, none⟩) hg8W (.slice (some ⟨gs, 0, none⟩) 1 1)
    have HJB0 := Lib.hid jb0
    have HJS := Lib.hid js
    have HXQ := Lib.hid hxQ0
    clear J18 hjb1 jb0 js hxQ0 HJB HOW
    go_upto_region 14 with (fail)
    rw [← hgs]
    clear hgs d8 d8' d8b f8 fz q2 hya hne
    generalize (wr.alloc (.cells #[.int .i64 0, .int .i64 sf, .int .i64 (sf + 1)] 78)).setCell ⟨g8, 8, none⟩ (.slice (some ⟨gs, 0, none⟩) 1 1) = W5 at HJB0 HJS HXQ ⊢
    have jb : Blk W5 g8 32 (#[.int .i64 id, .int .i64 0, .int .i64 0, .int .i64 0, .int .i64 0, .int .i64 0, .int .i64 0, .int .i64 1, .slice (some ⟨gs, 0, none⟩) 1 1]) := HJB0.out
    have hxQ := HXQ.out
    have hxR := Ext.trans HW0.out hxQ
    have hoR : OwnS W5 w.heap.size (.slice (some ⟨gs, 0, none⟩) 1 1) [⟨0, sf, sf + 1⟩] := ⟨rfl, .inr ⟨gs, 1, _, rfl, by have := Below.size HW0.out; omega, HJS.out, Nat.le_refl _, by unfold maxLen; omega, rfl, rfl⟩⟩
    clear HJB0 HJS HXQ
    go_upto_region 14 with (fail)
    have e0 : W5.cell? ⟨g8, 0, none⟩ = some (.int .i64 id) := jb.cell 0
    have e1 : W5.cell? ⟨g8, 1, none⟩ = some (.int .i64 0) := jb.cell 1
    have e2 : W5.cell? ⟨g8, 2, none⟩ = some (.int .i64 0) := jb.cell 2
    have e3 : W5.cell? ⟨g8, 3, none⟩ = some (.int .i64 0) := jb.cell 3
    have e4 : W5.cell? ⟨g8, 4, none⟩ = some (.int .i64 0) := jb.cell 4
    have e5 : W5.cell? ⟨g8, 5, none⟩ = some (.int .i64 0) := jb.cell 5
    have e6 : W5.cell? ⟨g8, 6, none⟩ = some (.int .i64 0) := jb.cell 6
    have e7 : W5.cell? ⟨g8, 7, none⟩ = some (.int .i64 1) := jb.cell 7
    have e8 : W5.cell? ⟨g8, 8, none⟩ = some (.slice (some ⟨gs, 0, none⟩) 1 1) := jb.cell 8
    have j6 := HJ6.out.ext hxQ
    obtain ⟨o1, ho1⟩ : ∃ o, o = Obj.cells (#[.int .i64 id, .int .i64 0, .int .i64 0, .int .i64 0, .int .i64 0, .int .i64 0, .int .i64 0, .int .i64 1, .slice (some ⟨gs, 0, none⟩) 1 1]) 32 (0, 0) := ⟨_, rfl⟩
    have hT := tg_tr g6 o1
    have HO1 := Lib.hid ho1
    have HJ6R := Lib.hid j6
    have HST6 : Hid (∀ W, TG g6 o1 W5 W → ∃ cs, Blk W g6 32 cs ∧ cs.size = 9) := Lib.hid (fun W h => by
     rcases h.2 with h2 | h2
     ·exact ⟨_, h2.trans HJ6R.out, rfl⟩
     ·exact ⟨_, h2.trans (by rw [HO1.out]), rfl⟩)
    clear j6 ho1
    refine RB.wp_region_obl (T := _) hT 7 (fun ix vals v w1 => match ix with | 0 => v = .agg (#[.int .i64 id, .int .i64 0, .int .i64 0, .int .i64 0, .int .i64 0, .int .i64 0, .int .i64 0, .int .i64 1, .slice (some ⟨gs, 0, none⟩) 1 1]) | 1 => v = .pointer (some ⟨g8, 8, none⟩) | 2 => v = .slice (some ⟨gs, 0, none⟩) 1 1 | 3 => v = .int .i64 (1 : Nat) | 4 => v = .bool true | 5 => w1.heap[g6]? = some o1 | _ => v = .bool true) (by kernel_rfl) (by kernel_rfl) ?_ ?_ ?_ ?_
    ·intro ix vals v w1 w2 hi hr hx
     match ix, hr with
     | 0, hr => exact hr
     | 1, hr => exact hr
     | 2, hr => exact hr
     | 3, hr => exact hr
     | 4, hr => exact hr
     | 5, hr => rcases hx.2 with h | h; exact h.trans hr; exact h
     | (kx + 6), hr => exact hr
    ·intro ix vals vals_ v w1 hi hv hr
     exact hr
    ·refine ⟨?_, ?_, ?_, ?_, ?_, ?_, ?_, trivial⟩
     ·intro vals w1 hx hd ha
      clear hd ha
      simp only [Lf]
      have e0 := hx.undrew.1.cell e0 hg86; have e1 := hx.undrew.1.cell e1 hg86; have e2 := hx.undrew.1.cell e2 hg86; have e3 := hx.undrew.1.cell e3 hg86; have e4 := hx.undrew.1.cell e4 hg86; have e5 := hx.undrew.1.cell e5 hg86; have e6 := hx.undrew.1.cell e6 hg86; have e7 := hx.undrew.1.cell e7 hg86; have e8 := hx.undrew.1.cell e8 hg86
      go_wp2
      exact ⟨rfl, hT.refl _, rfl⟩
     ·intro vals w1 hx hd ha
      clear hd ha
      simp only [Lf, dstAt, Act.put, List.getElem?_toArray, List.getElem?_cons_zero, Option.bind_some, List.setIfInBounds_toArray, List.set_cons_zero, List.set_cons_succ]
      go_wp2
      exact ⟨rfl, hT.refl _, rfl⟩
     ·intro vals w1 hx hd ha
      have e1 : vals 1 = .pointer (some ⟨g8, 8, none⟩) := hd 1 (by decide)
      clear hd ha
      simp only [Lf, dstAt, Act.put, List.getElem?_toArray, List.getElem?_cons_zero, List.getElem?_cons_succ, Option.bind_some, List.setIfInBounds_toArray, List.set_cons_zero, List.set_cons_succ]
      simp only [e1]
      clear e1
      have e8 := hx.undrew.1.cell e8 hg86
      go_wp2
      exact ⟨rfl, hT.refl _, rfl⟩
     ·intro vals w1 hx hd ha
      have e2 : vals 2 = .slice (some ⟨gs, 0, none⟩) 1 1 := hd 2 (by decide)
      clear hd ha
      simp only [Lf, dstAt, Act.put, List.getElem?_toArray, List.getElem?_cons_zero, List.getElem?_cons_succ, Option.bind_some, List.setIfInBounds_toArray, List.set_cons_zero, List.set_cons_succ]
      simp only [e2]
      clear e2
      go_wp2
      exact ⟨rfl, hT.refl _, rfl⟩
     ·intro vals w1 hx hd ha
      have e3 : vals 3 = .int .i64 (1 : Nat) := hd 3 (by decide)
      clear hd ha
      simp only [Lf, dstAt, Act.put, List.getElem?_toArray, List.getElem?_cons_zero, List.getElem?_cons_succ, Option.bind_some, List.setIfInBounds_toArray, List.set_cons_zero, List.set_cons_succ]
      simp only [e3]
      clear e3
      have hn9 : decide ((0 : Int) < ((1 : Nat) : Int)) = true := by first | (simp; omega) | simp
      go_wp2
      exact ⟨rfl, hT.refl _, rfl⟩
     ·intro vals w1 hx hd ha
      have e0 : vals 0 = .agg (#[.int .i64 id, .int .i64 0, .int .i64 0, .int .i64 0, .int .i64 0, .int .i64 0, .int .i64 0, .int .i64 1, .slice (some ⟨gs, 0, none⟩) 1 1]) := hd 0 (by decide)
      clear hd ha
      simp only [Lf, dstAt, Act.put, List.getElem?_toArray, List.getElem?_cons_zero, List.getElem?_cons_succ, Option.bind_some, List.setIfInBounds_toArray, List.set_cons_zero, List.set_cons_succ]
      simp only [e0]
      clear e0
      obtain ⟨cs6, hj6, hs6⟩ := HST6.out w1 hx.undrew
      have HJJ := Lib.hid hj6
      have HSS := Lib.hid hs6
      clear hj6 hs6
      refine wpList_store_row rfl _ _ _ rfl g6 (#[.int .i64 id, .int .i64 0, .int .i64 0, .int .i64 0, .int .i64 0, .int .i64 0, .int .i64 0, .int .i64 1, .slice (some ⟨gs, 0, none⟩) 1 1]) rfl rfl 32 cs6 HJJ.out opt_size HSS.out (by simp [Value.oneCell']) ?_
      have hh := HJJ.out.row (#[.int .i64 id, .int .i64 0, .int .i64 0, .int .i64 0, .int .i64 0, .int .i64 0, .int .i64 0, .int .i64 1, .slice (some ⟨gs, 0, none⟩) 1 1])
      have hh2 : (w1.setRow g6 (#[.int .i64 id, .int .i64 0, .int .i64 0, .int .i64 0, .int .i64 0, .int .i64 0, .int .i64 0, .int .i64 1, .slice (some ⟨gs, 0, none⟩) 1 1])).heap[g6]? = some o1 := by rw [HO1.out]; exact hh
      go_wp2
      exact ⟨rfl, ⟨(One.refl g6 w1).row _, .inr hh2⟩, hh2⟩
     ·intro vals w1 hx hd ha
      have e0 : vals 0 = .agg (#[.int .i64 id, .int .i64 0, .int .i64 0, .int .i64 0, .int .i64 0, .int .i64 0, .int .i64 0, .int .i64 1, .slice (some ⟨gs, 0, none⟩) 1 1]) := hd 0 (by decide)
      have e1 : vals 1 = .pointer (some ⟨g8, 8, none⟩) := hd 1 (by decide)
      have e2 : vals 2 = .slice (some ⟨gs, 0, none⟩) 1 1 := hd 2 (by decide)
      have e3 : vals 3 = .int .i64 (1 : Nat) := hd 3 (by decide)
      have e4 : vals 4 = .bool true := hd 4 (by decide)
      have r5 : (fun v w1 => w1.heap[g6]? = some o1) (vals 5) w1 := hd 5 (by decide)
      dsimp only at r5
      clear hd ha
      simp only [Lf, dstAt, Act.put, List.getElem?_toArray, List.getElem?_cons_zero, List.getElem?_cons_succ, Option.bind_some, List.setIfInBounds_toArray, List.set_cons_zero, List.set_cons_succ]
      simp only [e0, e1, e2, e3, e4]
      clear e0 e1 e2 e3 e4
      go_wp2
      exact ⟨rfl, hT.refl _, rfl⟩
    intro vals W9 hy hf
    have v6 : vals 6 = .bool true := hf 6 (by omega)
    have h6 : W9.heap[g6]? = some o1 := hf 5 (by omega)
    have hy := hy.undrew
    have J6 : Blk W9 g6 32 (#[.int .i64 id, .int .i64 0, .int .i64 0, .int .i64 0, .int .i64 0, .int .i64 0, .int .i64 0, .int .i64 1, .slice (some ⟨gs, 0, none⟩) 1 1]) := by rw [HO1.out] at h6; exact h6
    have HLD := Lib.hid (load_opt J6 rfl)
    have HXF := Lib.hid (hy.1.ext hxR hg6w)
    have HOF := Lib.hid (hy.1.own hoR HJ6R.out (by decide))
    clear hf hy h6 J6 e0 e1 e2 e3 e4 e5 e6 e7 e8 hT hxR hoR jb
    refine tail0 (by kernel_rfl) ?_
    simp only [Lf, dstAt, Act.put, List.getElem?_toArray, List.getElem?_cons_zero, List.getElem?_cons_succ, Option.bind_some, List.setIfInBounds_toArray, List.set_cons_zero, List.set_cons_succ]
    rw [v6]
    clear v6
    go_wp2
    exact bodyPost_ret (results2c Try.results69 _ _ g6 _ _ _ rfl HLD.out rfl rfl) rfl ⟨(some ⟨gs, 0, none⟩), 1, rfl, HOF.out, HXF.out⟩
   ·have hfs : fin = fl := by rw [HFIN.out, if_neg hsn]
    subst hfs
    have hlp : 0 < fin.length := List.length_pos_iff.2 hsn
    have jb := HJB.out
    have hxR := hxw
    have hxQ := hx
    have hoR := own_base HOW.out (Below.size HW0.out)
    have hn0 : ¬ (fin.length : Int) = 0 := by omega
    have hn0b : ((fin.length : Int) == 0) = false := by simpa using hn0
    have hn1 : (0 : Int) < (fin.length : Int) := by omega
    clear HFIN HF HOW HJB hsn d8
    go_upto_region 14 with (fail)
    have e0 : wr.cell? ⟨g8, 0, none⟩ = some (.int .i64 id) := jb.cell 0
    have e1 : wr.cell? ⟨g8, 1, none⟩ = some (.int .i64 0) := jb.cell 1
    have e2 : wr.cell? ⟨g8, 2, none⟩ = some (.int .i64 0) := jb.cell 2
    have e3 : wr.cell? ⟨g8, 3, none⟩ = some (.int .i64 0) := jb.cell 3
    have e4 : wr.cell? ⟨g8, 4, none⟩ = some (.int .i64 0) := jb.cell 4
    have e5 : wr.cell? ⟨g8, 5, none⟩ = some (.int .i64 0) := jb.cell 5
    have e6 : wr.cell? ⟨g8, 6, none⟩ = some (.int .i64 0) := jb.cell 6
    have e7 : wr.cell? ⟨g8, 7, none⟩ = some (.int .i64 1) := jb.cell 7
    have e8 : wr.cell? ⟨g8, 8, none⟩ = some (.slice A3 fin.length c3) := jb.cell 8
    have j6 := HJ6.out.ext hxQ
    obtain ⟨o1, ho1⟩ : ∃ o, o = Obj.cells (#[.int .i64 id, .int .i64 0, .int .i64 0, .int .i64 0, .int .i64 0, .int .i64 0, .int .i64 0, .int .i64 1, .slice A3 fin.length c3]) 32 (0, 0) := ⟨_, rfl⟩
    have hT := tg_tr g6 o1
    have HO1 := Lib.hid ho1
    have HJ6R := Lib.hid j6
    have HST6 : Hid (∀ W, TG g6 o1 wr W → ∃ cs, Blk W g6 32 cs ∧ cs.size = 9) := Lib.hid (fun W h => by
     rcases h.2 with h2 | h2
     ·exact ⟨_, h2.trans HJ6R.out, rfl⟩
     ·exact ⟨_, h2.trans (by rw [HO1.out]), rfl⟩)
    clear j6 ho1
    refine RB.wp_region_obl (T := _) hT 7 (fun ix vals v w1 => match ix with | 0 => v = .agg (#[.int .i64 id, .int .i64 0, .int .i64 0, .int .i64 0, .int .i64 0, .int .i64 0, .int .i64 0, .int .i64 1, .slice A3 fin.length c3]) | 1 => v = .pointer (some ⟨g8, 8, none⟩) | 2 => v = .slice A3 fin.length c3 | 3 => v = .int .i64 (fin.length : Nat) | 4 => v = .bool true | 5 => w1.heap[g6]? = some o1 | _ => v = .bool true) (by kernel_rfl) (by kernel_rfl) ?_ ?_ ?_ ?_
    ·intro ix vals v w1 w2 hi hr hx
     match ix, hr with
     | 0, hr => exact hr
     | 1, hr => exact hr
     | 2, hr => exact hr
     | 3, hr => exact hr
     | 4, hr => exact hr
     | 5, hr => rcases hx.2 with h | h; exact h.trans hr; exact h
     | (kx + 6), hr => exact hr
    ·intro ix vals vals_ v w1 hi hv hr
     exact hr
    ·refine ⟨?_, ?_, ?_, ?_, ?_, ?_, ?_, trivial⟩
     ·intro vals w1 hx hd ha
      clear hd ha
      simp only [Lf]
      have e0 := hx.undrew.1.cell e0 hg86; have e1 := hx.undrew.1.cell e1 hg86; have e2 := hx.undrew.1.cell e2 hg86; have e3 := hx.undrew.1.cell e3 hg86; have e4 := hx.undrew.1.cell e4 hg86; have e5 := hx.undrew.1.cell e5 hg86; have e6 := hx.undrew.1.cell e6 hg86; have e7 := hx.undrew.1.cell e7 hg86; have e8 := hx.undrew.1.cell e8 hg86
      go_wp2
      exact ⟨rfl, hT.refl _, rfl⟩
     ·intro vals w1 hx hd ha
      clear hd ha
      simp only [Lf, dstAt, Act.put, List.getElem?_toArray, List.getElem?_cons_zero, Option.bind_some, List.setIfInBounds_toArray, List.set_cons_zero, List.set_cons_succ]
      go_wp2
      exact ⟨rfl, hT.refl _, rfl⟩
     ·intro vals w1 hx hd ha
      have e1 : vals 1 = .pointer (some ⟨g8, 8, none⟩) := hd 1 (by decide)
      clear hd ha
      simp only [Lf, dstAt, Act.put, List.getElem?_toArray, List.getElem?_cons_zero, List.getElem?_cons_succ, Option.bind_some, List.setIfInBounds_toArray, List.set_cons_zero, List.set_cons_succ]
      simp only [e1]
      clear e1
      have e8 := hx.undrew.1.cell e8 hg86
      go_wp2
      exact ⟨rfl, hT.refl _, rfl⟩
     ·intro vals w1 hx hd ha
      have e2 : vals 2 = .slice A3 fin.length c3 := hd 2 (by decide)
      clear hd ha
      simp only [Lf, dstAt, Act.put, List.getElem?_toArray, List.getElem?_cons_zero, List.getElem?_cons_succ, Option.bind_some, List.setIfInBounds_toArray, List.set_cons_zero, List.set_cons_succ]
      simp only [e2]
      clear e2
      go_wp2
      exact ⟨rfl, hT.refl _, rfl⟩
     ·intro vals w1 hx hd ha
      have e3 : vals 3 = .int .i64 (fin.length : Nat) := hd 3 (by decide)
      clear hd ha
      simp only [Lf, dstAt, Act.put, List.getElem?_toArray, List.getElem?_cons_zero, List.getElem?_cons_succ, Option.bind_some, List.setIfInBounds_toArray, List.set_cons_zero, List.set_cons_succ]
      simp only [e3]
      clear e3
      have hn9 : decide ((0 : Int) < ((fin.length : Nat) : Int)) = true := by first | (simp; omega) | simp
      go_wp2
      exact ⟨rfl, hT.refl _, rfl⟩
     ·intro vals w1 hx hd ha
      have e0 : vals 0 = .agg (#[.int .i64 id, .int .i64 0, .int .i64 0, .int .i64 0, .int .i64 0, .int .i64 0, .int .i64 0, .int .i64 1, .slice A3 fin.length c3]) := hd 0 (by decide)
      clear hd ha
      simp only [Lf, dstAt, Act.put, List.getElem?_toArray, List.getElem?_cons_zero, List.getElem?_cons_succ, Option.bind_some, List.setIfInBounds_toArray, List.set_cons_zero, List.set_cons_succ]
      simp only [e0]
      clear e0
      obtain ⟨cs6, hj6, hs6⟩ := HST6.out w1 hx.undrew
      have HJJ := Lib.hid hj6
      have HSS := Lib.hid hs6
      clear hj6 hs6
      refine wpList_store_row rfl _ _ _ rfl g6 (#[.int .i64 id, .int .i64 0, .int .i64 0, .int .i64 0, .int .i64 0, .int .i64 0, .int .i64 0, .int .i64 1, .slice A3 fin.length c3]) rfl rfl 32 cs6 HJJ.out opt_size HSS.out (by simp [Value.oneCell']) ?_
      have hh := HJJ.out.row (#[.int .i64 id, .int .i64 0, .int .i64 0, .int .i64 0, .int .i64 0, .int .i64 0, .int .i64 0, .int .i64 1, .slice A3 fin.length c3])
      have hh2 : (w1.setRow g6 (#[.int .i64 id, .int .i64 0, .int .i64 0, .int .i64 0, .int .i64 0, .int .i64 0, .int .i64 0, .int .i64 1, .slice A3 fin.length c3])).heap[g6]? = some o1 := by rw [HO1.out]; exact hh
      go_wp2
      exact ⟨rfl, ⟨(One.refl g6 w1).row _, .inr hh2⟩, hh2⟩
     ·intro vals w1 hx hd ha
      have e0 : vals 0 = .agg (#[.int .i64 id, .int .i64 0, .int .i64 0, .int .i64 0, .int .i64 0, .int .i64 0, .int .i64 0, .int .i64 1, .slice A3 fin.length c3]) := hd 0 (by decide)
      have e1 : vals 1 = .pointer (some ⟨g8, 8, none⟩) := hd 1 (by decide)
      have e2 : vals 2 = .slice A3 fin.length c3 := hd 2 (by decide)
      have e3 : vals 3 = .int .i64 (fin.length : Nat) := hd 3 (by decide)
      have e4 : vals 4 = .bool true := hd 4 (by decide)
      have r5 : (fun v w1 => w1.heap[g6]? = some o1) (vals 5) w1 := hd 5 (by decide)
      dsimp only at r5
      clear hd ha
      simp only [Lf, dstAt, Act.put, List.getElem?_toArray, List.getElem?_cons_zero, List.getElem?_cons_succ, Option.bind_some, List.setIfInBounds_toArray, List.set_cons_zero, List.set_cons_succ]
      simp only [e0, e1, e2, e3, e4]
      clear e0 e1 e2 e3 e4
      go_wp2
      exact ⟨rfl, hT.refl _, rfl⟩
    intro vals W9 hy hf
    have v6 : vals 6 = .bool true := hf 6 (by omega)
    have h6 : W9.heap[g6]? = some o1 := hf 5 (by omega)
    have hy := hy.undrew
    have J6 : Blk W9 g6 32 (#[.int .i64 id, .int .i64 0, .int .i64 0, .int .i64 0, .int .i64 0, .int .i64 0, .int .i64 0, .int .i64 1, .slice A3 fin.length c3]) := by rw [HO1.out] at h6; exact h6
    have HLD := Lib.hid (load_opt J6 rfl)
    have HXF := Lib.hid (hy.1.ext hxR hg6w)
    have HOF := Lib.hid (hy.1.own hoR HJ6R.out (by decide))
    clear hf hy h6 J6 e0 e1 e2 e3 e4 e5 e6 e7 e8 hT hxR hoR jb
    refine tail0 (by kernel_rfl) ?_
    simp only [Lf, dstAt, Act.put, List.getElem?_toArray, List.getElem?_cons_zero, List.getElem?_cons_succ, Option.bind_some, List.setIfInBounds_toArray, List.set_cons_zero, List.set_cons_succ]
    rw [v6]
    clear v6
    go_wp2
    exact bodyPost_ret (results2c Try.results69 _ _ g6 _ _ _ rfl HLD.out rfl rfl) rfl ⟨A3, c3, rfl, HOF.out, HXF.out⟩
set_option maxRecDepth 100000 in
set_option maxHeartbeats 8000000 in
theorem option_none (id : Int) (PA XA : Option Addr) (pc n c : Nat) (w : World) (hle : n ≤ 9223372036854775807) :
  Calls Try.prog 69 #[.int .i64 id, .slice PA 0 pc, .slice XA n c] w (OptRet id [] false w) := by
 go_enter Try.func69, Try.ntmps69
 go_upto_region 1 with (fail)
 have hx0 : Ext w (w.alloc (.cells #[.int .i64 0, .int .i64 0, .int .i64 0, .int .i64 0, .int .i64 0, .int .i64 0, .int .i64 0, .int .i64 0, .slice none 0 0] 32)) := bl_alloc (Below.refl _ _) _
 have J6 := Blk.new w 32 #[.int .i64 0, .int .i64 0, .int .i64 0, .int .i64 0, .int .i64 0, .int .i64 0, .int .i64 0, .int .i64 0, .slice none 0 0]
 obtain ⟨g6, hg6⟩ : ∃ g, g = w.heap.size := ⟨_, rfl⟩
 have hg6w : w.heap.size ≤ g6 := by omega
 rw [← hg6] at J6 ⊢
 clear hg6
 generalize w.alloc (.cells #[.int .i64 0, .int .i64 0, .int .i64 0, .int .i64 0, .int .i64 0, .int .i64 0, .int .i64 0, .int .i64 0, .slice none 0 0] 32) = W0 at hx0 J6 ⊢
 go_upto_region 2 with (fail)
 have hx1 : Ext W0 (W0.alloc (.cells (#[.int .i64 id, .int .i64 0, .int .i64 0, .int .i64 0, .int .i64 0, .int .i64 0, .int .i64 0, .int .i64 1, .slice none 0 0]) 32)) := bl_alloc (Below.refl _ _) _
 have J8 := Blk.new W0 32 (#[.int .i64 id, .int .i64 0, .int .i64 0, .int .i64 0, .int .i64 0, .int .i64 0, .int .i64 0, .int .i64 1, .slice none 0 0])
 obtain ⟨g8, hg8⟩ : ∃ g, g = W0.heap.size := ⟨_, rfl⟩
 have hg8w : w.heap.size ≤ g8 := by have := Below.size hx0; omega
 have hg86 : g8 ≠ g6 := by have := J6.lt; omega
 have hg8W : W0.heap.size ≤ g8 := by omega
 rw [← hg8] at J8 ⊢
 clear hg8
 generalize W0.alloc (.cells (#[.int .i64 id, .int .i64 0, .int .i64 0, .int .i64 0, .int .i64 0, .int .i64 0, .int .i64 0, .int .i64 1, .slice none 0 0]) 32) = W1 at hx1 J8 ⊢
 have HJ6 := Lib.hid J6
 have hxw := Ext.trans hx0 hx1
 have HW0 := Lib.hid hx0
 have jb := J8
 have hxR := hxw
 have hxQ := hx1
 have hoR : OwnS W1 w.heap.size (.slice none 0 0) [] := World.ownsRow_nil _ _ _ _
 have d8 : W1.cell? ⟨g8, 8, none⟩ = some (.slice none 0 0) := J8.cell 8
 have d8' : W1.cell? ⟨g8, 7 + 1, none⟩ = some (.slice none 0 0) := J8.cell 8
 clear J6 J8 hx0
 go_wp2_with fail
 go_loopw [9, 10] (fun u i wr => u = .int .i64 0 ∧ i = .int .i64 0 ∧ wr = W1) (fun _ _ _ => 0)
 case atStart => exact ⟨rfl, rfl, rfl⟩
 case round =>
  obtain ⟨rfl, rfl, rfl⟩ := hrel
  by_cases hn0 : 0 < n
  ·have hn1 : (0 : Int) < (n : Int) := by omega
   go_upto_region 14 with (fail)
   have e0 : wr.cell? ⟨g8, 0, none⟩ = some (.int .i64 id) := jb.cell 0
   have e1 : wr.cell? ⟨g8, 1, none⟩ = some (.int .i64 0) := jb.cell 1
   have e2 : wr.cell? ⟨g8, 2, none⟩ = some (.int .i64 0) := jb.cell 2
   have e3 : wr.cell? ⟨g8, 3, none⟩ = some (.int .i64 0) := jb.cell 3
   have e4 : wr.cell? ⟨g8, 4, none⟩ = some (.int .i64 0) := jb.cell 4
   have e5 : wr.cell? ⟨g8, 5, none⟩ = some (.int .i64 0) := jb.cell 5
   have e6 : wr.cell? ⟨g8, 6, none⟩ = some (.int .i64 0) := jb.cell 6
   have e7 : wr.cell? ⟨g8, 7, none⟩ = some (.int .i64 1) := jb.cell 7
   have e8 : wr.cell? ⟨g8, 8, none⟩ = some (.slice none 0 0) := jb.cell 8
   have j6 := HJ6.out.ext hxQ
   obtain ⟨o1, ho1⟩ : ∃ o, o = Obj.cells (#[.int .i64 id, .int .i64 0, .int .i64 0, .int .i64 0, .int .i64 0, .int .i64 0, .int .i64 0, .int .i64 1, .slice none 0 0]) 32 (0, 0) := ⟨_, rfl⟩
   have hT := tg_tr g6 o1
   have HO1 := Lib.hid ho1
   have HJ6R := Lib.hid j6
   have HST6 : Hid (∀ W, TG g6 o1 wr W → ∃ cs, Blk W g6 32 cs ∧ cs.size = 9) := Lib.hid (fun W h => by
    rcases h.2 with h2 | h2
    ·exact ⟨_, h2.trans HJ6R.out, rfl⟩
    ·exact ⟨_, h2.trans (by rw [HO1.out]), rfl⟩)
   clear j6 ho1
   refine RB.wp_region_obl (T := _) hT 7 (fun ix vals v w1 => match ix with | 0 => v = .agg (#[.int .i64 id, .int .i64 0, .int .i64 0, .int .i64 0, .int .i64 0, .int .i64 0, .int .i64 0, .int .i64 1, .slice none 0 0]) | 1 => v = .pointer (some ⟨g8, 8, none⟩) | 2 => v = .slice none 0 0 | 3 => v = .int .i64 (0 : Nat) | 4 => v = .bool false | 5 => w1.heap[g6]? = some o1 | _ => v = .bool false) (by kernel_rfl) (by kernel_rfl) ?_ ?_ ?_ ?_
   ·intro ix vals v w1 w2 hi hr hx
    match ix, hr with
    | 0, hr => exact hr
    | 1, hr => exact hr
    | 2, hr => exact hr
    | 3, hr => exact hr
    | 4, hr => exact hr
    | 5, hr => rcases hx.2 with h | h; exact h.trans hr; exact h
    | (kx + 6), hr => exact hr
   ·intro ix vals vals_ v w1 hi hv hr
    exact hr
   ·refine ⟨?_, ?_, ?_, ?_, ?_, ?_, ?_, trivial⟩
    ·intro vals w1 hx hd ha
     clear hd ha
     simp only [Lf]
     have e0 := hx.undrew.1.cell e0 hg86; have e1 := hx.undrew.1.cell e1 hg86; have e2 := hx.undrew.1.cell e2 hg86; have e3 := hx.undrew.1.cell e3 hg86; have e4 := hx.undrew.1.cell e4 hg86; have e5 := hx.undrew.1.cell e5 hg86; have e6 := hx.undrew.1.cell e6 hg86; have e7 := hx.undrew.1.cell e7 hg86; have e8 := hx.undrew.1.cell e8 hg86
     go_wp2
     exact ⟨rfl, hT.refl _, rfl⟩
    ·intro vals w1 hx hd ha
     clear hd ha
     simp only [Lf, dstAt, Act.put, List.getElem?_toArray, List.getElem?_cons_zero, Option.bind_some, List.setIfInBounds_toArray, List.set_cons_zero, List.set_cons_succ]
     go_wp2
     exact ⟨rfl, hT.refl _, rfl⟩
    ·intro vals w1 hx hd ha
     have e1 : vals 1 = .pointer (some ⟨g8, 8, none⟩) := hd 1 (by decide)
     clear hd ha
     simp only [Lf, dstAt, Act.put, List.getElem?_toArray, List.getElem?_cons_zero, List.getElem?_cons_succ, Option.bind_some, List.setIfInBounds_toArray, List.set_cons_zero, List.set_cons_succ]
     simp only [e1]
     clear e1
     have e8 := hx.undrew.1.cell e8 hg86
     go_wp2
     exact ⟨rfl, hT.refl _, rfl⟩
    ·intro vals w1 hx hd ha
     have e2 : vals 2 = .slice none 0 0 := hd 2 (by decide)
     clear hd ha
     simp only [Lf, dstAt, Act.put, List.getElem?_toArray, List.getElem?_cons_zero, List.getElem?_cons_succ, Option.bind_some, List.setIfInBounds_toArray, List.set_cons_zero, List.set_cons_succ]
     simp only [e2]
     clear e2
     go_wp2
     exact ⟨rfl, hT.refl _, rfl⟩
    ·intro vals w1 hx hd ha
     have e3 : vals 3 = .int .i64 (0 : Nat) := hd 3 (by decide)
     clear hd ha
     simp only [Lf, dstAt, Act.put, List.getElem?_toArray, List.getElem?_cons_zero, List.getElem?_cons_succ, Option.bind_some, List.setIfInBounds_toArray, List.set_cons_zero, List.set_cons_succ]
     simp only [e3]
     clear e3
     have hn9 : decide ((0 : Int) < ((0 : Nat) : Int)) = false := by first | (simp; omega) | simp
     go_wp2
     exact ⟨rfl, hT.refl _, rfl⟩
    ·intro vals w1 hx hd ha
     have e0 : vals 0 = .agg (#[.int .i64 id, .int .i64 0, .int .i64 0, .int .i64 0, .int .i64 0, .int .i64 0, .int .i64 0, .int .i64 1, .slice none 0 0]) := hd 0 (by decide)
     clear hd ha
     simp only [Lf, dstAt, Act.put, List.getElem?_toArray, List.getElem?_cons_zero, List.getElem?_cons_succ, Option.bind_some, List.setIfInBounds_toArray, List.set_cons_zero, List.set_cons_succ]
     simp only [e0]
     clear e0
     obtain ⟨cs6, hj6, hs6⟩ := HST6.out w1 hx.undrew
     have HJJ := Lib.hid hj6
     have HSS := Lib.hid hs6
     clear hj6 hs6
     refine wpList_store_row rfl _ _ _ rfl g6 (#[.int .i64 id, .int .i64 0, .int .i64 0, .int .i64 0, .int .i64 0, .int .i64 0, .int .i64 0, .int .i64 1, .slice none 0 0]) rfl rfl 32 cs6 HJJ.out opt_size HSS.out (by simp [Value.oneCell']) ?_
     have hh := HJJ.out.row (#[.int .i64 id, .int .i64 0, .int .i64 0, .int .i64 0, .int .i64 0, .int .i64 0, .int .i64 0, .int .i64 1, .slice none 0 0])
     have hh2 : (w1.setRow g6 (#[.int .i64 id, .int .i64 0, .int .i64 0, .int .i64 0, .int .i64 0, .int .i64 0, .int .i64 0, .int .i64 1, .slice none 0 0])).heap[g6]? = some o1 := by rw [HO1.out]; exact hh
     go_wp2
     exact ⟨rfl, ⟨(One.refl g6 w1).row _, .inr hh2⟩, hh2⟩
    ·intro vals w1 hx hd ha
     have e0 : vals 0 = .agg (#[.int .i64 id, .int .i64 0, .int .i64 0, .int .i64 0, .int .i64 0, .int .i64 0, .int .i64 0, .int .i64 1, .slice none 0 0]) := hd 0 (by decide)
     have e1 : vals 1 = .pointer (some ⟨g8, 8, none⟩) := hd 1 (by decide)
     have e2 : vals 2 = .slice none 0 0 := hd 2 (by decide)
     have e3 : vals 3 = .int .i64 (0 : Nat) := hd 3 (by decide)
     have e4 : vals 4 = .bool false := hd 4 (by decide)
     have r5 : (fun v w1 => w1.heap[g6]? = some o1) (vals 5) w1 := hd 5 (by decide)
     dsimp only at r5
     clear hd ha
     simp only [Lf, dstAt, Act.put, List.getElem?_toArray, List.getElem?_cons_zero, List.getElem?_cons_succ, Option.bind_some, List.setIfInBounds_toArray, List.set_cons_zero, List.set_cons_succ]
     simp only [e0, e1, e2, e3, e4]
     clear e0 e1 e2 e3 e4
     go_wp2
     exact ⟨rfl, hT.refl _, rfl⟩
   intro vals W9 hy hf
   have v6 : vals 6 = .bool false := hf 6 (by omega)
   have h6 : W9.heap[g6]? = some o1 := hf 5 (by omega)
   have hy := hy.undrew
   have J6 : Blk W9 g6 32 (#[.int .i64 id, .int .i64 0, .int .i64 0, .int .i64 0, .int .i64 0, .int .i64 0, .int .i64 0, .int .i64 1, .slice none 0 0]) := by rw [HO1.out] at h6; exact h6
   have HLD := Lib.hid (load_opt J6 rfl)
   have HXF := Lib.hid (hy.1.ext hxR hg6w)
   have HOF := Lib.hid (hy.1.own hoR HJ6R.out (by decide))
   clear hf hy h6 J6 e0 e1 e2 e3 e4 e5 e6 e7 e8 hT hxR hoR jb
   refine tail0 (by kernel_rfl) ?_
   simp only [Lf, dstAt, Act.put, List.getElem?_toArray, List.getElem?_cons_zero, List.getElem?_cons_succ, Option.bind_some, List.setIfInBounds_toArray, List.set_cons_zero, List.set_cons_succ]
   rw [v6]
   clear v6
   go_wp2
   exact bodyPost_ret (results2c Try.results69 _ _ g6 _ _ _ rfl HLD.out rfl rfl) rfl ⟨none, 0, rfl, HOF.out, HXF.out⟩
  ·obtain rfl : n = 0 := by omega
   go_upto_region 14 with (fail)
   have e0 : wr.cell? ⟨g8, 0, none⟩ = some (.int .i64 id) := jb.cell 0
   have e1 : wr.cell? ⟨g8, 1, none⟩ = some (.int .i64 0) := jb.cell 1
   have e2 : wr.cell? ⟨g8, 2, none⟩ = some (.int .i64 0) := jb.cell 2
   have e3 : wr.cell? ⟨g8, 3, none⟩ = some (.int .i64 0) := jb.cell 3
   have e4 : wr.cell? ⟨g8, 4, none⟩ = some (.int .i64 0) := jb.cell 4
   have e5 : wr.cell? ⟨g8, 5, none⟩ = some (.int .i64 0) := jb.cell 5
   have e6 : wr.cell? ⟨g8, 6, none⟩ = some (.int .i64 0) := jb.cell 6
   have e7 : wr.cell? ⟨g8, 7, none⟩ = some (.int .i64 1) := jb.cell 7
   have e8 : wr.cell? ⟨g8, 8, none⟩ = some (.slice none 0 0) := jb.cell 8
   have j6 := HJ6.out.ext hxQ
   obtain ⟨o1, ho1⟩ : ∃ o, o = Obj.cells (#[.int .i64 id, .int .i64 0, .int .i64 0, .int .i64 0, .int .i64 0, .int .i64 0, .int .i64 0, .int .i64 1, .slice none 0 0]) 32 (0, 0) := ⟨_, rfl⟩
   have hT := tg_tr g6 o1
   have HO1 := Lib.hid ho1
   have HJ6R := Lib.hid j6
   have HST6 : Hid (∀ W, TG g6 o1 wr W → ∃ cs, Blk W g6 32 cs ∧ cs.size = 9) := Lib.hid (fun W h => by
    rcases h.2 with h2 | h2
    ·exact ⟨_, h2.trans HJ6R.out, rfl⟩
    ·exact ⟨_, h2.trans (by rw [HO1.out]), rfl⟩)
   clear j6 ho1
   refine RB.wp_region_obl (T := _) hT 7 (fun ix vals v w1 => match ix with | 0 => v = .agg (#[.int .i64 id, .int .i64 0, .int .i64 0, .int .i64 0, .int .i64 0, .int .i64 0, .int .i64 0, .int .i64 1, .slice none 0 0]) | 1 => v = .pointer (some ⟨g8, 8, none⟩) | 2 => v = .slice none 0 0 | 3 => v = .int .i64 (0 : Nat) | 4 => v = .bool false | 5 => w1.heap[g6]? = some o1 | _ => v = .bool false) (by kernel_rfl) (by kernel_rfl) ?_ ?_ ?_ ?_
   ·intro ix vals v w1 w2 hi hr hx
    match ix, hr with
    | 0, hr => exact hr
    | 1, hr => exact hr
    | 2, hr => exact hr
    | 3, hr => exact hr
    | 4, hr => exact hr
    | 5, hr => rcases hx.2 with h | h; exact h.trans hr; exact h
    | (kx + 6), hr => exact hr
   ·intro ix vals vals_ v w1 hi hv hr
    exact hr
   ·refine ⟨?_, ?_, ?_, ?_, ?_, ?_, ?_, trivial⟩
    ·intro vals w1 hx hd ha
     clear hd ha
     simp only [Lf]
     have e0 := hx.undrew.1.cell e0 hg86; have e1 := hx.undrew.1.cell e1 hg86; have e2 := hx.undrew.1.cell e2 hg86; have e3 := hx.undrew.1.cell e3 hg86; have e4 := hx.undrew.1.cell e4 hg86; have e5 := hx.undrew.1.cell e5 hg86; have e6 := hx.undrew.1.cell e6 hg86; have e7 := hx.undrew.1.cell e7 hg86; have e8 := hx.undrew.1.cell e8 hg86
     go_wp2
     exact ⟨rfl, hT.refl _, rfl⟩
    ·intro vals w1 hx hd ha
     clear hd ha
     simp only [Lf, dstAt, Act.put, List.getElem?_toArray, List.getElem?_cons_zero, Option.bind_some, List.setIfInBounds_toArray, List.set_cons_zero, List.set_cons_succ]
     go_wp2
     exact ⟨rfl, hT.refl _, rfl⟩
    ·intro vals w1 hx hd ha
     have e1 : vals 1 = .pointer (some ⟨g8, 8, none⟩) := hd 1 (by decide)
     clear hd ha
     simp only [Lf, dstAt, Act.put, List.getElem?_toArray, List.getElem?_cons_zero, List.getElem?_cons_succ, Option.bind_some, List.setIfInBounds_toArray, List.set_cons_zero, List.set_cons_succ]
     simp only [e1]
     clear e1
     have e8 := hx.undrew.1.cell e8 hg86
     go_wp2
     exact ⟨rfl, hT.refl _, rfl⟩
    ·intro vals w1 hx hd ha
     have e2 : vals 2 = .slice none 0 0 := hd 2 (by decide)
     clear hd ha
     simp only [Lf, dstAt, Act.put, List.getElem?_toArray, List.getElem?_cons_zero, List.getElem?_cons_succ, Option.bind_some, List.setIfInBounds_toArray, List.set_cons_zero, List.set_cons_succ]
     simp only [e2]
     clear e2
     go_wp2
     exact ⟨rfl, hT.refl _, rfl⟩
    ·intro vals w1 hx hd ha
     have e3 : vals 3 = .int .i64 (0 : Nat) := hd 3 (by decide)
     clear hd ha
     simp only [Lf, dstAt, Act.put, List.getElem?_toArray, List.getElem?_cons_zero, List.getElem?_cons_succ, Option.bind_some, List.setIfInBounds_toArray, List.set_cons_zero, List.set_cons_succ]
     simp only [e3]
     clear e3
     have hn9 : decide ((0 : Int) < ((0 : Nat) : Int)) = false := by first | (simp; omega) | simp
     go_wp2
     exact ⟨rfl, hT.refl _, rfl⟩
    ·intro vals w1 hx hd ha
     have e0 : vals 0 = .agg (#[.int .i64 id, .int .i64 0, .int .i64 0, .int .i64 0, .int .i64 0, .int .i64 0, .int .i64 0, .int .i64 1, .slice none 0 0]) := hd 0 (by decide)
     clear hd ha
     simp only [Lf, dstAt, Act.put, List.getElem?_toArray, List.getElem?_cons_zero, List.getElem?_cons_succ, Option.bind_some, List.setIfInBounds_toArray, List.set_cons_zero, List.set_cons_succ]
     simp only [e0]
     clear e0
     obtain ⟨cs6, hj6, hs6⟩ := HST6.out w1 hx.undrew
     have HJJ := Lib.hid hj6
     have HSS := Lib.hid hs6
     clear hj6 hs6
     refine wpList_store_row rfl _ _ _ rfl g6 (#[.int .i64 id, .int .i64 0, .int .i64 0, .int .i64 0, .int .i64 0, .int .i64 0, .int .i64 0, .int .i64 1, .slice none 0 0]) rfl rfl 32 cs6 HJJ.out opt_size HSS.out (by simp [Value.oneCell']) ?_
     have hh := HJJ.out.row (#[.int .i64 id, .int .i64 0, .int .i64 0, .int .i64 0, .int .i64 0, .int .i64 0, .int .i64 0, .int .i64 1, .slice none 0 0])
     have hh2 : (w1.setRow g6 (#[.int .i64 id, .int .i64 0, .int .i64 0, .int .i64 0, .int .i64 0, .int .i64 0, .int .i64 0, .int .i64 1, .slice none 0 0])).heap[g6]? = some o1 := by rw [HO1.out]; exact hh
     go_wp2
     exact ⟨rfl, ⟨(One.refl g6 w1).row _, .inr hh2⟩, hh2⟩
    ·intro vals w1 hx hd ha
     have e0 : vals 0 = .agg (#[.int .i64 id, .int .i64 0, .int .i64 0, .int .i64 0, .int .i64 0, .int .i64 0, .int .i64 0, .int .i64 1, .slice none 0 0]) := hd 0 (by decide)
     have e1 : vals 1 = .pointer (some ⟨g8, 8, none⟩) := hd 1 (by decide)
     have e2 : vals 2 = .slice none 0 0 := hd 2 (by decide)
     have e3 : vals 3 = .int .i64 (0 : Nat) := hd 3 (by decide)
     have e4 : vals 4 = .bool false := hd 4 (by decide)
     have r5 : (fun v w1 => w1.heap[g6]? = some o1) (vals 5) w1 := hd 5 (by decide)
     dsimp only at r5
     clear hd ha
     simp only [Lf, dstAt, Act.put, List.getElem?_toArray, List.getElem?_cons_zero, List.getElem?_cons_succ, Option.bind_some, List.setIfInBounds_toArray, List.set_cons_zero, List.set_cons_succ]
     simp only [e0, e1, e2, e3, e4]
     clear e0 e1 e2 e3 e4
     go_wp2
     exact ⟨rfl, hT.refl _, rfl⟩
   intro vals W9 hy hf
   have v6 : vals 6 = .bool false := hf 6 (by omega)
   have h6 : W9.heap[g6]? = some o1 := hf 5 (by omega)
   have hy := hy.undrew
   have J6 : Blk W9 g6 32 (#[.int .i64 id, .int .i64 0, .int .i64 0, .int .i64 0, .int .i64 0, .int .i64 0, .int .i64 0, .int .i64 1, .slice none 0 0]) := by rw [HO1.out] at h6; exact h6
   have HLD := Lib.hid (load_opt J6 rfl)
   have HXF := Lib.hid (hy.1.ext hxR hg6w)
   have HOF := Lib.hid (hy.1.own hoR HJ6R.out (by decide))
   clear hf hy h6 J6 e0 e1 e2 e3 e4 e5 e6 e7 e8 hT hxR hoR jb
   refine tail0 (by kernel_rfl) ?_
   simp only [Lf, dstAt, Act.put, List.getElem?_toArray, List.getElem?_cons_zero, List.getElem?_cons_succ, Option.bind_some, List.setIfInBounds_toArray, List.set_cons_zero, List.set_cons_succ]
   rw [v6]
   clear v6
   go_wp2
   exact bodyPost_ret (results2c Try.results69 _ _ g6 _ _ _ rfl HLD.out rfl rfl) rfl ⟨none, 0, rfl, HOF.out, HXF.out⟩
end Go.Proofs.Ytmlabgmigakcbaa
