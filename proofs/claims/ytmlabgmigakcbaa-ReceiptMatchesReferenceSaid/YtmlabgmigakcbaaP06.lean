/- Fates, plainly. -/
import Derived.Test.YtmlabgmigakcbaaP05
namespace Go.Proofs.Ytmlabgmigakcbaa
open Go.RowKit
def fitB (ps : List Pas) (f : Int → Option Int) (now : Int) (r : Rcp) (s : Slt) : Bool := match ps[s.p.toNat]? with
 | none => false
 | some p => decide (s.tt ≤ now) && decide (r.sn = p.station) && decide (s.tt - (f p.station).getD 0 ≤ r.at_) && decide (r.at_ ≤ s.tt + (f p.station).getD 0)
def fitsA (q : Slt → Bool) : Nat → Nat → List Slt → Nat
 | acc, _, [] => acc
 | acc, i, s :: r => fitsA q (if q s then acc ||| 2 ^ i else acc) (i + 1) r
theorem fitsA_cons (q : Slt → Bool) (acc i : Nat) (s : Slt) (r : List Slt) : fitsA q acc i (s :: r) = fitsA q (if q s then acc ||| 2 ^ i else acc) (i + 1) r := by rw [fitsA]
def fitsP (ps : List Pas) (f : Int → Option Int) (now : Int) (id : Int) (l : List Slt) (r : Rcp) : Nat := if r.im = id then fitsA (fitB ps f now r) 0 0 l else 0
structure SlOK (ps : List Pas) (l : List Slt) : Prop where
 len : l.length ≤ 6
 pass : ∀ s ∈ l, 0 ≤ s.p ∧ s.p < ps.length
 bd : ∀ s ∈ l, 0 ≤ s.tt ∧ s.tt ≤ 1000001
structure SkOK (f : Int → Option Int) : Prop where
 bd : ∀ k, 0 ≤ (f k).getD 0 ∧ (f k).getD 0 ≤ 30
theorem or_lt (a k : Nat) (ha : a < 64) (hk : k < 6) : a ||| 2 ^ k < 64 := by
 have h : 2 ^ k < 2 ^ 6 := Nat.pow_lt_pow_right (by decide) hk
 exact Nat.or_lt_two_pow (n := 6) ha h
theorem fitsA_lt (q : Slt → Bool) : ∀ l acc i, acc < 64 → i + l.length ≤ 6 → fitsA q acc i l < 64
 | [], acc, _, h, _ => by rw [fitsA]; exact h
 | s :: r, acc, i, h, hl => by
  rw [fitsA_cons]
  simp only [List.length_cons] at hl
  refine fitsA_lt q r _ _ ?_ (by omega)
  split
  ·exact or_lt acc i h (by omega)
  ·exact h
theorem fitsP_lt {ps : List Pas} {f : Int → Option Int} {now id : Int} {l : List Slt} {r : Rcp} (h : SlOK ps l) : fitsP ps f now id l r < 64 := by
 unfold fitsP
 split
 ·exact fitsA_lt _ l 0 0 (by omega) (by have := h.len; omega)
 ·omega
theorem al2 (w W : World) (t0 t1 : TypeId) (c0 c1 : Array Value) (hW : W = (w.alloc (.cells c0 t0)).alloc (.cells c1 t1)) : Blk W w.heap.size t0 c0 ∧ Blk W (w.heap.size + 1) t1 c1 ∧ Ext w W := by
 subst hW
 have x0 : Ext w (w.alloc (.cells c0 t0)) := bl_alloc (Below.refl _ _) _
 have b0 := Blk.new w t0 c0
 have s0 : (w.alloc (.cells c0 t0)).heap.size = w.heap.size + 1 := by simp
 generalize w.alloc (.cells c0 t0) = w0 at x0 b0 s0 ⊢
 have x1 : Ext w0 (w0.alloc (.cells c1 t1)) := bl_alloc (Below.refl _ _) _
 have b1 := Blk.new w0 t1 c1
 rw [s0] at b1
 exact ⟨b0.ext x1, b1, Ext.trans x0 x1⟩
theorem al3 (w W : World) (t0 t1 t2 : TypeId) (c0 c1 c2 : Array Value) (hW : W = ((w.alloc (.cells c0 t0)).alloc (.cells c1 t1)).alloc (.cells c2 t2)) : Blk W w.heap.size t0 c0 ∧ Blk W (w.heap.size + 1) t1 c1 ∧ Blk W (w.heap.size + 1 + 1) t2 c2 ∧ Ext w W := by
 obtain ⟨h0, h1, hx⟩ := al2 w _ t0 t1 c0 c1 rfl
 have hs : ((w.alloc (.cells c0 t0)).alloc (.cells c1 t1)).heap.size = w.heap.size + 1 + 1 := by simp
 subst hW
 generalize (w.alloc (.cells c0 t0)).alloc (.cells c1 t1) = w1 at h0 h1 hx hs ⊢
 have x1 : Ext w1 (w1.alloc (.cells c2 t2)) := bl_alloc (Below.refl _ _) _
 have b1 := Blk.new w1 t2 c2
 rw [hs] at b1
 exact ⟨h0.ext x1, h1.ext x1, b1, Ext.trans hx x1⟩
set_option maxRecDepth 100000 in
set_option maxHeartbeats 4000000 in
theorem fits_any (o : Opt) (ps : List Pas) (f : Int → Option Int) (now : Int) (r : Rcp) (PA : Option Addr) (pn pc gm : Nat) (w : World) (ho : RA sltCells 3 w w.heap.size o.a o.n o.c o.l) (hp : RA pasCells 6 w w.heap.size PA pn pc ps) (hm : MapI w gm (iM f)) (hs : SlOK ps o.l) (hf : SkOK f) :
  Calls Try.prog 50 #[.agg #[.slice PA pn pc, .map (some gm), .int .i64 now], .agg (optCells o).toArray, .agg (rcpCells r).toArray] w fun e w' => e = .returned (.int .u64 (fitsP ps f now o.id o.l r : Nat)) ∧ Ext w w' := by
 obtain ⟨id, i1, i2, i3, i4, i5, i6, i7, a, n, c, l⟩ := o
 obtain ⟨rsn, rim, rat⟩ := r
 dsimp only at ho hs ⊢
 show Calls Try.prog 50 #[.agg #[.slice PA pn pc, .map (some gm), .int .i64 now], .agg #[.int .i64 id, .int .i64 i1, .int .i64 i2, .int .i64 i3, .int .i64 i4, .int .i64 i5, .int .i64 i6, .int .i64 i7, .slice a n c], .agg #[.int .i64 rsn, .int .i64 rim, .int .i64 rat]] w _
 have hn6 : n ≤ 6 := by have := hs.len; have := ho.len; omega
 have HO := Lib.hid ho
 have HP := Lib.hid hp
 have HM := Lib.hid hm
 have HL := Lib.hid ho.len
 have HPL := Lib.hid hp.len
 have HS := Lib.hid hs
 have HF := Lib.hid hf
 obtain ⟨vr, hvr⟩ : ∃ v, v = fitsP ps f now id l ⟨rsn, rim, rat⟩ := ⟨_, rfl⟩
 rw [← hvr]
 have hpx : fitsP ps f now id l ⟨rsn, rim, rat⟩ = if rim = id then fitsA (fitB ps f now ⟨rsn, rim, rat⟩) 0 0 l else 0 := rfl
 rw [hpx] at hvr
 have HV := Lib.hid hvr
 clear ho hp hm hs hf hvr hpx
 go_enter Try.func50, Try.ntmps50
 go_upto_region 1 with (fail)
 obtain ⟨W1, hW1⟩ : ∃ W, W = ((w.alloc (.cells #[.slice PA pn pc, .map (some gm), .int .i64 now] 104)).alloc (.cells #[.int .i64 id, .int .i64 i1, .int .i64 i2, .int .i64 i3, .int .i64 i4, .int .i64 i5, .int .i64 i6, .int .i64 i7, .slice a n c] 32)).alloc (.cells #[.int .i64 rsn, .int .i64 rim, .int .i64 rat] 63) := ⟨_, rfl⟩
 rw [← hW1]
 obtain ⟨J0, J1, J2, hx1⟩ := al3 w W1 _ _ _ _ _ _ hW1
 clear hW1
 generalize w.heap.size + 1 + 1 = g5 at J2 ⊢
 generalize w.heap.size + 1 = g4 at J1 ⊢
 obtain ⟨g3, hg3⟩ : ∃ g, g = w.heap.size := ⟨_, rfl⟩
 rw [← hg3] at J0 ⊢
 clear hg3
 have d1 : W1.cell? ⟨g5, 1, none⟩ = some (.int .i64 rim) := J2.cell 1
 have e0 : W1.cell? ⟨g4, 0, none⟩ = some (.int .i64 id) := J1.cell 0
 have e8 : W1.cell? ⟨g4, 8, none⟩ = some (.slice a n c) := J1.cell 8
 have HJ0 := Lib.hid J0
 have HJ1 := Lib.hid J1
 have HJ2 := Lib.hid J2
 clear J0 J1 J2
 by_cases him : rim = id
 ·have hv := HV.out
  rw [if_pos him] at hv
  have HV0 : Hid (vr = fitsA (fitB ps f now ⟨rsn, rim, rat⟩) 0 0 (l.drop 0)) := Lib.hid hv
  have him1 : (rim == id) = true := by simpa using him
  have him2 : (rim != id) = false := by simpa using him
  clear hv HV
  go_wp2_with fail
  go_loopw [6, 20] (fun y z wr => ∃ (k acc : Nat), k ≤ n ∧ z = .int .i64 k ∧ y = .int .u64 acc ∧ acc < 64 ∧ Hid (vr = fitsA (fitB ps f now ⟨rsn, rim, rat⟩) acc k (l.drop k)) ∧ Ext W1 wr) (fun _ z _ => n - (intOf z).toNat)
  case atStart => exact ⟨0, 0, Nat.zero_le _, rfl, rfl, by omega, HV0, Ext.refl _⟩
  case round =>
   clear HV0 d1 e0 e8
   obtain ⟨k, acc, hk, rfl, rfl, hacc, HV, hy⟩ := hrel
   have hx := Ext.trans hx1 hy
   by_cases hkn : k < n
   ·obtain ⟨b, o, hz, hA, _, hc⟩ := (HO.out.below hx).at_ slt_len hkn
    have hst := HV.out
    rw [List.drop_eq_getElem_cons hz, fitsA_cons] at hst
    have hsp := HS.out.pass l[k] (List.getElem_mem hz)
    have hsb := HS.out.bd l[k] (List.getElem_mem hz)
    generalize l[k] = s at hst hc hsp hsb
    obtain ⟨sp, sf, st⟩ := s
    dsimp only at hsp hsb
    have c0 : wr.cell? ⟨b, o + k * 3, none⟩ = some (.int .i64 sp) := hc 0 (by omega)
    have c1 : wr.cell? ⟨b, o + k * 3 + 1, none⟩ = some (.int .i64 sf) := hc 1 (by omega)
    have c2 : wr.cell? ⟨b, o + k * 3 + 2, none⟩ = some (.int .i64 st) := hc 2 (by omega)
    obtain ⟨m, rfl, hm⟩ : ∃ m : Nat, sp = m ∧ m < pn := ⟨sp.toNat, by omega, by rw [HPL.out] at hsp; omega⟩
    subst hA
    have HST := Lib.hid hst
    clear hst hc hz HV hsp
    go_upto_region 6 with (fail)
    have hya : Ext wr (wr.alloc (.cells #[.int .i64 (m : Int), .int .i64 sf, .int .i64 st] 78)) := bl_alloc (Below.refl _ _) _
    have J := Blk.new wr 78 #[.int .i64 (m : Int), .int .i64 sf, .int .i64 st]
    obtain ⟨g8, hg8⟩ : ∃ g, g = wr.heap.size := ⟨_, rfl⟩
    rw [← hg8] at J ⊢
    clear hg8
    generalize wr.alloc (.cells #[.int .i64 (m : Int), .int .i64 sf, .int .i64 st] 78) = W4 at hya J ⊢
    have hy := Ext.trans hy hya
    have hx := Ext.trans hx1 hy
    obtain ⟨bp, op, hzp, hPA, _, hcp⟩ := (HP.out.below hx).at_ pas_len hm
    have hfb : fitB ps f now ⟨rsn, rim, rat⟩ ⟨(m : Int), sf, st⟩ = (decide (st ≤ now) && decide (rsn = ps[m].station) && decide (st - (f ps[m].station).getD 0 ≤ rat) && decide (rat ≤ st + (f ps[m].station).getD 0)) := by
     unfold fitB
     dsimp only
     rw [Int.toNat_natCast, List.getElem?_eq_getElem hzp]
    have hst := HST.out
    rw [hfb] at hst
    generalize ps[m] = pp at hst hcp
    obtain ⟨psa, psn, ⟨pa, pb⟩, ⟨pc1, pd⟩⟩ := pp
    dsimp only at hst
    have h1p : W4.cell? ⟨bp, op + m * 6 + 1, none⟩ = some (.int .i64 psn) := hcp 1 (by omega)
    have hlk : ∀ W, Ext W4 W → (Instr.lookup 95 (.map (some gm)) (.int .i64 psn) false).run Try.prog W = .ok (.int .i64 ((f psn).getD 0)) W := fun W hW => by
     have h := ((HM.out.ext hx).ext hW).look Try.underlying95 Try.underlying3 (zero_int W) psn
     rw [iM_get] at h
     exact h
    have hsk := HF.out.bd psn
    generalize (f psn).getD 0 = sk at hst hlk hsk
    obtain ⟨hsk0, hsk1⟩ := hsk
    obtain ⟨hsb0, hsb1⟩ := hsb
    have hw1 : IntKind.i64.wrap (st - sk) = st - sk := IntWalk.i64_in _ (by omega)
    have hw2 : IntKind.i64.wrap (st + sk) = st + sk := IntWalk.i64_in _ (by omega)
    have hmp : (m : Int) < (pn : Int) := by omega
    have hJ0 := HJ0.out.ext hy
    have hJ2 := HJ2.out.ext hy
    have t0 : W4.cell? ⟨g3, 0, none⟩ = some (.slice PA pn pc) := hJ0.cell 0
    have t1 : W4.cell? ⟨g3, 1, none⟩ = some (.map (some gm)) := hJ0.cell 1
    have t2 : W4.cell? ⟨g3, 2, none⟩ = some (.int .i64 now) := hJ0.cell 2
    have r0 : W4.cell? ⟨g5, 0, none⟩ = some (.int .i64 rsn) := hJ2.cell 0
    have r2 : W4.cell? ⟨g5, 2, none⟩ = some (.int .i64 rat) := hJ2.cell 2
    have s0 : W4.cell? ⟨g8, 0, none⟩ = some (.int .i64 (m : Int)) := J.cell 0
    have s2 : W4.cell? ⟨g8, 2, none⟩ = some (.int .i64 st) := J.cell 2
    have HST2 := Lib.hid hst
    have HLK := Lib.hid hlk
    rw [hPA] at t0
    clear hst hcp hzp HST hfb c0 c1 c2 hya hJ0 hJ2 J hx hlk
    go_upto_region 7 with (fail)
    clear h1p t0 s0 r0 r2
    refine wp_region_obl 18 (fun ix vals v w1 => match ix with | 0 => v = .pointer (some ⟨g8, 1, none⟩) | 1 => v = .pointer (some ⟨g8, 2, none⟩) | 2 => v = .int .i64 st | 3 => v = .pointer (some ⟨g3, 1, none⟩) | 4 => v = .map (some gm) | 5 => v = .int .i64 psn | 6 => v = .int .i64 sk | 7 => v = .int .i64 (st - sk) | 8 => v = .pointer (some ⟨g8, 1, none⟩) | 9 => v = .pointer (some ⟨g8, 2, none⟩) | 10 => v = .int .i64 st | 11 => v = .pointer (some ⟨g3, 1, none⟩) | 12 => v = .map (some gm) | 13 => v = .int .i64 psn | 14 => v = .int .i64 sk | 15 => v = .int .i64 (st + sk) | 16 => v = .int .i64 (st - sk) | _ => v = .int .i64 (st + sk)) (by kernel_rfl) (by kernel_rfl) ?_ ?_ ?_ ?_
    ·intro ix vals v w1 w2 hi hr hx
     match ix, hr with
     | 0, hr => exact hr
     | 1, hr => exact hr
     | 2, hr => exact hr
     | 3, hr => exact hr
     | 4, hr => exact hr
     | 5, hr => exact hr
     | 6, hr => exact hr
     | 7, hr => exact hr
     | 8, hr => exact hr
     | 9, hr => exact hr
     | 10, hr => exact hr
     | 11, hr => exact hr
     | 12, hr => exact hr
     | 13, hr => exact hr
     | 14, hr => exact hr
     | 15, hr => exact hr
     | 16, hr => exact hr
     | (kx + 17), hr => exact hr
    ·intro ix vals vals_ v w1 hi hv hr
     exact hr
    ·refine obls_ofT [some 32, some 33, some 34, some 35, some 36, some 37, some 38, some 39, some 40, some 41, some 42, some 43, some 44, some 45, some 46, some 47, some 10, some 11] [(8, .pointer (some ⟨g8, 0, none⟩)), (3, .pointer (some ⟨g3, 0, none⟩)), (9, .int .i64 psn)] 78 (by kernel_rfl) (by kernel_rfl) ⟨by kernel_rfl, by kernel_rfl, by kernel_rfl, trivial⟩ ?_
     refine ⟨?_, ?_, ?_, ?_, ?_, ?_, ?_, ?_, ?_, ?_, ?_, ?_, ?_, ?_, ?_, ?_, ?_, ?_, trivial⟩
     ·intro vals w1 hx hd
      refine .r [(8, .pointer (some ⟨g8, 0, none⟩))] (Op.fieldAddr 78 (Operand.const (.pointer (some ⟨g8, 0, none⟩))) 1) 0 32 ⟨.out (by kernel_rfl) (by kernel_rfl), trivial⟩ ?_
      clear hd
      go_wp2
      exact ⟨rfl, Ext.refl _, rfl⟩
     ·intro vals w1 hx hd
      refine .r [(32, .pointer (some ⟨g8, 1, none⟩))] (Op.fieldAddr 29 (Operand.const (.pointer (some ⟨g8, 1, none⟩))) 1) 0 33 ⟨.inn 0 (by kernel_rfl) (hd 0 (by decide)), trivial⟩ ?_
      clear hd
      go_wp2
      exact ⟨rfl, Ext.refl _, rfl⟩
     ·intro vals w1 hx hd
      refine .r [(33, .pointer (some ⟨g8, 2, none⟩))] (Op.load 3 (Operand.const (.pointer (some ⟨g8, 2, none⟩)))) 3 34 ⟨.inn 1 (by kernel_rfl) (hd 1 (by decide)), trivial⟩ ?_
      clear hd
      have s2 := ext_cell hx s2
      go_wp2
      exact ⟨rfl, Ext.refl _, rfl⟩
     ·intro vals w1 hx hd
      refine .r [(3, .pointer (some ⟨g3, 0, none⟩))] (Op.fieldAddr 104 (Operand.const (.pointer (some ⟨g3, 0, none⟩))) 1) 0 35 ⟨.out (by kernel_rfl) (by kernel_rfl), trivial⟩ ?_
      clear hd
      go_wp2
      exact ⟨rfl, Ext.refl _, rfl⟩
     ·intro vals w1 hx hd
      refine .r [(35, .pointer (some ⟨g3, 1, none⟩))] (Op.load 95 (Operand.const (.pointer (some ⟨g3, 1, none⟩)))) 95 36 ⟨.inn 3 (by kernel_rfl) (hd 3 (by decide)), trivial⟩ ?_
      clear hd
      have t1 := ext_cell hx t1
      go_wp2
      exact ⟨rfl, Ext.refl _, rfl⟩
     ·intro vals w1 hx hd
      refine .r [(9, .int .i64 psn)] (Op.move (Operand.const (.int .i64 psn))) 3 37 ⟨.out (by kernel_rfl) (by kernel_rfl), trivial⟩ ?_
      clear hd
      go_wp2
      exact ⟨rfl, Ext.refl _, rfl⟩
     ·intro vals w1 hx hd
      refine .r [(36, .map (some gm)), (37, .int .i64 psn)] (Op.lookup 95 (Operand.const (.map (some gm))) (Operand.const (.int .i64 psn)) false) 3 38 ⟨.inn 4 (by kernel_rfl) (hd 4 (by decide)), .inn 5 (by kernel_rfl) (hd 5 (by decide)), trivial⟩ ?_
      clear hd
      have hlk := HLK.out _ hx.undrew
      go_wp2
      exact ⟨rfl, Ext.refl _, rfl⟩
     ·intro vals w1 hx hd
      refine .r [(34, .int .i64 st), (38, .int .i64 sk)] (Op.binOp BinOp.sub 3 (Operand.const (.int .i64 st)) (Operand.const (.int .i64 sk)) 3) 3 39 ⟨.inn 2 (by kernel_rfl) (hd 2 (by decide)), .inn 6 (by kernel_rfl) (hd 6 (by decide)), trivial⟩ ?_
      clear hd
      go_wp2
      exact ⟨rfl, Ext.refl _, rfl⟩
     ·intro vals w1 hx hd
      refine .r [(8, .pointer (some ⟨g8, 0, none⟩))] (Op.fieldAddr 78 (Operand.const (.pointer (some ⟨g8, 0, none⟩))) 1) 0 40 ⟨.out (by kernel_rfl) (by kernel_rfl), trivial⟩ ?_
      clear hd
      go_wp2
      exact ⟨rfl, Ext.refl _, rfl⟩
     ·intro vals w1 hx hd
      refine .r [(40, .pointer (some ⟨g8, 1, none⟩))] (Op.fieldAddr 29 (Operand.const (.pointer (some ⟨g8, 1, none⟩))) 1) 0 41 ⟨.inn 8 (by kernel_rfl) (hd 8 (by decide)), trivial⟩ ?_
      clear hd
      go_wp2
      exact ⟨rfl, Ext.refl _, rfl⟩
     ·intro vals w1 hx hd
      refine .r [(41, .pointer (some ⟨g8, 2, none⟩))] (Op.load 3 (Operand.const (.pointer (some ⟨g8, 2, none⟩)))) 3 42 ⟨.inn 9 (by kernel_rfl) (hd 9 (by decide)), trivial⟩ ?_
      clear hd
      have s2 := ext_cell hx s2
      go_wp2
      exact ⟨rfl, Ext.refl _, rfl⟩
     ·intro vals w1 hx hd
      refine .r [(3, .pointer (some ⟨g3, 0, none⟩))] (Op.fieldAddr 104 (Operand.const (.pointer (some ⟨g3, 0, none⟩))) 1) 0 43 ⟨.out (by kernel_rfl) (by kernel_rfl), trivial⟩ ?_
      clear hd
      go_wp2
      exact ⟨rfl, Ext.refl _, rfl⟩
     ·intro vals w1 hx hd
      refine .r [(43, .pointer (some ⟨g3, 1, none⟩))] (Op.load 95 (Operand.const (.pointer (some ⟨g3, 1, none⟩)))) 95 44 ⟨.inn 11 (by kernel_rfl) (hd 11 (by decide)), trivial⟩ ?_
      clear hd
      have t1 := ext_cell hx t1
      go_wp2
      exact ⟨rfl, Ext.refl _, rfl⟩
     ·intro vals w1 hx hd
      refine .r [(9, .int .i64 psn)] (Op.move (Operand.const (.int .i64 psn))) 3 45 ⟨.out (by kernel_rfl) (by kernel_rfl), trivial⟩ ?_
      clear hd
      go_wp2
      exact ⟨rfl, Ext.refl _, rfl⟩
     ·intro vals w1 hx hd
      refine .r [(44, .map (some gm)), (45, .int .i64 psn)] (Op.lookup 95 (Operand.const (.map (some gm))) (Operand.const (.int .i64 psn)) false) 3 46 ⟨.inn 12 (by kernel_rfl) (hd 12 (by decide)), .inn 13 (by kernel_rfl) (hd 13 (by decide)), trivial⟩ ?_
      clear hd
      have hlk := HLK.out _ hx.undrew
      go_wp2
      exact ⟨rfl, Ext.refl _, rfl⟩
     ·intro vals w1 hx hd
      refine .r [(42, .int .i64 st), (46, .int .i64 sk)] (Op.binOp BinOp.add 3 (Operand.const (.int .i64 st)) (Operand.const (.int .i64 sk)) 3) 3 47 ⟨.inn 10 (by kernel_rfl) (hd 10 (by decide)), .inn 14 (by kernel_rfl) (hd 14 (by decide)), trivial⟩ ?_
      clear hd
      go_wp2
      exact ⟨rfl, Ext.refl _, rfl⟩
     ·intro vals w1 hx hd
      refine .r [(39, .int .i64 (st - sk))] (Op.assign (Operand.const (.int .i64 (st - sk)))) 3 10 ⟨.inn 7 (by kernel_rfl) (hd 7 (by decide)), trivial⟩ ?_
      clear hd
      go_wp2
      exact ⟨rfl, Ext.refl _, rfl⟩
     ·intro vals w1 hx hd
      refine .r [(47, .int .i64 (st + sk))] (Op.assign (Operand.const (.int .i64 (st + sk)))) 3 11 ⟨.inn 15 (by kernel_rfl) (hd 15 (by decide)), trivial⟩ ?_
      clear hd
      go_wp2
      exact ⟨rfl, Ext.refl _, rfl⟩
    intro vals W5 hz hf
    have v16 : vals 16 = .int .i64 (st - sk) := hf 16 (by omega)
    have v17 : vals 17 = .int .i64 (st + sk) := hf 17 (by omega)
    have hz := hz.undrew
    clear hf
    refine tail0 (by kernel_rfl) ?_
    simp only [Lf, dstAt, Act.put, List.getElem?_toArray, List.getElem?_cons_zero, List.getElem?_cons_succ, Option.bind_some, List.setIfInBounds_toArray, List.set_cons_zero, List.set_cons_succ]
    rw [v16, v17]
    clear v16 v17
    have hy5 := Ext.trans hy hz
    have hJ0 := HJ0.out.ext hy5
    have hJ2 := HJ2.out.ext hy5
    have t2 := ext_cell hz t2
    have s2 := ext_cell hz s2
    have r0 : W5.cell? ⟨g5, 0, none⟩ = some (.int .i64 rsn) := hJ2.cell 0
    have r2 : W5.cell? ⟨g5, 2, none⟩ = some (.int .i64 rat) := hJ2.cell 2
    clear t1 hJ0 hJ2 HLK hy hz
    by_cases q1 : st ≤ now
    ·by_cases q2 : rsn = psn
     ·have q2b : (rsn == psn) = true := by simpa using q2
      by_cases q3 : st - sk ≤ rat
      ·by_cases q4 : rat ≤ st + sk
       ·have HN : Hid (vr = fitsA (fitB ps f now ⟨rsn, rim, rat⟩) (acc ||| 2 ^ k) (k + 1) (l.drop (k + 1))) := Lib.hid (by rw [HST2.out]; simp [q1, q2, q3, q4])
        have hk6 : k < 6 := by omega
        have hor := or_u64 ⟨acc, hacc⟩ ⟨2 ^ k, Nat.lt_of_lt_of_le (Nat.pow_lt_pow_right (by decide) hk6) (by decide : 2 ^ 6 ≤ 64)⟩
        have hlt := or_lt acc k hacc hk6
        dsimp only at hor
        rw [show ((2 ^ k : Nat) : Int) = (2 : Int) ^ k by simp] at hor
        have hp1 : (1 : Int) ≤ (2 : Int) ^ k := by
         have : 1 ≤ 2 ^ k := Nat.one_le_two_pow
         have h2 : ((2 : Int) ^ k) = ((2 ^ k : Nat) : Int) := by simp
         omega
        have hp2 : (2 : Int) ^ k ≤ 64 := by
         have : 2 ^ k < 2 ^ 6 := Nat.pow_lt_pow_right (by decide) hk6
         have h2 : ((2 : Int) ^ k) = ((2 ^ k : Nat) : Int) := by simp
         omega
        generalize acc ||| 2 ^ k = acc2 at HN hor hlt
        clear HST2
        go_wp2_with fail
        go_roundw
        case rel => exact ⟨k + 1, acc2, by omega, by go_num, rfl, hlt, HN, hy5⟩
        case measure => simp [intOf]; omega
       ·have HN : Hid (vr = fitsA (fitB ps f now ⟨rsn, rim, rat⟩) acc (k + 1) (l.drop (k + 1))) := Lib.hid (by rw [HST2.out]; simp [q4])
        clear HST2
        go_wp2_with fail
        go_roundw
        case rel => exact ⟨k + 1, acc, by omega, by go_num, rfl, hacc, HN, hy5⟩
        case measure => simp [intOf]; omega
      ·have HN : Hid (vr = fitsA (fitB ps f now ⟨rsn, rim, rat⟩) acc (k + 1) (l.drop (k + 1))) := Lib.hid (by rw [HST2.out]; simp [q3])
       clear HST2
       go_wp2_with fail
       go_roundw
       case rel => exact ⟨k + 1, acc, by omega, by go_num, rfl, hacc, HN, hy5⟩
       case measure => simp [intOf]; omega
     ·have q2b : (rsn == psn) = false := by simpa using q2
      have HN : Hid (vr = fitsA (fitB ps f now ⟨rsn, rim, rat⟩) acc (k + 1) (l.drop (k + 1))) := Lib.hid (by rw [HST2.out]; simp [q2])
      clear HST2
      go_wp2_with fail
      go_roundw
      case rel => exact ⟨k + 1, acc, by omega, by go_num, rfl, hacc, HN, hy5⟩
      case measure => simp [intOf]; omega
    ·have HN : Hid (vr = fitsA (fitB ps f now ⟨rsn, rim, rat⟩) acc (k + 1) (l.drop (k + 1))) := Lib.hid (by rw [HST2.out]; simp [q1])
     clear HST2
     go_wp2_with fail
     go_roundw
     case rel => exact ⟨k + 1, acc, by omega, by go_num, rfl, hacc, HN, hy5⟩
     case measure => simp [intOf]; omega
   ·have hst := HV.out
    rw [List.drop_of_length_le (by rw [HL.out]; omega), fitsA] at hst
    subst hst
    have hxf := Ext.trans hx1 hy
    go_wp2_with fail
    go_ret
    exact ⟨rfl, hxf⟩
 ·have hv := HV.out
  rw [if_neg him] at hv
  subst hv
  have him1 : (rim == id) = false := by simpa using him
  have him2 : (rim != id) = true := by simpa using him
  go_wp2_with fail
  go_ret
  exact ⟨rfl, hx1⟩
end Go.Proofs.Ytmlabgmigakcbaa
namespace Go.Proofs.Ytmlabgmigakcbaa
open Go.RowKit
theorem slotsOK_each (ps : List Pas) (hp : properP ps = true) : ∀ (l : List Slt) (e : Int), 0 ≤ e → slotsOK ps e l = true → ∀ s ∈ l, (0 ≤ s.p ∧ s.p < ps.length) ∧ 0 ≤ s.fr ∧ s.fr < s.tt ∧ s.tt ≤ 1000001
 | [], _, _, _ => fun s hs => by cases hs
 | s :: r, e, he, h => by
  rw [slotsOK_cons] at h
  simp only [Bool.and_eq_true] at h
  obtain ⟨⟨h1, h2⟩, h3⟩ := h
  rw [inB_iff] at h1
  have hs : (0 ≤ s.p ∧ s.p < ps.length) ∧ 0 ≤ s.fr ∧ s.fr < s.tt ∧ s.tt ≤ 1000001 := by
   refine ⟨by omega, ?_⟩
   cases hq : ps[s.p.toNat]? with
   | none => rw [hq] at h2; cases h2
   | some p =>
    rw [hq] at h2
    simp only [Bool.and_eq_true, decide_eq_true_eq] at h2
    have hm : p ∈ ps := List.mem_of_getElem? hq
    have hall : ps.all pasOK = true := by
     unfold properP at hp
     simp only [Bool.and_eq_true] at hp
     exact hp.1.2
    have hb := pas_bd (List.all_eq_true.1 hall p hm)
    omega
  intro t ht
  rcases List.mem_cons.1 ht with rfl | ht
  ·exact hs
  ·exact slotsOK_each ps hp r s.tt (by omega) h3 t ht
theorem loss_slok {ps : List Pas} {l : List Slt} (hp : properP ps = true) (h : lossOK ps l = true) : SlOK ps l := by
 unfold lossOK at h
 rw [Bool.and_eq_true, decide_eq_true_eq] at h
 have := slotsOK_each ps hp l 0 (by omega) h.2
 exact ⟨h.1.2, fun s hs => (this s hs).1, fun s hs => by have := (this s hs).2; omega⟩
theorem listOK_all {α : Type} (ok : α → Bool) (id : α → Int) : ∀ (l : List α) (p : Option α), listOK ok id p l = true → ∀ x ∈ l, ok x = true
 | [], _, _ => fun x hx => by cases hx
 | y :: r, p, h => by
  have h1 : ok y = true ∧ listOK ok id (some y) r = true := by
   cases p with
   | none => simp [listOK] at h; exact ⟨h.1, h.2⟩
   | some z => simp [listOK] at h; exact ⟨h.1.1, h.2⟩
  intro x hx
  rcases List.mem_cons.1 hx with rfl | hx
  ·exact h1.1
  ·exact listOK_all ok id r (some y) h1.2 x hx
theorem skewL_bd (l : List Stn) (hl : ∀ s ∈ l, 0 ≤ s.skew ∧ s.skew ≤ 30) : ∀ f : Int → Option Int, (∀ k, 0 ≤ (f k).getD 0 ∧ (f k).getD 0 ≤ 30) → ∀ k, 0 ≤ (skewL f l k).getD 0 ∧ (skewL f l k).getD 0 ≤ 30 := by
 induction l with
 | nil => intro f hf k; exact hf k
 | cons s r ih =>
  intro f hf k
  rw [skewL_cons]
  refine ih (fun x hx => hl x (List.mem_cons_of_mem _ hx)) _ (fun j => ?_) k
  have hs := hl s List.mem_cons_self
  by_cases h : j = s.id
  ·rw [if_pos h]; exact hs
  ·rw [if_neg h]; exact hf j
theorem stns_skok {l : List Stn} (h : stnsOK l = true) : SkOK (skewF l) := by
 unfold stnsOK at h
 rw [Bool.and_eq_true] at h
 refine ⟨skewL_bd l (fun s hs => ?_) _ (fun k => by simp)⟩
 have := listOK_all stnOK (·.id) l none h.2 s hs
 unfold stnOK at this
 simp only [Bool.and_eq_true] at this
 exact inB_iff.1 this.2
theorem optsR_each (ps : List Pas) : ∀ (os : List Opt) (seen : Int → Bool), optsR ps seen os = true → ∀ o ∈ os, 0 ≤ o.id ∧ o.id ≤ 63 ∧ properP ps = true ∧ lossOK ps o.l = true
 | [], _, _ => fun o ho => by cases ho
 | x :: r, seen, h => by
  rw [optsR_cons] at h
  simp only [Bool.and_eq_true] at h
  intro o ho
  rcases List.mem_cons.1 ho with rfl | ho
  ·have := inB_iff.1 h.1.1.1
   exact ⟨this.1, this.2, h.1.2.1, h.1.2.2⟩
  ·exact optsR_each ps r _ h.2 o ho
structure VOK (os : List Opt) (ps : List Pas) (sts : List Stn) : Prop where
 len : os.length ≤ 24
 proper : properP ps = true
 stns : stnsOK sts = true
 there : stnIn (skewF sts) ps = true
 each : ∀ o ∈ os, 0 ≤ o.id ∧ o.id ≤ 63 ∧ lossOK ps o.l = true
theorem valid_vok {os : List Opt} {ps : List Pas} {sts : List Stn} (h : validP os ps sts = true) : VOK os ps sts := by
 unfold validP at h
 simp only [Bool.and_eq_true, decide_eq_true_eq] at h
 obtain ⟨h1, h2, h3, h4, h5⟩ := h
 exact ⟨h1, h2, h3, h4, fun o ho => by have := optsR_each ps os _ h5 o ho; exact ⟨this.1, this.2.1, this.2.2.2⟩⟩
theorem VOK.sl {os : List Opt} {ps : List Pas} {sts : List Stn} (h : VOK os ps sts) {o : Opt} (ho : o ∈ os) : SlOK ps o.l := loss_slok h.proper (h.each o ho).2.2
theorem VOK.sk {os : List Opt} {ps : List Pas} {sts : List Stn} (h : VOK os ps sts) : SkOK (skewF sts) := stns_skok h.stns
def fitsV (o : Opt) (ps : List Pas) (sts : List Stn) (r : Rcp) (now : Int) : List Nat := if validP [o] ps sts then setL (fitsP ps (skewF sts) now o.id o.l r) else []
theorem ops_one {w : World} {g : Nat} {o : Opt} (h : Blk w g 32 (optCells o).toArray) (ho : RA sltCells 3 w w.heap.size o.a o.n o.c o.l) : Ops w w.heap.size (some ⟨g, 0, none⟩) 1 1 [o] := by
 refine ⟨⟨⟨by simp [optCells], fun _ => ⟨g, 0, rfl, h.lt, fun j u hu => ?_⟩⟩, rfl, Nat.le_refl _, by unfold maxLen; omega, by omega⟩, fun x hx => ?_⟩
 ·rw [Nat.zero_add, h.cell]
  simpa [optCells] using hu
 ·rw [List.mem_singleton.1 hx]; exact ho
set_option maxRecDepth 100000 in
set_option maxHeartbeats 4000000 in
theorem Fits_any (o : Opt) (ps : List Pas) (sts : List Stn) (r : Rcp) (now : Int) (PA SA : Option Addr) (pn pc sn sc : Nat) (w : World) (ho : RA sltCells 3 w w.heap.size o.a o.n o.c o.l) (hp : RA pasCells 6 w w.heap.size PA pn pc ps) (hs : RA stnCells 6 w w.heap.size SA sn sc sts) :
  Calls Try.prog 23 #[.agg (optCells o).toArray, .slice PA pn pc, .slice SA sn sc, .agg (rcpCells r).toArray, .int .i64 now] w fun e w' => ∃ v, e = .returned v ∧ OwnN w' w.heap.size v (fitsV o ps sts r now) ∧ Ext w w' := by
 have HV := Lib.hid (fun (g : Nat) (W : World) (hW : Ext w W) (h : Blk W g 32 (optCells o).toArray) => valid_any [o] ps sts (some ⟨g, 0, none⟩) PA SA 1 1 pn pc sn sc W (ops_one h (ra_ext ho hW)) (ra_ext hp hW) (ra_ext hs hW))
 have hsk : ∀ (W : World), Ext w W → Calls Try.prog 41 #[.slice SA sn sc] W fun e w' => ∃ g, e = .returned (.map (some g)) ∧ W.heap.size ≤ g ∧ MapI w' g (iM (skewF sts)) ∧ Ext W w' := fun W hW => skews_any sts SA sn sc W (ra_ext hs hW)
 have hft : validP [o] ps sts = true → ∀ (gm : Nat) (W : World), Ext w W → MapI W gm (iM (skewF sts)) → Calls Try.prog 50 #[.agg #[.slice PA pn pc, .map (some gm), .int .i64 now], .agg (optCells o).toArray, .agg (rcpCells r).toArray] W fun e w' => e = .returned (.int .u64 (fitsP ps (skewF sts) now o.id o.l r : Nat)) ∧ Ext W w' := fun hv gm W hW hm =>
  fits_any o ps (skewF sts) now r PA pn pc gm W (ra_ext ho hW) (ra_ext hp hW) hm ((valid_vok hv).sl (List.mem_singleton.2 rfl)) (valid_vok hv).sk
 have hlt : validP [o] ps sts = true → fitsP ps (skewF sts) now o.id o.l r < 64 := fun hv => fitsP_lt ((valid_vok hv).sl (List.mem_singleton.2 rfl))
 unfold fitsV
 generalize validP [o] ps sts = q at HV hft hlt ⊢
 generalize skewF sts = f at hsk hft hlt ⊢
 generalize fitsP ps f now o.id o.l r = S at hft hlt ⊢
 obtain ⟨fin, hfin⟩ : ∃ x, x = (if q = true then setL S else []) := ⟨_, rfl⟩
 rw [← hfin]
 have HFIN := Lib.hid hfin
 have HSK := Lib.hid hsk
 have HFT := Lib.hid hft
 have HLT := Lib.hid hlt
 clear hfin hsk hft hlt ho hp hs
 obtain ⟨id, i1, i2, i3, i4, i5, i6, i7, a, n, c, l⟩ := o
 obtain ⟨rsn, rim, rat⟩ := r
 show Calls Try.prog 23 #[.agg #[.int .i64 id, .int .i64 i1, .int .i64 i2, .int .i64 i3, .int .i64 i4, .int .i64 i5, .int .i64 i6, .int .i64 i7, .slice a n c], .slice PA pn pc, .slice SA sn sc, .agg #[.int .i64 rsn, .int .i64 rim, .int .i64 rat], .int .i64 now] w _
 go_enter Try.func23, Try.ntmps23
 go_upto_region 1 with (fail)
 obtain ⟨W1, hW1⟩ : ∃ W, W = (w.alloc (.cells #[.int .i64 id, .int .i64 i1, .int .i64 i2, .int .i64 i3, .int .i64 i4, .int .i64 i5, .int .i64 i6, .int .i64 i7, .slice a n c] 32)).alloc (.cells #[.int .i64 rsn, .int .i64 rim, .int .i64 rat] 63) := ⟨_, rfl⟩
 rw [← hW1]
 obtain ⟨J0, J1, hx1⟩ := al2 w W1 _ _ _ _ hW1
 clear hW1
 generalize w.heap.size + 1 = g4 at J1 ⊢
 obtain ⟨g3, hg3⟩ : ∃ g, g = w.heap.size := ⟨_, rfl⟩
 have hg3w : w.heap.size ≤ g3 := by omega
 rw [← hg3] at J0 ⊢
 clear hg3
 have d0 : W1.cell? ⟨g3, 0, none⟩ = some (.int .i64 id) := J0.cell 0
 have d1 : W1.cell? ⟨g3, 1, none⟩ = some (.int .i64 i1) := J0.cell 1
 have d2 : W1.cell? ⟨g3, 2, none⟩ = some (.int .i64 i2) := J0.cell 2
 have d3 : W1.cell? ⟨g3, 3, none⟩ = some (.int .i64 i3) := J0.cell 3
 have d4 : W1.cell? ⟨g3, 4, none⟩ = some (.int .i64 i4) := J0.cell 4
 have d5 : W1.cell? ⟨g3, 5, none⟩ = some (.int .i64 i5) := J0.cell 5
 have d6 : W1.cell? ⟨g3, 6, none⟩ = some (.int .i64 i6) := J0.cell 6
 have d7 : W1.cell? ⟨g3, 7, none⟩ = some (.int .i64 i7) := J0.cell 7
 have d8 : W1.cell? ⟨g3, 8, none⟩ = some (.slice a n c) := J0.cell 8
 have hxa : Ext W1 (W1.alloc (.cells #[.int .i64 id, .int .i64 i1, .int .i64 i2, .int .i64 i3, .int .i64 i4, .int .i64 i5, .int .i64 i6, .int .i64 i7, .slice a n c] 32)) := bl_alloc (Below.refl _ _) _
 have HC := Lib.hid (HV.out W1.heap.size _ (Ext.trans hx1 hxa) (Blk.new W1 32 _))
 have HJ0 := Lib.hid J0
 have HJ1 := Lib.hid J1
 clear HV J0 J1
 go_wp2_with fail
 refine HC.out.mono ?_
 rintro e W2 ⟨rfl, hy⟩
 have hy2 : Ext W1 W2 := Ext.trans hxa hy
 have hxw := Ext.trans hx1 hy2
 have J0 := HJ0.out.ext hy2
 have J1 := HJ1.out.ext hy2
 clear HC hy hxa d0 d1 d2 d3 d4 d5 d6 d7 d8 HJ0 HJ1
 cases q
 ·have hf : fin = [] := HFIN.out
  subst hf
  go_wp2_with fail
  go_ret
  exact ⟨_, rfl, World.ownsRow_nil _ _ _ _, hxw⟩
 ·have hf : fin = setL S := HFIN.out
  have hS := HLT.out rfl
  have hfit := HFT.out rfl
  have HFI := Lib.hid hfit
  have HFN := Lib.hid hf
  have hli := fun W => list_any S hS W
  have HLI := Lib.hid hli
  have d0 : W2.cell? ⟨g3, 0, none⟩ = some (.int .i64 id) := J0.cell 0
  have d1 : W2.cell? ⟨g3, 1, none⟩ = some (.int .i64 i1) := J0.cell 1
  have d2 : W2.cell? ⟨g3, 2, none⟩ = some (.int .i64 i2) := J0.cell 2
  have d3 : W2.cell? ⟨g3, 3, none⟩ = some (.int .i64 i3) := J0.cell 3
  have d4 : W2.cell? ⟨g3, 4, none⟩ = some (.int .i64 i4) := J0.cell 4
  have d5 : W2.cell? ⟨g3, 5, none⟩ = some (.int .i64 i5) := J0.cell 5
  have d6 : W2.cell? ⟨g3, 6, none⟩ = some (.int .i64 i6) := J0.cell 6
  have d7 : W2.cell? ⟨g3, 7, none⟩ = some (.int .i64 i7) := J0.cell 7
  have d8 : W2.cell? ⟨g3, 8, none⟩ = some (.slice a n c) := J0.cell 8
  have r0 : W2.cell? ⟨g4, 0, none⟩ = some (.int .i64 rsn) := J1.cell 0
  have r1 : W2.cell? ⟨g4, 1, none⟩ = some (.int .i64 rim) := J1.cell 1
  have r2 : W2.cell? ⟨g4, 2, none⟩ = some (.int .i64 rat) := J1.cell 2
  clear hfit hf hli HFIN HFT HLT J0 J1
  go_wp2_with fail
  refine wp_region_obl 9 (fun ix vals v w1 => match ix with | 0 => v = .slice PA pn pc | 1 => v = .slice SA sn sc | 2 => ∃ g, v = .map (some g) ∧ MapI w1 g (iM f) | 3 => v = .int .i64 now | 4 => ∃ g, v = .agg #[.slice PA pn pc, .map (some g), .int .i64 now] ∧ MapI w1 g (iM f) | 5 => v = .agg #[.int .i64 id, .int .i64 i1, .int .i64 i2, .int .i64 i3, .int .i64 i4, .int .i64 i5, .int .i64 i6, .int .i64 i7, .slice a n c] | 6 => v = .agg #[.int .i64 rsn, .int .i64 rim, .int .i64 rat] | 7 => v = .int .u64 S | _ => OwnN w1 W2.heap.size v (setL S)) (by kernel_rfl) (by kernel_rfl) ?_ ?_ ?_ ?_
  ·intro ix vals v w1 w2 hi hr hx
   match ix, hr with
   | 0, hr => exact hr
   | 1, hr => exact hr
   | 2, hr => obtain ⟨g, h1, h2⟩ := hr; exact ⟨g, h1, h2.ext hx⟩
   | 3, hr => exact hr
   | 4, hr => obtain ⟨g, h1, h2⟩ := hr; exact ⟨g, h1, h2.ext hx⟩
   | 5, hr => exact hr
   | 6, hr => exact hr
   | 7, hr => exact hr
   | (kx + 8), hr => exact hr.ext hx
  ·intro ix vals vals_ v w1 hi hv hr
   exact hr
  ·refine obls_ofT [some 17, some 18, some 19, some 20, some 21, some 22, some 23, some 24, some 25, some 10] [(1, .slice PA pn pc), (2, .slice SA sn sc), (4, .int .i64 now), (5, .pointer (some ⟨g3, 0, none⟩)), (8, .pointer (some ⟨g4, 0, none⟩))] 26 (by kernel_rfl) (by kernel_rfl) ⟨by kernel_rfl, by kernel_rfl, by kernel_rfl, by kernel_rfl, by kernel_rfl, trivial⟩ ?_
   refine ⟨?_, ?_, ?_, ?_, ?_, ?_, ?_, ?_, ?_, trivial⟩
   ·intro vals w1 hx hd
    refine .r [(1, .slice PA pn pc)] (Op.move (Operand.const (.slice PA pn pc))) 37 17 ⟨.out (by kernel_rfl) (by kernel_rfl), trivial⟩ ?_
    clear hd
    go_wp2
    exact ⟨rfl, Ext.refl _, rfl⟩
   ·intro vals w1 hx hd
    refine .r [(2, .slice SA sn sc)] (Op.move (Operand.const (.slice SA sn sc))) 38 18 ⟨.out (by kernel_rfl) (by kernel_rfl), trivial⟩ ?_
    clear hd
    go_wp2
    exact ⟨rfl, Ext.refl _, rfl⟩
   ·intro vals w1 hx hd
    refine .r [(18, .slice SA sn sc)] (Op.call { callee := Callee.value (Operand.func 41), args := #[(Operand.const (.slice SA sn sc))], argTypes := #[38] }) 95 19 ⟨.inn 1 (by kernel_rfl) (hd 1 (by decide)), trivial⟩ ?_
    clear hd
    have hxx := Ext.trans hxw hx.undrew
    go_wp2_with fail
    refine (HSK.out _ hxx).mono ?_
    rintro e w2 ⟨g, rfl, hg, hmm, hb2⟩
    go_wp2
    exact ⟨rfl, hb2, _, rfl, hmm⟩
   ·intro vals w1 hx hd
    refine .r [(4, .int .i64 now)] (Op.move (Operand.const (.int .i64 now))) 3 20 ⟨.out (by kernel_rfl) (by kernel_rfl), trivial⟩ ?_
    clear hd
    go_wp2
    exact ⟨rfl, Ext.refl _, rfl⟩
   ·intro vals w1 hx hd
    have r2 : (fun v w1 => ∃ g, v = .map (some g) ∧ MapI w1 g (iM f)) (vals 2) w1 := hd 2 (by decide)
    dsimp only at r2
    obtain ⟨g, e_2, hm2⟩ := r2
    refine .r [(17, .slice PA pn pc), (19, .map (some g)), (20, .int .i64 now)] (Op.build 104 #[(0, (Operand.const (.slice PA pn pc))), (1, (Operand.const (.map (some g)))), (2, (Operand.const (.int .i64 now)))]) 104 21 ⟨.inn 0 (by kernel_rfl) (hd 0 (by decide)), .inn 2 (by kernel_rfl) e_2, .inn 3 (by kernel_rfl) (hd 3 (by decide)), trivial⟩ ?_
    clear hd e_2
    go_wp2
    exact ⟨rfl, Ext.refl _, _, rfl, hm2⟩
   ·intro vals w1 hx hd
    refine .r [(5, .pointer (some ⟨g3, 0, none⟩))] (Op.load 32 (Operand.const (.pointer (some ⟨g3, 0, none⟩)))) 32 22 ⟨.out (by kernel_rfl) (by kernel_rfl), trivial⟩ ?_
    clear hd
    have d0 := ext_cell hx d0; have d1 := ext_cell hx d1; have d2 := ext_cell hx d2; have d3 := ext_cell hx d3; have d4 := ext_cell hx d4; have d5 := ext_cell hx d5; have d6 := ext_cell hx d6; have d7 := ext_cell hx d7; have d8 := ext_cell hx d8
    go_wp2
    exact ⟨rfl, Ext.refl _, rfl⟩
   ·intro vals w1 hx hd
    refine .r [(8, .pointer (some ⟨g4, 0, none⟩))] (Op.load 63 (Operand.const (.pointer (some ⟨g4, 0, none⟩)))) 63 23 ⟨.out (by kernel_rfl) (by kernel_rfl), trivial⟩ ?_
    clear hd
    have r0 := ext_cell hx r0; have r1 := ext_cell hx r1; have r2 := ext_cell hx r2
    go_wp2
    exact ⟨rfl, Ext.refl _, rfl⟩
   ·intro vals w1 hx hd
    have r4 : (fun v w1 => ∃ g, v = .agg #[.slice PA pn pc, .map (some g), .int .i64 now] ∧ MapI w1 g (iM f)) (vals 4) w1 := hd 4 (by decide)
    dsimp only at r4
    obtain ⟨g, e_4, hm4⟩ := r4
    refine .r [(21, .agg #[.slice PA pn pc, .map (some g), .int .i64 now]), (22, .agg #[.int .i64 id, .int .i64 i1, .int .i64 i2, .int .i64 i3, .int .i64 i4, .int .i64 i5, .int .i64 i6, .int .i64 i7, .slice a n c]), (23, .agg #[.int .i64 rsn, .int .i64 rim, .int .i64 rat])] (Op.call { callee := Callee.value (Operand.func 50), args := #[(Operand.const (.agg #[.slice PA pn pc, .map (some g), .int .i64 now])), (Operand.const (.agg #[.int .i64 id, .int .i64 i1, .int .i64 i2, .int .i64 i3, .int .i64 i4, .int .i64 i5, .int .i64 i6, .int .i64 i7, .slice a n c])), (Operand.const (.agg #[.int .i64 rsn, .int .i64 rim, .int .i64 rat]))], argTypes := #[104, 32, 63] }) 108 24 ⟨.inn 4 (by kernel_rfl) e_4, .inn 5 (by kernel_rfl) (hd 5 (by decide)), .inn 6 (by kernel_rfl) (hd 6 (by decide)), trivial⟩ ?_
    clear hd e_4
    have hxx := Ext.trans hxw hx.undrew
    go_wp2_with fail
    refine (HFI.out _ _ hxx hm4).mono ?_
    rintro e w2 ⟨rfl, hb2⟩
    go_wp2
    exact ⟨rfl, hb2, rfl⟩
   ·intro vals w1 hx hd
    refine .r [(24, .int .u64 S)] (Op.call { callee := Callee.value (Operand.func 58), args := #[(Operand.const (.int .u64 S))], argTypes := #[108] }) 25 25 ⟨.inn 7 (by kernel_rfl) (hd 7 (by decide)), trivial⟩ ?_
    clear hd
    have hz9 := Below.size hx.undrew
    go_wp2_with fail
    refine (HLI.out _).mono ?_
    rintro e w2 ⟨v2, rfl, hown, hb2⟩
    have hown := Lib.hid (own_base hown hz9)
    go_wp2
    exact ⟨rfl, hb2, hown.out⟩
  intro vals W5 hz hf
  have v8 : OwnN W5 W2.heap.size (vals 8) (setL S) := hf 8 (by omega)
  have hz := hz.undrew
  clear hf
  obtain ⟨A3, c3, hv3, _, _⟩ := own_slice v8
  have hxf := Ext.trans hxw hz
  have HV8 := Lib.hid (own_base v8 (Below.size hxw))
  clear v8
  refine tail1 9 _ (by kernel_rfl) (by kernel_rfl) rfl ?_
  simp only [Lf, dstAt, Act.put, List.getElem?_toArray, List.getElem?_cons_zero, List.getElem?_cons_succ, Option.bind_some, List.setIfInBounds_toArray, List.set_cons_zero, List.set_cons_succ]
  rw [hv3] at HV8 ⊢
  clear hv3
  go_wp2
  go_ret
  rw [HFN.out]
  exact ⟨_, rfl, HV8.out, hxf⟩
end Go.Proofs.Ytmlabgmigakcbaa
namespace Go.Proofs.Ytmlabgmigakcbaa
open Go.RowKit
structure Tel (B gd : Nat) (w w' : World) : Prop where
 bl : Below B w w'
 blk : ∀ i, i < w.heap.size → i ≠ gd → (∀ cs z, w.heap[i]? ≠ some (.cells cs 83 z)) → w'.heap[i]? = w.heap[i]?
theorem Tel.size {B gd : Nat} {w w' : World} (h : Tel B gd w w') : w.heap.size ≤ w'.heap.size := Below.size h.bl
theorem Tel.refl (B gd : Nat) (w : World) : Tel B gd w w := ⟨Below.refl _ _, fun _ _ _ _ => rfl⟩
theorem Tel.trans {B gd : Nat} {a b c : World} (h : Tel B gd a b) (k : Tel B gd b c) : Tel B gd a c :=
 ⟨h.bl.trans k.bl, fun i hi hg hd => by
  have e := h.blk i hi hg hd
  rw [k.blk i (Nat.lt_of_lt_of_le hi h.size) hg (by rw [e]; exact hd), e]⟩
theorem Tel.of_ext {B gd : Nat} {w w' : World} (hx : Ext w w') (hB : B ≤ w.heap.size) : Tel B gd w w' := ⟨hx.mono hB, fun i hi _ _ => hx.block i hi⟩
theorem Tel.then_ext {B gd : Nat} {a b c : World} (h : Tel B gd a b) (hx : Ext b c) (hB : B ≤ a.heap.size) : Tel B gd a c := h.trans (.of_ext hx (Nat.le_trans hB h.size))
theorem Blk.tel {B gd g : Nat} {w w' : World} {t : TypeId} {cs : Array Value} (h : Blk w g t cs) (k : Tel B gd w w') (ht : t ≠ 83) (hg : g ≠ gd) : Blk w' g t cs :=
 (k.blk g h.lt hg (fun cs' z e => by rw [h] at e; injection e with e; injection e with _ e2 _; exact ht e2)).trans h
theorem MapI.tel {B gd g : Nat} {w w' : World} {f : Int → Option Value} (h : MapI w g f) (k : Tel B gd w w') (hg : g ≠ gd) : MapI w' g f := by
 have hl := h.lt
 obtain ⟨L, c, h1, h2⟩ := h
 exact ⟨L, c, (k.blk g hl hg (fun cs' z e => by rw [h1] at e; injection e with e; cases e)).trans h1, h2⟩
theorem own_tel {B gd b s n : Nat} {w w' : World} {t : TypeId} {v : Value} {xs : List Value} (h : w.ownsRow b t s v n xs) (k : Tel B gd w w') (ht : t ≠ 83) (hg : v.ownBlock ≠ some gd) : w'.ownsRow b t s v n xs := by
 refine ⟨h.1, ?_⟩
 rcases h.2 with hn | ⟨g, cap, cur, rfl, hb, hgg, r⟩
 ·exact .inl hn
 ·refine .inr ⟨g, cap, cur, rfl, hb, ?_, r⟩
  rw [k.blk g (Array.getElem?_eq_some_iff.1 hgg).1 (fun e => hg (by rw [e]; rfl)) (fun cs' z e => by rw [hgg] at e; injection e with e; injection e with _ e2 _; exact ht e2)]
  exact hgg
def DS (w : World) (gd B : Nat) (ds : List Dsc) : Prop := ∃ v, Blk w gd 48 #[v] ∧ w.ownsRow B 83 3 v ds.length (ds.flatMap dscCells)
theorem DS.ext {w w' : World} {gd B : Nat} {ds : List Dsc} (h : DS w gd B ds) (hx : Ext w w') : DS w' gd B ds := by
 obtain ⟨v, h1, h2⟩ := h
 exact ⟨v, h1.ext hx, own_ext h2 hx⟩
theorem info_dsc : (Try.prog.info? 83).map (fun i => (i.zero, i.size, i.bytes)) = some (some (.agg #[.int .i64 0, .int .i64 0, .int .i64 0]), 3, 24) := by kernel_rfl
set_option maxRecDepth 100000 in
set_option maxHeartbeats 4000000 in
theorem tell_any (kind im ix : Int) (gd B : Nat) (ds : List Dsc) (w : World) (h : DS w gd B ds) (hB : B ≤ gd) (hn : ds.length ≤ 100000) :
  Calls Try.prog 47 #[.int .i64 kind, .int .i64 im, .int .i64 ix, .pointer (some ⟨gd, 0, none⟩)] w fun e w' => e = .returned (.tuple #[]) ∧ DS w' gd B (ds ++ [⟨kind, im, ix⟩]) ∧ Tel B gd w w' := by
 obtain ⟨v, hj, ho⟩ := h
 have hlt := hj.lt
 have d0 : w.cell? ⟨gd, 0, none⟩ = some v := hj.cell 0
 have hxa : Ext w (w.alloc (.cells #[.int .i64 kind, .int .i64 im, .int .i64 ix] 83)) := bl_alloc (Below.refl _ _) _
 obtain ⟨i0, hi0, hz0, hz1, hz2⟩ := info_parts info_dsc
 have jx := Blk.new w 83 #[.int .i64 kind, .int .i64 im, .int .i64 ix]
 have hoa := own_ext ho hxa
 have hja := hj.ext hxa
 obtain ⟨v7, W7, hrun, ho7, hg7, -⟩ := run_append_own (P := Try.prog) _ B 48 48 83 i0 _ 3 24 Try.underlying48 hi0 hz0 hz1 hz2 rfl (by omega) _ _ _ hoa ⟨w.heap.size, 0, none⟩ 1 1 [.int .i64 kind, .int .i64 im, .int .i64 ix] rfl (by intro i u hu; rw [Addr.add_lit, Nat.zero_add, jx.cell]; simpa using hu) (by simp [Value.oneCell']) (by unfold maxLen; omega) (by omega) (by have := Below.size hxa; omega)
 have hne : v.ownBlock ≠ some gd := own_blk_ne hoa hja (by decide)
 have hj7 := hja.grown hg7 (fun e => hne e.symm)
 have ho7' : W7.ownsRow B 83 3 v7 (ds ++ [(⟨kind, im, ix⟩ : Dsc)]).length ((ds ++ [(⟨kind, im, ix⟩ : Dsc)]).flatMap dscCells) := by
  rw [List.length_append, List.flatMap_append]
  simpa [dscCells] using ho7
 have hne7 : v7.ownBlock ≠ some gd := own_blk_ne ho7' hj7 (by decide)
 have e7 : W7.cell? ⟨gd, 0, none⟩ = some v := hj7.cell 0
 have f7 : W7.frozen? ⟨gd, 0, none⟩ = false := hj7.frozen 0
 have hDS : DS (W7.setCell ⟨gd, 0, none⟩ v7) gd B (ds ++ [⟨kind, im, ix⟩]) := by
  refine ⟨v7, ?_, ?_⟩
  ·have := hj7.set_ 0 v7
   simpa using this
  ·refine ⟨ho7'.1, ?_⟩
   rcases ho7'.2 with hnn | ⟨g, cap, cur, rfl, hb, hgg, r⟩
   ·exact .inl hnn
   ·exact .inr ⟨g, cap, cur, rfl, hb, (Below.heap_setCell W7 ⟨gd, 0, none⟩ _ g (fun e => hne7 (by have e2 : g = gd := e; rw [e2]; rfl))).trans hgg, r⟩
 have hT : Tel B gd w (W7.setCell ⟨gd, 0, none⟩ v7) := by
  have hb7 : Below B w W7 := (hxa.mono (by omega)).grown hg7 (by have := Below.size hxa; omega) (fun q e => (World.ownsRow.lt hoa q e).1)
  refine ⟨hb7.setCell hB v7, fun i hi hg hd => ?_⟩
  rw [Below.heap_setCell W7 ⟨gd, 0, none⟩ v7 i hg, hg7.block i (Nat.lt_of_lt_of_le hi (Below.size hxa)) (fun e => ?_), hxa.block i hi]
  rcases hoa.2 with ⟨hnn, _⟩ | ⟨g, cap, cur, rfl, hb, hgg, r⟩
  ·rw [hnn] at e; cases e
  ·have e3 : some i = some g := e
   have e2 : g = i := by injection e3 with e3; exact e3.symm
   rw [e2, hxa.block i hi] at hgg
   exact hd _ _ hgg
 have HRUN := Lib.hid hrun
 have HDS := Lib.hid hDS
 have HT := Lib.hid hT
 obtain ⟨A7, c7, hv7, _, _⟩ := own_slice ho7'
 subst hv7
 obtain ⟨A0, c0, hv0, _, _⟩ := own_slice ho
 subst hv0
 clear hj ho hxa hoa hja hrun ho7 hg7 hj7 ho7' hDS hT jx hne hne7
 generalize ds ++ [(⟨kind, im, ix⟩ : Dsc)] = ds2 at HDS HT HRUN ⊢
 go_enter Try.func47, Try.ntmps47
 go_wp2_with (refine wpList_append_run_ rfl _ _ _ rfl rfl rfl HRUN.out ?_)
 exact bodyPost_end (v := .tuple #[]) (by simp [results, Try.results47, go_sem]) rfl ⟨rfl, HDS.out, HT.out⟩
end Go.Proofs.Ytmlabgmigakcbaa
namespace Go.Proofs.Ytmlabgmigakcbaa
def recvP (q : Rcp → Nat) (id : Int) : Nat → Nat → List Dsc → List Rcp → Nat × List Dsc
 | _, left, ds, [] => (left, ds)
 | i, left, ds, r :: l =>
  if q r = 0 then recvP q id (i + 1) left ds l
  else if left = 0 then recvP q id (i + 1) (q r) ds l
  else if left &&& q r = 0 then recvP q id (i + 1) left (ds ++ [⟨2, id, i⟩]) l
  else recvP q id (i + 1) (left &&& q r) ds l
theorem recvP_cons (q : Rcp → Nat) (id : Int) (i left : Nat) (ds : List Dsc) (r : Rcp) (l : List Rcp) : recvP q id i left ds (r :: l) =
  if q r = 0 then recvP q id (i + 1) left ds l
  else if left = 0 then recvP q id (i + 1) (q r) ds l
  else if left &&& q r = 0 then recvP q id (i + 1) left (ds ++ [⟨2, id, i⟩]) l
  else recvP q id (i + 1) (left &&& q r) ds l := by rw [recvP]
def ttAt (sl : List Slt) (k : Nat) : Int := match sl[k]? with | some s => s.tt | none => 0
def nextP (is_ : Bool) (left slot : Nat) : Nat := if is_ then left &&& 2 ^ slot else clrB left slot
def noteP (now : Int) (sl : List Slt) (id : Int) : Nat → Nat → Nat → Bool → List Dsc → List Nte → Nat × List Dsc
 | _, left, _, _, ds, [] => (left, ds)
 | i, left, slot, done, ds, n :: l =>
  if n.im ≠ id then noteP now sl id (i + 1) left slot done ds l
  else if done = true ∨ n.slot ≠ slot ∨ sl.length ≤ slot ∨ now < ttAt sl slot then (left, ds ++ [⟨3, id, i⟩])
  else if nextP n.is_ left slot = 0 ∧ (left ≠ 0 ∨ n.is_ = true) then noteP now sl id (i + 1) left (slot + 1) n.is_ (ds ++ [⟨4, id, i⟩]) l
  else noteP now sl id (i + 1) (nextP n.is_ left slot) (slot + 1) n.is_ ds l
theorem noteP_cons (now : Int) (sl : List Slt) (id : Int) (i left slot : Nat) (done : Bool) (ds : List Dsc) (n : Nte) (l : List Nte) : noteP now sl id i left slot done ds (n :: l) =
  if n.im ≠ id then noteP now sl id (i + 1) left slot done ds l
  else if done = true ∨ n.slot ≠ slot ∨ sl.length ≤ slot ∨ now < ttAt sl slot then (left, ds ++ [⟨3, id, i⟩])
  else if nextP n.is_ left slot = 0 ∧ (left ≠ 0 ∨ n.is_ = true) then noteP now sl id (i + 1) left (slot + 1) n.is_ (ds ++ [⟨4, id, i⟩]) l
  else noteP now sl id (i + 1) (nextP n.is_ left slot) (slot + 1) n.is_ ds l := by rw [noteP]
structure FteP where
 im : Int
 st : Int
 l : List Nat
 fr : Int
 tt : Int
def openL (now : Int) (sl : List Slt) : List Nat := (List.range sl.length).filter (fun k => decide (now < ttAt sl k))
def endP (im st : Int) (sl : List Slt) (l : List Nat) : FteP := ⟨im, st, l, ttAt sl (l.headD 0), ttAt sl (l.getLastD 0)⟩
def fateE (now : Int) (sl : List Slt) (id : Int) (left : Nat) : FteP :=
 if left ≠ 0 then endP id 1 sl (setL left)
 else if openL now sl = [] then ⟨id, 3, [], 0, 0⟩
 else endP id 2 sl (openL now sl)
def fateP (q : Rcp → Nat) (now : Int) (sl : List Slt) (id : Int) (rs : List Rcp) (ns : List Nte) (ds : List Dsc) : FteP × List Dsc :=
 (fateE now sl id (noteP now sl id 0 (recvP q id 0 0 ds rs).1 0 false (recvP q id 0 0 ds rs).2 ns).1, (noteP now sl id 0 (recvP q id 0 0 ds rs).1 0 false (recvP q id 0 0 ds rs).2 ns).2)
theorem and_lt (a b : Nat) (h : a < 64) : a &&& b < 64 := Nat.lt_of_le_of_lt Nat.and_le_left h
theorem recvP_len (q : Rcp → Nat) (id : Int) : ∀ l i left ds, (recvP q id i left ds l).2.length ≤ ds.length + l.length
 | [], _, _, ds => by rw [recvP]; simp
 | r :: l, i, left, ds => by
  rw [recvP_cons]
  simp only [List.length_cons]
  split
  ·have := recvP_len q id l (i + 1) left ds; omega
  ·split
   ·have := recvP_len q id l (i + 1) (q r) ds; omega
   ·split
    ·have := recvP_len q id l (i + 1) left (ds ++ [⟨2, id, i⟩]); simp at this; omega
    ·have := recvP_len q id l (i + 1) (left &&& q r) ds; omega
end Go.Proofs.Ytmlabgmigakcbaa
