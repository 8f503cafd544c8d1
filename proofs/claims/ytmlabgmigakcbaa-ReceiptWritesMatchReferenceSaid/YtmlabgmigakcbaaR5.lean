/- The slots that a receipt fits. -/
import Derived.Test.YtmlabgmigakcbaaR4
import Derived.Test.YtmlabgmigakcbaaTn2
namespace Go.Proofs.Ytmlabgmigakcbaa
open Go.RowKit

def fitB (ps : List Pas) (f : Int → Option Int) (now : Int) (r : Rcp) (s : Slt) : Bool := match ps[s.p.toNat]? with
  | none => false
  | some p => decide (s.tt ≤ now) && decide (r.sn = p.station) && decide (s.tt - (f p.station).getD 0 ≤ r.at_) && decide (r.at_ ≤ s.tt + (f p.station).getD 0)
def fitsA (q : Slt → Bool) : Nat → Nat → List Slt → Nat
  | acc, _, [] => acc
  | acc, i, s :: r => fitsA q (if q s then acc ||| 2 ^ i else acc) (i + 1) r
theorem fitsA_cons (q : Slt → Bool) (acc i : Nat) (s : Slt) (r : List Slt) : fitsA q acc i (s :: r) = fitsA q (if q s then acc ||| 2 ^ i else acc) (i + 1) r := by rw [fitsA]
def fitsP (ps : List Pas) (f : Int → Option Int) (now : Int) (id : Int) (l : List Slt) (r : Rcp) : Nat := if r.im = id then fitsA (fitB ps f now r) 0 0 l else 0
/-- Slots that lie in passes, with bounds. -/
structure SlOK (ps : List Pas) (l : List Slt) : Prop where
  len : l.length ≤ 6
  pass : ∀ s ∈ l, 0 ≤ s.p ∧ s.p < ps.length
  bd : ∀ s ∈ l, 0 ≤ s.tt ∧ s.tt ≤ 1000001
structure SkOK (f : Int → Option Int) : Prop where
  bd : ∀ k, 0 ≤ (f k).getD 0 ∧ (f k).getD 0 ≤ 30
theorem or_lt (a k : Nat) (ha : a < 64) (hk : k < 6) : a ||| 2 ^ k < 64 := by
  have h : 2 ^ k < 2 ^ 6 := Nat.pow_lt_pow_right (by decide) hk
  exact Nat.or_lt_two_pow (n := 6) ha h
theorem fitsA_lt (q : Slt → Bool) : ∀ l acc i, acc < 64 → i + l.length ≤ 6 → fitsA q acc i l < 64
  | [], acc, _, h, _ => by rw [fitsA]; exact h
  | s :: r, acc, i, h, hl => by
    rw [fitsA_cons]
    simp only [List.length_cons] at hl
    refine fitsA_lt q r _ _ ?_ (by omega)
    split
    · exact or_lt acc i h (by omega)
    · exact h
theorem fitsP_lt {ps : List Pas} {f : Int → Option Int} {now id : Int} {l : List Slt} {r : Rcp} (h : SlOK ps l) : fitsP ps f now id l r < 64 := by
  unfold fitsP
  split
  · exact fitsA_lt _ l 0 0 (by omega) (by have := h.len; omega)
  · omega

theorem al2 (w W : World) (t0 t1 : TypeId) (c0 c1 : Array Value) (hW : W = (w.alloc (.cells c0 t0)).alloc (.cells c1 t1)) : Blk W w.heap.size t0 c0 ∧ Blk W (w.heap.size + 1) t1 c1 ∧ Ext w W := by
  subst hW
  have x0 : Ext w (w.alloc (.cells c0 t0)) := bl_alloc (Below.refl _ _) _
  have b0 := Blk.new w t0 c0
  have s0 : (w.alloc (.cells c0 t0)).heap.size = w.heap.size + 1 := by simp
  generalize w.alloc (.cells c0 t0) = w0 at x0 b0 s0 ⊢
  have x1 : Ext w0 (w0.alloc (.cells c1 t1)) := bl_alloc (Below.refl _ _) _
  have b1 := Blk.new w0 t1 c1
  rw [s0] at b1
  exact ⟨b0.ext x1, b1, Ext.trans x0 x1⟩
theorem al3 (w W : World) (t0 t1 t2 : TypeId) (c0 c1 c2 : Array Value) (hW : W = ((w.alloc (.cells c0 t0)).alloc (.cells c1 t1)).alloc (.cells c2 t2)) : Blk W w.heap.size t0 c0 ∧ Blk W (w.heap.size + 1) t1 c1 ∧ Blk W (w.heap.size + 1 + 1) t2 c2 ∧ Ext w W := by
  obtain ⟨h0, h1, hx⟩ := al2 w _ t0 t1 c0 c1 rfl
  have hs : ((w.alloc (.cells c0 t0)).alloc (.cells c1 t1)).heap.size = w.heap.size + 1 + 1 := by simp
  subst hW
  generalize (w.alloc (.cells c0 t0)).alloc (.cells c1 t1) = w1 at h0 h1 hx hs ⊢
  have x1 : Ext w1 (w1.alloc (.cells c2 t2)) := bl_alloc (Below.refl _ _) _
  have b1 := Blk.new w1 t2 c2
  rw [hs] at b1
  exact ⟨h0.ext x1, h1.ext x1, b1, Ext.trans hx x1⟩

set_option maxRecDepth 100000 in
set_option maxHeartbeats 4000000 in
theorem fits_any (o : Opt) (ps : List Pas) (f : Int → Option Int) (now : Int) (r : Rcp) (PA : Option Addr) (pn pc gm : Nat) (w : World) (ho : RA sltCells 3 w w.heap.size o.a o.n o.c o.l) (hp : RA pasCells 6 w w.heap.size PA pn pc ps) (hm : MapI w gm (iM f)) (hs : SlOK ps o.l) (hf : SkOK f) :
    Calls Try.prog 50 #[.agg #[.slice PA pn pc, .map (some gm), .int .i64 now], .agg (optCells o).toArray, .agg (rcpCells r).toArray] w fun e w' => e = .returned (.int .u64 (fitsP ps f now o.id o.l r : Nat)) ∧ Ext w w' := by
  obtain ⟨id, i1, i2, i3, i4, i5, i6, i7, a, n, c, l⟩ := o
  obtain ⟨rsn, rim, rat⟩ := r
  dsimp only at ho hs ⊢
  show Calls Try.prog 50 #[.agg #[.slice PA pn pc, .map (some gm), .int .i64 now], .agg #[.int .i64 id, .int .i64 i1, .int .i64 i2, .int .i64 i3, .int .i64 i4, .int .i64 i5, .int .i64 i6, .int .i64 i7, .slice a n c], .agg #[.int .i64 rsn, .int .i64 rim, .int .i64 rat]] w _
  have hn6 : n ≤ 6 := by have := hs.len; have := ho.len; omega
  have HO := Lib.hid ho
  have HP := Lib.hid hp
  have HM := Lib.hid hm
  have HL := Lib.hid ho.len
  have HPL := Lib.hid hp.len
  have HS := Lib.hid hs
  have HF := Lib.hid hf
  obtain ⟨vr, hvr⟩ : ∃ v, v = fitsP ps f now id l ⟨rsn, rim, rat⟩ := ⟨_, rfl⟩
  rw [← hvr]
  have hpx : fitsP ps f now id l ⟨rsn, rim, rat⟩ = if rim = id then fitsA (fitB ps f now ⟨rsn, rim, rat⟩) 0 0 l else 0 := rfl
  rw [hpx] at hvr
  have HV := Lib.hid hvr
  clear ho hp hm hs hf hvr hpx
  go_enter Try.func50, Try.ntmps50
  go_upto_region 1 with (fail)
  obtain ⟨W1, hW1⟩ : ∃ W, W = ((w.alloc (.cells #[.slice PA pn pc, .map (some gm), .int .i64 now] 104)).alloc (.cells #[.int .i64 id, .int .i64 i1, .int .i64 i2, .int .i64 i3, .int .i64 i4, .int .i64 i5, .int .i64 i6, .int .i64 i7, .slice a n c] 32)).alloc (.cells #[.int .i64 rsn, .int .i64 rim, .int .i64 rat] 63) := ⟨_, rfl⟩
  rw [← hW1]
  obtain ⟨J0, J1, J2, hx1⟩ := al3 w W1 _ _ _ _ _ _ hW1
  clear hW1
  generalize w.heap.size + 1 + 1 = g5 at J2 ⊢
  generalize w.heap.size + 1 = g4 at J1 ⊢
  obtain ⟨g3, hg3⟩ : ∃ g, g = w.heap.size := ⟨_, rfl⟩
  rw [← hg3] at J0 ⊢
  clear hg3
  have d1 : W1.cell? ⟨g5, 1, none⟩ = some (.int .i64 rim) := J2.cell 1
  have e0 : W1.cell? ⟨g4, 0, none⟩ = some (.int .i64 id) := J1.cell 0
  have e8 : W1.cell? ⟨g4, 8, none⟩ = some (.slice a n c) := J1.cell 8
  have HJ0 := Lib.hid J0
  have HJ1 := Lib.hid J1
  have HJ2 := Lib.hid J2
  clear J0 J1 J2
  by_cases him : rim = id
  · have hv := HV.out
    rw [if_pos him] at hv
    have HV0 : Hid (vr = fitsA (fitB ps f now ⟨rsn, rim, rat⟩) 0 0 (l.drop 0)) := Lib.hid hv
    have him1 : (rim == id) = true := by simpa using him
    have him2 : (rim != id) = false := by simpa using him
    clear hv HV
    go_wp2_with fail
    go_loopw [6, 20] (fun y z wr => ∃ (k acc : Nat), k ≤ n ∧ z = .int .i64 k ∧ y = .int .u64 acc ∧ acc < 64 ∧ Hid (vr = fitsA (fitB ps f now ⟨rsn, rim, rat⟩) acc k (l.drop k)) ∧ Ext W1 wr) (fun _ z _ => n - (intOf z).toNat)
    case atStart => exact ⟨0, 0, Nat.zero_le _, rfl, rfl, by omega, HV0, Ext.refl _⟩
    case round =>
      clear HV0 d1 e0 e8
      obtain ⟨k, acc, hk, rfl, rfl, hacc, HV, hy⟩ := hrel
      have hx := Ext.trans hx1 hy
      by_cases hkn : k < n
      · obtain ⟨b, o, hz, hA, _, hc⟩ := (HO.out.below hx).at_ slt_len hkn
        have hst := HV.out
        rw [List.drop_eq_getElem_cons hz, fitsA_cons] at hst
        have hsp := HS.out.pass l[k] (List.getElem_mem hz)
        have hsb := HS.out.bd l[k] (List.getElem_mem hz)
        generalize l[k] = s at hst hc hsp hsb
        obtain ⟨sp, sf, st⟩ := s
        dsimp only at hsp hsb
        have c0 : wr.cell? ⟨b, o + k * 3, none⟩ = some (.int .i64 sp) := hc 0 (by omega)
        have c1 : wr.cell? ⟨b, o + k * 3 + 1, none⟩ = some (.int .i64 sf) := hc 1 (by omega)
        have c2 : wr.cell? ⟨b, o + k * 3 + 2, none⟩ = some (.int .i64 st) := hc 2 (by omega)
        obtain ⟨m, rfl, hm⟩ : ∃ m : Nat, sp = m ∧ m < pn := ⟨sp.toNat, by omega, by rw [HPL.out] at hsp; omega⟩
        subst hA
        have HST := Lib.hid hst
        clear hst hc hz HV hsp
        go_upto_region 6 with (fail)
        have hya : Ext wr (wr.alloc (.cells #[.int .i64 (m : Int), .int .i64 sf, .int .i64 st] 78)) := bl_alloc (Below.refl _ _) _
        have J := Blk.new wr 78 #[.int .i64 (m : Int), .int .i64 sf, .int .i64 st]
        obtain ⟨g8, hg8⟩ : ∃ g, g = wr.heap.size := ⟨_, rfl⟩
        rw [← hg8] at J ⊢
        clear hg8
        generalize wr.alloc (.cells #[.int .i64 (m : Int), .int .i64 sf, .int .i64 st] 78) = W4 at hya J ⊢
        have hy := Ext.trans hy hya
        have hx := Ext.trans hx1 hy
        obtain ⟨bp, op, hzp, hPA, _, hcp⟩ := (HP.out.below hx).at_ pas_len hm
        have hfb : fitB ps f now ⟨rsn, rim, rat⟩ ⟨(m : Int), sf, st⟩ = (decide (st ≤ now) && decide (rsn = ps[m].station) && decide (st - (f ps[m].station).getD 0 ≤ rat) && decide (rat ≤ st + (f ps[m].station).getD 0)) := by
          unfold fitB
          dsimp only
          rw [Int.toNat_natCast, List.getElem?_eq_getElem hzp]
        have hst := HST.out
        rw [hfb] at hst
        generalize ps[m] = pp at hst hcp
        obtain ⟨psa, psn, ⟨pa, pb⟩, ⟨pc1, pd⟩⟩ := pp
        dsimp only at hst
        have h1p : W4.cell? ⟨bp, op + m * 6 + 1, none⟩ = some (.int .i64 psn) := hcp 1 (by omega)
        have hlk : ∀ W, Ext W4 W → (Instr.lookup 95 (.map (some gm)) (.int .i64 psn) false).run Try.prog W = .ok (.int .i64 ((f psn).getD 0)) W := fun W hW => by
          have h := ((HM.out.ext hx).ext hW).look Try.underlying95 Try.underlying3 (zero_int W) psn
          rw [iM_get] at h
          exact h
        have hsk := HF.out.bd psn
        generalize (f psn).getD 0 = sk at hst hlk hsk
        obtain ⟨hsk0, hsk1⟩ := hsk
        obtain ⟨hsb0, hsb1⟩ := hsb
        have hw1 : IntKind.i64.wrap (st - sk) = st - sk := IntWalk.i64_in _ (by omega)
        have hw2 : IntKind.i64.wrap (st + sk) = st + sk := IntWalk.i64_in _ (by omega)
        have hmp : (m : Int) < (pn : Int) := by omega
        have hJ0 := HJ0.out.ext hy
        have hJ2 := HJ2.out.ext hy
        have t0 : W4.cell? ⟨g3, 0, none⟩ = some (.slice PA pn pc) := hJ0.cell 0
        have t1 : W4.cell? ⟨g3, 1, none⟩ = some (.map (some gm)) := hJ0.cell 1
        have t2 : W4.cell? ⟨g3, 2, none⟩ = some (.int .i64 now) := hJ0.cell 2
        have r0 : W4.cell? ⟨g5, 0, none⟩ = some (.int .i64 rsn) := hJ2.cell 0
        have r2 : W4.cell? ⟨g5, 2, none⟩ = some (.int .i64 rat) := hJ2.cell 2
        have s0 : W4.cell? ⟨g8, 0, none⟩ = some (.int .i64 (m : Int)) := J.cell 0
        have s2 : W4.cell? ⟨g8, 2, none⟩ = some (.int .i64 st) := J.cell 2
        have HST2 := Lib.hid hst
        have HLK := Lib.hid hlk
        rw [hPA] at t0
        clear hst hcp hzp HST hfb c0 c1 c2 hya hJ0 hJ2 J hx hlk
        go_upto_region 7 with (fail)
        clear h1p t0 s0 r0 r2
        refine wp_region_obl 18 (fun ix vals v w1 => match ix with | 0 => v = .pointer (some ⟨g8, 1, none⟩) | 1 => v = .pointer (some ⟨g8, 2, none⟩) | 2 => v = .int .i64 st | 3 => v = .pointer (some ⟨g3, 1, none⟩) | 4 => v = .map (some gm) | 5 => v = .int .i64 psn | 6 => v = .int .i64 sk | 7 => v = .int .i64 (st - sk) | 8 => v = .pointer (some ⟨g8, 1, none⟩) | 9 => v = .pointer (some ⟨g8, 2, none⟩) | 10 => v = .int .i64 st | 11 => v = .pointer (some ⟨g3, 1, none⟩) | 12 => v = .map (some gm) | 13 => v = .int .i64 psn | 14 => v = .int .i64 sk | 15 => v = .int .i64 (st + sk) | 16 => v = .int .i64 (st - sk) | _ => v = .int .i64 (st + sk)) (by kernel_rfl) (by kernel_rfl) ?_ ?_ ?_ ?_
        · intro ix vals v w1 w2 hi hr hx
          match ix, hr with
          | 0, hr => exact hr
          | 1, hr => exact hr
          | 2, hr => exact hr
          | 3, hr => exact hr
          | 4, hr => exact hr
          | 5, hr => exact hr
          | 6, hr => exact hr
          | 7, hr => exact hr
          | 8, hr => exact hr
          | 9, hr => exact hr
          | 10, hr => exact hr
          | 11, hr => exact hr
          | 12, hr => exact hr
          | 13, hr => exact hr
          | 14, hr => exact hr
          | 15, hr => exact hr
          | 16, hr => exact hr
          | (kx + 17), hr => exact hr
        · intro ix vals vals_ v w1 hi hv hr
          exact hr
        · refine obls_ofT [some 32, some 33, some 34, some 35, some 36, some 37, some 38, some 39, some 40, some 41, some 42, some 43, some 44, some 45, some 46, some 47, some 10, some 11] [(8, .pointer (some ⟨g8, 0, none⟩)), (3, .pointer (some ⟨g3, 0, none⟩)), (9, .int .i64 psn)] 78 (by kernel_rfl) (by kernel_rfl) ⟨by kernel_rfl, by kernel_rfl, by kernel_rfl, trivial⟩ ?_
          refine ⟨?_, ?_, ?_, ?_, ?_, ?_, ?_, ?_, ?_, ?_, ?_, ?_, ?_, ?_, ?_, ?_, ?_, ?_, trivial⟩
          · intro vals w1 hx hd
            refine .run [(8, .pointer (some ⟨g8, 0, none⟩))] { dst := some 0, op := Go.Op.fieldAddr 78 (Go.Operand.const (.pointer (some ⟨g8, 0, none⟩))) 1, type := 0, pos := "", after := #[], guard := none } 32 ⟨.out (by kernel_rfl) (by kernel_rfl), trivial⟩ (by kernel_rfl) (by kernel_rfl) (by kernel_rfl) rfl rfl rfl ?_
            clear hd
            go_wp2
            exact ⟨rfl, Ext.refl _, rfl⟩
          · intro vals w1 hx hd
            have e0 : vals 0 = .pointer (some ⟨g8, 1, none⟩) := hd 0 (by decide)
            refine .run [(32, .pointer (some ⟨g8, 1, none⟩))] { dst := some 0, op := Go.Op.fieldAddr 29 (Go.Operand.const (.pointer (some ⟨g8, 1, none⟩))) 1, type := 0, pos := "", after := #[], guard := none } 33 ⟨.inn 0 (by kernel_rfl) e0, trivial⟩ (by kernel_rfl) (by kernel_rfl) (by kernel_rfl) rfl rfl rfl ?_
            clear hd e0
            go_wp2
            exact ⟨rfl, Ext.refl _, rfl⟩
          · intro vals w1 hx hd
            have e1 : vals 1 = .pointer (some ⟨g8, 2, none⟩) := hd 1 (by decide)
            refine .run [(33, .pointer (some ⟨g8, 2, none⟩))] { dst := some 0, op := Go.Op.load 3 (Go.Operand.const (.pointer (some ⟨g8, 2, none⟩))), type := 3, pos := "", after := #[], guard := none } 34 ⟨.inn 1 (by kernel_rfl) e1, trivial⟩ (by kernel_rfl) (by kernel_rfl) (by kernel_rfl) rfl rfl rfl ?_
            clear hd e1
            have s2 := ext_cell hx s2
            go_wp2
            exact ⟨rfl, Ext.refl _, rfl⟩
          · intro vals w1 hx hd
            refine .run [(3, .pointer (some ⟨g3, 0, none⟩))] { dst := some 0, op := Go.Op.fieldAddr 104 (Go.Operand.const (.pointer (some ⟨g3, 0, none⟩))) 1, type := 0, pos := "", after := #[], guard := none } 35 ⟨.out (by kernel_rfl) (by kernel_rfl), trivial⟩ (by kernel_rfl) (by kernel_rfl) (by kernel_rfl) rfl rfl rfl ?_
            clear hd
            go_wp2
            exact ⟨rfl, Ext.refl _, rfl⟩
          · intro vals w1 hx hd
            have e3 : vals 3 = .pointer (some ⟨g3, 1, none⟩) := hd 3 (by decide)
            refine .run [(35, .pointer (some ⟨g3, 1, none⟩))] { dst := some 0, op := Go.Op.load 95 (Go.Operand.const (.pointer (some ⟨g3, 1, none⟩))), type := 95, pos := "", after := #[], guard := none } 36 ⟨.inn 3 (by kernel_rfl) e3, trivial⟩ (by kernel_rfl) (by kernel_rfl) (by kernel_rfl) rfl rfl rfl ?_
            clear hd e3
            have t1 := ext_cell hx t1
            go_wp2
            exact ⟨rfl, Ext.refl _, rfl⟩
          · intro vals w1 hx hd
            refine .run [(9, .int .i64 psn)] { dst := some 0, op := Go.Op.move (Go.Operand.const (.int .i64 psn)), type := 3, pos := "", after := #[], guard := none } 37 ⟨.out (by kernel_rfl) (by kernel_rfl), trivial⟩ (by kernel_rfl) (by kernel_rfl) (by kernel_rfl) rfl rfl rfl ?_
            clear hd
            go_wp2
            exact ⟨rfl, Ext.refl _, rfl⟩
          · intro vals w1 hx hd
            have e4 : vals 4 = .map (some gm) := hd 4 (by decide)
            have e5 : vals 5 = .int .i64 psn := hd 5 (by decide)
            refine .run [(36, .map (some gm)), (37, .int .i64 psn)] { dst := some 0, op := Go.Op.lookup 95 (Go.Operand.const (.map (some gm))) (Go.Operand.const (.int .i64 psn)) false, type := 3, pos := "", after := #[], guard := none } 38 ⟨.inn 4 (by kernel_rfl) e4, .inn 5 (by kernel_rfl) e5, trivial⟩ (by kernel_rfl) (by kernel_rfl) (by kernel_rfl) rfl rfl rfl ?_
            clear hd e4 e5
            have hlk := HLK.out _ hx.undrew
            go_wp2
            exact ⟨rfl, Ext.refl _, rfl⟩
          · intro vals w1 hx hd
            have e2 : vals 2 = .int .i64 st := hd 2 (by decide)
            have e6 : vals 6 = .int .i64 sk := hd 6 (by decide)
            refine .run [(34, .int .i64 st), (38, .int .i64 sk)] { dst := some 0, op := Go.Op.binOp Go.BinOp.sub 3 (Go.Operand.const (.int .i64 st)) (Go.Operand.const (.int .i64 sk)) 3, type := 3, pos := "", after := #[], guard := none } 39 ⟨.inn 2 (by kernel_rfl) e2, .inn 6 (by kernel_rfl) e6, trivial⟩ (by kernel_rfl) (by kernel_rfl) (by kernel_rfl) rfl rfl rfl ?_
            clear hd e2 e6
            go_wp2
            exact ⟨rfl, Ext.refl _, rfl⟩
          · intro vals w1 hx hd
            refine .run [(8, .pointer (some ⟨g8, 0, none⟩))] { dst := some 0, op := Go.Op.fieldAddr 78 (Go.Operand.const (.pointer (some ⟨g8, 0, none⟩))) 1, type := 0, pos := "", after := #[], guard := none } 40 ⟨.out (by kernel_rfl) (by kernel_rfl), trivial⟩ (by kernel_rfl) (by kernel_rfl) (by kernel_rfl) rfl rfl rfl ?_
            clear hd
            go_wp2
            exact ⟨rfl, Ext.refl _, rfl⟩
          · intro vals w1 hx hd
            have e8 : vals 8 = .pointer (some ⟨g8, 1, none⟩) := hd 8 (by decide)
            refine .run [(40, .pointer (some ⟨g8, 1, none⟩))] { dst := some 0, op := Go.Op.fieldAddr 29 (Go.Operand.const (.pointer (some ⟨g8, 1, none⟩))) 1, type := 0, pos := "", after := #[], guard := none } 41 ⟨.inn 8 (by kernel_rfl) e8, trivial⟩ (by kernel_rfl) (by kernel_rfl) (by kernel_rfl) rfl rfl rfl ?_
            clear hd e8
            go_wp2
            exact ⟨rfl, Ext.refl _, rfl⟩
          · intro vals w1 hx hd
            have e9 : vals 9 = .pointer (some ⟨g8, 2, none⟩) := hd 9 (by decide)
            refine .run [(41, .pointer (some ⟨g8, 2, none⟩))] { dst := some 0, op := Go.Op.load 3 (Go.Operand.const (.pointer (some ⟨g8, 2, none⟩))), type := 3, pos := "", after := #[], guard := none } 42 ⟨.inn 9 (by kernel_rfl) e9, trivial⟩ (by kernel_rfl) (by kernel_rfl) (by kernel_rfl) rfl rfl rfl ?_
            clear hd e9
            have s2 := ext_cell hx s2
            go_wp2
            exact ⟨rfl, Ext.refl _, rfl⟩
          · intro vals w1 hx hd
            refine .run [(3, .pointer (some ⟨g3, 0, none⟩))] { dst := some 0, op := Go.Op.fieldAddr 104 (Go.Operand.const (.pointer (some ⟨g3, 0, none⟩))) 1, type := 0, pos := "", after := #[], guard := none } 43 ⟨.out (by kernel_rfl) (by kernel_rfl), trivial⟩ (by kernel_rfl) (by kernel_rfl) (by kernel_rfl) rfl rfl rfl ?_
            clear hd
            go_wp2
            exact ⟨rfl, Ext.refl _, rfl⟩
          · intro vals w1 hx hd
            have e11 : vals 11 = .pointer (some ⟨g3, 1, none⟩) := hd 11 (by decide)
            refine .run [(43, .pointer (some ⟨g3, 1, none⟩))] { dst := some 0, op := Go.Op.load 95 (Go.Operand.const (.pointer (some ⟨g3, 1, none⟩))), type := 95, pos := "", after := #[], guard := none } 44 ⟨.inn 11 (by kernel_rfl) e11, trivial⟩ (by kernel_rfl) (by kernel_rfl) (by kernel_rfl) rfl rfl rfl ?_
            clear hd e11
            have t1 := ext_cell hx t1
            go_wp2
            exact ⟨rfl, Ext.refl _, rfl⟩
          · intro vals w1 hx hd
            refine .run [(9, .int .i64 psn)] { dst := some 0, op := Go.Op.move (Go.Operand.const (.int .i64 psn)), type := 3, pos := "", after := #[], guard := none } 45 ⟨.out (by kernel_rfl) (by kernel_rfl), trivial⟩ (by kernel_rfl) (by kernel_rfl) (by kernel_rfl) rfl rfl rfl ?_
            clear hd
            go_wp2
            exact ⟨rfl, Ext.refl _, rfl⟩
          · intro vals w1 hx hd
            have e12 : vals 12 = .map (some gm) := hd 12 (by decide)
            have e13 : vals 13 = .int .i64 psn := hd 13 (by decide)
            refine .run [(44, .map (some gm)), (45, .int .i64 psn)] { dst := some 0, op := Go.Op.lookup 95 (Go.Operand.const (.map (some gm))) (Go.Operand.const (.int .i64 psn)) false, type := 3, pos := "", after := #[], guard := none } 46 ⟨.inn 12 (by kernel_rfl) e12, .inn 13 (by kernel_rfl) e13, trivial⟩ (by kernel_rfl) (by kernel_rfl) (by kernel_rfl) rfl rfl rfl ?_
            clear hd e12 e13
            have hlk := HLK.out _ hx.undrew
            go_wp2
            exact ⟨rfl, Ext.refl _, rfl⟩
          · intro vals w1 hx hd
            have e10 : vals 10 = .int .i64 st := hd 10 (by decide)
            have e14 : vals 14 = .int .i64 sk := hd 14 (by decide)
            refine .run [(42, .int .i64 st), (46, .int .i64 sk)] { dst := some 0, op := Go.Op.binOp Go.BinOp.add 3 (Go.Operand.const (.int .i64 st)) (Go.Operand.const (.int .i64 sk)) 3, type := 3, pos := "", after := #[], guard := none } 47 ⟨.inn 10 (by kernel_rfl) e10, .inn 14 (by kernel_rfl) e14, trivial⟩ (by kernel_rfl) (by kernel_rfl) (by kernel_rfl) rfl rfl rfl ?_
            clear hd e10 e14
            go_wp2
            exact ⟨rfl, Ext.refl _, rfl⟩
          · intro vals w1 hx hd
            have e7 : vals 7 = .int .i64 (st - sk) := hd 7 (by decide)
            refine .run [(39, .int .i64 (st - sk))] { dst := some 0, op := Go.Op.assign (Go.Operand.const (.int .i64 (st - sk))), type := 3, pos := "", after := #[], guard := none } 10 ⟨.inn 7 (by kernel_rfl) e7, trivial⟩ (by kernel_rfl) (by kernel_rfl) (by kernel_rfl) rfl rfl rfl ?_
            clear hd e7
            go_wp2
            exact ⟨rfl, Ext.refl _, rfl⟩
          · intro vals w1 hx hd
            have e15 : vals 15 = .int .i64 (st + sk) := hd 15 (by decide)
            refine .run [(47, .int .i64 (st + sk))] { dst := some 0, op := Go.Op.assign (Go.Operand.const (.int .i64 (st + sk))), type := 3, pos := "", after := #[], guard := none } 11 ⟨.inn 15 (by kernel_rfl) e15, trivial⟩ (by kernel_rfl) (by kernel_rfl) (by kernel_rfl) rfl rfl rfl ?_
            clear hd e15
            go_wp2
            exact ⟨rfl, Ext.refl _, rfl⟩
        intro vals W5 hz hf
        have v16 : vals 16 = .int .i64 (st - sk) := hf 16 (by omega)
        have v17 : vals 17 = .int .i64 (st + sk) := hf 17 (by omega)
        have hz := hz.undrew
        clear hf
        refine tail0 (by kernel_rfl) ?_
        simp only [Lf, dstAt, Act.put, List.getElem?_toArray, List.getElem?_cons_zero, List.getElem?_cons_succ, Option.bind_some, List.setIfInBounds_toArray, List.set_cons_zero, List.set_cons_succ]
        rw [v16, v17]
        clear v16 v17
        have hy5 := Ext.trans hy hz
        have hJ0 := HJ0.out.ext hy5
        have hJ2 := HJ2.out.ext hy5
        have t2 := ext_cell hz t2
        have s2 := ext_cell hz s2
        have r0 : W5.cell? ⟨g5, 0, none⟩ = some (.int .i64 rsn) := hJ2.cell 0
        have r2 : W5.cell? ⟨g5, 2, none⟩ = some (.int .i64 rat) := hJ2.cell 2
        clear t1 hJ0 hJ2 HLK hy hz
        by_cases q1 : st ≤ now
        · by_cases q2 : rsn = psn
          · have q2b : (rsn == psn) = true := by simpa using q2
            by_cases q3 : st - sk ≤ rat
            · by_cases q4 : rat ≤ st + sk
              · have HN : Hid (vr = fitsA (fitB ps f now ⟨rsn, rim, rat⟩) (acc ||| 2 ^ k) (k + 1) (l.drop (k + 1))) := Lib.hid (by rw [HST2.out]; simp [q1, q2, q3, q4])
                have hk6 : k < 6 := by omega
                have hor := or_u64 ⟨acc, hacc⟩ ⟨2 ^ k, Nat.lt_of_lt_of_le (Nat.pow_lt_pow_right (by decide) hk6) (by decide : 2 ^ 6 ≤ 64)⟩
                have hlt := or_lt acc k hacc hk6
                dsimp only at hor
                rw [show ((2 ^ k : Nat) : Int) = (2 : Int) ^ k by simp] at hor
                have hp1 : (1 : Int) ≤ (2 : Int) ^ k := by
                  have : 1 ≤ 2 ^ k := Nat.one_le_two_pow
                  have h2 : ((2 : Int) ^ k) = ((2 ^ k : Nat) : Int) := by simp
                  omega
                have hp2 : (2 : Int) ^ k ≤ 64 := by
                  have : 2 ^ k < 2 ^ 6 := Nat.pow_lt_pow_right (by decide) hk6
                  have h2 : ((2 : Int) ^ k) = ((2 ^ k : Nat) : Int) := by simp
                  omega
                generalize acc ||| 2 ^ k = acc2 at HN hor hlt
                clear HST2
                go_wp2_with fail
                go_roundw
                case rel => exact ⟨k + 1, acc2, by omega, by go_num, rfl, hlt, HN, hy5⟩
                case measure => simp [intOf]; omega
              · have HN : Hid (vr = fitsA (fitB ps f now ⟨rsn, rim, rat⟩) acc (k + 1) (l.drop (k + 1))) := Lib.hid (by rw [HST2.out]; simp [q4])
                clear HST2
                go_wp2_with fail
                go_roundw
                case rel => exact ⟨k + 1, acc, by omega, by go_num, rfl, hacc, HN, hy5⟩
                case measure => simp [intOf]; omega
            · have HN : Hid (vr = fitsA (fitB ps f now ⟨rsn, rim, rat⟩) acc (k + 1) (l.drop (k + 1))) := Lib.hid (by rw [HST2.out]; simp [q3])
              clear HST2
              go_wp2_with fail
              go_roundw
              case rel => exact ⟨k + 1, acc, by omega, by go_num, rfl, hacc, HN, hy5⟩
              case measure => simp [intOf]; omega
          · have q2b : (rsn == psn) = false := by simpa using q2
            have HN : Hid (vr = fitsA (fitB ps f now ⟨rsn, rim, rat⟩) acc (k + 1) (l.drop (k + 1))) := Lib.hid (by rw [HST2.out]; simp [q2])
            clear HST2
            go_wp2_with fail
            go_roundw
            case rel => exact ⟨k + 1, acc, by omega, by go_num, rfl, hacc, HN, hy5⟩
            case measure => simp [intOf]; omega
        · have HN : Hid (vr = fitsA (fitB ps f now ⟨rsn, rim, rat⟩) acc (k + 1) (l.drop (k + 1))) := Lib.hid (by rw [HST2.out]; simp [q1])
          clear HST2
          go_wp2_with fail
          go_roundw
          case rel => exact ⟨k + 1, acc, by omega, by go_num, rfl, hacc, HN, hy5⟩
          case measure => simp [intOf]; omega
      · have hst := HV.out
        rw [List.drop_of_length_le (by rw [HL.out]; omega), fitsA] at hst
        subst hst
        have hxf := Ext.trans hx1 hy
        go_wp2_with fail
        go_ret
        exact ⟨rfl, hxf⟩
  · have hv := HV.out
    rw [if_neg him] at hv
    subst hv
    have him1 : (rim == id) = false := by simpa using him
    have him2 : (rim != id) = true := by simpa using him
    go_wp2_with fail
    go_ret
    exact ⟨rfl, hx1⟩
end Go.Proofs.Ytmlabgmigakcbaa
