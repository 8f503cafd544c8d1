/- ContactPlain: the walk (printed by contact_e8.py). -/
import Derived.Test.YtlmpmhfbjblhnaaD1
import Derived.Test.YtlmpmhfbjblhnaaP3
import Derived.Test.YtlmpmhfbjblhnaaTn2
namespace Go.Proofs.Ytlmpmhfbjblhnaa
open Go.RowKit

def orbC (o : Orb) : List Value := [.int .i64 o.period, .int .i64 o.phase, .int .i64 o.low, .int .i64 o.high, .int .i64 o.node, .int .i64 o.turn, .int .i64 o.slack]
theorem stn_one8 (x : Stn) : (stnCells x).toArray.all (·.oneCell') = true := by simp [stnCells, Value.oneCell']
set_option maxRecDepth 100000 in
set_option maxHeartbeats 16000000 in
theorem plain_walk (x0 x1 x2 x3 x4 x5 x6 z0 z1 z2 z3 fr0 lg0 : Int) (w : World) (bx0 : I64ok x0) (bx1 : I64ok x1) (bx2 : I64ok x2) (bx3 : I64ok x3) (bx4 : I64ok x4) (bx5 : I64ok x5) (bx6 : I64ok x6) (bz0 : I64ok z0) (bz1 : I64ok z1) (bz2 : I64ok z2) (bz3 : I64ok z3) (bf : I64ok fr0) (bl : I64ok lg0) :
    Calls Try.prog 7 #[.agg #[.int .i64 x0, .int .i64 x1, .int .i64 x2, .int .i64 x3, .int .i64 x4, .int .i64 x5, .int .i64 x6], .agg #[.int .i64 z0, .int .i64 z1, .int .i64 z2, .int .i64 z3], .int .i64 fr0, .int .i64 lg0] w (Tru w) := by
  have hsat := fun w => sat_any 1 x0 x1 x2 x3 x4 x5 x6 0 0 0 0 w ⟨by omega, by omega⟩ bx0 bx1 bx2 bx3 bx4 bx5 bx6 ⟨by omega, by omega⟩ ⟨by omega, by omega⟩ ⟨by omega, by omega⟩ ⟨by omega, by omega⟩
  have hstn := fun w => station_any 2 z0 z1 z2 z3 w ⟨by omega, by omega⟩ bz0 bz1 bz2 bz3
  obtain ⟨s, hs⟩ : ∃ s, s = satP 1 x0 x1 x2 x3 x4 x5 x6 0 0 0 0 := ⟨_, rfl⟩
  have hso : satOK s = true := by rw [hs]; exact satP_ok 1 x0 x1 x2 x3 x4 x5 x6 0 0 0 0
  rw [← hs] at hsat
  clear hs
  obtain ⟨st, hst⟩ : ∃ st, st = stnP 2 z0 z1 z2 z3 := ⟨_, rfl⟩
  have hok : stnOK st = true := by rw [hst]; exact stnP_ok 2 z0 z1 z2 z3
  rw [← hst] at hstn
  clear hst
  obtain ⟨SX, hSX⟩ : ∃ X, (satCells s).toArray = X := ⟨_, rfl⟩
  have HO1 : Hid (SX.all (·.oneCell') = true) := Lib.hid (by rw [← hSX]; exact sat_one _)
  have HZ1 : Hid (SX.size = 21) := Lib.hid (by rw [← hSX]; rfl)
  have HC8 : Hid (SX[8]? = some (.int .i64 s.orbit.slack)) := Lib.hid (by rw [← hSX]; rfl)
  obtain ⟨TX, hTX⟩ : ∃ X, (stnCells st).toArray = X := ⟨_, rfl⟩
  have HO2 : Hid (TX.all (·.oneCell') = true) := Lib.hid (by rw [← hTX]; exact stn_one8 _)
  have HZ2 : Hid (TX.size = 6) := Lib.hid (by rw [← hTX]; rfl)
  rw [hSX] at hsat
  rw [hTX] at hstn
  have HSAT := Lib.hid hsat
  have HSTN := Lib.hid hstn
  obtain ⟨v, hv⟩ : ∃ v, v = noSlack s := ⟨_, rfl⟩
  have hvo : satOK v = true := by rw [hv]; exact noSlack_ok hso
  have hvs : v.orbit.slack = 0 := by rw [hv]; rfl
  obtain ⟨NX, hNX⟩ : ∃ X, (satCells v).toArray = X := ⟨_, rfl⟩
  have HN : Hid (SX.setIfInBounds 8 (.int .i64 0) = NX) := Lib.hid (by rw [← hSX, ← hNX, hv]; exact noSlack_cells s)
  have HZ3 : Hid (NX.size = 21) := Lib.hid (by rw [← hNX]; rfl)
  have HNX := Lib.hid hNX
  have HTX := Lib.hid hTX
  have HVO := Lib.hid hvo
  have HVS := Lib.hid hvs
  have HOK := Lib.hid hok
  clear hsat hstn hSX hTX hv hvo hvs hNX hok hso
  obtain ⟨OX, hOX⟩ : ∃ X, (orbC v.orbit).toArray = X := ⟨_, rfl⟩
  have HOXS : Hid (OX.size = 7) := Lib.hid (by rw [← hOX]; rfl)
  have HOX := Lib.hid hOX
  clear hOX
  have P1 := fun w => lpick_any fr0 999500 w bf.1 bf.2 (by omega) (by omega)
  have q1 := pickI_bd fr0 999500 (by omega)
  generalize pickI fr0 999500 = k1 at P1 q1
  obtain ⟨q1a, q1b⟩ := q1
  have HP1 := Lib.hid P1
  clear P1
  have P2 := fun w => lpick_any lg0 400 w bl.1 bl.2 (by omega) (by omega)
  have q2 := pickI_bd lg0 400 (by omega)
  generalize pickI lg0 400 = k2 at P2 q2
  obtain ⟨q2a, q2b⟩ := q2
  have HP2 := Lib.hid P2
  clear P2
  obtain ⟨a, ha⟩ : ∃ a, a = k1 := ⟨_, rfl⟩
  subst ha
  obtain ⟨b, hb⟩ : ∃ b, b = a + 1 + k2 := ⟨_, rfl⟩
  have ab1 : a < b := by omega
  have ab2 : b ≤ a + 400 := by omega
  have HBB := Lib.hid hb
  clear hb
  obtain ⟨C, hC⟩ : ∃ C, C = spellsP (fun t => viewP v.orbit st t 0 == some true) a (b - a).toNat := ⟨_, rfl⟩
  have hvo := HVO.out
  have hor : orbOK v.orbit = true := by simp only [satOK, Bool.and_eq_true] at hvo; exact hvo.1.1.1.1.1.1.1.1.1.1.1.1.1.1
  have hspan : spanOK ⟨a, b⟩ = true := by simp [spanOK]; omega
  have hpp : pairP v ⟨a, b⟩ st = C.map fun x => ⟨v.id, st.id, x, x⟩ := by rw [hC]; exact pair_plain hor HOK.out HVS.out ⟨q1a, ab1, by show b ≤ 1000001; omega⟩
  obtain ⟨nC, hnC⟩ : ∃ n, n = C.length := ⟨_, rfl⟩
  have hbC : nC ≤ 400 := by have := spells_le (fun t => viewP v.orbit st t 0 == some true) (b - a).toNat a; rw [← hC] at this; omega
  obtain ⟨PL, hPL⟩ : ∃ l, l = C.map (fun x => (⟨v.id, st.id, x, x⟩ : Pas)) := ⟨_, rfl⟩
  have hPn : PL.length = nC := by rw [hPL, hnC]; simp
  have hPat : ∀ (k : Nat) (h : k < PL.length) (h2 : k < C.length), PL[k] = ⟨v.id, st.id, C[k], C[k]⟩ := fun k h h2 => by simp [hPL]
  have HPS : Hid (∀ (w : World) (g1 g2 : Nat), Blk w g1 27 NX → Blk w g2 31 TX → Calls Try.prog 31 #[.slice (some ⟨g1, 0, none⟩) 1 1, .slice (some ⟨g2, 0, none⟩) 1 1, .agg #[.int .i64 a, .int .i64 b]] w (PassesRet (if nC ≤ 64 then some PL else none) w)) := Lib.hid (fun w g1 g2 K1 K2 => by
    have h := Passes_all [v] [st] (some ⟨g1, 0, none⟩) (some ⟨g2, 0, none⟩) 1 1 1 1 a b w (RA.one rfl (by rw [HNX.out]; exact K1)) (RA.one rfl (by rw [HTX.out]; exact K2))
    rw [passes_one HVO.out HOK.out hspan (by rw [HVS.out]; exact Int.le_refl 0) ⟨q1a, ab1⟩, hpp, ← hPL, hPn] at h
    exact h)
  have HCT : Hid (∀ w, Calls Try.prog 28 #[.agg OX, .agg TX, .agg #[.int .i64 a, .int .i64 b], .int .i64 0] w (SpellsRet (some C) w)) := Lib.hid (fun w => by
    have hc : contactsP v.orbit st ⟨a, b⟩ 0 = some C := by
      unfold contactsP
      rw [hor, HOK.out, hspan, show inB 0 (-v.orbit.slack) v.orbit.slack = true by rw [HVS.out]; rfl, hC]
      rfl
    rw [← HOX.out, ← HTX.out, ← hc]
    generalize v.orbit = o
    obtain ⟨p, f, lo, hi, no, tu, sl⟩ := o
    obtain ⟨id, ⟨x, y⟩, re, an, sk⟩ := st
    exact callsIn_wide.1 (Contacts_in p f lo hi no tu sl id x y re an sk a b 0 w))
  have HNC := Lib.hid hnC
  have HPN := Lib.hid hPn
  have HPAT := Lib.hid hPat
  clear hC hvo hor hspan hpp hnC hPL hPn hPat
  go_enter Try.func7, Try.ntmps7
  go_wp2_with fail
  obtain ⟨g5, hg5⟩ : ∃ g, g = w.heap.size := ⟨_, rfl⟩
  obtain ⟨g6, hg6⟩ : ∃ g, g = w.heap.size + 1 := ⟨_, rfl⟩
  have J5 : Blk ((w.alloc (.cells #[.int .i64 x0, .int .i64 x1, .int .i64 x2, .int .i64 x3, .int .i64 x4, .int .i64 x5, .int .i64 x6] 65)).alloc (.cells #[.int .i64 z0, .int .i64 z1, .int .i64 z2, .int .i64 z3] 66)) g5 65 #[.int .i64 x0, .int .i64 x1, .int .i64 x2, .int .i64 x3, .int .i64 x4, .int .i64 x5, .int .i64 x6] := (Blk.new_at _ _ _ hg5.symm).alloc _
  have J6 : Blk ((w.alloc (.cells #[.int .i64 x0, .int .i64 x1, .int .i64 x2, .int .i64 x3, .int .i64 x4, .int .i64 x5, .int .i64 x6] 65)).alloc (.cells #[.int .i64 z0, .int .i64 z1, .int .i64 z2, .int .i64 z3] 66)) g6 66 #[.int .i64 z0, .int .i64 z1, .int .i64 z2, .int .i64 z3] := Blk.new_at _ _ _ (by simp [hg6])
  have hB : Ext w ((w.alloc (.cells #[.int .i64 x0, .int .i64 x1, .int .i64 x2, .int .i64 x3, .int .i64 x4, .int .i64 x5, .int .i64 x6] 65)).alloc (.cells #[.int .i64 z0, .int .i64 z1, .int .i64 z2, .int .i64 z3] 66)) := bl_alloc (bl_alloc (Below.refl _ _) _) _
  rw [← hg6, ← hg5]
  generalize (w.alloc (.cells #[.int .i64 x0, .int .i64 x1, .int .i64 x2, .int .i64 x3, .int .i64 x4, .int .i64 x5, .int .i64 x6] 65)).alloc (.cells #[.int .i64 z0, .int .i64 z1, .int .i64 z2, .int .i64 z3] 66) = W0 at J5 J6 hB ⊢
  clear hg5 hg6
  refine (sane_any _).mono ?_
  rintro e W1 ⟨rfl, hx⟩
  have J5 := J5.ext hx
  have J6 := J6.ext hx
  have hB := Ext.trans hB hx
  clear hx
  have k0_ : W1.cell? ⟨g5, 0, none⟩ = some (.int .i64 x0) := J5.cell 0
  have k1_ : W1.cell? ⟨g5, 1, none⟩ = some (.int .i64 x1) := J5.cell 1
  have k2_ : W1.cell? ⟨g5, 2, none⟩ = some (.int .i64 x2) := J5.cell 2
  have k3_ : W1.cell? ⟨g5, 3, none⟩ = some (.int .i64 x3) := J5.cell 3
  have k4_ : W1.cell? ⟨g5, 4, none⟩ = some (.int .i64 x4) := J5.cell 4
  have k5_ : W1.cell? ⟨g5, 5, none⟩ = some (.int .i64 x5) := J5.cell 5
  have k6_ : W1.cell? ⟨g5, 6, none⟩ = some (.int .i64 x6) := J5.cell 6
  go_wp2_with fail
  refine (HSAT.out _).mono ?_
  rintro e W2 ⟨rfl, hx⟩
  clear k0_ k1_ k2_ k3_ k4_ k5_ k6_ J5
  have J6 := J6.ext hx
  have hB := Ext.trans hB hx
  clear hx
  go_upto_region 4 with (refine wpList_store_new rfl 27 _ _ rfl _ SX rfl rfl (by rw [HZ1.out]; exact sat_size) (by rw [HZ1.out]; rfl) HO1.out ?_)
  have J9 : Blk (W2.alloc (.cells SX 27)) W2.heap.size 27 SX := Blk.new _ _ _
  have hx : Ext W2 (W2.alloc (.cells SX 27)) := bl_alloc (Below.refl _ _) _
  obtain ⟨g9, hg⟩ : ∃ g, g = W2.heap.size := ⟨_, rfl⟩
  have n1 : g6 ≠ g9 := by have := J6.lt; omega
  have n3 : w.heap.size ≤ g9 := by have := hB.size; omega
  rw [← hg] at J9 ⊢
  generalize W2.alloc (.cells SX 27) = W3 at J9 hx ⊢
  have J6 := J6.ext hx
  have hB := Ext.trans hB hx
  clear hx hg
  have t1 : W3.cell? ⟨g9, 8, none⟩ = some (.int .i64 s.orbit.slack) := (J9.cell 8).trans HC8.out
  have t2 : W3.frozen? ⟨g9, 8, none⟩ = false := J9.frozen 8
  go_upto_region 5 with (fail)
  clear t1 t2
  have J6 := J6.far (p := ⟨g9, 8, none⟩) n1 (.int .i64 0)
  have J9 := J9.set_ 8 (.int .i64 0)
  rw [HN.out] at J9
  have hB := hB.setCell (p := ⟨g9, 8, none⟩) n3 (.int .i64 0)
  generalize W3.setCell ⟨g9, 8, none⟩ (.int .i64 0) = W4 at J6 J9 hB ⊢
  clear n1 n3
  have k0_ : W4.cell? ⟨g6, 0, none⟩ = some (.int .i64 z0) := J6.cell 0
  have k1_ : W4.cell? ⟨g6, 1, none⟩ = some (.int .i64 z1) := J6.cell 1
  have k2_ : W4.cell? ⟨g6, 2, none⟩ = some (.int .i64 z2) := J6.cell 2
  have k3_ : W4.cell? ⟨g6, 3, none⟩ = some (.int .i64 z3) := J6.cell 3
  go_wp2_with fail
  refine (HSTN.out _).mono ?_
  rintro e W5 ⟨rfl, hx⟩
  clear k0_ k1_ k2_ k3_ J6
  have J9 := J9.ext hx
  have hB := Ext.trans hB hx
  clear hx
  go_upto_region 6 with (refine wpList_store_new rfl 31 _ _ rfl _ TX rfl rfl (by rw [HZ2.out]; exact stn_size_) (by rw [HZ2.out]; rfl) HO2.out ?_)
  have J10 : Blk (W5.alloc (.cells TX 31)) W5.heap.size 31 TX := Blk.new _ _ _
  have hx : Ext W5 (W5.alloc (.cells TX 31)) := bl_alloc (Below.refl _ _) _
  obtain ⟨g10, hg⟩ : ∃ g, g = W5.heap.size := ⟨_, rfl⟩
  rw [← hg] at J10 ⊢
  generalize W5.alloc (.cells TX 31) = W6 at J10 hx ⊢
  have J9 := J9.ext hx
  have hB := Ext.trans hB hx
  clear hx hg
  go_wp2_with fail
  refine (HP1.out _).mono ?_
  rintro e w2 ⟨rfl, rfl⟩
  go_upto_region 7 with (fail)
  have J11 : Blk (W6.alloc (.cells #[.int .i64 a, .int .i64 0] 34)) W6.heap.size 34 #[.int .i64 a, .int .i64 0] := Blk.new _ _ _
  have hx : Ext W6 (W6.alloc (.cells #[.int .i64 a, .int .i64 0] 34)) := bl_alloc (Below.refl _ _) _
  obtain ⟨g11, hg⟩ : ∃ g, g = W6.heap.size := ⟨_, rfl⟩
  have n1 : g9 ≠ g11 := by have := J9.lt; omega
  have n2 : g10 ≠ g11 := by have := J10.lt; omega
  have n3 : w.heap.size ≤ g11 := by have := hB.size; omega
  rw [← hg] at J11 ⊢
  generalize W6.alloc (.cells #[.int .i64 a, .int .i64 0] 34) = W7 at J11 hx ⊢
  have J9 := J9.ext hx
  have J10 := J10.ext hx
  have hB := Ext.trans hB hx
  clear hx hg
  have t0 : W7.cell? ⟨g11, 0, none⟩ = some (.int .i64 a) := J11.cell 0
  have w1_ : IntKind.i64.wrap (a + 1) = a + 1 := IntWalk.i64_in _ (by omega)
  have w2_ : IntKind.i64.wrap (a + 1 + k2) = b := by rw [HBB.out]; exact IntWalk.i64_in _ (by omega)
  refine wp_region_obl 7 (fun ix vals v w1 => match ix with | 0 => v = .pointer (some ⟨g11, 0, none⟩) | 1 => v = .int .i64 a | 2 => v = .int .i64 (a + 1) | 3 => v = .int .i64 lg0 | 4 => v = .int .i64 k2 | 5 => v = .int .i64 b | _ => v = .pointer (some ⟨g11, 1, none⟩)) (by kernel_rfl) (by kernel_rfl) ?_ ?_ ?_ ?_
  · intro ix vals v w1 w2 hi hr hx
    match ix, hr with
    | 0, hr => exact hr
    | 1, hr => exact hr
    | 2, hr => exact hr
    | 3, hr => exact hr
    | 4, hr => exact hr
    | 5, hr => exact hr
    | (kx + 6), hr => exact hr
  · intro ix vals vals_ v w1 hi hv hr
    exact hr
  · refine obls_ofT [some 29, some 30, some 31, some 32, some 33, some 34, some 35, none] [(11, .pointer (some ⟨g11, 0, none⟩)), (3, .int .i64 lg0)] 97 (by kernel_rfl) (by kernel_rfl) ⟨by kernel_rfl, by kernel_rfl, trivial⟩ ?_
    refine ⟨?_, ?_, ?_, ?_, ?_, ?_, ?_, trivial⟩
    · intro vals w1 hx hd
      refine .run [(11, .pointer (some ⟨g11, 0, none⟩))] { dst := some 0, op := Go.Op.fieldAddr 34 (Go.Operand.const (.pointer (some ⟨g11, 0, none⟩))) 0, type := 0, pos := "", after := #[], guard := none } 29 ⟨.out (by kernel_rfl) (by kernel_rfl), trivial⟩ (by kernel_rfl) (by kernel_rfl) (by kernel_rfl) rfl rfl rfl ?_
      clear hd
      go_wp2
      exact ⟨rfl, Ext.refl _, rfl⟩
    · intro vals w1 hx hd
      have e0 : vals 0 = .pointer (some ⟨g11, 0, none⟩) := hd 0 (by decide)
      refine .run [(29, .pointer (some ⟨g11, 0, none⟩))] { dst := some 0, op := Go.Op.load 3 (Go.Operand.const (.pointer (some ⟨g11, 0, none⟩))), type := 3, pos := "", after := #[], guard := none } 30 ⟨.inn 0 (by kernel_rfl) e0, trivial⟩ (by kernel_rfl) (by kernel_rfl) (by kernel_rfl) rfl rfl rfl ?_
      clear hd e0
      have t0 := ext_cell hx t0
      go_wp2
      exact ⟨rfl, Ext.refl _, rfl⟩
    · intro vals w1 hx hd
      have e1 : vals 1 = .int .i64 a := hd 1 (by decide)
      refine .run [(30, .int .i64 a)] { dst := some 0, op := Go.Op.binOp Go.BinOp.add 3 (Go.Operand.const (.int .i64 a)) (Go.Operand.const (Go.Value.int Go.IntKind.i64 1)) 3, type := 3, pos := "", after := #[], guard := none } 31 ⟨.inn 1 (by kernel_rfl) e1, trivial⟩ (by kernel_rfl) (by kernel_rfl) (by kernel_rfl) rfl rfl rfl ?_
      clear hd e1
      go_wp2
      exact ⟨rfl, Ext.refl _, rfl⟩
    · intro vals w1 hx hd
      refine .run [(3, .int .i64 lg0)] { dst := some 0, op := Go.Op.move (Go.Operand.const (.int .i64 lg0)), type := 3, pos := "", after := #[], guard := none } 32 ⟨.out (by kernel_rfl) (by kernel_rfl), trivial⟩ (by kernel_rfl) (by kernel_rfl) (by kernel_rfl) rfl rfl rfl ?_
      clear hd
      go_wp2
      exact ⟨rfl, Ext.refl _, rfl⟩
    · intro vals w1 hx hd
      have e3 : vals 3 = .int .i64 lg0 := hd 3 (by decide)
      refine .run [(32, .int .i64 lg0)] { dst := some 0, op := Go.Op.call { callee := Go.Callee.value (Go.Operand.func 13), args := #[(Go.Operand.const (.int .i64 lg0)), Go.Operand.const (Go.Value.int Go.IntKind.i64 400)], argTypes := #[3, 3] }, type := 3, pos := "", after := #[], guard := none } 33 ⟨.inn 3 (by kernel_rfl) e3, trivial⟩ (by kernel_rfl) (by kernel_rfl) (by kernel_rfl) rfl rfl rfl ?_
      clear hd e3
      go_wp2_with fail
      refine (HP2.out _).mono ?_
      rintro e w2 ⟨rfl, rfl⟩
      go_wp2
      exact ⟨rfl, Ext.refl _, rfl⟩
    · intro vals w1 hx hd
      have e2 : vals 2 = .int .i64 (a + 1) := hd 2 (by decide)
      have e4 : vals 4 = .int .i64 k2 := hd 4 (by decide)
      refine .run [(31, .int .i64 (a + 1)), (33, .int .i64 k2)] { dst := some 0, op := Go.Op.binOp Go.BinOp.add 3 (Go.Operand.const (.int .i64 (a + 1))) (Go.Operand.const (.int .i64 k2)) 3, type := 3, pos := "", after := #[], guard := none } 34 ⟨.inn 2 (by kernel_rfl) e2, .inn 4 (by kernel_rfl) e4, trivial⟩ (by kernel_rfl) (by kernel_rfl) (by kernel_rfl) rfl rfl rfl ?_
      clear hd e2 e4
      go_wp2
      exact ⟨rfl, Ext.refl _, rfl⟩
    · intro vals w1 hx hd
      refine .run [(11, .pointer (some ⟨g11, 0, none⟩))] { dst := some 0, op := Go.Op.fieldAddr 34 (Go.Operand.const (.pointer (some ⟨g11, 0, none⟩))) 1, type := 0, pos := "", after := #[], guard := none } 35 ⟨.out (by kernel_rfl) (by kernel_rfl), trivial⟩ (by kernel_rfl) (by kernel_rfl) (by kernel_rfl) rfl rfl rfl ?_
      clear hd
      go_wp2
      exact ⟨rfl, Ext.refl _, rfl⟩
  intro vals W8 hx hf
  have e5 : vals 5 = .int .i64 b := hf 5 (by omega)
  have e6 : vals 6 = .pointer (some ⟨g11, 1, none⟩) := hf 6 (by omega)
  clear hf t0 w1_ w2_
  have hx := hx.undrew
  have J9 := J9.ext hx
  have J10 := J10.ext hx
  have J11 := J11.ext hx
  have hB := Ext.trans hB hx
  clear hx
  refine tail1 7 _ (by kernel_rfl) (by kernel_rfl) rfl ?_
  simp only [Lf, dstAt, Act.put, List.getElem?_toArray, List.getElem?_cons_zero, List.getElem?_cons_succ, Option.bind_some, List.setIfInBounds_toArray, List.set_cons_zero, List.set_cons_succ]
  rw [e5, e6]
  clear e5 e6
  have t1 : W8.cell? ⟨g11, 1, none⟩ = some (.int .i64 0) := J11.cell 1
  have t2 : W8.frozen? ⟨g11, 1, none⟩ = false := J11.frozen 1
  go_upto_region 8 with (fail)
  clear t1 t2
  have J9 := J9.far (p := ⟨g11, 1, none⟩) n1 (.int .i64 b)
  have J10 := J10.far (p := ⟨g11, 1, none⟩) n2 (.int .i64 b)
  have J11 := J11.set_ 1 (.int .i64 b)
  have hB := hB.setCell (p := ⟨g11, 1, none⟩) n3 (.int .i64 b)
  simp only [List.setIfInBounds_toArray, List.set_cons_zero, List.set_cons_succ] at J11
  generalize W8.setCell ⟨g11, 1, none⟩ (.int .i64 b) = W9 at J9 J10 J11 hB ⊢
  clear n1 n2 n3
  have p0 : ((W9.alloc (.cells NX 27)).alloc (.cells TX 31)).cell? ⟨g11, 0, none⟩ = some (.int .i64 a) := ((J11.alloc _).alloc _).cell 0
  have p1 : ((W9.alloc (.cells NX 27)).alloc (.cells TX 31)).cell? ⟨g11, 1, none⟩ = some (.int .i64 b) := ((J11.alloc _).alloc _).cell 1
  have J10a := J10.alloc (.cells NX 27)
  go_wp2_with (first | (refine wpList_load_st rfl 27 _ rfl g9 0 rfl NX NX.toList (by simp) _ (Blk.range J9 _ rfl) Try.underlying27 rfl (by rw [Array.length_toList, HZ3.out]; exact sat_size) ?_) | (refine wpList_buildOne rfl 36 27 _ rfl NX rfl Try.underlying36 21 info_sat2 HZ3.out (by omega) (by omega) ?_) | (refine wpList_load_st rfl 31 _ rfl g10 0 rfl TX TX.toList (by simp) _ (Blk.range J10a _ rfl) Try.underlying31 rfl (by rw [Array.length_toList, HZ2.out]; exact stn_size_) ?_) | (refine wpList_buildOne rfl 38 31 _ rfl TX rfl Try.underlying38 6 info_stn2 HZ2.out (by omega) (by omega) ?_))
  have JA : Blk ((W9.alloc (.cells NX 27)).alloc (.cells TX 31)) W9.heap.size 27 NX := (Blk.new _ _ _).alloc _
  have JB : Blk ((W9.alloc (.cells NX 27)).alloc (.cells TX 31)) (W9.heap.size + 1) 31 TX := Blk.new_at _ _ _ (by simp)
  have hx0 : Ext W9 ((W9.alloc (.cells NX 27)).alloc (.cells TX 31)) := bl_alloc (bl_alloc (Below.refl _ _) _) _
  have hps := HPS.out _ _ _ JA JB
  clear HPS JA JB J10a p0 p1
  by_cases h64 : nC ≤ 64
  · rw [if_pos h64] at hps
    refine hps.mono ?_
    rintro e W10 ⟨vp, rfl, hownp, hx⟩
    clear hps
    have hx := Ext.trans hx0 hx
    have J9 := J9.ext hx
    have J10 := J10.ext hx
    have J11 := J11.ext hx
    have hB := Ext.trans hB hx
    clear hx hx0
    rw [HPN.out] at hownp
    obtain ⟨AP, cP, hvp, _, _⟩ := own_slice hownp
    subst hvp
    have RP := RA.of_own (cells := pasCells) hownp HPN.out (by omega)
    clear hownp
    have hr9 : W10.rangeAt g9 2 OX.toList := fun j u hu => by
      have h0 := Blk.range J9 NX.toList rfl
      refine h0 (2 + j) u ?_ |> fun h => by rw [Nat.zero_add] at h; exact h
      rw [← HNX.out]
      rw [← HOX.out] at hu
      match j, hu with
      | 0, hu => exact hu
      | 1, hu => exact hu
      | 2, hu => exact hu
      | 3, hu => exact hu
      | 4, hu => exact hu
      | 5, hu => exact hu
      | 6, hu => exact hu
      | j + 7, hu => simp [orbC] at hu
    have p0 : W10.cell? ⟨g11, 0, none⟩ = some (.int .i64 a) := J11.cell 0
    have p1 : W10.cell? ⟨g11, 1, none⟩ = some (.int .i64 b) := J11.cell 1
    go_wp2_with (first | (refine wpList_load_st rfl 25 _ rfl g9 2 rfl OX OX.toList (by simp) _ hr9 Try.underlying25 rfl (by rw [Array.length_toList, HOXS.out]; exact orb_size) ?_) | (refine wpList_load_st rfl 31 _ rfl g10 0 rfl TX TX.toList (by simp) _ (Blk.range J10 _ rfl) Try.underlying31 rfl (by rw [Array.length_toList, HZ2.out]; exact stn_size_) ?_))
    refine (HCT.out _).mono ?_
    rintro e W11 ⟨vc, rfl, hownc, hx⟩
    clear p0 p1 hr9
    have hB := Ext.trans hB hx
    rw [← HNC.out] at hownc
    obtain ⟨AC, cC, hvc, _, _⟩ := own_slice hownc
    subst hvc
    have RC := RA.of_own (cells := splCells) hownc HNC.out.symm (by omega)
    have RP := (RP.below hx).more hx.size
    clear hx hownc J9 J10 J11
    have HRP := Lib.hid RP
    have HRC := Lib.hid RC
    clear RP RC
    obtain ⟨Wb, hWb⟩ : ∃ W : World, W = W11 := ⟨_, rfl⟩
    rw [← hWb] at hB HRP HRC ⊢
    clear hWb
    have hnn : ((nC : Int) != (nC : Int)) = false := by simp
    go_wp2
    clear hnn
    go_loopw [16] (fun x wr => ∃ k : Nat, k ≤ nC ∧ x = .int .i64 k ∧ Ext Wb wr) (fun x _ => nC - (intOf x).toNat)
    case atStart => exact ⟨0, Nat.zero_le _, rfl, Ext.refl _⟩
    case round =>
      obtain ⟨k, hk, rfl, hkx⟩ := hrel
      by_cases hkn : k < nC
      · obtain ⟨gp, gpo, hz1, hA1, _, hc1⟩ := (HRP.out.below hkx).at_ pas_len hkn
        obtain ⟨gc, gco, hz2, hA2, _, hc2⟩ := (HRC.out.below hkx).at_ spl_len hkn
        rw [HPAT.out k hz1 hz2] at hc1
        generalize C[k] = z at hc1 hc2
        have d0 : wr.cell? ⟨gp, gpo + k * 6 + 2, none⟩ = some (.int .i64 z.fr) := hc1 2 (by omega)
        have d1 : wr.cell? ⟨gp, gpo + k * 6 + 3, none⟩ = some (.int .i64 z.tt) := hc1 3 (by omega)
        have d2 : wr.cell? ⟨gp, gpo + k * 6 + 4, none⟩ = some (.int .i64 z.fr) := hc1 4 (by omega)
        have d3 : wr.cell? ⟨gp, gpo + k * 6 + 5, none⟩ = some (.int .i64 z.tt) := hc1 5 (by omega)
        have u0 : wr.cell? ⟨gc, gco + k * 2, none⟩ = some (.int .i64 z.fr) := hc2 0 (by omega)
        have u1 : wr.cell? ⟨gc, gco + k * 2 + 1, none⟩ = some (.int .i64 z.tt) := hc2 1 (by omega)
        clear hc1 hc2 hz1 hz2
        subst hA1 hA2
        go_upto_region 19 with (fail)
        refine wp_region_obl 22 (fun ix vals v w1 => match ix with | 0 => v = .slice (some ⟨gp, gpo, none⟩) nC cP | 1 => v = .int .i64 (k : Int) | 2 => v = .pointer (some ⟨gp, gpo + k * 6, none⟩) | 3 => v = .pointer (some ⟨gp, gpo + k * 6 + 2, none⟩) | 4 => v = .agg #[.int .i64 z.fr, .int .i64 z.tt] | 5 => v = .slice (some ⟨gc, gco, none⟩) nC cC | 6 => v = .int .i64 (k : Int) | 7 => v = .pointer (some ⟨gc, gco + k * 2, none⟩) | 8 => v = .agg #[.int .i64 z.fr, .int .i64 z.tt] | 9 => v = .bool false | 10 => v = .bool false | 11 => v = .slice (some ⟨gp, gpo, none⟩) nC cP | 12 => v = .int .i64 (k : Int) | 13 => v = .pointer (some ⟨gp, gpo + k * 6, none⟩) | 14 => v = .pointer (some ⟨gp, gpo + k * 6 + 4, none⟩) | 15 => v = .agg #[.int .i64 z.fr, .int .i64 z.tt] | 16 => v = .slice (some ⟨gc, gco, none⟩) nC cC | 17 => v = .int .i64 (k : Int) | 18 => v = .pointer (some ⟨gc, gco + k * 2, none⟩) | 19 => v = .agg #[.int .i64 z.fr, .int .i64 z.tt] | 20 => v = .bool false | _ => v = .bool false) (by kernel_rfl) (by kernel_rfl) ?_ ?_ ?_ ?_
        · intro ix vals v w1 w2 hi hr hx
          match ix, hr with
          | 0, hr => exact hr
          | 1, hr => exact hr
          | 2, hr => exact hr
          | 3, hr => exact hr
          | 4, hr => exact hr
          | 5, hr => exact hr
          | 6, hr => exact hr
          | 7, hr => exact hr
          | 8, hr => exact hr
          | 9, hr => exact hr
          | 10, hr => exact hr
          | 11, hr => exact hr
          | 12, hr => exact hr
          | 13, hr => exact hr
          | 14, hr => exact hr
          | 15, hr => exact hr
          | 16, hr => exact hr
          | 17, hr => exact hr
          | 18, hr => exact hr
          | 19, hr => exact hr
          | 20, hr => exact hr
          | (kx + 21), hr => exact hr
        · intro ix vals vals_ v w1 hi hv hr
          exact hr
        · refine obls_ofT [some 75, some 76, some 77, some 78, some 79, some 80, some 81, some 82, some 83, some 84, some 85, some 86, some 87, some 88, some 89, some 90, some 91, some 92, some 93, some 94, some 95, some 96] [(12, .slice (some ⟨gp, gpo, none⟩) nC cP), (14, .slice (some ⟨gc, gco, none⟩) nC cC), (16, .int .i64 (k : Int))] 97 (by kernel_rfl) (by kernel_rfl) ⟨by kernel_rfl, by kernel_rfl, by kernel_rfl, trivial⟩ ?_
          refine ⟨?_, ?_, ?_, ?_, ?_, ?_, ?_, ?_, ?_, ?_, ?_, ?_, ?_, ?_, ?_, ?_, ?_, ?_, ?_, ?_, ?_, ?_, trivial⟩
          · intro vals w1 hx hd
            refine .run [(12, .slice (some ⟨gp, gpo, none⟩) nC cP)] { dst := some 0, op := Go.Op.move (Go.Operand.const (.slice (some ⟨gp, gpo, none⟩) nC cP)), type := 32, pos := "", after := #[], guard := none } 75 ⟨.out (by kernel_rfl) (by kernel_rfl), trivial⟩ (by kernel_rfl) (by kernel_rfl) (by kernel_rfl) rfl rfl rfl ?_
            clear hd
            go_wp2
            exact ⟨rfl, Ext.refl _, rfl⟩
          · intro vals w1 hx hd
            refine .run [(16, .int .i64 (k : Int))] { dst := some 0, op := Go.Op.move (Go.Operand.const (.int .i64 (k : Int))), type := 3, pos := "", after := #[], guard := none } 76 ⟨.out (by kernel_rfl) (by kernel_rfl), trivial⟩ (by kernel_rfl) (by kernel_rfl) (by kernel_rfl) rfl rfl rfl ?_
            clear hd
            go_wp2
            exact ⟨rfl, Ext.refl _, rfl⟩
          · intro vals w1 hx hd
            have e0 : vals 0 = .slice (some ⟨gp, gpo, none⟩) nC cP := hd 0 (by decide)
            have e1 : vals 1 = .int .i64 (k : Int) := hd 1 (by decide)
            refine .run [(75, .slice (some ⟨gp, gpo, none⟩) nC cP), (76, .int .i64 (k : Int))] { dst := some 0, op := Go.Op.indexAddr 32 (Go.Operand.const (.slice (some ⟨gp, gpo, none⟩) nC cP)) (Go.Operand.const (.int .i64 (k : Int))), type := 0, pos := "", after := #[], guard := none } 77 ⟨.inn 0 (by kernel_rfl) e0, .inn 1 (by kernel_rfl) e1, trivial⟩ (by kernel_rfl) (by kernel_rfl) (by kernel_rfl) rfl rfl rfl ?_
            clear hd e0 e1
            go_wp2
            exact ⟨rfl, Ext.refl _, rfl⟩
          · intro vals w1 hx hd
            have e2 : vals 2 = .pointer (some ⟨gp, gpo + k * 6, none⟩) := hd 2 (by decide)
            refine .run [(77, .pointer (some ⟨gp, gpo + k * 6, none⟩))] { dst := some 0, op := Go.Op.fieldAddr 47 (Go.Operand.const (.pointer (some ⟨gp, gpo + k * 6, none⟩))) 2, type := 0, pos := "", after := #[], guard := none } 78 ⟨.inn 2 (by kernel_rfl) e2, trivial⟩ (by kernel_rfl) (by kernel_rfl) (by kernel_rfl) rfl rfl rfl ?_
            clear hd e2
            go_wp2
            exact ⟨rfl, Ext.refl _, rfl⟩
          · intro vals w1 hx hd
            have e3 : vals 3 = .pointer (some ⟨gp, gpo + k * 6 + 2, none⟩) := hd 3 (by decide)
            refine .run [(78, .pointer (some ⟨gp, gpo + k * 6 + 2, none⟩))] { dst := some 0, op := Go.Op.load 34 (Go.Operand.const (.pointer (some ⟨gp, gpo + k * 6 + 2, none⟩))), type := 34, pos := "", after := #[], guard := none } 79 ⟨.inn 3 (by kernel_rfl) e3, trivial⟩ (by kernel_rfl) (by kernel_rfl) (by kernel_rfl) rfl rfl rfl ?_
            clear hd e3
            have d0 := ext_cell hx d0
            have d1 := ext_cell hx d1
            go_wp2
            exact ⟨rfl, Ext.refl _, rfl⟩
          · intro vals w1 hx hd
            refine .run [(14, .slice (some ⟨gc, gco, none⟩) nC cC)] { dst := some 0, op := Go.Op.move (Go.Operand.const (.slice (some ⟨gc, gco, none⟩) nC cC)), type := 54, pos := "", after := #[], guard := none } 80 ⟨.out (by kernel_rfl) (by kernel_rfl), trivial⟩ (by kernel_rfl) (by kernel_rfl) (by kernel_rfl) rfl rfl rfl ?_
            clear hd
            go_wp2
            exact ⟨rfl, Ext.refl _, rfl⟩
          · intro vals w1 hx hd
            refine .run [(16, .int .i64 (k : Int))] { dst := some 0, op := Go.Op.move (Go.Operand.const (.int .i64 (k : Int))), type := 3, pos := "", after := #[], guard := none } 81 ⟨.out (by kernel_rfl) (by kernel_rfl), trivial⟩ (by kernel_rfl) (by kernel_rfl) (by kernel_rfl) rfl rfl rfl ?_
            clear hd
            go_wp2
            exact ⟨rfl, Ext.refl _, rfl⟩
          · intro vals w1 hx hd
            have e5 : vals 5 = .slice (some ⟨gc, gco, none⟩) nC cC := hd 5 (by decide)
            have e6 : vals 6 = .int .i64 (k : Int) := hd 6 (by decide)
            refine .run [(80, .slice (some ⟨gc, gco, none⟩) nC cC), (81, .int .i64 (k : Int))] { dst := some 0, op := Go.Op.indexAddr 54 (Go.Operand.const (.slice (some ⟨gc, gco, none⟩) nC cC)) (Go.Operand.const (.int .i64 (k : Int))), type := 0, pos := "", after := #[], guard := none } 82 ⟨.inn 5 (by kernel_rfl) e5, .inn 6 (by kernel_rfl) e6, trivial⟩ (by kernel_rfl) (by kernel_rfl) (by kernel_rfl) rfl rfl rfl ?_
            clear hd e5 e6
            go_wp2
            exact ⟨rfl, Ext.refl _, rfl⟩
          · intro vals w1 hx hd
            have e7 : vals 7 = .pointer (some ⟨gc, gco + k * 2, none⟩) := hd 7 (by decide)
            refine .run [(82, .pointer (some ⟨gc, gco + k * 2, none⟩))] { dst := some 0, op := Go.Op.load 34 (Go.Operand.const (.pointer (some ⟨gc, gco + k * 2, none⟩))), type := 34, pos := "", after := #[], guard := none } 83 ⟨.inn 7 (by kernel_rfl) e7, trivial⟩ (by kernel_rfl) (by kernel_rfl) (by kernel_rfl) rfl rfl rfl ?_
            clear hd e7
            have u0 := ext_cell hx u0
            have u1 := ext_cell hx u1
            go_wp2
            exact ⟨rfl, Ext.refl _, rfl⟩
          · intro vals w1 hx hd
            have e4 : vals 4 = .agg #[.int .i64 z.fr, .int .i64 z.tt] := hd 4 (by decide)
            have e8 : vals 8 = .agg #[.int .i64 z.fr, .int .i64 z.tt] := hd 8 (by decide)
            refine .run [(79, .agg #[.int .i64 z.fr, .int .i64 z.tt]), (83, .agg #[.int .i64 z.fr, .int .i64 z.tt])] { dst := some 0, op := Go.Op.binOp Go.BinOp.neq 34 (Go.Operand.const (.agg #[.int .i64 z.fr, .int .i64 z.tt])) (Go.Operand.const (.agg #[.int .i64 z.fr, .int .i64 z.tt])) 34, type := 4, pos := "", after := #[], guard := none } 84 ⟨.inn 4 (by kernel_rfl) e4, .inn 8 (by kernel_rfl) e8, trivial⟩ (by kernel_rfl) (by kernel_rfl) (by kernel_rfl) rfl rfl rfl ?_
            clear hd e4 e8
            have hq := neq_spl z z
            rw [decide_eq_true rfl] at hq
            go_wp2
            exact ⟨rfl, Ext.refl _, rfl⟩
          · intro vals w1 hx hd
            have e9 : vals 9 = .bool false := hd 9 (by decide)
            refine .run [(84, .bool false)] { dst := some 0, op := Go.Op.move (Go.Operand.const (.bool false)), type := 4, pos := "", after := #[], guard := none } 85 ⟨.inn 9 (by kernel_rfl) e9, trivial⟩ (by kernel_rfl) (by kernel_rfl) (by kernel_rfl) rfl rfl rfl ?_
            clear hd e9
            go_wp2
            exact ⟨rfl, Ext.refl _, rfl⟩
          · intro vals w1 hx hd
            have e10 : vals 10 = .bool false := hd 10 (by decide)
            refine .run [(12, .slice (some ⟨gp, gpo, none⟩) nC cP), (85, .bool false)] { dst := some 0, op := Go.Op.move (Go.Operand.const (.slice (some ⟨gp, gpo, none⟩) nC cP)), type := 32, pos := "", after := #[], guard := none } 86 ⟨.out (by kernel_rfl) (by kernel_rfl), .inn 10 (by kernel_rfl) e10, trivial⟩ (by kernel_rfl) (by kernel_rfl) (by kernel_rfl) rfl rfl rfl ?_
            clear hd e10
            go_wp2
            exact ⟨rfl, Ext.refl _, rfl⟩
          · intro vals w1 hx hd
            have e10 : vals 10 = .bool false := hd 10 (by decide)
            refine .run [(16, .int .i64 (k : Int)), (85, .bool false)] { dst := some 0, op := Go.Op.move (Go.Operand.const (.int .i64 (k : Int))), type := 3, pos := "", after := #[], guard := none } 87 ⟨.out (by kernel_rfl) (by kernel_rfl), .inn 10 (by kernel_rfl) e10, trivial⟩ (by kernel_rfl) (by kernel_rfl) (by kernel_rfl) rfl rfl rfl ?_
            clear hd e10
            go_wp2
            exact ⟨rfl, Ext.refl _, rfl⟩
          · intro vals w1 hx hd
            have e11 : vals 11 = .slice (some ⟨gp, gpo, none⟩) nC cP := hd 11 (by decide)
            have e12 : vals 12 = .int .i64 (k : Int) := hd 12 (by decide)
            have e10 : vals 10 = .bool false := hd 10 (by decide)
            refine .run [(86, .slice (some ⟨gp, gpo, none⟩) nC cP), (87, .int .i64 (k : Int)), (85, .bool false)] { dst := some 0, op := Go.Op.indexAddr 32 (Go.Operand.const (.slice (some ⟨gp, gpo, none⟩) nC cP)) (Go.Operand.const (.int .i64 (k : Int))), type := 0, pos := "", after := #[], guard := none } 88 ⟨.inn 11 (by kernel_rfl) e11, .inn 12 (by kernel_rfl) e12, .inn 10 (by kernel_rfl) e10, trivial⟩ (by kernel_rfl) (by kernel_rfl) (by kernel_rfl) rfl rfl rfl ?_
            clear hd e11 e12 e10
            go_wp2
            exact ⟨rfl, Ext.refl _, rfl⟩
          · intro vals w1 hx hd
            have e13 : vals 13 = .pointer (some ⟨gp, gpo + k * 6, none⟩) := hd 13 (by decide)
            have e10 : vals 10 = .bool false := hd 10 (by decide)
            refine .run [(88, .pointer (some ⟨gp, gpo + k * 6, none⟩)), (85, .bool false)] { dst := some 0, op := Go.Op.fieldAddr 47 (Go.Operand.const (.pointer (some ⟨gp, gpo + k * 6, none⟩))) 3, type := 0, pos := "", after := #[], guard := none } 89 ⟨.inn 13 (by kernel_rfl) e13, .inn 10 (by kernel_rfl) e10, trivial⟩ (by kernel_rfl) (by kernel_rfl) (by kernel_rfl) rfl rfl rfl ?_
            clear hd e13 e10
            go_wp2
            exact ⟨rfl, Ext.refl _, rfl⟩
          · intro vals w1 hx hd
            have e14 : vals 14 = .pointer (some ⟨gp, gpo + k * 6 + 4, none⟩) := hd 14 (by decide)
            have e10 : vals 10 = .bool false := hd 10 (by decide)
            refine .run [(89, .pointer (some ⟨gp, gpo + k * 6 + 4, none⟩)), (85, .bool false)] { dst := some 0, op := Go.Op.load 34 (Go.Operand.const (.pointer (some ⟨gp, gpo + k * 6 + 4, none⟩))), type := 34, pos := "", after := #[], guard := none } 90 ⟨.inn 14 (by kernel_rfl) e14, .inn 10 (by kernel_rfl) e10, trivial⟩ (by kernel_rfl) (by kernel_rfl) (by kernel_rfl) rfl rfl rfl ?_
            clear hd e14 e10
            have d2 := ext_cell hx d2
            have d3 := ext_cell hx d3
            go_wp2
            exact ⟨rfl, Ext.refl _, rfl⟩
          · intro vals w1 hx hd
            have e10 : vals 10 = .bool false := hd 10 (by decide)
            refine .run [(14, .slice (some ⟨gc, gco, none⟩) nC cC), (85, .bool false)] { dst := some 0, op := Go.Op.move (Go.Operand.const (.slice (some ⟨gc, gco, none⟩) nC cC)), type := 54, pos := "", after := #[], guard := none } 91 ⟨.out (by kernel_rfl) (by kernel_rfl), .inn 10 (by kernel_rfl) e10, trivial⟩ (by kernel_rfl) (by kernel_rfl) (by kernel_rfl) rfl rfl rfl ?_
            clear hd e10
            go_wp2
            exact ⟨rfl, Ext.refl _, rfl⟩
          · intro vals w1 hx hd
            have e10 : vals 10 = .bool false := hd 10 (by decide)
            refine .run [(16, .int .i64 (k : Int)), (85, .bool false)] { dst := some 0, op := Go.Op.move (Go.Operand.const (.int .i64 (k : Int))), type := 3, pos := "", after := #[], guard := none } 92 ⟨.out (by kernel_rfl) (by kernel_rfl), .inn 10 (by kernel_rfl) e10, trivial⟩ (by kernel_rfl) (by kernel_rfl) (by kernel_rfl) rfl rfl rfl ?_
            clear hd e10
            go_wp2
            exact ⟨rfl, Ext.refl _, rfl⟩
          · intro vals w1 hx hd
            have e16 : vals 16 = .slice (some ⟨gc, gco, none⟩) nC cC := hd 16 (by decide)
            have e17 : vals 17 = .int .i64 (k : Int) := hd 17 (by decide)
            have e10 : vals 10 = .bool false := hd 10 (by decide)
            refine .run [(91, .slice (some ⟨gc, gco, none⟩) nC cC), (92, .int .i64 (k : Int)), (85, .bool false)] { dst := some 0, op := Go.Op.indexAddr 54 (Go.Operand.const (.slice (some ⟨gc, gco, none⟩) nC cC)) (Go.Operand.const (.int .i64 (k : Int))), type := 0, pos := "", after := #[], guard := none } 93 ⟨.inn 16 (by kernel_rfl) e16, .inn 17 (by kernel_rfl) e17, .inn 10 (by kernel_rfl) e10, trivial⟩ (by kernel_rfl) (by kernel_rfl) (by kernel_rfl) rfl rfl rfl ?_
            clear hd e16 e17 e10
            go_wp2
            exact ⟨rfl, Ext.refl _, rfl⟩
          · intro vals w1 hx hd
            have e18 : vals 18 = .pointer (some ⟨gc, gco + k * 2, none⟩) := hd 18 (by decide)
            have e10 : vals 10 = .bool false := hd 10 (by decide)
            refine .run [(93, .pointer (some ⟨gc, gco + k * 2, none⟩)), (85, .bool false)] { dst := some 0, op := Go.Op.load 34 (Go.Operand.const (.pointer (some ⟨gc, gco + k * 2, none⟩))), type := 34, pos := "", after := #[], guard := none } 94 ⟨.inn 18 (by kernel_rfl) e18, .inn 10 (by kernel_rfl) e10, trivial⟩ (by kernel_rfl) (by kernel_rfl) (by kernel_rfl) rfl rfl rfl ?_
            clear hd e18 e10
            have u0 := ext_cell hx u0
            have u1 := ext_cell hx u1
            go_wp2
            exact ⟨rfl, Ext.refl _, rfl⟩
          · intro vals w1 hx hd
            have e15 : vals 15 = .agg #[.int .i64 z.fr, .int .i64 z.tt] := hd 15 (by decide)
            have e19 : vals 19 = .agg #[.int .i64 z.fr, .int .i64 z.tt] := hd 19 (by decide)
            have e10 : vals 10 = .bool false := hd 10 (by decide)
            refine .run [(90, .agg #[.int .i64 z.fr, .int .i64 z.tt]), (94, .agg #[.int .i64 z.fr, .int .i64 z.tt]), (85, .bool false)] { dst := some 0, op := Go.Op.binOp Go.BinOp.neq 34 (Go.Operand.const (.agg #[.int .i64 z.fr, .int .i64 z.tt])) (Go.Operand.const (.agg #[.int .i64 z.fr, .int .i64 z.tt])) 34, type := 4, pos := "", after := #[], guard := none } 95 ⟨.inn 15 (by kernel_rfl) e15, .inn 19 (by kernel_rfl) e19, .inn 10 (by kernel_rfl) e10, trivial⟩ (by kernel_rfl) (by kernel_rfl) (by kernel_rfl) rfl rfl rfl ?_
            clear hd e15 e19 e10
            have hq := neq_spl z z
            rw [decide_eq_true rfl] at hq
            go_wp2
            exact ⟨rfl, Ext.refl _, rfl⟩
          · intro vals w1 hx hd
            have e10 : vals 10 = .bool false := hd 10 (by decide)
            have e20 : vals 20 = .bool false := hd 20 (by decide)
            refine .run [(85, .bool false), (95, .bool false)] { dst := some 0, op := Go.Op.pick (Go.Operand.const (.bool false)) (Go.Operand.const (Go.Value.bool true)) (Go.Operand.const (.bool false)), type := 4, pos := "", after := #[], guard := none } 96 ⟨.inn 10 (by kernel_rfl) e10, .inn 20 (by kernel_rfl) e20, trivial⟩ (by kernel_rfl) (by kernel_rfl) (by kernel_rfl) rfl rfl rfl ?_
            clear hd e10 e20
            go_wp2
            exact ⟨rfl, Ext.refl _, rfl⟩
        intro vals W12 hx hf
        have e21 : vals 21 = .bool false := hf 21 (by omega)
        clear hf d0 d1 d2 d3 u0 u1
        have hkx := Ext.trans hkx hx.undrew
        clear hx
        refine tail0 (by kernel_rfl) ?_
        simp only [Lf, dstAt, Act.put, List.getElem?_toArray, List.getElem?_cons_zero, List.getElem?_cons_succ, Option.bind_some, List.setIfInBounds_toArray, List.set_cons_zero, List.set_cons_succ]
        rw [e21]
        clear e21
        go_wp2
        go_roundw
        case rel => exact ⟨k + 1, by omega, by go_num, hkx⟩
        case measure => simp [intOf]; omega
      · go_wp2
        go_ret
        exact ⟨rfl, Ext.trans hB hkx⟩
  · rw [if_neg h64] at hps
    refine hps.mono ?_
    rintro e W10 ⟨rfl, hx⟩
    clear hps
    have hx := Ext.trans hx0 hx
    have J9 := J9.ext hx
    have J10 := J10.ext hx
    have J11 := J11.ext hx
    have hB := Ext.trans hB hx
    clear hx hx0
    have hr9 : W10.rangeAt g9 2 OX.toList := fun j u hu => by
      have h0 := Blk.range J9 NX.toList rfl
      refine h0 (2 + j) u ?_ |> fun h => by rw [Nat.zero_add] at h; exact h
      rw [← HNX.out]
      rw [← HOX.out] at hu
      match j, hu with
      | 0, hu => exact hu
      | 1, hu => exact hu
      | 2, hu => exact hu
      | 3, hu => exact hu
      | 4, hu => exact hu
      | 5, hu => exact hu
      | 6, hu => exact hu
      | j + 7, hu => simp [orbC] at hu
    have p0 : W10.cell? ⟨g11, 0, none⟩ = some (.int .i64 a) := J11.cell 0
    have p1 : W10.cell? ⟨g11, 1, none⟩ = some (.int .i64 b) := J11.cell 1
    go_wp2_with (first | (refine wpList_load_st rfl 25 _ rfl g9 2 rfl OX OX.toList (by simp) _ hr9 Try.underlying25 rfl (by rw [Array.length_toList, HOXS.out]; exact orb_size) ?_) | (refine wpList_load_st rfl 31 _ rfl g10 0 rfl TX TX.toList (by simp) _ (Blk.range J10 _ rfl) Try.underlying31 rfl (by rw [Array.length_toList, HZ2.out]; exact stn_size_) ?_))
    refine (HCT.out _).mono ?_
    rintro e W11 ⟨vc, rfl, hownc, hx⟩
    clear p0 p1 hr9
    have hB := Ext.trans hB hx
    rw [← HNC.out] at hownc
    obtain ⟨AC, cC, hvc, _, _⟩ := own_slice hownc
    subst hvc
    have RC := RA.of_own (cells := splCells) hownc HNC.out.symm (by omega)
    clear hx hownc J9 J10 J11 RC
    have h65 : (64 : Int) < (nC : Int) := by omega
    go_wp2
    go_ret
    exact ⟨rfl, hB⟩

end Go.Proofs.Ytlmpmhfbjblhnaa
