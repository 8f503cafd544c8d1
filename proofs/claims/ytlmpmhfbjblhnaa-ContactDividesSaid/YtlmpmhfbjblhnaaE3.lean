/- ContactDivides: the walk (printed by contact_e3.py). -/
import Derived.Test.YtlmpmhfbjblhnaaD1
import Derived.Test.YtlmpmhfbjblhnaaE2
import Derived.Test.YtlmpmhfbjblhnaaTn2
namespace Go.Proofs.Ytlmpmhfbjblhnaa
open Go.RowKit

theorem contacts_some {o : Orb} {s : Stn} {a b la : Int} (h1 : orbOK o = true) (h2 : stnOK s = true) (h3 : 0 ≤ a ∧ a < b ∧ b ≤ 1000001 ∧ b - a ≤ 4320) (h4 : inB la (-o.slack) o.slack = true) : contactsP o s ⟨a, b⟩ la = some (spellsP (fun t => viewP o s t la == some true) a (b - a).toNat) := by
  unfold contactsP
  rw [h1, h2, h4, show spanOK ⟨a, b⟩ = true by simp [spanOK]; omega]
  rfl
theorem eql_spl (a b : Spl) (w : World) : (binOp .eql 34 (.agg #[.int .i64 a.fr, .int .i64 a.tt]) (.agg #[.int .i64 b.fr, .int .i64 b.tt])).run Try.prog w = .ok (.bool (decide (a = b))) w := by
  have u3 := Try.underlying3
  have hS : Try.prog.underlying 34 = some (.struct (Try.prog.fieldsOf 34)) := by kernel_rfl
  have hp : Try.prog.stoodInHeld 34 = false := by kernel_rfl
  have he : decide (a = b) = (a.fr == b.fr && (a.tt == b.tt)) := by
    obtain ⟨a1, a2⟩ := a
    obtain ⟨b1, b2⟩ := b
    rw [Bool.eq_iff_iff]
    simp
  rw [he, run_eql_struct, show (10000 : Nat) = 9999 + 1 from rfl, run_equalIn_agg w 9999 34 _ _ hS hp]
  clear hS hp
  simp only [Program.fieldsOf, Try.underlying34]
  go_simp
  by_cases h0 : a.fr = b.fr <;> by_cases h1 : a.tt = b.tt <;> simp [h0, h1]
set_option maxRecDepth 100000 in
set_option maxHeartbeats 16000000 in
theorem divides_walk (x0 x1 x2 x3 x4 x5 x6 z0 z1 z2 z3 fr0 lg0 dl0 : Int) (w : World) (bx0 : I64ok x0) (bx1 : I64ok x1) (bx2 : I64ok x2) (bx3 : I64ok x3) (bx4 : I64ok x4) (bx5 : I64ok x5) (bx6 : I64ok x6) (bz0 : I64ok z0) (bz1 : I64ok z1) (bz2 : I64ok z2) (bz3 : I64ok z3) (bf : I64ok fr0) (bl : I64ok lg0) (bd : I64ok dl0) :
    Calls Try.prog 6 #[.agg #[.int .i64 x0, .int .i64 x1, .int .i64 x2, .int .i64 x3, .int .i64 x4, .int .i64 x5, .int .i64 x6], .agg #[.int .i64 z0, .int .i64 z1, .int .i64 z2, .int .i64 z3], .int .i64 fr0, .int .i64 lg0, .int .i64 dl0] w (Tru w) := by
  have hsat := fun w => sat_any 1 x0 x1 x2 x3 x4 x5 x6 0 0 0 0 w ⟨by omega, by omega⟩ bx0 bx1 bx2 bx3 bx4 bx5 bx6 ⟨by omega, by omega⟩ ⟨by omega, by omega⟩ ⟨by omega, by omega⟩ ⟨by omega, by omega⟩
  have hstn := fun w => station_any 2 z0 z1 z2 z3 w ⟨by omega, by omega⟩ bz0 bz1 bz2 bz3
  obtain ⟨s, hs⟩ : ∃ s, s = satP 1 x0 x1 x2 x3 x4 x5 x6 0 0 0 0 := ⟨_, rfl⟩
  have hob : orbOK s.orbit = true := by rw [hs]; exact made_ok x0 x1 x2 x3 x4 x5 x6
  have hsl : 0 ≤ s.orbit.slack ∧ s.orbit.slack ≤ 3 := by rw [hs]; exact made_slack x0 x1 x2 x3 x4 x5 x6
  rw [← hs] at hsat
  clear hs
  obtain ⟨st, hst⟩ : ∃ st, st = stnP 2 z0 z1 z2 z3 := ⟨_, rfl⟩
  have hok : stnOK st = true := by rw [hst]; exact stnP_ok 2 z0 z1 z2 z3
  rw [← hst] at hstn
  clear hst
  obtain ⟨sid, ⟨sx, sy⟩, sre, san, ssk⟩ := st
  simp only [stnCells] at hstn
  obtain ⟨p, f, lo, hi, no, tu, sl, ho⟩ : ∃ p f lo hi no tu sl, s.orbit = ⟨p, f, lo, hi, no, tu, sl⟩ := ⟨_, _, _, _, _, _, _, rfl⟩
  rw [ho] at hob hsl
  dsimp only at hsl
  obtain ⟨sl1, sl2⟩ := hsl
  obtain ⟨SX, hSX⟩ : ∃ X, (satCells s).toArray = X := ⟨_, rfl⟩
  have HO1 : Hid (SX.all (·.oneCell') = true) := Lib.hid (by rw [← hSX]; exact sat_one _)
  have HZ1 : Hid (SX.size = 21) := Lib.hid (by rw [← hSX]; rfl)
  have HC2 : Hid (SX[2]? = some (.int .i64 p)) := Lib.hid (by rw [← hSX]; show some (Value.int .i64 s.orbit.period) = _; rw [ho])
  have HC3 : Hid (SX[3]? = some (.int .i64 f)) := Lib.hid (by rw [← hSX]; show some (Value.int .i64 s.orbit.phase) = _; rw [ho])
  have HC4 : Hid (SX[4]? = some (.int .i64 lo)) := Lib.hid (by rw [← hSX]; show some (Value.int .i64 s.orbit.low) = _; rw [ho])
  have HC5 : Hid (SX[5]? = some (.int .i64 hi)) := Lib.hid (by rw [← hSX]; show some (Value.int .i64 s.orbit.high) = _; rw [ho])
  have HC6 : Hid (SX[6]? = some (.int .i64 no)) := Lib.hid (by rw [← hSX]; show some (Value.int .i64 s.orbit.node) = _; rw [ho])
  have HC7 : Hid (SX[7]? = some (.int .i64 tu)) := Lib.hid (by rw [← hSX]; show some (Value.int .i64 s.orbit.turn) = _; rw [ho])
  have HC8 : Hid (SX[8]? = some (.int .i64 sl)) := Lib.hid (by rw [← hSX]; show some (Value.int .i64 s.orbit.slack) = _; rw [ho])
  rw [hSX] at hsat
  have HSAT := Lib.hid hsat
  have HSTN := Lib.hid hstn
  clear hSX ho hsat hstn
  have P0 := fun w => lpick_any dl0 (2 * sl + 1) w bd.1 bd.2 (by omega) (by omega)
  have q0 := pickI_bd dl0 (2 * sl + 1) (by omega)
  obtain ⟨k0, hk0⟩ : ∃ k, k = pickI dl0 (2 * sl + 1) := ⟨_, rfl⟩
  rw [← hk0] at P0 q0
  clear hk0
  obtain ⟨q0a, q0b⟩ := q0
  have HP0 := Lib.hid P0
  clear P0
  have P1 := fun w => lpick_any fr0 999600 w bf.1 bf.2 (by omega) (by omega)
  have q1 := pickI_bd fr0 999600 (by omega)
  obtain ⟨k1, hk1⟩ : ∃ k, k = pickI fr0 999600 := ⟨_, rfl⟩
  rw [← hk1] at P1 q1
  clear hk1
  obtain ⟨q1a, q1b⟩ := q1
  have HP1 := Lib.hid P1
  clear P1
  have P2 := fun w => lpick_any lg0 200 w bl.1 bl.2 (by omega) (by omega)
  have q2 := pickI_bd lg0 200 (by omega)
  obtain ⟨k2, hk2⟩ : ∃ k, k = pickI lg0 200 := ⟨_, rfl⟩
  rw [← hk2] at P2 q2
  clear hk2
  obtain ⟨q2a, q2b⟩ := q2
  have HP2 := Lib.hid P2
  clear P2
  obtain ⟨la, hla⟩ : ∃ la, la = k0 - sl := ⟨_, rfl⟩
  have la1 : -sl ≤ la := by omega
  have la2 : la ≤ sl := by omega
  obtain ⟨a, ha⟩ : ∃ a, a = k1 := ⟨_, rfl⟩
  subst ha
  obtain ⟨b, hb⟩ : ∃ b, b = a + 1 + k2 := ⟨_, rfl⟩
  have ab1 : a < b := by omega
  have ab2 : b ≤ a + 200 := by omega
  have hin : inB la (-sl) sl = true := inB_iff.2 ⟨la1, la2⟩
  have hin0 : inB 0 (-sl) sl = true := inB_iff.2 ⟨by omega, by omega⟩
  obtain ⟨is1, his1⟩ : ∃ is : Int → Bool, is = fun t => viewP ⟨p, f, lo, hi, no, tu, sl⟩ ⟨sid, ⟨sx, sy⟩, sre, san, ssk⟩ t la == some true := ⟨_, rfl⟩
  obtain ⟨is0, his0⟩ : ∃ is : Int → Bool, is = fun t => viewP ⟨p, f, lo, hi, no, tu, sl⟩ ⟨sid, ⟨sx, sy⟩, sre, san, ssk⟩ t 0 == some true := ⟨_, rfl⟩
  have HVW : Hid (∀ t w, a ≤ t → t < b → Calls Try.prog 26 #[.agg #[.int .i64 p, .int .i64 f, .int .i64 lo, .int .i64 hi, .int .i64 no, .int .i64 tu, .int .i64 sl], .agg #[.int .i64 sid, .int .i64 sx, .int .i64 sy, .int .i64 sre, .int .i64 san, .int .i64 ssk], .int .i64 t, .int .i64 la] w fun e w' => e = .returned (.tuple #[.bool (is1 t), .int .i64 0]) ∧ Below w.heap.size w w') := Lib.hid (fun t w t1 t2 => by
    have h := View_any p f lo hi no tu sl sid sx sy sre san ssk t la w
    rw [view_in hob hok ⟨by omega, by omega⟩ hin] at h
    rw [his1]
    exact h)
  obtain ⟨N, hN⟩ : ∃ N, N = (b - a).toNat := ⟨_, rfl⟩
  obtain ⟨L1, hL1⟩ : ∃ L, L = spellsP is1 a N := ⟨_, rfl⟩
  obtain ⟨L0, hL0⟩ : ∃ L, L = spellsP is0 a N := ⟨_, rfl⟩
  have HK1 : Hid (∀ w, Calls Try.prog 28 #[.agg #[.int .i64 p, .int .i64 f, .int .i64 lo, .int .i64 hi, .int .i64 no, .int .i64 tu, .int .i64 sl], .agg #[.int .i64 sid, .int .i64 sx, .int .i64 sy, .int .i64 sre, .int .i64 san, .int .i64 ssk], .agg #[.int .i64 a, .int .i64 b], .int .i64 la] w (SpellsRet (some L1) w)) := Lib.hid (fun w => by
    have h := callsIn_wide.1 (Contacts_in p f lo hi no tu sl sid sx sy sre san ssk a b la w)
    rw [contacts_some hob hok ⟨by omega, ab1, by omega, by omega⟩ hin] at h
    rw [hL1, his1, hN]
    exact h)
  have HK0 : Hid (∀ w, Calls Try.prog 28 #[.agg #[.int .i64 p, .int .i64 f, .int .i64 lo, .int .i64 hi, .int .i64 no, .int .i64 tu, .int .i64 sl], .agg #[.int .i64 sid, .int .i64 sx, .int .i64 sy, .int .i64 sre, .int .i64 san, .int .i64 ssk], .agg #[.int .i64 a, .int .i64 b], .int .i64 0] w (SpellsRet (some L0) w)) := Lib.hid (fun w => by
    have h := callsIn_wide.1 (Contacts_in p f lo hi no tu sl sid sx sy sre san ssk a b 0 w)
    rw [contacts_some hob hok ⟨by omega, ab1, by omega, by omega⟩ hin0] at h
    rw [hL0, his0, hN]
    exact h)
  have hNb : (N : Int) = b - a := by omega
  have hok1 := spells_ok is1 N a
  rw [show a + (N : Int) = b by omega, ← hL1] at hok1
  have hlen1 : L1.length ≤ 200 := by have := spells_le is1 N a; rw [← hL1] at this; omega
  have hlen0 : L0.length ≤ 200 := by have := spells_le is0 N a; rw [← hL0] at this; omega
  have HOK := Lib.hid hok1
  have HMEM : Hid (∀ (i : Nat) (h : i < L1.length), a + 10 < L1[i].fr → L1[i].tt < b - 10 → (⟨L1[i].fr - la, L1[i].tt - la⟩ : Spl) ∈ L0) := Lib.hid (fun i h h1 h2 => by
    rw [hL0]
    refine shift_mem (is1 := is1) (by rw [← hL1]; exact List.getElem_mem h) h1 (by omega) ⟨by omega, by omega⟩ (fun t t1 t2 t3 t4 => ?_)
    rw [his1, his0]
    dsimp only
    rw [view_shift ⟨by omega, by omega⟩ ⟨by omega, by omega⟩ ⟨by omega, by omega⟩])
  have HLA := Lib.hid hla
  have HBB := Lib.hid hb
  have HLB1 := Lib.hid hlen1
  have HLB0 := Lib.hid hlen0
  clear hla hb hin hin0 his1 his0 hN hL1 hL0 hNb hok1 hlen1 hlen0 hob hok
  go_enter Try.func6, Try.ntmps6
  go_wp2_with fail
  obtain ⟨g5, hg5⟩ : ∃ g, g = w.heap.size := ⟨_, rfl⟩
  obtain ⟨g6, hg6⟩ : ∃ g, g = w.heap.size + 1 := ⟨_, rfl⟩
  have J5 : Blk ((w.alloc (.cells #[.int .i64 x0, .int .i64 x1, .int .i64 x2, .int .i64 x3, .int .i64 x4, .int .i64 x5, .int .i64 x6] 65)).alloc (.cells #[.int .i64 z0, .int .i64 z1, .int .i64 z2, .int .i64 z3] 66)) g5 65 #[.int .i64 x0, .int .i64 x1, .int .i64 x2, .int .i64 x3, .int .i64 x4, .int .i64 x5, .int .i64 x6] := (Blk.new_at _ _ _ hg5.symm).alloc _
  have J6 : Blk ((w.alloc (.cells #[.int .i64 x0, .int .i64 x1, .int .i64 x2, .int .i64 x3, .int .i64 x4, .int .i64 x5, .int .i64 x6] 65)).alloc (.cells #[.int .i64 z0, .int .i64 z1, .int .i64 z2, .int .i64 z3] 66)) g6 66 #[.int .i64 z0, .int .i64 z1, .int .i64 z2, .int .i64 z3] := Blk.new_at _ _ _ (by simp [hg6])
  have hB : Ext w ((w.alloc (.cells #[.int .i64 x0, .int .i64 x1, .int .i64 x2, .int .i64 x3, .int .i64 x4, .int .i64 x5, .int .i64 x6] 65)).alloc (.cells #[.int .i64 z0, .int .i64 z1, .int .i64 z2, .int .i64 z3] 66)) := bl_alloc (bl_alloc (Below.refl _ _) _) _
  rw [← hg6, ← hg5]
  generalize (w.alloc (.cells #[.int .i64 x0, .int .i64 x1, .int .i64 x2, .int .i64 x3, .int .i64 x4, .int .i64 x5, .int .i64 x6] 65)).alloc (.cells #[.int .i64 z0, .int .i64 z1, .int .i64 z2, .int .i64 z3] 66) = W0 at J5 J6 hB ⊢
  clear hg5 hg6
  refine (sane_any _).mono ?_
  rintro e W1 ⟨rfl, hx⟩
  have J5 := J5.ext hx
  have J6 := J6.ext hx
  have hB := Ext.trans hB hx
  clear hx
  have k0_ : W1.cell? ⟨g5, 0, none⟩ = some (.int .i64 x0) := J5.cell 0
  have k1_ : W1.cell? ⟨g5, 1, none⟩ = some (.int .i64 x1) := J5.cell 1
  have k2_ : W1.cell? ⟨g5, 2, none⟩ = some (.int .i64 x2) := J5.cell 2
  have k3_ : W1.cell? ⟨g5, 3, none⟩ = some (.int .i64 x3) := J5.cell 3
  have k4_ : W1.cell? ⟨g5, 4, none⟩ = some (.int .i64 x4) := J5.cell 4
  have k5_ : W1.cell? ⟨g5, 5, none⟩ = some (.int .i64 x5) := J5.cell 5
  have k6_ : W1.cell? ⟨g5, 6, none⟩ = some (.int .i64 x6) := J5.cell 6
  go_wp2_with fail
  refine (HSAT.out _).mono ?_
  rintro e W2 ⟨rfl, hx⟩
  clear k0_ k1_ k2_ k3_ k4_ k5_ k6_ J5
  have J6 := J6.ext hx
  have hB := Ext.trans hB hx
  clear hx
  go_upto_region 4 with (refine wpList_store_new rfl 27 _ _ rfl _ SX rfl rfl (by rw [HZ1.out]; exact sat_size) (by rw [HZ1.out]; rfl) HO1.out ?_)
  have J11 : Blk (W2.alloc (.cells SX 27)) W2.heap.size 27 SX := Blk.new _ _ _
  have hx : Ext W2 (W2.alloc (.cells SX 27)) := bl_alloc (Below.refl _ _) _
  obtain ⟨g11, hg⟩ : ∃ g, g = W2.heap.size := ⟨_, rfl⟩
  rw [← hg] at J11 ⊢
  generalize W2.alloc (.cells SX 27) = W3 at J11 hx ⊢
  have J6 := J6.ext hx
  have hB := Ext.trans hB hx
  clear hx hg
  have k0_ : W3.cell? ⟨g6, 0, none⟩ = some (.int .i64 z0) := J6.cell 0
  have k1_ : W3.cell? ⟨g6, 1, none⟩ = some (.int .i64 z1) := J6.cell 1
  have k2_ : W3.cell? ⟨g6, 2, none⟩ = some (.int .i64 z2) := J6.cell 2
  have k3_ : W3.cell? ⟨g6, 3, none⟩ = some (.int .i64 z3) := J6.cell 3
  go_wp2_with fail
  refine (HSTN.out _).mono ?_
  rintro e W4 ⟨rfl, hx⟩
  clear k0_ k1_ k2_ k3_ J6
  have J11 := J11.ext hx
  have hB := Ext.trans hB hx
  clear hx
  go_upto_region 5 with (fail)
  have J12 : Blk (W4.alloc (.cells #[.int .i64 sid, .int .i64 sx, .int .i64 sy, .int .i64 sre, .int .i64 san, .int .i64 ssk] 31)) W4.heap.size 31 #[.int .i64 sid, .int .i64 sx, .int .i64 sy, .int .i64 sre, .int .i64 san, .int .i64 ssk] := Blk.new _ _ _
  have hx : Ext W4 (W4.alloc (.cells #[.int .i64 sid, .int .i64 sx, .int .i64 sy, .int .i64 sre, .int .i64 san, .int .i64 ssk] 31)) := bl_alloc (Below.refl _ _) _
  obtain ⟨g12, hg⟩ : ∃ g, g = W4.heap.size := ⟨_, rfl⟩
  rw [← hg] at J12 ⊢
  generalize W4.alloc (.cells #[.int .i64 sid, .int .i64 sx, .int .i64 sy, .int .i64 sre, .int .i64 san, .int .i64 ssk] 31) = W5 at J12 hx ⊢
  have J11 := J11.ext hx
  have hB := Ext.trans hB hx
  clear hx hg
  have o6 : W5.cell? ⟨g11, 8, none⟩ = some (.int .i64 sl) := (J11.cell 8).trans HC8.out
  have w1_ : IntKind.i64.wrap (2 * sl) = 2 * sl := IntWalk.i64_in _ (by omega)
  have w2_ : IntKind.i64.wrap (2 * sl + 1) = 2 * sl + 1 := IntWalk.i64_in _ (by omega)
  have w3_ : IntKind.i64.wrap (k0 - sl) = la := by rw [HLA.out]; exact IntWalk.i64_in _ (by omega)
  refine wp_region_obl 11 (fun ix vals v w1 => match ix with | 0 => v = .int .i64 dl0 | 1 => v = .pointer (some ⟨g11, 2, none⟩) | 2 => v = .pointer (some ⟨g11, 8, none⟩) | 3 => v = .int .i64 sl | 4 => v = .int .i64 (2 * sl) | 5 => v = .int .i64 (2 * sl + 1) | 6 => v = .int .i64 k0 | 7 => v = .pointer (some ⟨g11, 2, none⟩) | 8 => v = .pointer (some ⟨g11, 8, none⟩) | 9 => v = .int .i64 sl | _ => v = .int .i64 la) (by kernel_rfl) (by kernel_rfl) ?_ ?_ ?_ ?_
  · intro ix vals v w1 w2 hi hr hx
    match ix, hr with
    | 0, hr => exact hr
    | 1, hr => exact hr
    | 2, hr => exact hr
    | 3, hr => exact hr
    | 4, hr => exact hr
    | 5, hr => exact hr
    | 6, hr => exact hr
    | 7, hr => exact hr
    | 8, hr => exact hr
    | 9, hr => exact hr
    | (kx + 10), hr => exact hr
  · intro ix vals vals_ v w1 hi hv hr
    exact hr
  · refine obls_ofT [some 34, some 35, some 36, some 37, some 38, some 39, some 40, some 41, some 42, some 43, some 44, some 13] [(4, .int .i64 dl0), (11, .pointer (some ⟨g11, 0, none⟩))] 233 (by kernel_rfl) (by kernel_rfl) ⟨by kernel_rfl, by kernel_rfl, trivial⟩ ?_
    refine ⟨?_, ?_, ?_, ?_, ?_, ?_, ?_, ?_, ?_, ?_, ?_, trivial⟩
    · intro vals w1 hx hd
      refine .run [(4, .int .i64 dl0)] { dst := some 0, op := Go.Op.move (Go.Operand.const (.int .i64 dl0)), type := 3, pos := "", after := #[], guard := none } 34 ⟨.out (by kernel_rfl) (by kernel_rfl), trivial⟩ (by kernel_rfl) (by kernel_rfl) (by kernel_rfl) rfl rfl rfl ?_
      clear hd
      go_wp2
      exact ⟨rfl, Ext.refl _, rfl⟩
    · intro vals w1 hx hd
      refine .run [(11, .pointer (some ⟨g11, 0, none⟩))] { dst := some 0, op := Go.Op.fieldAddr 27 (Go.Operand.const (.pointer (some ⟨g11, 0, none⟩))) 2, type := 0, pos := "", after := #[], guard := none } 35 ⟨.out (by kernel_rfl) (by kernel_rfl), trivial⟩ (by kernel_rfl) (by kernel_rfl) (by kernel_rfl) rfl rfl rfl ?_
      clear hd
      go_wp2
      exact ⟨rfl, Ext.refl _, rfl⟩
    · intro vals w1 hx hd
      have e1 : vals 1 = .pointer (some ⟨g11, 2, none⟩) := hd 1 (by decide)
      refine .run [(35, .pointer (some ⟨g11, 2, none⟩))] { dst := some 0, op := Go.Op.fieldAddr 25 (Go.Operand.const (.pointer (some ⟨g11, 2, none⟩))) 6, type := 0, pos := "", after := #[], guard := none } 36 ⟨.inn 1 (by kernel_rfl) e1, trivial⟩ (by kernel_rfl) (by kernel_rfl) (by kernel_rfl) rfl rfl rfl ?_
      clear hd e1
      go_wp2
      exact ⟨rfl, Ext.refl _, rfl⟩
    · intro vals w1 hx hd
      have e2 : vals 2 = .pointer (some ⟨g11, 8, none⟩) := hd 2 (by decide)
      refine .run [(36, .pointer (some ⟨g11, 8, none⟩))] { dst := some 0, op := Go.Op.load 3 (Go.Operand.const (.pointer (some ⟨g11, 8, none⟩))), type := 3, pos := "", after := #[], guard := none } 37 ⟨.inn 2 (by kernel_rfl) e2, trivial⟩ (by kernel_rfl) (by kernel_rfl) (by kernel_rfl) rfl rfl rfl ?_
      clear hd e2
      have o6 := ext_cell hx o6
      go_wp2
      exact ⟨rfl, Ext.refl _, rfl⟩
    · intro vals w1 hx hd
      have e3 : vals 3 = .int .i64 sl := hd 3 (by decide)
      refine .run [(37, .int .i64 sl)] { dst := some 0, op := Go.Op.binOp Go.BinOp.mul 3 (Go.Operand.const (Go.Value.int Go.IntKind.i64 2)) (Go.Operand.const (.int .i64 sl)) 3, type := 3, pos := "", after := #[], guard := none } 38 ⟨.inn 3 (by kernel_rfl) e3, trivial⟩ (by kernel_rfl) (by kernel_rfl) (by kernel_rfl) rfl rfl rfl ?_
      clear hd e3
      go_wp2
      exact ⟨rfl, Ext.refl _, rfl⟩
    · intro vals w1 hx hd
      have e4 : vals 4 = .int .i64 (2 * sl) := hd 4 (by decide)
      refine .run [(38, .int .i64 (2 * sl))] { dst := some 0, op := Go.Op.binOp Go.BinOp.add 3 (Go.Operand.const (.int .i64 (2 * sl))) (Go.Operand.const (Go.Value.int Go.IntKind.i64 1)) 3, type := 3, pos := "", after := #[], guard := none } 39 ⟨.inn 4 (by kernel_rfl) e4, trivial⟩ (by kernel_rfl) (by kernel_rfl) (by kernel_rfl) rfl rfl rfl ?_
      clear hd e4
      go_wp2
      exact ⟨rfl, Ext.refl _, rfl⟩
    · intro vals w1 hx hd
      have e0 : vals 0 = .int .i64 dl0 := hd 0 (by decide)
      have e5 : vals 5 = .int .i64 (2 * sl + 1) := hd 5 (by decide)
      refine .run [(34, .int .i64 dl0), (39, .int .i64 (2 * sl + 1))] { dst := some 0, op := Go.Op.call { callee := Go.Callee.value (Go.Operand.func 13), args := #[(Go.Operand.const (.int .i64 dl0)), (Go.Operand.const (.int .i64 (2 * sl + 1)))], argTypes := #[3, 3] }, type := 3, pos := "", after := #[], guard := none } 40 ⟨.inn 0 (by kernel_rfl) e0, .inn 5 (by kernel_rfl) e5, trivial⟩ (by kernel_rfl) (by kernel_rfl) (by kernel_rfl) rfl rfl rfl ?_
      clear hd e0 e5
      go_wp2_with fail
      refine (HP0.out _).mono ?_
      rintro e w2 ⟨rfl, rfl⟩
      go_wp2
      exact ⟨rfl, Ext.refl _, rfl⟩
    · intro vals w1 hx hd
      refine .run [(11, .pointer (some ⟨g11, 0, none⟩))] { dst := some 0, op := Go.Op.fieldAddr 27 (Go.Operand.const (.pointer (some ⟨g11, 0, none⟩))) 2, type := 0, pos := "", after := #[], guard := none } 41 ⟨.out (by kernel_rfl) (by kernel_rfl), trivial⟩ (by kernel_rfl) (by kernel_rfl) (by kernel_rfl) rfl rfl rfl ?_
      clear hd
      go_wp2
      exact ⟨rfl, Ext.refl _, rfl⟩
    · intro vals w1 hx hd
      have e7 : vals 7 = .pointer (some ⟨g11, 2, none⟩) := hd 7 (by decide)
      refine .run [(41, .pointer (some ⟨g11, 2, none⟩))] { dst := some 0, op := Go.Op.fieldAddr 25 (Go.Operand.const (.pointer (some ⟨g11, 2, none⟩))) 6, type := 0, pos := "", after := #[], guard := none } 42 ⟨.inn 7 (by kernel_rfl) e7, trivial⟩ (by kernel_rfl) (by kernel_rfl) (by kernel_rfl) rfl rfl rfl ?_
      clear hd e7
      go_wp2
      exact ⟨rfl, Ext.refl _, rfl⟩
    · intro vals w1 hx hd
      have e8 : vals 8 = .pointer (some ⟨g11, 8, none⟩) := hd 8 (by decide)
      refine .run [(42, .pointer (some ⟨g11, 8, none⟩))] { dst := some 0, op := Go.Op.load 3 (Go.Operand.const (.pointer (some ⟨g11, 8, none⟩))), type := 3, pos := "", after := #[], guard := none } 43 ⟨.inn 8 (by kernel_rfl) e8, trivial⟩ (by kernel_rfl) (by kernel_rfl) (by kernel_rfl) rfl rfl rfl ?_
      clear hd e8
      have o6 := ext_cell hx o6
      go_wp2
      exact ⟨rfl, Ext.refl _, rfl⟩
    · intro vals w1 hx hd
      have e6 : vals 6 = .int .i64 k0 := hd 6 (by decide)
      have e9 : vals 9 = .int .i64 sl := hd 9 (by decide)
      refine .run [(40, .int .i64 k0), (43, .int .i64 sl)] { dst := some 0, op := Go.Op.binOp Go.BinOp.sub 3 (Go.Operand.const (.int .i64 k0)) (Go.Operand.const (.int .i64 sl)) 3, type := 3, pos := "", after := #[], guard := none } 44 ⟨.inn 6 (by kernel_rfl) e6, .inn 9 (by kernel_rfl) e9, trivial⟩ (by kernel_rfl) (by kernel_rfl) (by kernel_rfl) rfl rfl rfl ?_
      clear hd e6 e9
      go_wp2
      exact ⟨rfl, Ext.refl _, rfl⟩
  intro vals W6 hx hf
  have e10 : vals 10 = .int .i64 la := hf 10 (by omega)
  clear hf o6 w1_ w2_ w3_
  have hx := hx.undrew
  have J11 := J11.ext hx
  have J12 := J12.ext hx
  have hB := Ext.trans hB hx
  clear hx
  refine tail1 11 _ (by kernel_rfl) (by kernel_rfl) rfl ?_
  simp only [Lf, dstAt, Act.put, List.getElem?_toArray, List.getElem?_cons_zero, List.getElem?_cons_succ, Option.bind_some, List.setIfInBounds_toArray, List.set_cons_zero, List.set_cons_succ]
  rw [e10]
  clear e10
  go_wp2_with fail
  refine (HP1.out _).mono ?_
  rintro e w2 ⟨rfl, rfl⟩
  go_upto_region 7 with (fail)
  have J14 : Blk (W6.alloc (.cells #[.int .i64 a, .int .i64 0] 34)) W6.heap.size 34 #[.int .i64 a, .int .i64 0] := Blk.new _ _ _
  have hx : Ext W6 (W6.alloc (.cells #[.int .i64 a, .int .i64 0] 34)) := bl_alloc (Below.refl _ _) _
  obtain ⟨g14, hg⟩ : ∃ g, g = W6.heap.size := ⟨_, rfl⟩
  have n1 : g11 ≠ g14 := by have := J11.lt; omega
  have n2 : g12 ≠ g14 := by have := J12.lt; omega
  have n3 : w.heap.size ≤ g14 := by have := hB.size; omega
  rw [← hg] at J14 ⊢
  generalize W6.alloc (.cells #[.int .i64 a, .int .i64 0] 34) = W7 at J14 hx ⊢
  have J11 := J11.ext hx
  have J12 := J12.ext hx
  have hB := Ext.trans hB hx
  clear hx hg
  have t0 : W7.cell? ⟨g14, 0, none⟩ = some (.int .i64 a) := J14.cell 0
  have w1_ : IntKind.i64.wrap (a + 1) = a + 1 := IntWalk.i64_in _ (by omega)
  have w2_ : IntKind.i64.wrap (a + 1 + k2) = b := by rw [HBB.out]; exact IntWalk.i64_in _ (by omega)
  refine wp_region_obl 7 (fun ix vals v w1 => match ix with | 0 => v = .pointer (some ⟨g14, 0, none⟩) | 1 => v = .int .i64 a | 2 => v = .int .i64 (a + 1) | 3 => v = .int .i64 lg0 | 4 => v = .int .i64 k2 | 5 => v = .int .i64 b | _ => v = .pointer (some ⟨g14, 1, none⟩)) (by kernel_rfl) (by kernel_rfl) ?_ ?_ ?_ ?_
  · intro ix vals v w1 w2 hi hr hx
    match ix, hr with
    | 0, hr => exact hr
    | 1, hr => exact hr
    | 2, hr => exact hr
    | 3, hr => exact hr
    | 4, hr => exact hr
    | 5, hr => exact hr
    | (kx + 6), hr => exact hr
  · intro ix vals vals_ v w1 hi hv hr
    exact hr
  · refine obls_ofT [some 48, some 49, some 50, some 51, some 52, some 53, some 54, none] [(14, .pointer (some ⟨g14, 0, none⟩)), (3, .int .i64 lg0)] 233 (by kernel_rfl) (by kernel_rfl) ⟨by kernel_rfl, by kernel_rfl, trivial⟩ ?_
    refine ⟨?_, ?_, ?_, ?_, ?_, ?_, ?_, trivial⟩
    · intro vals w1 hx hd
      refine .run [(14, .pointer (some ⟨g14, 0, none⟩))] { dst := some 0, op := Go.Op.fieldAddr 34 (Go.Operand.const (.pointer (some ⟨g14, 0, none⟩))) 0, type := 0, pos := "", after := #[], guard := none } 48 ⟨.out (by kernel_rfl) (by kernel_rfl), trivial⟩ (by kernel_rfl) (by kernel_rfl) (by kernel_rfl) rfl rfl rfl ?_
      clear hd
      go_wp2
      exact ⟨rfl, Ext.refl _, rfl⟩
    · intro vals w1 hx hd
      have e0 : vals 0 = .pointer (some ⟨g14, 0, none⟩) := hd 0 (by decide)
      refine .run [(48, .pointer (some ⟨g14, 0, none⟩))] { dst := some 0, op := Go.Op.load 3 (Go.Operand.const (.pointer (some ⟨g14, 0, none⟩))), type := 3, pos := "", after := #[], guard := none } 49 ⟨.inn 0 (by kernel_rfl) e0, trivial⟩ (by kernel_rfl) (by kernel_rfl) (by kernel_rfl) rfl rfl rfl ?_
      clear hd e0
      have t0 := ext_cell hx t0
      go_wp2
      exact ⟨rfl, Ext.refl _, rfl⟩
    · intro vals w1 hx hd
      have e1 : vals 1 = .int .i64 a := hd 1 (by decide)
      refine .run [(49, .int .i64 a)] { dst := some 0, op := Go.Op.binOp Go.BinOp.add 3 (Go.Operand.const (.int .i64 a)) (Go.Operand.const (Go.Value.int Go.IntKind.i64 1)) 3, type := 3, pos := "", after := #[], guard := none } 50 ⟨.inn 1 (by kernel_rfl) e1, trivial⟩ (by kernel_rfl) (by kernel_rfl) (by kernel_rfl) rfl rfl rfl ?_
      clear hd e1
      go_wp2
      exact ⟨rfl, Ext.refl _, rfl⟩
    · intro vals w1 hx hd
      refine .run [(3, .int .i64 lg0)] { dst := some 0, op := Go.Op.move (Go.Operand.const (.int .i64 lg0)), type := 3, pos := "", after := #[], guard := none } 51 ⟨.out (by kernel_rfl) (by kernel_rfl), trivial⟩ (by kernel_rfl) (by kernel_rfl) (by kernel_rfl) rfl rfl rfl ?_
      clear hd
      go_wp2
      exact ⟨rfl, Ext.refl _, rfl⟩
    · intro vals w1 hx hd
      have e3 : vals 3 = .int .i64 lg0 := hd 3 (by decide)
      refine .run [(51, .int .i64 lg0)] { dst := some 0, op := Go.Op.call { callee := Go.Callee.value (Go.Operand.func 13), args := #[(Go.Operand.const (.int .i64 lg0)), Go.Operand.const (Go.Value.int Go.IntKind.i64 200)], argTypes := #[3, 3] }, type := 3, pos := "", after := #[], guard := none } 52 ⟨.inn 3 (by kernel_rfl) e3, trivial⟩ (by kernel_rfl) (by kernel_rfl) (by kernel_rfl) rfl rfl rfl ?_
      clear hd e3
      go_wp2_with fail
      refine (HP2.out _).mono ?_
      rintro e w2 ⟨rfl, rfl⟩
      go_wp2
      exact ⟨rfl, Ext.refl _, rfl⟩
    · intro vals w1 hx hd
      have e2 : vals 2 = .int .i64 (a + 1) := hd 2 (by decide)
      have e4 : vals 4 = .int .i64 k2 := hd 4 (by decide)
      refine .run [(50, .int .i64 (a + 1)), (52, .int .i64 k2)] { dst := some 0, op := Go.Op.binOp Go.BinOp.add 3 (Go.Operand.const (.int .i64 (a + 1))) (Go.Operand.const (.int .i64 k2)) 3, type := 3, pos := "", after := #[], guard := none } 53 ⟨.inn 2 (by kernel_rfl) e2, .inn 4 (by kernel_rfl) e4, trivial⟩ (by kernel_rfl) (by kernel_rfl) (by kernel_rfl) rfl rfl rfl ?_
      clear hd e2 e4
      go_wp2
      exact ⟨rfl, Ext.refl _, rfl⟩
    · intro vals w1 hx hd
      refine .run [(14, .pointer (some ⟨g14, 0, none⟩))] { dst := some 0, op := Go.Op.fieldAddr 34 (Go.Operand.const (.pointer (some ⟨g14, 0, none⟩))) 1, type := 0, pos := "", after := #[], guard := none } 54 ⟨.out (by kernel_rfl) (by kernel_rfl), trivial⟩ (by kernel_rfl) (by kernel_rfl) (by kernel_rfl) rfl rfl rfl ?_
      clear hd
      go_wp2
      exact ⟨rfl, Ext.refl _, rfl⟩
  intro vals W8 hx hf
  have e5 : vals 5 = .int .i64 b := hf 5 (by omega)
  have e6 : vals 6 = .pointer (some ⟨g14, 1, none⟩) := hf 6 (by omega)
  clear hf t0 w1_ w2_
  have hx := hx.undrew
  have J11 := J11.ext hx
  have J12 := J12.ext hx
  have J14 := J14.ext hx
  have hB := Ext.trans hB hx
  clear hx
  refine tail1 7 _ (by kernel_rfl) (by kernel_rfl) rfl ?_
  simp only [Lf, dstAt, Act.put, List.getElem?_toArray, List.getElem?_cons_zero, List.getElem?_cons_succ, Option.bind_some, List.setIfInBounds_toArray, List.set_cons_zero, List.set_cons_succ]
  rw [e5, e6]
  clear e5 e6
  have t1 : W8.cell? ⟨g14, 1, none⟩ = some (.int .i64 0) := J14.cell 1
  have t2 : W8.frozen? ⟨g14, 1, none⟩ = false := J14.frozen 1
  go_upto_region 8 with (fail)
  clear t1 t2
  have J11 := J11.far (p := ⟨g14, 1, none⟩) n1 (.int .i64 b)
  have J12 := J12.far (p := ⟨g14, 1, none⟩) n2 (.int .i64 b)
  have J14 := J14.set_ 1 (.int .i64 b)
  have hB := hB.setCell (p := ⟨g14, 1, none⟩) n3 (.int .i64 b)
  simp only [List.setIfInBounds_toArray, List.set_cons_zero, List.set_cons_succ] at J14
  generalize W8.setCell ⟨g14, 1, none⟩ (.int .i64 b) = W9 at J11 J12 J14 hB ⊢
  clear n1 n2 n3
  have o0 : W9.cell? ⟨g11, 2, none⟩ = some (.int .i64 p) := (J11.cell 2).trans HC2.out
  have o1 : W9.cell? ⟨g11, 3, none⟩ = some (.int .i64 f) := (J11.cell 3).trans HC3.out
  have o2 : W9.cell? ⟨g11, 4, none⟩ = some (.int .i64 lo) := (J11.cell 4).trans HC4.out
  have o3 : W9.cell? ⟨g11, 5, none⟩ = some (.int .i64 hi) := (J11.cell 5).trans HC5.out
  have o4 : W9.cell? ⟨g11, 6, none⟩ = some (.int .i64 no) := (J11.cell 6).trans HC6.out
  have o5 : W9.cell? ⟨g11, 7, none⟩ = some (.int .i64 tu) := (J11.cell 7).trans HC7.out
  have o6 : W9.cell? ⟨g11, 8, none⟩ = some (.int .i64 sl) := (J11.cell 8).trans HC8.out
  have s0 : W9.cell? ⟨g12, 0, none⟩ = some (.int .i64 sid) := J12.cell 0
  have s1 : W9.cell? ⟨g12, 1, none⟩ = some (.int .i64 sx) := J12.cell 1
  have s2 : W9.cell? ⟨g12, 2, none⟩ = some (.int .i64 sy) := J12.cell 2
  have s3 : W9.cell? ⟨g12, 3, none⟩ = some (.int .i64 sre) := J12.cell 3
  have s4 : W9.cell? ⟨g12, 4, none⟩ = some (.int .i64 san) := J12.cell 4
  have s5 : W9.cell? ⟨g12, 5, none⟩ = some (.int .i64 ssk) := J12.cell 5
  have t0 : W9.cell? ⟨g14, 0, none⟩ = some (.int .i64 a) := J14.cell 0
  have t1 : W9.cell? ⟨g14, 1, none⟩ = some (.int .i64 b) := J14.cell 1
  go_wp2_with fail
  refine (HK1.out _).mono ?_
  rintro e W10 ⟨v1, rfl, hown, hx⟩
  clear o0 o1 o2 o3 o4 o5 o6 s0 s1 s2 s3 s4 s5 t0 t1
  have J11 := J11.ext hx
  have J12 := J12.ext hx
  have J14 := J14.ext hx
  have hB := Ext.trans hB hx
  obtain ⟨n1, hn1⟩ : ∃ n, n = L1.length := ⟨_, rfl⟩
  have HLN1 := Lib.hid hn1
  have hnb1 : n1 ≤ 200 := by rw [hn1]; exact HLB1.out
  rw [← hn1] at hown
  obtain ⟨A1, c1, hv, _, _⟩ := own_slice hown
  subst hv
  have R1 := RA.of_own (cells := splCells) hown HLN1.out.symm (by omega)
  clear hx hown hn1
  have o0 : W10.cell? ⟨g11, 2, none⟩ = some (.int .i64 p) := (J11.cell 2).trans HC2.out
  have o1 : W10.cell? ⟨g11, 3, none⟩ = some (.int .i64 f) := (J11.cell 3).trans HC3.out
  have o2 : W10.cell? ⟨g11, 4, none⟩ = some (.int .i64 lo) := (J11.cell 4).trans HC4.out
  have o3 : W10.cell? ⟨g11, 5, none⟩ = some (.int .i64 hi) := (J11.cell 5).trans HC5.out
  have o4 : W10.cell? ⟨g11, 6, none⟩ = some (.int .i64 no) := (J11.cell 6).trans HC6.out
  have o5 : W10.cell? ⟨g11, 7, none⟩ = some (.int .i64 tu) := (J11.cell 7).trans HC7.out
  have o6 : W10.cell? ⟨g11, 8, none⟩ = some (.int .i64 sl) := (J11.cell 8).trans HC8.out
  have s0 : W10.cell? ⟨g12, 0, none⟩ = some (.int .i64 sid) := J12.cell 0
  have s1 : W10.cell? ⟨g12, 1, none⟩ = some (.int .i64 sx) := J12.cell 1
  have s2 : W10.cell? ⟨g12, 2, none⟩ = some (.int .i64 sy) := J12.cell 2
  have s3 : W10.cell? ⟨g12, 3, none⟩ = some (.int .i64 sre) := J12.cell 3
  have s4 : W10.cell? ⟨g12, 4, none⟩ = some (.int .i64 san) := J12.cell 4
  have s5 : W10.cell? ⟨g12, 5, none⟩ = some (.int .i64 ssk) := J12.cell 5
  have t0 : W10.cell? ⟨g14, 0, none⟩ = some (.int .i64 a) := J14.cell 0
  have t1 : W10.cell? ⟨g14, 1, none⟩ = some (.int .i64 b) := J14.cell 1
  go_wp2_with fail
  refine (HK0.out _).mono ?_
  rintro e W11 ⟨v0, rfl, hown, hx⟩
  clear o0 o1 o2 o3 o4 o5 o6 s0 s1 s2 s3 s4 s5 t0 t1
  have J11 := J11.ext hx
  have J12 := J12.ext hx
  have J14 := J14.ext hx
  have hB := Ext.trans hB hx
  have R1 := (R1.below hx).more hx.size
  obtain ⟨n0, hn0⟩ : ∃ n, n = L0.length := ⟨_, rfl⟩
  have HLN0 := Lib.hid hn0
  have hnb0 : n0 ≤ 200 := by rw [hn0]; exact HLB0.out
  rw [← hn0] at hown
  obtain ⟨A0, c0, hv, _, _⟩ := own_slice hown
  subst hv
  have R0 := RA.of_own (cells := splCells) hown HLN0.out.symm (by omega)
  clear hx hown hn0
  obtain ⟨Wb, hWb⟩ : ∃ W : World, W = W11 := ⟨_, rfl⟩
  have HR1 := Lib.hid R1
  have HR0 := Lib.hid R0
  clear R1 R0
  rw [← hWb] at J11 J12 J14 hB HR1 HR0 ⊢
  clear hWb
  have t0 : Wb.cell? ⟨g14, 0, none⟩ = some (.int .i64 a) := J14.cell 0
  go_wp2
  clear t0
  go_loopw [19, 20] (fun x y wr => ∃ (k : Nat) (t : Int), a ≤ t ∧ t ≤ b ∧ k ≤ n1 ∧ x = .int .i64 k ∧ y = .int .i64 t ∧ Hid (∀ (i : Nat) (h : i < L1.length), i < k → L1[i].tt ≤ t) ∧ Ext Wb wr) (fun _ y _ => (b - intOf y).toNat)
  case atStart => exact ⟨0, a, Int.le_refl _, by omega, Nat.zero_le _, rfl, rfl, Lib.hid (fun i h h2 => by omega), Ext.refl _⟩
  case round =>
    obtain ⟨k, t, ta, tb, hk, rfl, rfl, HI, hx⟩ := hrel
    have t1 : wr.cell? ⟨g14, 1, none⟩ = some (.int .i64 b) := (J14.ext hx).cell 1
    by_cases hlt : t < b
    · skip
      have o0 : wr.cell? ⟨g11, 2, none⟩ = some (.int .i64 p) := ((J11.ext hx).cell 2).trans HC2.out
      have o1 : wr.cell? ⟨g11, 3, none⟩ = some (.int .i64 f) := ((J11.ext hx).cell 3).trans HC3.out
      have o2 : wr.cell? ⟨g11, 4, none⟩ = some (.int .i64 lo) := ((J11.ext hx).cell 4).trans HC4.out
      have o3 : wr.cell? ⟨g11, 5, none⟩ = some (.int .i64 hi) := ((J11.ext hx).cell 5).trans HC5.out
      have o4 : wr.cell? ⟨g11, 6, none⟩ = some (.int .i64 no) := ((J11.ext hx).cell 6).trans HC6.out
      have o5 : wr.cell? ⟨g11, 7, none⟩ = some (.int .i64 tu) := ((J11.ext hx).cell 7).trans HC7.out
      have o6 : wr.cell? ⟨g11, 8, none⟩ = some (.int .i64 sl) := ((J11.ext hx).cell 8).trans HC8.out
      have s0 : wr.cell? ⟨g12, 0, none⟩ = some (.int .i64 sid) := (J12.ext hx).cell 0
      have s1 : wr.cell? ⟨g12, 1, none⟩ = some (.int .i64 sx) := (J12.ext hx).cell 1
      have s2 : wr.cell? ⟨g12, 2, none⟩ = some (.int .i64 sy) := (J12.ext hx).cell 2
      have s3 : wr.cell? ⟨g12, 3, none⟩ = some (.int .i64 sre) := (J12.ext hx).cell 3
      have s4 : wr.cell? ⟨g12, 4, none⟩ = some (.int .i64 san) := (J12.ext hx).cell 4
      have s5 : wr.cell? ⟨g12, 5, none⟩ = some (.int .i64 ssk) := (J12.ext hx).cell 5
      go_wp2_with fail
      refine (HVW.out t _ ta hlt).mono ?_
      rintro e W12 ⟨rfl, hx5⟩
      clear o0 o1 o2 o3 o4 o5 o6 s0 s1 s2 s3 s4 s5 t1
      have hx := Ext.trans hx hx5
      clear hx5
      go_wp2
      go_loopw [19] (fun x wi => ∃ k : Nat, k ≤ n1 ∧ x = .int .i64 k ∧ Hid (∀ (i : Nat) (h : i < L1.length), i < k → L1[i].tt ≤ t) ∧ wi = W12) (fun x _ => n1 - (intOf x).toNat)
      case atStart => exact ⟨k, hk, rfl, HI, rfl⟩
      case round =>
        clear HI hk
        obtain ⟨k, hk, rfl, HI, rfl⟩ := hrel
        by_cases hkn : k < n1
        · obtain ⟨gb, go, hz, hA, _, hc⟩ := (HR1.out.below hx).at_ spl_len hkn
          have hgap := sp_gap HOK.out k t ta hlt (by rw [← HLN1.out]; exact hk) HI.out
          have hpt := HI.out
          have d0 : wr.cell? ⟨gb, go + k * 2, none⟩ = some (.int .i64 L1[k].fr) := hc 0 (by omega)
          have d1 : wr.cell? ⟨gb, go + k * 2 + 1, none⟩ = some (.int .i64 L1[k].tt) := hc 1 (by omega)
          have hsp := sp_get HOK.out k hz
          by_cases htt : L1[k].tt ≤ t
          · have HI2 : Hid (∀ (i : Nat) (h : i < L1.length), i < k + 1 → L1[i].tt ≤ t) := Lib.hid (fun i h h2 => by
              by_cases e1 : i = k
              · subst e1; exact htt
              · exact hpt i h (by omega))
            generalize L1[k] = sp at d0 d1 htt
            clear hgap hpt hc hsp HI
            subst hA
            go_wp2
            go_roundw
            case rel => first | exact ⟨k + 1, by omega, by go_num, HI2, rfl⟩ | exact ⟨k + 1, by omega, by go_num, HI2, trivial⟩
            case measure => simp [intOf]; omega
          · have hin : inS ⟨L1[k].fr, L1[k].tt⟩ t = is1 t := by
              rw [(hgap (fun _ => by omega)).1 hz]
              simp only [inS]
              rw [decide_eq_true (show t < L1[k].tt by omega), Bool.and_true]
            have hca := in_any L1[k].fr L1[k].tt t
            rw [hin] at hca
            have HCA := Lib.hid hca
            have HI3 : Hid (∀ (i : Nat) (h : i < L1.length), i < k → L1[i].tt ≤ t + 1) := Lib.hid (fun i h h2 => by have := hpt i h h2; omega)
            have HTT := Lib.hid htt
            generalize L1[k].fr = f1 at d0 HCA
            generalize L1[k].tt = f2 at d1 HCA htt
            clear hgap hpt hc hsp HI hin hca HTT
            subst hA
            go_wp2_with fail
            refine (HCA.out _).mono ?_
            rintro e W13 ⟨rfl, hx6⟩
            have hx := Ext.trans hx hx6
            clear hx6 d0 d1
            generalize is1 t = qq
            have w1_ : IntKind.i64.wrap (t + 1) = t + 1 := IntWalk.i64_in _ (by omega)
            cases qq
            all_goals
              go_wp2
              go_roundw
              case rel => exact ⟨k, t + 1, by omega, by omega, hk, rfl, rfl, HI3, hx⟩
              case measure => simp [intOf]; omega
        · have hgap := sp_gap HOK.out k t ta hlt (by rw [← HLN1.out]; exact hk) HI.out
          have his : is1 t = false := (hgap (fun h => by have := HLN1.out; omega)).2 (by rw [← HLN1.out]; omega)
          have hpt := HI.out
          have HI3 : Hid (∀ (i : Nat) (h : i < L1.length), i < k → L1[i].tt ≤ t + 1) := Lib.hid (fun i h h2 => by have := hpt i h h2; omega)
          clear hgap hpt HI
          have w1_ : IntKind.i64.wrap (t + 1) = t + 1 := IntWalk.i64_in _ (by omega)
          rw [his]
          clear his
          go_wp2
          go_roundw
          case rel => exact ⟨k, t + 1, by omega, by omega, hk, rfl, rfl, HI3, hx⟩
          case measure => simp [intOf]; omega
    · clear HI
      go_wp2
      clear t1
      go_loopw [24] (fun x w2 => ∃ k : Nat, k ≤ n1 ∧ x = .int .i64 k ∧ Ext Wb w2) (fun x _ => n1 - (intOf x).toNat)
      case atStart => exact ⟨0, Nat.zero_le _, rfl, hx⟩
      case round =>
      clear hx hk
      obtain ⟨k, hk, rfl, hx⟩ := hrel
      by_cases hkn : k < n1
      · skip
        obtain ⟨gb, go, hz, hA, _, hc⟩ := (HR1.out.below hx).at_ spl_len hkn
        obtain ⟨⟨ba1, ba2, ba3⟩, -, -, -⟩ := sp_get HOK.out k hz
        have hnx := fun h => sp_next HOK.out (k - 1) h
        have hmem := HMEM.out k hz
        have dd0 : wr.cell? ⟨gb, go + k * 2, none⟩ = some (.int .i64 L1[k].fr) := hc 0 (by omega)
        have dd1 : wr.cell? ⟨gb, go + k * 2 + 1, none⟩ = some (.int .i64 L1[k].tt) := hc 1 (by omega)
        have t0 : wr.cell? ⟨g14, 0, none⟩ = some (.int .i64 a) := (J14.ext hx).cell 0
        have t1 : wr.cell? ⟨g14, 1, none⟩ = some (.int .i64 b) := (J14.ext hx).cell 1
        obtain ⟨pt, hpt⟩ : ∃ pt : Int, (0 < k → pt < L1[k].fr ∧ wr.cell? ⟨gb, go + (k - 1) * 2 + 1, none⟩ = some (.int .i64 pt)) := by
          by_cases hk0 : 0 < k
          · obtain ⟨gb', go', hz', hA', _, hc'⟩ := (HR1.out.below hx).at_ spl_len (show k - 1 < n1 by omega)
            obtain ⟨rfl, rfl⟩ : gb' = gb ∧ go' = go := by rw [hA] at hA'; injection hA' with hA'; injection hA' with h1 h2; exact ⟨h1.symm, h2.symm⟩
            refine ⟨L1[k - 1].tt, fun _ => ⟨?_, hc' 1 (by omega)⟩⟩
            have := hnx (by omega)
            simpa [show k - 1 + 1 = k by omega] using this
          · exact ⟨0, fun h => absurd h hk0⟩
        generalize L1[k].fr = f1 at ba1 ba2 ba3 hmem dd0 hpt
        generalize L1[k].tt = f2 at ba2 ba3 hmem dd1
        have HME := Lib.hid hmem
        have HHZ := Lib.hid hz
        clear hnx hmem hc hz
        subst hA
        have cf1 : decide (f1 < a) = false := by simp; omega
        have cf2 : decide (f2 ≤ f1) = false := by simp; omega
        have cf3 : decide (b < f2) = false := by simp; omega
        go_upto_region 27 with (fail)
        by_cases hk0 : k = 0
        · have hk0' : ¬ (0 : Int) < (k : Int) := by omega
          have hkd : decide (0 < k) = false := by simp; omega
          have HK0 := Lib.hid hk0
          clear hk0 hpt
          refine wp_region_obl 49 (fun ix vals v w1 => match ix with | 0 => v = .slice (some ⟨gb, go, none⟩) n1 c1 | 1 => v = .int .i64 (k : Int) | 2 => v = .pointer (some ⟨gb, go + k * 2, none⟩) | 3 => v = .pointer (some ⟨gb, go + k * 2, none⟩) | 4 => v = .int .i64 f1 | 5 => v = .pointer (some ⟨g14, 0, none⟩) | 6 => v = .int .i64 a | 7 => v = .bool false | 8 => v = .bool false | 9 => v = .slice (some ⟨gb, go, none⟩) n1 c1 | 10 => v = .int .i64 (k : Int) | 11 => v = .pointer (some ⟨gb, go + k * 2, none⟩) | 12 => v = .pointer (some ⟨gb, go + k * 2, none⟩) | 13 => v = .int .i64 f1 | 14 => v = .slice (some ⟨gb, go, none⟩) n1 c1 | 15 => v = .int .i64 (k : Int) | 16 => v = .pointer (some ⟨gb, go + k * 2, none⟩) | 17 => v = .pointer (some ⟨gb, go + k * 2 + 1, none⟩) | 18 => v = .int .i64 f2 | 19 => v = .bool false | 20 => v = .bool false | 21 => v = .bool false | 22 => v = .slice (some ⟨gb, go, none⟩) n1 c1 | 23 => v = .int .i64 (k : Int) | 24 => v = .pointer (some ⟨gb, go + k * 2, none⟩) | 25 => v = .pointer (some ⟨gb, go + k * 2 + 1, none⟩) | 26 => v = .int .i64 f2 | 27 => v = .pointer (some ⟨g14, 1, none⟩) | 28 => v = .int .i64 b | 29 => v = .bool false | 30 => v = .bool false | 31 => v = .bool false | 32 => v = .int .i64 (k : Int) | 33 => v = .bool false | 34 => v = .bool false | 35 => v = undef | 36 => v = undef | 37 => v = undef | 38 => v = undef | 39 => v = undef | 40 => v = undef | 41 => v = undef | 42 => v = undef | 43 => v = undef | 44 => v = undef | 45 => v = undef | 46 => v = undef | 47 => v = .bool false | _ => v = .bool false) (by kernel_rfl) (by kernel_rfl) ?_ ?_ ?_ ?_
          · intro ix vals v w1 w2 hi hr hx
            match ix, hr with
            | 0, hr => exact hr
            | 1, hr => exact hr
            | 2, hr => exact hr
            | 3, hr => exact hr
            | 4, hr => exact hr
            | 5, hr => exact hr
            | 6, hr => exact hr
            | 7, hr => exact hr
            | 8, hr => exact hr
            | 9, hr => exact hr
            | 10, hr => exact hr
            | 11, hr => exact hr
            | 12, hr => exact hr
            | 13, hr => exact hr
            | 14, hr => exact hr
            | 15, hr => exact hr
            | 16, hr => exact hr
            | 17, hr => exact hr
            | 18, hr => exact hr
            | 19, hr => exact hr
            | 20, hr => exact hr
            | 21, hr => exact hr
            | 22, hr => exact hr
            | 23, hr => exact hr
            | 24, hr => exact hr
            | 25, hr => exact hr
            | 26, hr => exact hr
            | 27, hr => exact hr
            | 28, hr => exact hr
            | 29, hr => exact hr
            | 30, hr => exact hr
            | 31, hr => exact hr
            | 32, hr => exact hr
            | 33, hr => exact hr
            | 34, hr => exact hr
            | 35, hr => exact hr
            | 36, hr => exact hr
            | 37, hr => exact hr
            | 38, hr => exact hr
            | 39, hr => exact hr
            | 40, hr => exact hr
            | 41, hr => exact hr
            | 42, hr => exact hr
            | 43, hr => exact hr
            | 44, hr => exact hr
            | 45, hr => exact hr
            | 46, hr => exact hr
            | 47, hr => exact hr
            | (kx + 48), hr => exact hr
          · intro ix vals vals_ v w1 hi hv hr
            exact hr
          · refine obls_ofT [some 133, some 134, some 135, some 136, some 137, some 138, some 139, some 140, some 141, some 142, some 143, some 144, some 145, some 146, some 147, some 148, some 149, some 150, some 151, some 152, some 153, some 154, some 155, some 156, some 157, some 158, some 159, some 160, some 161, some 162, some 163, some 164, some 165, some 166, some 167, some 168, some 169, some 170, some 171, some 172, some 173, some 174, some 175, some 176, some 177, some 178, some 179, some 180, some 181] [(15, .slice (some ⟨gb, go, none⟩) n1 c1), (24, .int .i64 (k : Int)), (14, .pointer (some ⟨g14, 0, none⟩))] 233 (by kernel_rfl) (by kernel_rfl) ⟨by kernel_rfl, by kernel_rfl, by kernel_rfl, trivial⟩ ?_
            refine ⟨?_, ?_, ?_, ?_, ?_, ?_, ?_, ?_, ?_, ?_, ?_, ?_, ?_, ?_, ?_, ?_, ?_, ?_, ?_, ?_, ?_, ?_, ?_, ?_, ?_, ?_, ?_, ?_, ?_, ?_, ?_, ?_, ?_, ?_, ?_, ?_, ?_, ?_, ?_, ?_, ?_, ?_, ?_, ?_, ?_, ?_, ?_, ?_, ?_, trivial⟩
            · intro vals w1 hx hd
              refine .run [(15, .slice (some ⟨gb, go, none⟩) n1 c1)] { dst := some 0, op := Go.Op.move (Go.Operand.const (.slice (some ⟨gb, go, none⟩) n1 c1)), type := 54, pos := "", after := #[], guard := none } 133 ⟨.out (by kernel_rfl) (by kernel_rfl), trivial⟩ (by kernel_rfl) (by kernel_rfl) (by kernel_rfl) rfl rfl rfl ?_
              clear hd
              go_wp2
              exact ⟨rfl, Ext.refl _, rfl⟩
            · intro vals w1 hx hd
              refine .run [(24, .int .i64 (k : Int))] { dst := some 0, op := Go.Op.move (Go.Operand.const (.int .i64 (k : Int))), type := 3, pos := "", after := #[], guard := none } 134 ⟨.out (by kernel_rfl) (by kernel_rfl), trivial⟩ (by kernel_rfl) (by kernel_rfl) (by kernel_rfl) rfl rfl rfl ?_
              clear hd
              go_wp2
              exact ⟨rfl, Ext.refl _, rfl⟩
            · intro vals w1 hx hd
              have e0 : vals 0 = .slice (some ⟨gb, go, none⟩) n1 c1 := hd 0 (by decide)
              have e1 : vals 1 = .int .i64 (k : Int) := hd 1 (by decide)
              refine .run [(133, .slice (some ⟨gb, go, none⟩) n1 c1), (134, .int .i64 (k : Int))] { dst := some 0, op := Go.Op.indexAddr 54 (Go.Operand.const (.slice (some ⟨gb, go, none⟩) n1 c1)) (Go.Operand.const (.int .i64 (k : Int))), type := 0, pos := "", after := #[], guard := none } 135 ⟨.inn 0 (by kernel_rfl) e0, .inn 1 (by kernel_rfl) e1, trivial⟩ (by kernel_rfl) (by kernel_rfl) (by kernel_rfl) rfl rfl rfl ?_
              clear hd e0 e1
              go_wp2
              exact ⟨rfl, Ext.refl _, rfl⟩
            · intro vals w1 hx hd
              have e2 : vals 2 = .pointer (some ⟨gb, go + k * 2, none⟩) := hd 2 (by decide)
              refine .run [(135, .pointer (some ⟨gb, go + k * 2, none⟩))] { dst := some 0, op := Go.Op.fieldAddr 34 (Go.Operand.const (.pointer (some ⟨gb, go + k * 2, none⟩))) 0, type := 0, pos := "", after := #[], guard := none } 136 ⟨.inn 2 (by kernel_rfl) e2, trivial⟩ (by kernel_rfl) (by kernel_rfl) (by kernel_rfl) rfl rfl rfl ?_
              clear hd e2
              go_wp2
              exact ⟨rfl, Ext.refl _, rfl⟩
            · intro vals w1 hx hd
              have e3 : vals 3 = .pointer (some ⟨gb, go + k * 2, none⟩) := hd 3 (by decide)
              refine .run [(136, .pointer (some ⟨gb, go + k * 2, none⟩))] { dst := some 0, op := Go.Op.load 3 (Go.Operand.const (.pointer (some ⟨gb, go + k * 2, none⟩))), type := 3, pos := "", after := #[], guard := none } 137 ⟨.inn 3 (by kernel_rfl) e3, trivial⟩ (by kernel_rfl) (by kernel_rfl) (by kernel_rfl) rfl rfl rfl ?_
              clear hd e3
              have dd0 := ext_cell hx dd0
              go_wp2
              exact ⟨rfl, Ext.refl _, rfl⟩
            · intro vals w1 hx hd
              refine .run [(14, .pointer (some ⟨g14, 0, none⟩))] { dst := some 0, op := Go.Op.fieldAddr 34 (Go.Operand.const (.pointer (some ⟨g14, 0, none⟩))) 0, type := 0, pos := "", after := #[], guard := none } 138 ⟨.out (by kernel_rfl) (by kernel_rfl), trivial⟩ (by kernel_rfl) (by kernel_rfl) (by kernel_rfl) rfl rfl rfl ?_
              clear hd
              go_wp2
              exact ⟨rfl, Ext.refl _, rfl⟩
            · intro vals w1 hx hd
              have e5 : vals 5 = .pointer (some ⟨g14, 0, none⟩) := hd 5 (by decide)
              refine .run [(138, .pointer (some ⟨g14, 0, none⟩))] { dst := some 0, op := Go.Op.load 3 (Go.Operand.const (.pointer (some ⟨g14, 0, none⟩))), type := 3, pos := "", after := #[], guard := none } 139 ⟨.inn 5 (by kernel_rfl) e5, trivial⟩ (by kernel_rfl) (by kernel_rfl) (by kernel_rfl) rfl rfl rfl ?_
              clear hd e5
              have t0 := ext_cell hx t0
              go_wp2
              exact ⟨rfl, Ext.refl _, rfl⟩
            · intro vals w1 hx hd
              have e4 : vals 4 = .int .i64 f1 := hd 4 (by decide)
              have e6 : vals 6 = .int .i64 a := hd 6 (by decide)
              refine .run [(137, .int .i64 f1), (139, .int .i64 a)] { dst := some 0, op := Go.Op.binOp Go.BinOp.lss 3 (Go.Operand.const (.int .i64 f1)) (Go.Operand.const (.int .i64 a)) 3, type := 4, pos := "", after := #[], guard := none } 140 ⟨.inn 4 (by kernel_rfl) e4, .inn 6 (by kernel_rfl) e6, trivial⟩ (by kernel_rfl) (by kernel_rfl) (by kernel_rfl) rfl rfl rfl ?_
              clear hd e4 e6
              go_wp2
              exact ⟨rfl, Ext.refl _, rfl⟩
            · intro vals w1 hx hd
              have e7 : vals 7 = .bool false := hd 7 (by decide)
              refine .run [(140, .bool false)] { dst := some 0, op := Go.Op.move (Go.Operand.const (.bool false)), type := 4, pos := "", after := #[], guard := none } 141 ⟨.inn 7 (by kernel_rfl) e7, trivial⟩ (by kernel_rfl) (by kernel_rfl) (by kernel_rfl) rfl rfl rfl ?_
              clear hd e7
              go_wp2
              exact ⟨rfl, Ext.refl _, rfl⟩
            · intro vals w1 hx hd
              have e8 : vals 8 = .bool false := hd 8 (by decide)
              refine .run [(15, .slice (some ⟨gb, go, none⟩) n1 c1), (141, .bool false)] { dst := some 0, op := Go.Op.move (Go.Operand.const (.slice (some ⟨gb, go, none⟩) n1 c1)), type := 54, pos := "", after := #[], guard := none } 142 ⟨.out (by kernel_rfl) (by kernel_rfl), .inn 8 (by kernel_rfl) e8, trivial⟩ (by kernel_rfl) (by kernel_rfl) (by kernel_rfl) rfl rfl rfl ?_
              clear hd e8
              go_wp2
              exact ⟨rfl, Ext.refl _, rfl⟩
            · intro vals w1 hx hd
              have e8 : vals 8 = .bool false := hd 8 (by decide)
              refine .run [(24, .int .i64 (k : Int)), (141, .bool false)] { dst := some 0, op := Go.Op.move (Go.Operand.const (.int .i64 (k : Int))), type := 3, pos := "", after := #[], guard := none } 143 ⟨.out (by kernel_rfl) (by kernel_rfl), .inn 8 (by kernel_rfl) e8, trivial⟩ (by kernel_rfl) (by kernel_rfl) (by kernel_rfl) rfl rfl rfl ?_
              clear hd e8
              go_wp2
              exact ⟨rfl, Ext.refl _, rfl⟩
            · intro vals w1 hx hd
              have e9 : vals 9 = .slice (some ⟨gb, go, none⟩) n1 c1 := hd 9 (by decide)
              have e10 : vals 10 = .int .i64 (k : Int) := hd 10 (by decide)
              have e8 : vals 8 = .bool false := hd 8 (by decide)
              refine .run [(142, .slice (some ⟨gb, go, none⟩) n1 c1), (143, .int .i64 (k : Int)), (141, .bool false)] { dst := some 0, op := Go.Op.indexAddr 54 (Go.Operand.const (.slice (some ⟨gb, go, none⟩) n1 c1)) (Go.Operand.const (.int .i64 (k : Int))), type := 0, pos := "", after := #[], guard := none } 144 ⟨.inn 9 (by kernel_rfl) e9, .inn 10 (by kernel_rfl) e10, .inn 8 (by kernel_rfl) e8, trivial⟩ (by kernel_rfl) (by kernel_rfl) (by kernel_rfl) rfl rfl rfl ?_
              clear hd e9 e10 e8
              go_wp2
              exact ⟨rfl, Ext.refl _, rfl⟩
            · intro vals w1 hx hd
              have e11 : vals 11 = .pointer (some ⟨gb, go + k * 2, none⟩) := hd 11 (by decide)
              have e8 : vals 8 = .bool false := hd 8 (by decide)
              refine .run [(144, .pointer (some ⟨gb, go + k * 2, none⟩)), (141, .bool false)] { dst := some 0, op := Go.Op.fieldAddr 34 (Go.Operand.const (.pointer (some ⟨gb, go + k * 2, none⟩))) 0, type := 0, pos := "", after := #[], guard := none } 145 ⟨.inn 11 (by kernel_rfl) e11, .inn 8 (by kernel_rfl) e8, trivial⟩ (by kernel_rfl) (by kernel_rfl) (by kernel_rfl) rfl rfl rfl ?_
              clear hd e11 e8
              go_wp2
              exact ⟨rfl, Ext.refl _, rfl⟩
            · intro vals w1 hx hd
              have e12 : vals 12 = .pointer (some ⟨gb, go + k * 2, none⟩) := hd 12 (by decide)
              have e8 : vals 8 = .bool false := hd 8 (by decide)
              refine .run [(145, .pointer (some ⟨gb, go + k * 2, none⟩)), (141, .bool false)] { dst := some 0, op := Go.Op.load 3 (Go.Operand.const (.pointer (some ⟨gb, go + k * 2, none⟩))), type := 3, pos := "", after := #[], guard := none } 146 ⟨.inn 12 (by kernel_rfl) e12, .inn 8 (by kernel_rfl) e8, trivial⟩ (by kernel_rfl) (by kernel_rfl) (by kernel_rfl) rfl rfl rfl ?_
              clear hd e12 e8
              have dd0 := ext_cell hx dd0
              go_wp2
              exact ⟨rfl, Ext.refl _, rfl⟩
            · intro vals w1 hx hd
              have e8 : vals 8 = .bool false := hd 8 (by decide)
              refine .run [(15, .slice (some ⟨gb, go, none⟩) n1 c1), (141, .bool false)] { dst := some 0, op := Go.Op.move (Go.Operand.const (.slice (some ⟨gb, go, none⟩) n1 c1)), type := 54, pos := "", after := #[], guard := none } 147 ⟨.out (by kernel_rfl) (by kernel_rfl), .inn 8 (by kernel_rfl) e8, trivial⟩ (by kernel_rfl) (by kernel_rfl) (by kernel_rfl) rfl rfl rfl ?_
              clear hd e8
              go_wp2
              exact ⟨rfl, Ext.refl _, rfl⟩
            · intro vals w1 hx hd
              have e8 : vals 8 = .bool false := hd 8 (by decide)
              refine .run [(24, .int .i64 (k : Int)), (141, .bool false)] { dst := some 0, op := Go.Op.move (Go.Operand.const (.int .i64 (k : Int))), type := 3, pos := "", after := #[], guard := none } 148 ⟨.out (by kernel_rfl) (by kernel_rfl), .inn 8 (by kernel_rfl) e8, trivial⟩ (by kernel_rfl) (by kernel_rfl) (by kernel_rfl) rfl rfl rfl ?_
              clear hd e8
              go_wp2
              exact ⟨rfl, Ext.refl _, rfl⟩
            · intro vals w1 hx hd
              have e14 : vals 14 = .slice (some ⟨gb, go, none⟩) n1 c1 := hd 14 (by decide)
              have e15 : vals 15 = .int .i64 (k : Int) := hd 15 (by decide)
              have e8 : vals 8 = .bool false := hd 8 (by decide)
              refine .run [(147, .slice (some ⟨gb, go, none⟩) n1 c1), (148, .int .i64 (k : Int)), (141, .bool false)] { dst := some 0, op := Go.Op.indexAddr 54 (Go.Operand.const (.slice (some ⟨gb, go, none⟩) n1 c1)) (Go.Operand.const (.int .i64 (k : Int))), type := 0, pos := "", after := #[], guard := none } 149 ⟨.inn 14 (by kernel_rfl) e14, .inn 15 (by kernel_rfl) e15, .inn 8 (by kernel_rfl) e8, trivial⟩ (by kernel_rfl) (by kernel_rfl) (by kernel_rfl) rfl rfl rfl ?_
              clear hd e14 e15 e8
              go_wp2
              exact ⟨rfl, Ext.refl _, rfl⟩
            · intro vals w1 hx hd
              have e16 : vals 16 = .pointer (some ⟨gb, go + k * 2, none⟩) := hd 16 (by decide)
              have e8 : vals 8 = .bool false := hd 8 (by decide)
              refine .run [(149, .pointer (some ⟨gb, go + k * 2, none⟩)), (141, .bool false)] { dst := some 0, op := Go.Op.fieldAddr 34 (Go.Operand.const (.pointer (some ⟨gb, go + k * 2, none⟩))) 1, type := 0, pos := "", after := #[], guard := none } 150 ⟨.inn 16 (by kernel_rfl) e16, .inn 8 (by kernel_rfl) e8, trivial⟩ (by kernel_rfl) (by kernel_rfl) (by kernel_rfl) rfl rfl rfl ?_
              clear hd e16 e8
              go_wp2
              exact ⟨rfl, Ext.refl _, rfl⟩
            · intro vals w1 hx hd
              have e17 : vals 17 = .pointer (some ⟨gb, go + k * 2 + 1, none⟩) := hd 17 (by decide)
              have e8 : vals 8 = .bool false := hd 8 (by decide)
              refine .run [(150, .pointer (some ⟨gb, go + k * 2 + 1, none⟩)), (141, .bool false)] { dst := some 0, op := Go.Op.load 3 (Go.Operand.const (.pointer (some ⟨gb, go + k * 2 + 1, none⟩))), type := 3, pos := "", after := #[], guard := none } 151 ⟨.inn 17 (by kernel_rfl) e17, .inn 8 (by kernel_rfl) e8, trivial⟩ (by kernel_rfl) (by kernel_rfl) (by kernel_rfl) rfl rfl rfl ?_
              clear hd e17 e8
              have dd1 := ext_cell hx dd1
              go_wp2
              exact ⟨rfl, Ext.refl _, rfl⟩
            · intro vals w1 hx hd
              have e13 : vals 13 = .int .i64 f1 := hd 13 (by decide)
              have e18 : vals 18 = .int .i64 f2 := hd 18 (by decide)
              have e8 : vals 8 = .bool false := hd 8 (by decide)
              refine .run [(146, .int .i64 f1), (151, .int .i64 f2), (141, .bool false)] { dst := some 0, op := Go.Op.binOp Go.BinOp.geq 3 (Go.Operand.const (.int .i64 f1)) (Go.Operand.const (.int .i64 f2)) 3, type := 4, pos := "", after := #[], guard := none } 152 ⟨.inn 13 (by kernel_rfl) e13, .inn 18 (by kernel_rfl) e18, .inn 8 (by kernel_rfl) e8, trivial⟩ (by kernel_rfl) (by kernel_rfl) (by kernel_rfl) rfl rfl rfl ?_
              clear hd e13 e18 e8
              go_wp2
              exact ⟨rfl, Ext.refl _, rfl⟩
            · intro vals w1 hx hd
              have e8 : vals 8 = .bool false := hd 8 (by decide)
              have e19 : vals 19 = .bool false := hd 19 (by decide)
              refine .run [(141, .bool false), (152, .bool false)] { dst := some 0, op := Go.Op.pick (Go.Operand.const (.bool false)) (Go.Operand.const (Go.Value.bool true)) (Go.Operand.const (.bool false)), type := 4, pos := "", after := #[], guard := none } 153 ⟨.inn 8 (by kernel_rfl) e8, .inn 19 (by kernel_rfl) e19, trivial⟩ (by kernel_rfl) (by kernel_rfl) (by kernel_rfl) rfl rfl rfl ?_
              clear hd e8 e19
              go_wp2
              exact ⟨rfl, Ext.refl _, rfl⟩
            · intro vals w1 hx hd
              have e20 : vals 20 = .bool false := hd 20 (by decide)
              refine .run [(153, .bool false)] { dst := some 0, op := Go.Op.move (Go.Operand.const (.bool false)), type := 4, pos := "", after := #[], guard := none } 154 ⟨.inn 20 (by kernel_rfl) e20, trivial⟩ (by kernel_rfl) (by kernel_rfl) (by kernel_rfl) rfl rfl rfl ?_
              clear hd e20
              go_wp2
              exact ⟨rfl, Ext.refl _, rfl⟩
            · intro vals w1 hx hd
              have e21 : vals 21 = .bool false := hd 21 (by decide)
              refine .run [(15, .slice (some ⟨gb, go, none⟩) n1 c1), (154, .bool false)] { dst := some 0, op := Go.Op.move (Go.Operand.const (.slice (some ⟨gb, go, none⟩) n1 c1)), type := 54, pos := "", after := #[], guard := none } 155 ⟨.out (by kernel_rfl) (by kernel_rfl), .inn 21 (by kernel_rfl) e21, trivial⟩ (by kernel_rfl) (by kernel_rfl) (by kernel_rfl) rfl rfl rfl ?_
              clear hd e21
              go_wp2
              exact ⟨rfl, Ext.refl _, rfl⟩
            · intro vals w1 hx hd
              have e21 : vals 21 = .bool false := hd 21 (by decide)
              refine .run [(24, .int .i64 (k : Int)), (154, .bool false)] { dst := some 0, op := Go.Op.move (Go.Operand.const (.int .i64 (k : Int))), type := 3, pos := "", after := #[], guard := none } 156 ⟨.out (by kernel_rfl) (by kernel_rfl), .inn 21 (by kernel_rfl) e21, trivial⟩ (by kernel_rfl) (by kernel_rfl) (by kernel_rfl) rfl rfl rfl ?_
              clear hd e21
              go_wp2
              exact ⟨rfl, Ext.refl _, rfl⟩
            · intro vals w1 hx hd
              have e22 : vals 22 = .slice (some ⟨gb, go, none⟩) n1 c1 := hd 22 (by decide)
              have e23 : vals 23 = .int .i64 (k : Int) := hd 23 (by decide)
              have e21 : vals 21 = .bool false := hd 21 (by decide)
              refine .run [(155, .slice (some ⟨gb, go, none⟩) n1 c1), (156, .int .i64 (k : Int)), (154, .bool false)] { dst := some 0, op := Go.Op.indexAddr 54 (Go.Operand.const (.slice (some ⟨gb, go, none⟩) n1 c1)) (Go.Operand.const (.int .i64 (k : Int))), type := 0, pos := "", after := #[], guard := none } 157 ⟨.inn 22 (by kernel_rfl) e22, .inn 23 (by kernel_rfl) e23, .inn 21 (by kernel_rfl) e21, trivial⟩ (by kernel_rfl) (by kernel_rfl) (by kernel_rfl) rfl rfl rfl ?_
              clear hd e22 e23 e21
              go_wp2
              exact ⟨rfl, Ext.refl _, rfl⟩
            · intro vals w1 hx hd
              have e24 : vals 24 = .pointer (some ⟨gb, go + k * 2, none⟩) := hd 24 (by decide)
              have e21 : vals 21 = .bool false := hd 21 (by decide)
              refine .run [(157, .pointer (some ⟨gb, go + k * 2, none⟩)), (154, .bool false)] { dst := some 0, op := Go.Op.fieldAddr 34 (Go.Operand.const (.pointer (some ⟨gb, go + k * 2, none⟩))) 1, type := 0, pos := "", after := #[], guard := none } 158 ⟨.inn 24 (by kernel_rfl) e24, .inn 21 (by kernel_rfl) e21, trivial⟩ (by kernel_rfl) (by kernel_rfl) (by kernel_rfl) rfl rfl rfl ?_
              clear hd e24 e21
              go_wp2
              exact ⟨rfl, Ext.refl _, rfl⟩
            · intro vals w1 hx hd
              have e25 : vals 25 = .pointer (some ⟨gb, go + k * 2 + 1, none⟩) := hd 25 (by decide)
              have e21 : vals 21 = .bool false := hd 21 (by decide)
              refine .run [(158, .pointer (some ⟨gb, go + k * 2 + 1, none⟩)), (154, .bool false)] { dst := some 0, op := Go.Op.load 3 (Go.Operand.const (.pointer (some ⟨gb, go + k * 2 + 1, none⟩))), type := 3, pos := "", after := #[], guard := none } 159 ⟨.inn 25 (by kernel_rfl) e25, .inn 21 (by kernel_rfl) e21, trivial⟩ (by kernel_rfl) (by kernel_rfl) (by kernel_rfl) rfl rfl rfl ?_
              clear hd e25 e21
              have dd1 := ext_cell hx dd1
              go_wp2
              exact ⟨rfl, Ext.refl _, rfl⟩
            · intro vals w1 hx hd
              have e21 : vals 21 = .bool false := hd 21 (by decide)
              refine .run [(14, .pointer (some ⟨g14, 0, none⟩)), (154, .bool false)] { dst := some 0, op := Go.Op.fieldAddr 34 (Go.Operand.const (.pointer (some ⟨g14, 0, none⟩))) 1, type := 0, pos := "", after := #[], guard := none } 160 ⟨.out (by kernel_rfl) (by kernel_rfl), .inn 21 (by kernel_rfl) e21, trivial⟩ (by kernel_rfl) (by kernel_rfl) (by kernel_rfl) rfl rfl rfl ?_
              clear hd e21
              go_wp2
              exact ⟨rfl, Ext.refl _, rfl⟩
            · intro vals w1 hx hd
              have e27 : vals 27 = .pointer (some ⟨g14, 1, none⟩) := hd 27 (by decide)
              have e21 : vals 21 = .bool false := hd 21 (by decide)
              refine .run [(160, .pointer (some ⟨g14, 1, none⟩)), (154, .bool false)] { dst := some 0, op := Go.Op.load 3 (Go.Operand.const (.pointer (some ⟨g14, 1, none⟩))), type := 3, pos := "", after := #[], guard := none } 161 ⟨.inn 27 (by kernel_rfl) e27, .inn 21 (by kernel_rfl) e21, trivial⟩ (by kernel_rfl) (by kernel_rfl) (by kernel_rfl) rfl rfl rfl ?_
              clear hd e27 e21
              have t1 := ext_cell hx t1
              go_wp2
              exact ⟨rfl, Ext.refl _, rfl⟩
            · intro vals w1 hx hd
              have e26 : vals 26 = .int .i64 f2 := hd 26 (by decide)
              have e28 : vals 28 = .int .i64 b := hd 28 (by decide)
              have e21 : vals 21 = .bool false := hd 21 (by decide)
              refine .run [(159, .int .i64 f2), (161, .int .i64 b), (154, .bool false)] { dst := some 0, op := Go.Op.binOp Go.BinOp.gtr 3 (Go.Operand.const (.int .i64 f2)) (Go.Operand.const (.int .i64 b)) 3, type := 4, pos := "", after := #[], guard := none } 162 ⟨.inn 26 (by kernel_rfl) e26, .inn 28 (by kernel_rfl) e28, .inn 21 (by kernel_rfl) e21, trivial⟩ (by kernel_rfl) (by kernel_rfl) (by kernel_rfl) rfl rfl rfl ?_
              clear hd e26 e28 e21
              go_wp2
              exact ⟨rfl, Ext.refl _, rfl⟩
            · intro vals w1 hx hd
              have e21 : vals 21 = .bool false := hd 21 (by decide)
              have e29 : vals 29 = .bool false := hd 29 (by decide)
              refine .run [(154, .bool false), (162, .bool false)] { dst := some 0, op := Go.Op.pick (Go.Operand.const (.bool false)) (Go.Operand.const (Go.Value.bool true)) (Go.Operand.const (.bool false)), type := 4, pos := "", after := #[], guard := none } 163 ⟨.inn 21 (by kernel_rfl) e21, .inn 29 (by kernel_rfl) e29, trivial⟩ (by kernel_rfl) (by kernel_rfl) (by kernel_rfl) rfl rfl rfl ?_
              clear hd e21 e29
              go_wp2
              exact ⟨rfl, Ext.refl _, rfl⟩
            · intro vals w1 hx hd
              have e30 : vals 30 = .bool false := hd 30 (by decide)
              refine .run [(163, .bool false)] { dst := some 0, op := Go.Op.move (Go.Operand.const (.bool false)), type := 4, pos := "", after := #[], guard := none } 164 ⟨.inn 30 (by kernel_rfl) e30, trivial⟩ (by kernel_rfl) (by kernel_rfl) (by kernel_rfl) rfl rfl rfl ?_
              clear hd e30
              go_wp2
              exact ⟨rfl, Ext.refl _, rfl⟩
            · intro vals w1 hx hd
              have e31 : vals 31 = .bool false := hd 31 (by decide)
              refine .run [(24, .int .i64 (k : Int)), (164, .bool false)] { dst := some 0, op := Go.Op.move (Go.Operand.const (.int .i64 (k : Int))), type := 3, pos := "", after := #[], guard := none } 165 ⟨.out (by kernel_rfl) (by kernel_rfl), .inn 31 (by kernel_rfl) e31, trivial⟩ (by kernel_rfl) (by kernel_rfl) (by kernel_rfl) rfl rfl rfl ?_
              clear hd e31
              go_wp2
              exact ⟨rfl, Ext.refl _, rfl⟩
            · intro vals w1 hx hd
              have e32 : vals 32 = .int .i64 (k : Int) := hd 32 (by decide)
              have e31 : vals 31 = .bool false := hd 31 (by decide)
              refine .run [(165, .int .i64 (k : Int)), (164, .bool false)] { dst := some 0, op := Go.Op.binOp Go.BinOp.gtr 3 (Go.Operand.const (.int .i64 (k : Int))) (Go.Operand.const (Go.Value.int Go.IntKind.i64 0)) 3, type := 4, pos := "", after := #[], guard := none } 166 ⟨.inn 32 (by kernel_rfl) e32, .inn 31 (by kernel_rfl) e31, trivial⟩ (by kernel_rfl) (by kernel_rfl) (by kernel_rfl) rfl rfl rfl ?_
              clear hd e32 e31
              go_wp2
              exact ⟨rfl, Ext.refl _, rfl⟩
            · intro vals w1 hx hd
              have e33 : vals 33 = .bool false := hd 33 (by decide)
              have e31 : vals 31 = .bool false := hd 31 (by decide)
              refine .run [(166, .bool false), (164, .bool false)] { dst := some 0, op := Go.Op.move (Go.Operand.const (.bool false)), type := 4, pos := "", after := #[], guard := none } 167 ⟨.inn 33 (by kernel_rfl) e33, .inn 31 (by kernel_rfl) e31, trivial⟩ (by kernel_rfl) (by kernel_rfl) (by kernel_rfl) rfl rfl rfl ?_
              clear hd e33 e31
              go_wp2
              exact ⟨rfl, Ext.refl _, rfl⟩
            · intro vals w1 hx hd
              have e34 : vals 34 = .bool false := hd 34 (by decide)
              exact .no [(167, .bool false)] 168 ⟨.inn 34 (by kernel_rfl) e34, trivial⟩ (by kernel_rfl) rfl (by kernel_rfl) rfl
            · intro vals w1 hx hd
              have e34 : vals 34 = .bool false := hd 34 (by decide)
              exact .no [(167, .bool false)] 169 ⟨.inn 34 (by kernel_rfl) e34, trivial⟩ (by kernel_rfl) rfl (by kernel_rfl) rfl
            · intro vals w1 hx hd
              have e34 : vals 34 = .bool false := hd 34 (by decide)
              exact .no [(167, .bool false)] 170 ⟨.inn 34 (by kernel_rfl) e34, trivial⟩ (by kernel_rfl) rfl (by kernel_rfl) rfl
            · intro vals w1 hx hd
              have e34 : vals 34 = .bool false := hd 34 (by decide)
              exact .no [(167, .bool false)] 171 ⟨.inn 34 (by kernel_rfl) e34, trivial⟩ (by kernel_rfl) rfl (by kernel_rfl) rfl
            · intro vals w1 hx hd
              have e34 : vals 34 = .bool false := hd 34 (by decide)
              exact .no [(167, .bool false)] 172 ⟨.inn 34 (by kernel_rfl) e34, trivial⟩ (by kernel_rfl) rfl (by kernel_rfl) rfl
            · intro vals w1 hx hd
              have e34 : vals 34 = .bool false := hd 34 (by decide)
              exact .no [(167, .bool false)] 173 ⟨.inn 34 (by kernel_rfl) e34, trivial⟩ (by kernel_rfl) rfl (by kernel_rfl) rfl
            · intro vals w1 hx hd
              have e34 : vals 34 = .bool false := hd 34 (by decide)
              exact .no [(167, .bool false)] 174 ⟨.inn 34 (by kernel_rfl) e34, trivial⟩ (by kernel_rfl) rfl (by kernel_rfl) rfl
            · intro vals w1 hx hd
              have e34 : vals 34 = .bool false := hd 34 (by decide)
              exact .no [(167, .bool false)] 175 ⟨.inn 34 (by kernel_rfl) e34, trivial⟩ (by kernel_rfl) rfl (by kernel_rfl) rfl
            · intro vals w1 hx hd
              have e34 : vals 34 = .bool false := hd 34 (by decide)
              exact .no [(167, .bool false)] 176 ⟨.inn 34 (by kernel_rfl) e34, trivial⟩ (by kernel_rfl) rfl (by kernel_rfl) rfl
            · intro vals w1 hx hd
              have e34 : vals 34 = .bool false := hd 34 (by decide)
              exact .no [(167, .bool false)] 177 ⟨.inn 34 (by kernel_rfl) e34, trivial⟩ (by kernel_rfl) rfl (by kernel_rfl) rfl
            · intro vals w1 hx hd
              have e34 : vals 34 = .bool false := hd 34 (by decide)
              exact .no [(167, .bool false)] 178 ⟨.inn 34 (by kernel_rfl) e34, trivial⟩ (by kernel_rfl) rfl (by kernel_rfl) rfl
            · intro vals w1 hx hd
              have e34 : vals 34 = .bool false := hd 34 (by decide)
              exact .no [(167, .bool false)] 179 ⟨.inn 34 (by kernel_rfl) e34, trivial⟩ (by kernel_rfl) rfl (by kernel_rfl) rfl
            · intro vals w1 hx hd
              have e34 : vals 34 = .bool false := hd 34 (by decide)
              have e46 : vals 46 = undef := hd 46 (by decide)
              have e31 : vals 31 = .bool false := hd 31 (by decide)
              refine .run [(167, .bool false), (179, undef), (164, .bool false)] { dst := some 0, op := Go.Op.pick (Go.Operand.const (.bool false)) (Go.Operand.const (undef)) (Go.Operand.const (Go.Value.bool false)), type := 4, pos := "", after := #[], guard := none } 180 ⟨.inn 34 (by kernel_rfl) e34, .inn 46 (by kernel_rfl) e46, .inn 31 (by kernel_rfl) e31, trivial⟩ (by kernel_rfl) (by kernel_rfl) (by kernel_rfl) rfl rfl rfl ?_
              clear hd e34 e46 e31
              go_wp2
              exact ⟨rfl, Ext.refl _, rfl⟩
            · intro vals w1 hx hd
              have e31 : vals 31 = .bool false := hd 31 (by decide)
              have e47 : vals 47 = .bool false := hd 47 (by decide)
              refine .run [(164, .bool false), (180, .bool false)] { dst := some 0, op := Go.Op.pick (Go.Operand.const (.bool false)) (Go.Operand.const (Go.Value.bool true)) (Go.Operand.const (.bool false)), type := 4, pos := "", after := #[], guard := none } 181 ⟨.inn 31 (by kernel_rfl) e31, .inn 47 (by kernel_rfl) e47, trivial⟩ (by kernel_rfl) (by kernel_rfl) (by kernel_rfl) rfl rfl rfl ?_
              clear hd e31 e47
              go_wp2
              exact ⟨rfl, Ext.refl _, rfl⟩
          intro vals W20 hx20 hf
          have e48 : vals 48 = .bool false := hf 48 (by omega)
          clear hf
          have hx20 := hx20.undrew
          have hx := Ext.trans hx hx20
          have dd0 := ext_cell hx20 dd0
          have dd1 := ext_cell hx20 dd1
          have t0 := ext_cell hx20 t0
          have t1 := ext_cell hx20 t1
          clear hx20
          refine tail0 (by kernel_rfl) ?_
          simp only [Lf, dstAt, Act.put, List.getElem?_toArray, List.getElem?_cons_zero, List.getElem?_cons_succ, Option.bind_some, List.setIfInBounds_toArray, List.set_cons_zero, List.set_cons_succ]
          rw [e48]
          clear e48
          go_upto_region 29 with (fail)
          have w1_ : IntKind.i64.wrap (a + 10) = a + 10 := IntWalk.i64_in _ (by omega)
          have w2_ : IntKind.i64.wrap (b - 10) = b - 10 := IntWalk.i64_in _ (by omega)
          by_cases h1 : f1 ≤ a + 10
          · skip
            refine wp_region_obl 20 (fun ix vals v w1 => match ix with | 0 => v = .slice (some ⟨gb, go, none⟩) n1 c1 | 1 => v = .int .i64 (k : Int) | 2 => v = .pointer (some ⟨gb, go + k * 2, none⟩) | 3 => v = .pointer (some ⟨gb, go + k * 2, none⟩) | 4 => v = .int .i64 f1 | 5 => v = .pointer (some ⟨g14, 0, none⟩) | 6 => v = .int .i64 a | 7 => v = .int .i64 (a + 10) | 8 => v = .bool true | 9 => v = .bool true | 10 => v = undef | 11 => v = undef | 12 => v = undef | 13 => v = undef | 14 => v = undef | 15 => v = undef | 16 => v = undef | 17 => v = undef | 18 => v = undef | _ => v = .bool true) (by kernel_rfl) (by kernel_rfl) ?_ ?_ ?_ ?_
            · intro ix vals v w1 w2 hi hr hx
              match ix, hr with
              | 0, hr => exact hr
              | 1, hr => exact hr
              | 2, hr => exact hr
              | 3, hr => exact hr
              | 4, hr => exact hr
              | 5, hr => exact hr
              | 6, hr => exact hr
              | 7, hr => exact hr
              | 8, hr => exact hr
              | 9, hr => exact hr
              | 10, hr => exact hr
              | 11, hr => exact hr
              | 12, hr => exact hr
              | 13, hr => exact hr
              | 14, hr => exact hr
              | 15, hr => exact hr
              | 16, hr => exact hr
              | 17, hr => exact hr
              | 18, hr => exact hr
              | (kx + 19), hr => exact hr
            · intro ix vals vals_ v w1 hi hv hr
              exact hr
            · refine obls_ofT [some 182, some 183, some 184, some 185, some 186, some 187, some 188, some 189, some 190, some 191, some 192, some 193, some 194, some 195, some 196, some 197, some 198, some 199, some 200, some 201] [(15, .slice (some ⟨gb, go, none⟩) n1 c1), (24, .int .i64 (k : Int)), (14, .pointer (some ⟨g14, 0, none⟩))] 233 (by kernel_rfl) (by kernel_rfl) ⟨by kernel_rfl, by kernel_rfl, by kernel_rfl, trivial⟩ ?_
              refine ⟨?_, ?_, ?_, ?_, ?_, ?_, ?_, ?_, ?_, ?_, ?_, ?_, ?_, ?_, ?_, ?_, ?_, ?_, ?_, ?_, trivial⟩
              · intro vals w1 hx hd
                refine .run [(15, .slice (some ⟨gb, go, none⟩) n1 c1)] { dst := some 0, op := Go.Op.move (Go.Operand.const (.slice (some ⟨gb, go, none⟩) n1 c1)), type := 54, pos := "", after := #[], guard := none } 182 ⟨.out (by kernel_rfl) (by kernel_rfl), trivial⟩ (by kernel_rfl) (by kernel_rfl) (by kernel_rfl) rfl rfl rfl ?_
                clear hd
                go_wp2
                exact ⟨rfl, Ext.refl _, rfl⟩
              · intro vals w1 hx hd
                refine .run [(24, .int .i64 (k : Int))] { dst := some 0, op := Go.Op.move (Go.Operand.const (.int .i64 (k : Int))), type := 3, pos := "", after := #[], guard := none } 183 ⟨.out (by kernel_rfl) (by kernel_rfl), trivial⟩ (by kernel_rfl) (by kernel_rfl) (by kernel_rfl) rfl rfl rfl ?_
                clear hd
                go_wp2
                exact ⟨rfl, Ext.refl _, rfl⟩
              · intro vals w1 hx hd
                have e0 : vals 0 = .slice (some ⟨gb, go, none⟩) n1 c1 := hd 0 (by decide)
                have e1 : vals 1 = .int .i64 (k : Int) := hd 1 (by decide)
                refine .run [(182, .slice (some ⟨gb, go, none⟩) n1 c1), (183, .int .i64 (k : Int))] { dst := some 0, op := Go.Op.indexAddr 54 (Go.Operand.const (.slice (some ⟨gb, go, none⟩) n1 c1)) (Go.Operand.const (.int .i64 (k : Int))), type := 0, pos := "", after := #[], guard := none } 184 ⟨.inn 0 (by kernel_rfl) e0, .inn 1 (by kernel_rfl) e1, trivial⟩ (by kernel_rfl) (by kernel_rfl) (by kernel_rfl) rfl rfl rfl ?_
                clear hd e0 e1
                go_wp2
                exact ⟨rfl, Ext.refl _, rfl⟩
              · intro vals w1 hx hd
                have e2 : vals 2 = .pointer (some ⟨gb, go + k * 2, none⟩) := hd 2 (by decide)
                refine .run [(184, .pointer (some ⟨gb, go + k * 2, none⟩))] { dst := some 0, op := Go.Op.fieldAddr 34 (Go.Operand.const (.pointer (some ⟨gb, go + k * 2, none⟩))) 0, type := 0, pos := "", after := #[], guard := none } 185 ⟨.inn 2 (by kernel_rfl) e2, trivial⟩ (by kernel_rfl) (by kernel_rfl) (by kernel_rfl) rfl rfl rfl ?_
                clear hd e2
                go_wp2
                exact ⟨rfl, Ext.refl _, rfl⟩
              · intro vals w1 hx hd
                have e3 : vals 3 = .pointer (some ⟨gb, go + k * 2, none⟩) := hd 3 (by decide)
                refine .run [(185, .pointer (some ⟨gb, go + k * 2, none⟩))] { dst := some 0, op := Go.Op.load 3 (Go.Operand.const (.pointer (some ⟨gb, go + k * 2, none⟩))), type := 3, pos := "", after := #[], guard := none } 186 ⟨.inn 3 (by kernel_rfl) e3, trivial⟩ (by kernel_rfl) (by kernel_rfl) (by kernel_rfl) rfl rfl rfl ?_
                clear hd e3
                have dd0 := ext_cell hx dd0
                go_wp2
                exact ⟨rfl, Ext.refl _, rfl⟩
              · intro vals w1 hx hd
                refine .run [(14, .pointer (some ⟨g14, 0, none⟩))] { dst := some 0, op := Go.Op.fieldAddr 34 (Go.Operand.const (.pointer (some ⟨g14, 0, none⟩))) 0, type := 0, pos := "", after := #[], guard := none } 187 ⟨.out (by kernel_rfl) (by kernel_rfl), trivial⟩ (by kernel_rfl) (by kernel_rfl) (by kernel_rfl) rfl rfl rfl ?_
                clear hd
                go_wp2
                exact ⟨rfl, Ext.refl _, rfl⟩
              · intro vals w1 hx hd
                have e5 : vals 5 = .pointer (some ⟨g14, 0, none⟩) := hd 5 (by decide)
                refine .run [(187, .pointer (some ⟨g14, 0, none⟩))] { dst := some 0, op := Go.Op.load 3 (Go.Operand.const (.pointer (some ⟨g14, 0, none⟩))), type := 3, pos := "", after := #[], guard := none } 188 ⟨.inn 5 (by kernel_rfl) e5, trivial⟩ (by kernel_rfl) (by kernel_rfl) (by kernel_rfl) rfl rfl rfl ?_
                clear hd e5
                have t0 := ext_cell hx t0
                go_wp2
                exact ⟨rfl, Ext.refl _, rfl⟩
              · intro vals w1 hx hd
                have e6 : vals 6 = .int .i64 a := hd 6 (by decide)
                refine .run [(188, .int .i64 a)] { dst := some 0, op := Go.Op.binOp Go.BinOp.add 3 (Go.Operand.const (.int .i64 a)) (Go.Operand.const (Go.Value.int Go.IntKind.i64 10)) 3, type := 3, pos := "", after := #[], guard := none } 189 ⟨.inn 6 (by kernel_rfl) e6, trivial⟩ (by kernel_rfl) (by kernel_rfl) (by kernel_rfl) rfl rfl rfl ?_
                clear hd e6
                go_wp2
                exact ⟨rfl, Ext.refl _, rfl⟩
              · intro vals w1 hx hd
                have e4 : vals 4 = .int .i64 f1 := hd 4 (by decide)
                have e7 : vals 7 = .int .i64 (a + 10) := hd 7 (by decide)
                refine .run [(186, .int .i64 f1), (189, .int .i64 (a + 10))] { dst := some 0, op := Go.Op.binOp Go.BinOp.leq 3 (Go.Operand.const (.int .i64 f1)) (Go.Operand.const (.int .i64 (a + 10))) 3, type := 4, pos := "", after := #[], guard := none } 190 ⟨.inn 4 (by kernel_rfl) e4, .inn 7 (by kernel_rfl) e7, trivial⟩ (by kernel_rfl) (by kernel_rfl) (by kernel_rfl) rfl rfl rfl ?_
                clear hd e4 e7
                go_wp2
                exact ⟨rfl, Ext.refl _, rfl⟩
              · intro vals w1 hx hd
                have e8 : vals 8 = .bool true := hd 8 (by decide)
                refine .run [(190, .bool true)] { dst := some 0, op := Go.Op.move (Go.Operand.const (.bool true)), type := 4, pos := "", after := #[], guard := none } 191 ⟨.inn 8 (by kernel_rfl) e8, trivial⟩ (by kernel_rfl) (by kernel_rfl) (by kernel_rfl) rfl rfl rfl ?_
                clear hd e8
                go_wp2
                exact ⟨rfl, Ext.refl _, rfl⟩
              · intro vals w1 hx hd
                have e9 : vals 9 = .bool true := hd 9 (by decide)
                exact .no [(191, .bool true)] 192 ⟨.inn 9 (by kernel_rfl) e9, trivial⟩ (by kernel_rfl) rfl (by kernel_rfl) rfl
              · intro vals w1 hx hd
                have e9 : vals 9 = .bool true := hd 9 (by decide)
                exact .no [(191, .bool true)] 193 ⟨.inn 9 (by kernel_rfl) e9, trivial⟩ (by kernel_rfl) rfl (by kernel_rfl) rfl
              · intro vals w1 hx hd
                have e9 : vals 9 = .bool true := hd 9 (by decide)
                exact .no [(191, .bool true)] 194 ⟨.inn 9 (by kernel_rfl) e9, trivial⟩ (by kernel_rfl) rfl (by kernel_rfl) rfl
              · intro vals w1 hx hd
                have e9 : vals 9 = .bool true := hd 9 (by decide)
                exact .no [(191, .bool true)] 195 ⟨.inn 9 (by kernel_rfl) e9, trivial⟩ (by kernel_rfl) rfl (by kernel_rfl) rfl
              · intro vals w1 hx hd
                have e9 : vals 9 = .bool true := hd 9 (by decide)
                exact .no [(191, .bool true)] 196 ⟨.inn 9 (by kernel_rfl) e9, trivial⟩ (by kernel_rfl) rfl (by kernel_rfl) rfl
              · intro vals w1 hx hd
                have e9 : vals 9 = .bool true := hd 9 (by decide)
                exact .no [(191, .bool true)] 197 ⟨.inn 9 (by kernel_rfl) e9, trivial⟩ (by kernel_rfl) rfl (by kernel_rfl) rfl
              · intro vals w1 hx hd
                have e9 : vals 9 = .bool true := hd 9 (by decide)
                exact .no [(191, .bool true)] 198 ⟨.inn 9 (by kernel_rfl) e9, trivial⟩ (by kernel_rfl) rfl (by kernel_rfl) rfl
              · intro vals w1 hx hd
                have e9 : vals 9 = .bool true := hd 9 (by decide)
                exact .no [(191, .bool true)] 199 ⟨.inn 9 (by kernel_rfl) e9, trivial⟩ (by kernel_rfl) rfl (by kernel_rfl) rfl
              · intro vals w1 hx hd
                have e9 : vals 9 = .bool true := hd 9 (by decide)
                exact .no [(191, .bool true)] 200 ⟨.inn 9 (by kernel_rfl) e9, trivial⟩ (by kernel_rfl) rfl (by kernel_rfl) rfl
              · intro vals w1 hx hd
                have e9 : vals 9 = .bool true := hd 9 (by decide)
                have e18 : vals 18 = undef := hd 18 (by decide)
                refine .run [(191, .bool true), (200, undef)] { dst := some 0, op := Go.Op.pick (Go.Operand.const (.bool true)) (Go.Operand.const (Go.Value.bool true)) (Go.Operand.const (undef)), type := 4, pos := "", after := #[], guard := none } 201 ⟨.inn 9 (by kernel_rfl) e9, .inn 18 (by kernel_rfl) e18, trivial⟩ (by kernel_rfl) (by kernel_rfl) (by kernel_rfl) rfl rfl rfl ?_
                clear hd e9 e18
                go_wp2
                exact ⟨rfl, Ext.refl _, rfl⟩
            intro vals W21 hx21 hf
            have e19 : vals 19 = .bool true := hf 19 (by omega)
            clear hf
            have hx21 := hx21.undrew
            have hx := Ext.trans hx hx21
            have dd0 := ext_cell hx21 dd0
            have dd1 := ext_cell hx21 dd1
            clear hx21 t0 t1
            refine tail0 (by kernel_rfl) ?_
            simp only [Lf, dstAt, Act.put, List.getElem?_toArray, List.getElem?_cons_zero, List.getElem?_cons_succ, Option.bind_some, List.setIfInBounds_toArray, List.set_cons_zero, List.set_cons_succ]
            rw [e19]
            clear e19
            clear dd0 dd1
            go_wp2
            go_roundw
            case rel => exact ⟨k + 1, by omega, by go_num, hx⟩
            case measure => simp [intOf]; omega
          · have h1d : decide (f1 ≤ a + 10) = false := by simpa using h1
            by_cases h2 : b - 10 ≤ f2
            · have h2d : decide (b - 10 ≤ f2) = true := by simpa using h2
              refine wp_region_obl 20 (fun ix vals v w1 => match ix with | 0 => v = .slice (some ⟨gb, go, none⟩) n1 c1 | 1 => v = .int .i64 (k : Int) | 2 => v = .pointer (some ⟨gb, go + k * 2, none⟩) | 3 => v = .pointer (some ⟨gb, go + k * 2, none⟩) | 4 => v = .int .i64 f1 | 5 => v = .pointer (some ⟨g14, 0, none⟩) | 6 => v = .int .i64 a | 7 => v = .int .i64 (a + 10) | 8 => v = .bool false | 9 => v = .bool false | 10 => v = .slice (some ⟨gb, go, none⟩) n1 c1 | 11 => v = .int .i64 (k : Int) | 12 => v = .pointer (some ⟨gb, go + k * 2, none⟩) | 13 => v = .pointer (some ⟨gb, go + k * 2 + 1, none⟩) | 14 => v = .int .i64 f2 | 15 => v = .pointer (some ⟨g14, 1, none⟩) | 16 => v = .int .i64 b | 17 => v = .int .i64 (b - 10) | 18 => v = .bool true | _ => v = .bool true) (by kernel_rfl) (by kernel_rfl) ?_ ?_ ?_ ?_
              · intro ix vals v w1 w2 hi hr hx
                match ix, hr with
                | 0, hr => exact hr
                | 1, hr => exact hr
                | 2, hr => exact hr
                | 3, hr => exact hr
                | 4, hr => exact hr
                | 5, hr => exact hr
                | 6, hr => exact hr
                | 7, hr => exact hr
                | 8, hr => exact hr
                | 9, hr => exact hr
                | 10, hr => exact hr
                | 11, hr => exact hr
                | 12, hr => exact hr
                | 13, hr => exact hr
                | 14, hr => exact hr
                | 15, hr => exact hr
                | 16, hr => exact hr
                | 17, hr => exact hr
                | 18, hr => exact hr
                | (kx + 19), hr => exact hr
              · intro ix vals vals_ v w1 hi hv hr
                exact hr
              · refine obls_ofT [some 182, some 183, some 184, some 185, some 186, some 187, some 188, some 189, some 190, some 191, some 192, some 193, some 194, some 195, some 196, some 197, some 198, some 199, some 200, some 201] [(15, .slice (some ⟨gb, go, none⟩) n1 c1), (24, .int .i64 (k : Int)), (14, .pointer (some ⟨g14, 0, none⟩))] 233 (by kernel_rfl) (by kernel_rfl) ⟨by kernel_rfl, by kernel_rfl, by kernel_rfl, trivial⟩ ?_
                refine ⟨?_, ?_, ?_, ?_, ?_, ?_, ?_, ?_, ?_, ?_, ?_, ?_, ?_, ?_, ?_, ?_, ?_, ?_, ?_, ?_, trivial⟩
                · intro vals w1 hx hd
                  refine .run [(15, .slice (some ⟨gb, go, none⟩) n1 c1)] { dst := some 0, op := Go.Op.move (Go.Operand.const (.slice (some ⟨gb, go, none⟩) n1 c1)), type := 54, pos := "", after := #[], guard := none } 182 ⟨.out (by kernel_rfl) (by kernel_rfl), trivial⟩ (by kernel_rfl) (by kernel_rfl) (by kernel_rfl) rfl rfl rfl ?_
                  clear hd
                  go_wp2
                  exact ⟨rfl, Ext.refl _, rfl⟩
                · intro vals w1 hx hd
                  refine .run [(24, .int .i64 (k : Int))] { dst := some 0, op := Go.Op.move (Go.Operand.const (.int .i64 (k : Int))), type := 3, pos := "", after := #[], guard := none } 183 ⟨.out (by kernel_rfl) (by kernel_rfl), trivial⟩ (by kernel_rfl) (by kernel_rfl) (by kernel_rfl) rfl rfl rfl ?_
                  clear hd
                  go_wp2
                  exact ⟨rfl, Ext.refl _, rfl⟩
                · intro vals w1 hx hd
                  have e0 : vals 0 = .slice (some ⟨gb, go, none⟩) n1 c1 := hd 0 (by decide)
                  have e1 : vals 1 = .int .i64 (k : Int) := hd 1 (by decide)
                  refine .run [(182, .slice (some ⟨gb, go, none⟩) n1 c1), (183, .int .i64 (k : Int))] { dst := some 0, op := Go.Op.indexAddr 54 (Go.Operand.const (.slice (some ⟨gb, go, none⟩) n1 c1)) (Go.Operand.const (.int .i64 (k : Int))), type := 0, pos := "", after := #[], guard := none } 184 ⟨.inn 0 (by kernel_rfl) e0, .inn 1 (by kernel_rfl) e1, trivial⟩ (by kernel_rfl) (by kernel_rfl) (by kernel_rfl) rfl rfl rfl ?_
                  clear hd e0 e1
                  go_wp2
                  exact ⟨rfl, Ext.refl _, rfl⟩
                · intro vals w1 hx hd
                  have e2 : vals 2 = .pointer (some ⟨gb, go + k * 2, none⟩) := hd 2 (by decide)
                  refine .run [(184, .pointer (some ⟨gb, go + k * 2, none⟩))] { dst := some 0, op := Go.Op.fieldAddr 34 (Go.Operand.const (.pointer (some ⟨gb, go + k * 2, none⟩))) 0, type := 0, pos := "", after := #[], guard := none } 185 ⟨.inn 2 (by kernel_rfl) e2, trivial⟩ (by kernel_rfl) (by kernel_rfl) (by kernel_rfl) rfl rfl rfl ?_
                  clear hd e2
                  go_wp2
                  exact ⟨rfl, Ext.refl _, rfl⟩
                · intro vals w1 hx hd
                  have e3 : vals 3 = .pointer (some ⟨gb, go + k * 2, none⟩) := hd 3 (by decide)
                  refine .run [(185, .pointer (some ⟨gb, go + k * 2, none⟩))] { dst := some 0, op := Go.Op.load 3 (Go.Operand.const (.pointer (some ⟨gb, go + k * 2, none⟩))), type := 3, pos := "", after := #[], guard := none } 186 ⟨.inn 3 (by kernel_rfl) e3, trivial⟩ (by kernel_rfl) (by kernel_rfl) (by kernel_rfl) rfl rfl rfl ?_
                  clear hd e3
                  have dd0 := ext_cell hx dd0
                  go_wp2
                  exact ⟨rfl, Ext.refl _, rfl⟩
                · intro vals w1 hx hd
                  refine .run [(14, .pointer (some ⟨g14, 0, none⟩))] { dst := some 0, op := Go.Op.fieldAddr 34 (Go.Operand.const (.pointer (some ⟨g14, 0, none⟩))) 0, type := 0, pos := "", after := #[], guard := none } 187 ⟨.out (by kernel_rfl) (by kernel_rfl), trivial⟩ (by kernel_rfl) (by kernel_rfl) (by kernel_rfl) rfl rfl rfl ?_
                  clear hd
                  go_wp2
                  exact ⟨rfl, Ext.refl _, rfl⟩
                · intro vals w1 hx hd
                  have e5 : vals 5 = .pointer (some ⟨g14, 0, none⟩) := hd 5 (by decide)
                  refine .run [(187, .pointer (some ⟨g14, 0, none⟩))] { dst := some 0, op := Go.Op.load 3 (Go.Operand.const (.pointer (some ⟨g14, 0, none⟩))), type := 3, pos := "", after := #[], guard := none } 188 ⟨.inn 5 (by kernel_rfl) e5, trivial⟩ (by kernel_rfl) (by kernel_rfl) (by kernel_rfl) rfl rfl rfl ?_
                  clear hd e5
                  have t0 := ext_cell hx t0
                  go_wp2
                  exact ⟨rfl, Ext.refl _, rfl⟩
                · intro vals w1 hx hd
                  have e6 : vals 6 = .int .i64 a := hd 6 (by decide)
                  refine .run [(188, .int .i64 a)] { dst := some 0, op := Go.Op.binOp Go.BinOp.add 3 (Go.Operand.const (.int .i64 a)) (Go.Operand.const (Go.Value.int Go.IntKind.i64 10)) 3, type := 3, pos := "", after := #[], guard := none } 189 ⟨.inn 6 (by kernel_rfl) e6, trivial⟩ (by kernel_rfl) (by kernel_rfl) (by kernel_rfl) rfl rfl rfl ?_
                  clear hd e6
                  go_wp2
                  exact ⟨rfl, Ext.refl _, rfl⟩
                · intro vals w1 hx hd
                  have e4 : vals 4 = .int .i64 f1 := hd 4 (by decide)
                  have e7 : vals 7 = .int .i64 (a + 10) := hd 7 (by decide)
                  refine .run [(186, .int .i64 f1), (189, .int .i64 (a + 10))] { dst := some 0, op := Go.Op.binOp Go.BinOp.leq 3 (Go.Operand.const (.int .i64 f1)) (Go.Operand.const (.int .i64 (a + 10))) 3, type := 4, pos := "", after := #[], guard := none } 190 ⟨.inn 4 (by kernel_rfl) e4, .inn 7 (by kernel_rfl) e7, trivial⟩ (by kernel_rfl) (by kernel_rfl) (by kernel_rfl) rfl rfl rfl ?_
                  clear hd e4 e7
                  go_wp2
                  exact ⟨rfl, Ext.refl _, rfl⟩
                · intro vals w1 hx hd
                  have e8 : vals 8 = .bool false := hd 8 (by decide)
                  refine .run [(190, .bool false)] { dst := some 0, op := Go.Op.move (Go.Operand.const (.bool false)), type := 4, pos := "", after := #[], guard := none } 191 ⟨.inn 8 (by kernel_rfl) e8, trivial⟩ (by kernel_rfl) (by kernel_rfl) (by kernel_rfl) rfl rfl rfl ?_
                  clear hd e8
                  go_wp2
                  exact ⟨rfl, Ext.refl _, rfl⟩
                · intro vals w1 hx hd
                  have e9 : vals 9 = .bool false := hd 9 (by decide)
                  refine .run [(15, .slice (some ⟨gb, go, none⟩) n1 c1), (191, .bool false)] { dst := some 0, op := Go.Op.move (Go.Operand.const (.slice (some ⟨gb, go, none⟩) n1 c1)), type := 54, pos := "", after := #[], guard := none } 192 ⟨.out (by kernel_rfl) (by kernel_rfl), .inn 9 (by kernel_rfl) e9, trivial⟩ (by kernel_rfl) (by kernel_rfl) (by kernel_rfl) rfl rfl rfl ?_
                  clear hd e9
                  go_wp2
                  exact ⟨rfl, Ext.refl _, rfl⟩
                · intro vals w1 hx hd
                  have e9 : vals 9 = .bool false := hd 9 (by decide)
                  refine .run [(24, .int .i64 (k : Int)), (191, .bool false)] { dst := some 0, op := Go.Op.move (Go.Operand.const (.int .i64 (k : Int))), type := 3, pos := "", after := #[], guard := none } 193 ⟨.out (by kernel_rfl) (by kernel_rfl), .inn 9 (by kernel_rfl) e9, trivial⟩ (by kernel_rfl) (by kernel_rfl) (by kernel_rfl) rfl rfl rfl ?_
                  clear hd e9
                  go_wp2
                  exact ⟨rfl, Ext.refl _, rfl⟩
                · intro vals w1 hx hd
                  have e10 : vals 10 = .slice (some ⟨gb, go, none⟩) n1 c1 := hd 10 (by decide)
                  have e11 : vals 11 = .int .i64 (k : Int) := hd 11 (by decide)
                  have e9 : vals 9 = .bool false := hd 9 (by decide)
                  refine .run [(192, .slice (some ⟨gb, go, none⟩) n1 c1), (193, .int .i64 (k : Int)), (191, .bool false)] { dst := some 0, op := Go.Op.indexAddr 54 (Go.Operand.const (.slice (some ⟨gb, go, none⟩) n1 c1)) (Go.Operand.const (.int .i64 (k : Int))), type := 0, pos := "", after := #[], guard := none } 194 ⟨.inn 10 (by kernel_rfl) e10, .inn 11 (by kernel_rfl) e11, .inn 9 (by kernel_rfl) e9, trivial⟩ (by kernel_rfl) (by kernel_rfl) (by kernel_rfl) rfl rfl rfl ?_
                  clear hd e10 e11 e9
                  go_wp2
                  exact ⟨rfl, Ext.refl _, rfl⟩
                · intro vals w1 hx hd
                  have e12 : vals 12 = .pointer (some ⟨gb, go + k * 2, none⟩) := hd 12 (by decide)
                  have e9 : vals 9 = .bool false := hd 9 (by decide)
                  refine .run [(194, .pointer (some ⟨gb, go + k * 2, none⟩)), (191, .bool false)] { dst := some 0, op := Go.Op.fieldAddr 34 (Go.Operand.const (.pointer (some ⟨gb, go + k * 2, none⟩))) 1, type := 0, pos := "", after := #[], guard := none } 195 ⟨.inn 12 (by kernel_rfl) e12, .inn 9 (by kernel_rfl) e9, trivial⟩ (by kernel_rfl) (by kernel_rfl) (by kernel_rfl) rfl rfl rfl ?_
                  clear hd e12 e9
                  go_wp2
                  exact ⟨rfl, Ext.refl _, rfl⟩
                · intro vals w1 hx hd
                  have e13 : vals 13 = .pointer (some ⟨gb, go + k * 2 + 1, none⟩) := hd 13 (by decide)
                  have e9 : vals 9 = .bool false := hd 9 (by decide)
                  refine .run [(195, .pointer (some ⟨gb, go + k * 2 + 1, none⟩)), (191, .bool false)] { dst := some 0, op := Go.Op.load 3 (Go.Operand.const (.pointer (some ⟨gb, go + k * 2 + 1, none⟩))), type := 3, pos := "", after := #[], guard := none } 196 ⟨.inn 13 (by kernel_rfl) e13, .inn 9 (by kernel_rfl) e9, trivial⟩ (by kernel_rfl) (by kernel_rfl) (by kernel_rfl) rfl rfl rfl ?_
                  clear hd e13 e9
                  have dd1 := ext_cell hx dd1
                  go_wp2
                  exact ⟨rfl, Ext.refl _, rfl⟩
                · intro vals w1 hx hd
                  have e9 : vals 9 = .bool false := hd 9 (by decide)
                  refine .run [(14, .pointer (some ⟨g14, 0, none⟩)), (191, .bool false)] { dst := some 0, op := Go.Op.fieldAddr 34 (Go.Operand.const (.pointer (some ⟨g14, 0, none⟩))) 1, type := 0, pos := "", after := #[], guard := none } 197 ⟨.out (by kernel_rfl) (by kernel_rfl), .inn 9 (by kernel_rfl) e9, trivial⟩ (by kernel_rfl) (by kernel_rfl) (by kernel_rfl) rfl rfl rfl ?_
                  clear hd e9
                  go_wp2
                  exact ⟨rfl, Ext.refl _, rfl⟩
                · intro vals w1 hx hd
                  have e15 : vals 15 = .pointer (some ⟨g14, 1, none⟩) := hd 15 (by decide)
                  have e9 : vals 9 = .bool false := hd 9 (by decide)
                  refine .run [(197, .pointer (some ⟨g14, 1, none⟩)), (191, .bool false)] { dst := some 0, op := Go.Op.load 3 (Go.Operand.const (.pointer (some ⟨g14, 1, none⟩))), type := 3, pos := "", after := #[], guard := none } 198 ⟨.inn 15 (by kernel_rfl) e15, .inn 9 (by kernel_rfl) e9, trivial⟩ (by kernel_rfl) (by kernel_rfl) (by kernel_rfl) rfl rfl rfl ?_
                  clear hd e15 e9
                  have t1 := ext_cell hx t1
                  go_wp2
                  exact ⟨rfl, Ext.refl _, rfl⟩
                · intro vals w1 hx hd
                  have e16 : vals 16 = .int .i64 b := hd 16 (by decide)
                  have e9 : vals 9 = .bool false := hd 9 (by decide)
                  refine .run [(198, .int .i64 b), (191, .bool false)] { dst := some 0, op := Go.Op.binOp Go.BinOp.sub 3 (Go.Operand.const (.int .i64 b)) (Go.Operand.const (Go.Value.int Go.IntKind.i64 10)) 3, type := 3, pos := "", after := #[], guard := none } 199 ⟨.inn 16 (by kernel_rfl) e16, .inn 9 (by kernel_rfl) e9, trivial⟩ (by kernel_rfl) (by kernel_rfl) (by kernel_rfl) rfl rfl rfl ?_
                  clear hd e16 e9
                  go_wp2
                  exact ⟨rfl, Ext.refl _, rfl⟩
                · intro vals w1 hx hd
                  have e14 : vals 14 = .int .i64 f2 := hd 14 (by decide)
                  have e17 : vals 17 = .int .i64 (b - 10) := hd 17 (by decide)
                  have e9 : vals 9 = .bool false := hd 9 (by decide)
                  refine .run [(196, .int .i64 f2), (199, .int .i64 (b - 10)), (191, .bool false)] { dst := some 0, op := Go.Op.binOp Go.BinOp.geq 3 (Go.Operand.const (.int .i64 f2)) (Go.Operand.const (.int .i64 (b - 10))) 3, type := 4, pos := "", after := #[], guard := none } 200 ⟨.inn 14 (by kernel_rfl) e14, .inn 17 (by kernel_rfl) e17, .inn 9 (by kernel_rfl) e9, trivial⟩ (by kernel_rfl) (by kernel_rfl) (by kernel_rfl) rfl rfl rfl ?_
                  clear hd e14 e17 e9
                  go_wp2
                  exact ⟨rfl, Ext.refl _, rfl⟩
                · intro vals w1 hx hd
                  have e9 : vals 9 = .bool false := hd 9 (by decide)
                  have e18 : vals 18 = .bool true := hd 18 (by decide)
                  refine .run [(191, .bool false), (200, .bool true)] { dst := some 0, op := Go.Op.pick (Go.Operand.const (.bool false)) (Go.Operand.const (Go.Value.bool true)) (Go.Operand.const (.bool true)), type := 4, pos := "", after := #[], guard := none } 201 ⟨.inn 9 (by kernel_rfl) e9, .inn 18 (by kernel_rfl) e18, trivial⟩ (by kernel_rfl) (by kernel_rfl) (by kernel_rfl) rfl rfl rfl ?_
                  clear hd e9 e18
                  go_wp2
                  exact ⟨rfl, Ext.refl _, rfl⟩
              intro vals W21 hx21 hf
              have e19 : vals 19 = .bool true := hf 19 (by omega)
              clear hf
              have hx21 := hx21.undrew
              have hx := Ext.trans hx hx21
              have dd0 := ext_cell hx21 dd0
              have dd1 := ext_cell hx21 dd1
              clear hx21 t0 t1
              refine tail0 (by kernel_rfl) ?_
              simp only [Lf, dstAt, Act.put, List.getElem?_toArray, List.getElem?_cons_zero, List.getElem?_cons_succ, Option.bind_some, List.setIfInBounds_toArray, List.set_cons_zero, List.set_cons_succ]
              rw [e19]
              clear e19
              clear dd0 dd1
              go_wp2
              go_roundw
              case rel => exact ⟨k + 1, by omega, by go_num, hx⟩
              case measure => simp [intOf]; omega
            · have h2d : decide (b - 10 ≤ f2) = false := by simpa using h2
              have hm2 := HME.out (by omega) (by omega)
              have HM2 := Lib.hid hm2
              clear hm2
              refine wp_region_obl 20 (fun ix vals v w1 => match ix with | 0 => v = .slice (some ⟨gb, go, none⟩) n1 c1 | 1 => v = .int .i64 (k : Int) | 2 => v = .pointer (some ⟨gb, go + k * 2, none⟩) | 3 => v = .pointer (some ⟨gb, go + k * 2, none⟩) | 4 => v = .int .i64 f1 | 5 => v = .pointer (some ⟨g14, 0, none⟩) | 6 => v = .int .i64 a | 7 => v = .int .i64 (a + 10) | 8 => v = .bool false | 9 => v = .bool false | 10 => v = .slice (some ⟨gb, go, none⟩) n1 c1 | 11 => v = .int .i64 (k : Int) | 12 => v = .pointer (some ⟨gb, go + k * 2, none⟩) | 13 => v = .pointer (some ⟨gb, go + k * 2 + 1, none⟩) | 14 => v = .int .i64 f2 | 15 => v = .pointer (some ⟨g14, 1, none⟩) | 16 => v = .int .i64 b | 17 => v = .int .i64 (b - 10) | 18 => v = .bool false | _ => v = .bool false) (by kernel_rfl) (by kernel_rfl) ?_ ?_ ?_ ?_
              · intro ix vals v w1 w2 hi hr hx
                match ix, hr with
                | 0, hr => exact hr
                | 1, hr => exact hr
                | 2, hr => exact hr
                | 3, hr => exact hr
                | 4, hr => exact hr
                | 5, hr => exact hr
                | 6, hr => exact hr
                | 7, hr => exact hr
                | 8, hr => exact hr
                | 9, hr => exact hr
                | 10, hr => exact hr
                | 11, hr => exact hr
                | 12, hr => exact hr
                | 13, hr => exact hr
                | 14, hr => exact hr
                | 15, hr => exact hr
                | 16, hr => exact hr
                | 17, hr => exact hr
                | 18, hr => exact hr
                | (kx + 19), hr => exact hr
              · intro ix vals vals_ v w1 hi hv hr
                exact hr
              · refine obls_ofT [some 182, some 183, some 184, some 185, some 186, some 187, some 188, some 189, some 190, some 191, some 192, some 193, some 194, some 195, some 196, some 197, some 198, some 199, some 200, some 201] [(15, .slice (some ⟨gb, go, none⟩) n1 c1), (24, .int .i64 (k : Int)), (14, .pointer (some ⟨g14, 0, none⟩))] 233 (by kernel_rfl) (by kernel_rfl) ⟨by kernel_rfl, by kernel_rfl, by kernel_rfl, trivial⟩ ?_
                refine ⟨?_, ?_, ?_, ?_, ?_, ?_, ?_, ?_, ?_, ?_, ?_, ?_, ?_, ?_, ?_, ?_, ?_, ?_, ?_, ?_, trivial⟩
                · intro vals w1 hx hd
                  refine .run [(15, .slice (some ⟨gb, go, none⟩) n1 c1)] { dst := some 0, op := Go.Op.move (Go.Operand.const (.slice (some ⟨gb, go, none⟩) n1 c1)), type := 54, pos := "", after := #[], guard := none } 182 ⟨.out (by kernel_rfl) (by kernel_rfl), trivial⟩ (by kernel_rfl) (by kernel_rfl) (by kernel_rfl) rfl rfl rfl ?_
                  clear hd
                  go_wp2
                  exact ⟨rfl, Ext.refl _, rfl⟩
                · intro vals w1 hx hd
                  refine .run [(24, .int .i64 (k : Int))] { dst := some 0, op := Go.Op.move (Go.Operand.const (.int .i64 (k : Int))), type := 3, pos := "", after := #[], guard := none } 183 ⟨.out (by kernel_rfl) (by kernel_rfl), trivial⟩ (by kernel_rfl) (by kernel_rfl) (by kernel_rfl) rfl rfl rfl ?_
                  clear hd
                  go_wp2
                  exact ⟨rfl, Ext.refl _, rfl⟩
                · intro vals w1 hx hd
                  have e0 : vals 0 = .slice (some ⟨gb, go, none⟩) n1 c1 := hd 0 (by decide)
                  have e1 : vals 1 = .int .i64 (k : Int) := hd 1 (by decide)
                  refine .run [(182, .slice (some ⟨gb, go, none⟩) n1 c1), (183, .int .i64 (k : Int))] { dst := some 0, op := Go.Op.indexAddr 54 (Go.Operand.const (.slice (some ⟨gb, go, none⟩) n1 c1)) (Go.Operand.const (.int .i64 (k : Int))), type := 0, pos := "", after := #[], guard := none } 184 ⟨.inn 0 (by kernel_rfl) e0, .inn 1 (by kernel_rfl) e1, trivial⟩ (by kernel_rfl) (by kernel_rfl) (by kernel_rfl) rfl rfl rfl ?_
                  clear hd e0 e1
                  go_wp2
                  exact ⟨rfl, Ext.refl _, rfl⟩
                · intro vals w1 hx hd
                  have e2 : vals 2 = .pointer (some ⟨gb, go + k * 2, none⟩) := hd 2 (by decide)
                  refine .run [(184, .pointer (some ⟨gb, go + k * 2, none⟩))] { dst := some 0, op := Go.Op.fieldAddr 34 (Go.Operand.const (.pointer (some ⟨gb, go + k * 2, none⟩))) 0, type := 0, pos := "", after := #[], guard := none } 185 ⟨.inn 2 (by kernel_rfl) e2, trivial⟩ (by kernel_rfl) (by kernel_rfl) (by kernel_rfl) rfl rfl rfl ?_
                  clear hd e2
                  go_wp2
                  exact ⟨rfl, Ext.refl _, rfl⟩
                · intro vals w1 hx hd
                  have e3 : vals 3 = .pointer (some ⟨gb, go + k * 2, none⟩) := hd 3 (by decide)
                  refine .run [(185, .pointer (some ⟨gb, go + k * 2, none⟩))] { dst := some 0, op := Go.Op.load 3 (Go.Operand.const (.pointer (some ⟨gb, go + k * 2, none⟩))), type := 3, pos := "", after := #[], guard := none } 186 ⟨.inn 3 (by kernel_rfl) e3, trivial⟩ (by kernel_rfl) (by kernel_rfl) (by kernel_rfl) rfl rfl rfl ?_
                  clear hd e3
                  have dd0 := ext_cell hx dd0
                  go_wp2
                  exact ⟨rfl, Ext.refl _, rfl⟩
                · intro vals w1 hx hd
                  refine .run [(14, .pointer (some ⟨g14, 0, none⟩))] { dst := some 0, op := Go.Op.fieldAddr 34 (Go.Operand.const (.pointer (some ⟨g14, 0, none⟩))) 0, type := 0, pos := "", after := #[], guard := none } 187 ⟨.out (by kernel_rfl) (by kernel_rfl), trivial⟩ (by kernel_rfl) (by kernel_rfl) (by kernel_rfl) rfl rfl rfl ?_
                  clear hd
                  go_wp2
                  exact ⟨rfl, Ext.refl _, rfl⟩
                · intro vals w1 hx hd
                  have e5 : vals 5 = .pointer (some ⟨g14, 0, none⟩) := hd 5 (by decide)
                  refine .run [(187, .pointer (some ⟨g14, 0, none⟩))] { dst := some 0, op := Go.Op.load 3 (Go.Operand.const (.pointer (some ⟨g14, 0, none⟩))), type := 3, pos := "", after := #[], guard := none } 188 ⟨.inn 5 (by kernel_rfl) e5, trivial⟩ (by kernel_rfl) (by kernel_rfl) (by kernel_rfl) rfl rfl rfl ?_
                  clear hd e5
                  have t0 := ext_cell hx t0
                  go_wp2
                  exact ⟨rfl, Ext.refl _, rfl⟩
                · intro vals w1 hx hd
                  have e6 : vals 6 = .int .i64 a := hd 6 (by decide)
                  refine .run [(188, .int .i64 a)] { dst := some 0, op := Go.Op.binOp Go.BinOp.add 3 (Go.Operand.const (.int .i64 a)) (Go.Operand.const (Go.Value.int Go.IntKind.i64 10)) 3, type := 3, pos := "", after := #[], guard := none } 189 ⟨.inn 6 (by kernel_rfl) e6, trivial⟩ (by kernel_rfl) (by kernel_rfl) (by kernel_rfl) rfl rfl rfl ?_
                  clear hd e6
                  go_wp2
                  exact ⟨rfl, Ext.refl _, rfl⟩
                · intro vals w1 hx hd
                  have e4 : vals 4 = .int .i64 f1 := hd 4 (by decide)
                  have e7 : vals 7 = .int .i64 (a + 10) := hd 7 (by decide)
                  refine .run [(186, .int .i64 f1), (189, .int .i64 (a + 10))] { dst := some 0, op := Go.Op.binOp Go.BinOp.leq 3 (Go.Operand.const (.int .i64 f1)) (Go.Operand.const (.int .i64 (a + 10))) 3, type := 4, pos := "", after := #[], guard := none } 190 ⟨.inn 4 (by kernel_rfl) e4, .inn 7 (by kernel_rfl) e7, trivial⟩ (by kernel_rfl) (by kernel_rfl) (by kernel_rfl) rfl rfl rfl ?_
                  clear hd e4 e7
                  go_wp2
                  exact ⟨rfl, Ext.refl _, rfl⟩
                · intro vals w1 hx hd
                  have e8 : vals 8 = .bool false := hd 8 (by decide)
                  refine .run [(190, .bool false)] { dst := some 0, op := Go.Op.move (Go.Operand.const (.bool false)), type := 4, pos := "", after := #[], guard := none } 191 ⟨.inn 8 (by kernel_rfl) e8, trivial⟩ (by kernel_rfl) (by kernel_rfl) (by kernel_rfl) rfl rfl rfl ?_
                  clear hd e8
                  go_wp2
                  exact ⟨rfl, Ext.refl _, rfl⟩
                · intro vals w1 hx hd
                  have e9 : vals 9 = .bool false := hd 9 (by decide)
                  refine .run [(15, .slice (some ⟨gb, go, none⟩) n1 c1), (191, .bool false)] { dst := some 0, op := Go.Op.move (Go.Operand.const (.slice (some ⟨gb, go, none⟩) n1 c1)), type := 54, pos := "", after := #[], guard := none } 192 ⟨.out (by kernel_rfl) (by kernel_rfl), .inn 9 (by kernel_rfl) e9, trivial⟩ (by kernel_rfl) (by kernel_rfl) (by kernel_rfl) rfl rfl rfl ?_
                  clear hd e9
                  go_wp2
                  exact ⟨rfl, Ext.refl _, rfl⟩
                · intro vals w1 hx hd
                  have e9 : vals 9 = .bool false := hd 9 (by decide)
                  refine .run [(24, .int .i64 (k : Int)), (191, .bool false)] { dst := some 0, op := Go.Op.move (Go.Operand.const (.int .i64 (k : Int))), type := 3, pos := "", after := #[], guard := none } 193 ⟨.out (by kernel_rfl) (by kernel_rfl), .inn 9 (by kernel_rfl) e9, trivial⟩ (by kernel_rfl) (by kernel_rfl) (by kernel_rfl) rfl rfl rfl ?_
                  clear hd e9
                  go_wp2
                  exact ⟨rfl, Ext.refl _, rfl⟩
                · intro vals w1 hx hd
                  have e10 : vals 10 = .slice (some ⟨gb, go, none⟩) n1 c1 := hd 10 (by decide)
                  have e11 : vals 11 = .int .i64 (k : Int) := hd 11 (by decide)
                  have e9 : vals 9 = .bool false := hd 9 (by decide)
                  refine .run [(192, .slice (some ⟨gb, go, none⟩) n1 c1), (193, .int .i64 (k : Int)), (191, .bool false)] { dst := some 0, op := Go.Op.indexAddr 54 (Go.Operand.const (.slice (some ⟨gb, go, none⟩) n1 c1)) (Go.Operand.const (.int .i64 (k : Int))), type := 0, pos := "", after := #[], guard := none } 194 ⟨.inn 10 (by kernel_rfl) e10, .inn 11 (by kernel_rfl) e11, .inn 9 (by kernel_rfl) e9, trivial⟩ (by kernel_rfl) (by kernel_rfl) (by kernel_rfl) rfl rfl rfl ?_
                  clear hd e10 e11 e9
                  go_wp2
                  exact ⟨rfl, Ext.refl _, rfl⟩
                · intro vals w1 hx hd
                  have e12 : vals 12 = .pointer (some ⟨gb, go + k * 2, none⟩) := hd 12 (by decide)
                  have e9 : vals 9 = .bool false := hd 9 (by decide)
                  refine .run [(194, .pointer (some ⟨gb, go + k * 2, none⟩)), (191, .bool false)] { dst := some 0, op := Go.Op.fieldAddr 34 (Go.Operand.const (.pointer (some ⟨gb, go + k * 2, none⟩))) 1, type := 0, pos := "", after := #[], guard := none } 195 ⟨.inn 12 (by kernel_rfl) e12, .inn 9 (by kernel_rfl) e9, trivial⟩ (by kernel_rfl) (by kernel_rfl) (by kernel_rfl) rfl rfl rfl ?_
                  clear hd e12 e9
                  go_wp2
                  exact ⟨rfl, Ext.refl _, rfl⟩
                · intro vals w1 hx hd
                  have e13 : vals 13 = .pointer (some ⟨gb, go + k * 2 + 1, none⟩) := hd 13 (by decide)
                  have e9 : vals 9 = .bool false := hd 9 (by decide)
                  refine .run [(195, .pointer (some ⟨gb, go + k * 2 + 1, none⟩)), (191, .bool false)] { dst := some 0, op := Go.Op.load 3 (Go.Operand.const (.pointer (some ⟨gb, go + k * 2 + 1, none⟩))), type := 3, pos := "", after := #[], guard := none } 196 ⟨.inn 13 (by kernel_rfl) e13, .inn 9 (by kernel_rfl) e9, trivial⟩ (by kernel_rfl) (by kernel_rfl) (by kernel_rfl) rfl rfl rfl ?_
                  clear hd e13 e9
                  have dd1 := ext_cell hx dd1
                  go_wp2
                  exact ⟨rfl, Ext.refl _, rfl⟩
                · intro vals w1 hx hd
                  have e9 : vals 9 = .bool false := hd 9 (by decide)
                  refine .run [(14, .pointer (some ⟨g14, 0, none⟩)), (191, .bool false)] { dst := some 0, op := Go.Op.fieldAddr 34 (Go.Operand.const (.pointer (some ⟨g14, 0, none⟩))) 1, type := 0, pos := "", after := #[], guard := none } 197 ⟨.out (by kernel_rfl) (by kernel_rfl), .inn 9 (by kernel_rfl) e9, trivial⟩ (by kernel_rfl) (by kernel_rfl) (by kernel_rfl) rfl rfl rfl ?_
                  clear hd e9
                  go_wp2
                  exact ⟨rfl, Ext.refl _, rfl⟩
                · intro vals w1 hx hd
                  have e15 : vals 15 = .pointer (some ⟨g14, 1, none⟩) := hd 15 (by decide)
                  have e9 : vals 9 = .bool false := hd 9 (by decide)
                  refine .run [(197, .pointer (some ⟨g14, 1, none⟩)), (191, .bool false)] { dst := some 0, op := Go.Op.load 3 (Go.Operand.const (.pointer (some ⟨g14, 1, none⟩))), type := 3, pos := "", after := #[], guard := none } 198 ⟨.inn 15 (by kernel_rfl) e15, .inn 9 (by kernel_rfl) e9, trivial⟩ (by kernel_rfl) (by kernel_rfl) (by kernel_rfl) rfl rfl rfl ?_
                  clear hd e15 e9
                  have t1 := ext_cell hx t1
                  go_wp2
                  exact ⟨rfl, Ext.refl _, rfl⟩
                · intro vals w1 hx hd
                  have e16 : vals 16 = .int .i64 b := hd 16 (by decide)
                  have e9 : vals 9 = .bool false := hd 9 (by decide)
                  refine .run [(198, .int .i64 b), (191, .bool false)] { dst := some 0, op := Go.Op.binOp Go.BinOp.sub 3 (Go.Operand.const (.int .i64 b)) (Go.Operand.const (Go.Value.int Go.IntKind.i64 10)) 3, type := 3, pos := "", after := #[], guard := none } 199 ⟨.inn 16 (by kernel_rfl) e16, .inn 9 (by kernel_rfl) e9, trivial⟩ (by kernel_rfl) (by kernel_rfl) (by kernel_rfl) rfl rfl rfl ?_
                  clear hd e16 e9
                  go_wp2
                  exact ⟨rfl, Ext.refl _, rfl⟩
                · intro vals w1 hx hd
                  have e14 : vals 14 = .int .i64 f2 := hd 14 (by decide)
                  have e17 : vals 17 = .int .i64 (b - 10) := hd 17 (by decide)
                  have e9 : vals 9 = .bool false := hd 9 (by decide)
                  refine .run [(196, .int .i64 f2), (199, .int .i64 (b - 10)), (191, .bool false)] { dst := some 0, op := Go.Op.binOp Go.BinOp.geq 3 (Go.Operand.const (.int .i64 f2)) (Go.Operand.const (.int .i64 (b - 10))) 3, type := 4, pos := "", after := #[], guard := none } 200 ⟨.inn 14 (by kernel_rfl) e14, .inn 17 (by kernel_rfl) e17, .inn 9 (by kernel_rfl) e9, trivial⟩ (by kernel_rfl) (by kernel_rfl) (by kernel_rfl) rfl rfl rfl ?_
                  clear hd e14 e17 e9
                  go_wp2
                  exact ⟨rfl, Ext.refl _, rfl⟩
                · intro vals w1 hx hd
                  have e9 : vals 9 = .bool false := hd 9 (by decide)
                  have e18 : vals 18 = .bool false := hd 18 (by decide)
                  refine .run [(191, .bool false), (200, .bool false)] { dst := some 0, op := Go.Op.pick (Go.Operand.const (.bool false)) (Go.Operand.const (Go.Value.bool true)) (Go.Operand.const (.bool false)), type := 4, pos := "", after := #[], guard := none } 201 ⟨.inn 9 (by kernel_rfl) e9, .inn 18 (by kernel_rfl) e18, trivial⟩ (by kernel_rfl) (by kernel_rfl) (by kernel_rfl) rfl rfl rfl ?_
                  clear hd e9 e18
                  go_wp2
                  exact ⟨rfl, Ext.refl _, rfl⟩
              intro vals W21 hx21 hf
              have e19 : vals 19 = .bool false := hf 19 (by omega)
              clear hf
              have hx21 := hx21.undrew
              have hx := Ext.trans hx hx21
              have dd0 := ext_cell hx21 dd0
              have dd1 := ext_cell hx21 dd1
              clear hx21 t0 t1
              refine tail0 (by kernel_rfl) ?_
              simp only [Lf, dstAt, Act.put, List.getElem?_toArray, List.getElem?_cons_zero, List.getElem?_cons_succ, Option.bind_some, List.setIfInBounds_toArray, List.set_cons_zero, List.set_cons_succ]
              rw [e19]
              clear e19
              go_wp2
              obtain ⟨wo, hwo⟩ : ∃ wo : World, wo = W21 := ⟨_, rfl⟩
              rw [← hwo] at hx dd0 dd1 ⊢
              clear hwo
              go_loopw [25, 26] (fun x y wi => ∃ (m : Nat) (th : Bool), m ≤ n0 ∧ y = .int .i64 m ∧ x = .bool th ∧ Hid (th = (L0.take m).any fun z => decide (z = ⟨f1 - la, f2 - la⟩)) ∧ Ext wo wi) (fun _ y _ => n0 - (intOf y).toNat)
              case atStart => exact ⟨0, false, Nat.zero_le _, rfl, rfl, Lib.hid rfl, Ext.refl _⟩
              case round =>
                obtain ⟨m, th, hm, rfl, rfl, HTH, hxw⟩ := hrel
                by_cases hmn : m < n0
                · skip
                  obtain ⟨qb, qo, hz, hA, _, hc⟩ := (HR0.out.below (Ext.trans hx hxw)).at_ spl_len hmn
                  have hst : (L0.take (m + 1)).any (fun z => decide (z = ⟨f1 - la, f2 - la⟩)) = (th || decide (L0[m] = ⟨f1 - la, f2 - la⟩)) := by rw [List.take_succ_eq_append_getElem hz, List.any_append, HTH.out]; simp
                  have uu0 : wr.cell? ⟨qb, qo + m * 2, none⟩ = some (.int .i64 L0[m].fr) := hc 0 (by omega)
                  have uu1 : wr.cell? ⟨qb, qo + m * 2 + 1, none⟩ = some (.int .i64 L0[m].tt) := hc 1 (by omega)
                  generalize L0[m] = z at hst uu0 uu1
                  have HST := Lib.hid hst
                  have dd0 := ext_cell hxw dd0
                  have dd1 := ext_cell hxw dd1
                  clear hst hc hz HTH
                  subst hA
                  have w3_ : IntKind.i64.wrap (f1 - la) = f1 - la := IntWalk.i64_in _ (by omega)
                  have w4_ : IntKind.i64.wrap (f2 - la) = f2 - la := IntWalk.i64_in _ (by omega)
                  go_upto_region 34 with (fail)
                  cases th
                  · skip
                    refine wp_region_obl 23 (fun ix vals v w1 => match ix with | 0 => v = .bool false | 1 => v = .bool false | 2 => v = .slice (some ⟨qb, qo, none⟩) n0 c0 | 3 => v = .int .i64 (m : Int) | 4 => v = .pointer (some ⟨qb, qo + m * 2, none⟩) | 5 => v = .agg #[.int .i64 z.fr, .int .i64 z.tt] | 6 => v = .slice (some ⟨gb, go, none⟩) n1 c1 | 7 => v = .int .i64 (k : Int) | 8 => v = .pointer (some ⟨gb, go + k * 2, none⟩) | 9 => v = .pointer (some ⟨gb, go + k * 2, none⟩) | 10 => v = .int .i64 f1 | 11 => v = .int .i64 la | 12 => v = .int .i64 (f1 - la) | 13 => v = .slice (some ⟨gb, go, none⟩) n1 c1 | 14 => v = .int .i64 (k : Int) | 15 => v = .pointer (some ⟨gb, go + k * 2, none⟩) | 16 => v = .pointer (some ⟨gb, go + k * 2 + 1, none⟩) | 17 => v = .int .i64 f2 | 18 => v = .int .i64 la | 19 => v = .int .i64 (f2 - la) | 20 => v = .agg #[.int .i64 (f1 - la), .int .i64 (f2 - la)] | 21 => v = .bool (decide (z = ⟨f1 - la, f2 - la⟩)) | _ => v = .bool (decide (z = ⟨f1 - la, f2 - la⟩))) (by kernel_rfl) (by kernel_rfl) ?_ ?_ ?_ ?_
                    · intro ix vals v w1 w2 hi hr hx
                      match ix, hr with
                      | 0, hr => exact hr
                      | 1, hr => exact hr
                      | 2, hr => exact hr
                      | 3, hr => exact hr
                      | 4, hr => exact hr
                      | 5, hr => exact hr
                      | 6, hr => exact hr
                      | 7, hr => exact hr
                      | 8, hr => exact hr
                      | 9, hr => exact hr
                      | 10, hr => exact hr
                      | 11, hr => exact hr
                      | 12, hr => exact hr
                      | 13, hr => exact hr
                      | 14, hr => exact hr
                      | 15, hr => exact hr
                      | 16, hr => exact hr
                      | 17, hr => exact hr
                      | 18, hr => exact hr
                      | 19, hr => exact hr
                      | 20, hr => exact hr
                      | 21, hr => exact hr
                      | (kx + 22), hr => exact hr
                    · intro ix vals vals_ v w1 hi hv hr
                      exact hr
                    · refine obls_ofT [some 208, some 209, some 210, some 211, some 212, some 213, some 214, some 215, some 216, some 217, some 218, some 219, some 220, some 221, some 222, some 223, some 224, some 225, some 226, some 227, some 228, some 229, some 230, some 25] [(15, .slice (some ⟨gb, go, none⟩) n1 c1), (24, .int .i64 (k : Int)), (14, .pointer (some ⟨g14, 0, none⟩)), (25, .bool false), (26, .int .i64 (m : Int)), (17, .slice (some ⟨qb, qo, none⟩) n0 c0), (13, .int .i64 la)] 233 (by kernel_rfl) (by kernel_rfl) ⟨by kernel_rfl, by kernel_rfl, by kernel_rfl, by kernel_rfl, by kernel_rfl, by kernel_rfl, by kernel_rfl, trivial⟩ ?_
                      refine ⟨?_, ?_, ?_, ?_, ?_, ?_, ?_, ?_, ?_, ?_, ?_, ?_, ?_, ?_, ?_, ?_, ?_, ?_, ?_, ?_, ?_, ?_, ?_, trivial⟩
                      · intro vals w1 hx hd
                        refine .run [(25, .bool false)] { dst := some 0, op := Go.Op.move (Go.Operand.const (.bool false)), type := 4, pos := "", after := #[], guard := none } 208 ⟨.out (by kernel_rfl) (by kernel_rfl), trivial⟩ (by kernel_rfl) (by kernel_rfl) (by kernel_rfl) rfl rfl rfl ?_
                        clear hd
                        go_wp2
                        exact ⟨rfl, Ext.refl _, rfl⟩
                      · intro vals w1 hx hd
                        have e0 : vals 0 = .bool false := hd 0 (by decide)
                        refine .run [(208, .bool false)] { dst := some 0, op := Go.Op.move (Go.Operand.const (.bool false)), type := 4, pos := "", after := #[], guard := none } 209 ⟨.inn 0 (by kernel_rfl) e0, trivial⟩ (by kernel_rfl) (by kernel_rfl) (by kernel_rfl) rfl rfl rfl ?_
                        clear hd e0
                        go_wp2
                        exact ⟨rfl, Ext.refl _, rfl⟩
                      · intro vals w1 hx hd
                        have e1 : vals 1 = .bool false := hd 1 (by decide)
                        refine .run [(17, .slice (some ⟨qb, qo, none⟩) n0 c0), (209, .bool false)] { dst := some 0, op := Go.Op.move (Go.Operand.const (.slice (some ⟨qb, qo, none⟩) n0 c0)), type := 54, pos := "", after := #[], guard := none } 210 ⟨.out (by kernel_rfl) (by kernel_rfl), .inn 1 (by kernel_rfl) e1, trivial⟩ (by kernel_rfl) (by kernel_rfl) (by kernel_rfl) rfl rfl rfl ?_
                        clear hd e1
                        go_wp2
                        exact ⟨rfl, Ext.refl _, rfl⟩
                      · intro vals w1 hx hd
                        have e1 : vals 1 = .bool false := hd 1 (by decide)
                        refine .run [(26, .int .i64 (m : Int)), (209, .bool false)] { dst := some 0, op := Go.Op.move (Go.Operand.const (.int .i64 (m : Int))), type := 3, pos := "", after := #[], guard := none } 211 ⟨.out (by kernel_rfl) (by kernel_rfl), .inn 1 (by kernel_rfl) e1, trivial⟩ (by kernel_rfl) (by kernel_rfl) (by kernel_rfl) rfl rfl rfl ?_
                        clear hd e1
                        go_wp2
                        exact ⟨rfl, Ext.refl _, rfl⟩
                      · intro vals w1 hx hd
                        have e2 : vals 2 = .slice (some ⟨qb, qo, none⟩) n0 c0 := hd 2 (by decide)
                        have e3 : vals 3 = .int .i64 (m : Int) := hd 3 (by decide)
                        have e1 : vals 1 = .bool false := hd 1 (by decide)
                        refine .run [(210, .slice (some ⟨qb, qo, none⟩) n0 c0), (211, .int .i64 (m : Int)), (209, .bool false)] { dst := some 0, op := Go.Op.indexAddr 54 (Go.Operand.const (.slice (some ⟨qb, qo, none⟩) n0 c0)) (Go.Operand.const (.int .i64 (m : Int))), type := 0, pos := "", after := #[], guard := none } 212 ⟨.inn 2 (by kernel_rfl) e2, .inn 3 (by kernel_rfl) e3, .inn 1 (by kernel_rfl) e1, trivial⟩ (by kernel_rfl) (by kernel_rfl) (by kernel_rfl) rfl rfl rfl ?_
                        clear hd e2 e3 e1
                        go_wp2
                        exact ⟨rfl, Ext.refl _, rfl⟩
                      · intro vals w1 hx hd
                        have e4 : vals 4 = .pointer (some ⟨qb, qo + m * 2, none⟩) := hd 4 (by decide)
                        have e1 : vals 1 = .bool false := hd 1 (by decide)
                        refine .run [(212, .pointer (some ⟨qb, qo + m * 2, none⟩)), (209, .bool false)] { dst := some 0, op := Go.Op.load 34 (Go.Operand.const (.pointer (some ⟨qb, qo + m * 2, none⟩))), type := 34, pos := "", after := #[], guard := none } 213 ⟨.inn 4 (by kernel_rfl) e4, .inn 1 (by kernel_rfl) e1, trivial⟩ (by kernel_rfl) (by kernel_rfl) (by kernel_rfl) rfl rfl rfl ?_
                        clear hd e4 e1
                        have uu0 := ext_cell hx uu0
                        have uu1 := ext_cell hx uu1
                        go_wp2
                        exact ⟨rfl, Ext.refl _, rfl⟩
                      · intro vals w1 hx hd
                        have e1 : vals 1 = .bool false := hd 1 (by decide)
                        refine .run [(15, .slice (some ⟨gb, go, none⟩) n1 c1), (209, .bool false)] { dst := some 0, op := Go.Op.move (Go.Operand.const (.slice (some ⟨gb, go, none⟩) n1 c1)), type := 54, pos := "", after := #[], guard := none } 214 ⟨.out (by kernel_rfl) (by kernel_rfl), .inn 1 (by kernel_rfl) e1, trivial⟩ (by kernel_rfl) (by kernel_rfl) (by kernel_rfl) rfl rfl rfl ?_
                        clear hd e1
                        go_wp2
                        exact ⟨rfl, Ext.refl _, rfl⟩
                      · intro vals w1 hx hd
                        have e1 : vals 1 = .bool false := hd 1 (by decide)
                        refine .run [(24, .int .i64 (k : Int)), (209, .bool false)] { dst := some 0, op := Go.Op.move (Go.Operand.const (.int .i64 (k : Int))), type := 3, pos := "", after := #[], guard := none } 215 ⟨.out (by kernel_rfl) (by kernel_rfl), .inn 1 (by kernel_rfl) e1, trivial⟩ (by kernel_rfl) (by kernel_rfl) (by kernel_rfl) rfl rfl rfl ?_
                        clear hd e1
                        go_wp2
                        exact ⟨rfl, Ext.refl _, rfl⟩
                      · intro vals w1 hx hd
                        have e6 : vals 6 = .slice (some ⟨gb, go, none⟩) n1 c1 := hd 6 (by decide)
                        have e7 : vals 7 = .int .i64 (k : Int) := hd 7 (by decide)
                        have e1 : vals 1 = .bool false := hd 1 (by decide)
                        refine .run [(214, .slice (some ⟨gb, go, none⟩) n1 c1), (215, .int .i64 (k : Int)), (209, .bool false)] { dst := some 0, op := Go.Op.indexAddr 54 (Go.Operand.const (.slice (some ⟨gb, go, none⟩) n1 c1)) (Go.Operand.const (.int .i64 (k : Int))), type := 0, pos := "", after := #[], guard := none } 216 ⟨.inn 6 (by kernel_rfl) e6, .inn 7 (by kernel_rfl) e7, .inn 1 (by kernel_rfl) e1, trivial⟩ (by kernel_rfl) (by kernel_rfl) (by kernel_rfl) rfl rfl rfl ?_
                        clear hd e6 e7 e1
                        go_wp2
                        exact ⟨rfl, Ext.refl _, rfl⟩
                      · intro vals w1 hx hd
                        have e8 : vals 8 = .pointer (some ⟨gb, go + k * 2, none⟩) := hd 8 (by decide)
                        have e1 : vals 1 = .bool false := hd 1 (by decide)
                        refine .run [(216, .pointer (some ⟨gb, go + k * 2, none⟩)), (209, .bool false)] { dst := some 0, op := Go.Op.fieldAddr 34 (Go.Operand.const (.pointer (some ⟨gb, go + k * 2, none⟩))) 0, type := 0, pos := "", after := #[], guard := none } 217 ⟨.inn 8 (by kernel_rfl) e8, .inn 1 (by kernel_rfl) e1, trivial⟩ (by kernel_rfl) (by kernel_rfl) (by kernel_rfl) rfl rfl rfl ?_
                        clear hd e8 e1
                        go_wp2
                        exact ⟨rfl, Ext.refl _, rfl⟩
                      · intro vals w1 hx hd
                        have e9 : vals 9 = .pointer (some ⟨gb, go + k * 2, none⟩) := hd 9 (by decide)
                        have e1 : vals 1 = .bool false := hd 1 (by decide)
                        refine .run [(217, .pointer (some ⟨gb, go + k * 2, none⟩)), (209, .bool false)] { dst := some 0, op := Go.Op.load 3 (Go.Operand.const (.pointer (some ⟨gb, go + k * 2, none⟩))), type := 3, pos := "", after := #[], guard := none } 218 ⟨.inn 9 (by kernel_rfl) e9, .inn 1 (by kernel_rfl) e1, trivial⟩ (by kernel_rfl) (by kernel_rfl) (by kernel_rfl) rfl rfl rfl ?_
                        clear hd e9 e1
                        have dd0 := ext_cell hx dd0
                        go_wp2
                        exact ⟨rfl, Ext.refl _, rfl⟩
                      · intro vals w1 hx hd
                        have e1 : vals 1 = .bool false := hd 1 (by decide)
                        refine .run [(13, .int .i64 la), (209, .bool false)] { dst := some 0, op := Go.Op.move (Go.Operand.const (.int .i64 la)), type := 3, pos := "", after := #[], guard := none } 219 ⟨.out (by kernel_rfl) (by kernel_rfl), .inn 1 (by kernel_rfl) e1, trivial⟩ (by kernel_rfl) (by kernel_rfl) (by kernel_rfl) rfl rfl rfl ?_
                        clear hd e1
                        go_wp2
                        exact ⟨rfl, Ext.refl _, rfl⟩
                      · intro vals w1 hx hd
                        have e10 : vals 10 = .int .i64 f1 := hd 10 (by decide)
                        have e11 : vals 11 = .int .i64 la := hd 11 (by decide)
                        have e1 : vals 1 = .bool false := hd 1 (by decide)
                        refine .run [(218, .int .i64 f1), (219, .int .i64 la), (209, .bool false)] { dst := some 0, op := Go.Op.binOp Go.BinOp.sub 3 (Go.Operand.const (.int .i64 f1)) (Go.Operand.const (.int .i64 la)) 3, type := 3, pos := "", after := #[], guard := none } 220 ⟨.inn 10 (by kernel_rfl) e10, .inn 11 (by kernel_rfl) e11, .inn 1 (by kernel_rfl) e1, trivial⟩ (by kernel_rfl) (by kernel_rfl) (by kernel_rfl) rfl rfl rfl ?_
                        clear hd e10 e11 e1
                        go_wp2
                        exact ⟨rfl, Ext.refl _, rfl⟩
                      · intro vals w1 hx hd
                        have e1 : vals 1 = .bool false := hd 1 (by decide)
                        refine .run [(15, .slice (some ⟨gb, go, none⟩) n1 c1), (209, .bool false)] { dst := some 0, op := Go.Op.move (Go.Operand.const (.slice (some ⟨gb, go, none⟩) n1 c1)), type := 54, pos := "", after := #[], guard := none } 221 ⟨.out (by kernel_rfl) (by kernel_rfl), .inn 1 (by kernel_rfl) e1, trivial⟩ (by kernel_rfl) (by kernel_rfl) (by kernel_rfl) rfl rfl rfl ?_
                        clear hd e1
                        go_wp2
                        exact ⟨rfl, Ext.refl _, rfl⟩
                      · intro vals w1 hx hd
                        have e1 : vals 1 = .bool false := hd 1 (by decide)
                        refine .run [(24, .int .i64 (k : Int)), (209, .bool false)] { dst := some 0, op := Go.Op.move (Go.Operand.const (.int .i64 (k : Int))), type := 3, pos := "", after := #[], guard := none } 222 ⟨.out (by kernel_rfl) (by kernel_rfl), .inn 1 (by kernel_rfl) e1, trivial⟩ (by kernel_rfl) (by kernel_rfl) (by kernel_rfl) rfl rfl rfl ?_
                        clear hd e1
                        go_wp2
                        exact ⟨rfl, Ext.refl _, rfl⟩
                      · intro vals w1 hx hd
                        have e13 : vals 13 = .slice (some ⟨gb, go, none⟩) n1 c1 := hd 13 (by decide)
                        have e14 : vals 14 = .int .i64 (k : Int) := hd 14 (by decide)
                        have e1 : vals 1 = .bool false := hd 1 (by decide)
                        refine .run [(221, .slice (some ⟨gb, go, none⟩) n1 c1), (222, .int .i64 (k : Int)), (209, .bool false)] { dst := some 0, op := Go.Op.indexAddr 54 (Go.Operand.const (.slice (some ⟨gb, go, none⟩) n1 c1)) (Go.Operand.const (.int .i64 (k : Int))), type := 0, pos := "", after := #[], guard := none } 223 ⟨.inn 13 (by kernel_rfl) e13, .inn 14 (by kernel_rfl) e14, .inn 1 (by kernel_rfl) e1, trivial⟩ (by kernel_rfl) (by kernel_rfl) (by kernel_rfl) rfl rfl rfl ?_
                        clear hd e13 e14 e1
                        go_wp2
                        exact ⟨rfl, Ext.refl _, rfl⟩
                      · intro vals w1 hx hd
                        have e15 : vals 15 = .pointer (some ⟨gb, go + k * 2, none⟩) := hd 15 (by decide)
                        have e1 : vals 1 = .bool false := hd 1 (by decide)
                        refine .run [(223, .pointer (some ⟨gb, go + k * 2, none⟩)), (209, .bool false)] { dst := some 0, op := Go.Op.fieldAddr 34 (Go.Operand.const (.pointer (some ⟨gb, go + k * 2, none⟩))) 1, type := 0, pos := "", after := #[], guard := none } 224 ⟨.inn 15 (by kernel_rfl) e15, .inn 1 (by kernel_rfl) e1, trivial⟩ (by kernel_rfl) (by kernel_rfl) (by kernel_rfl) rfl rfl rfl ?_
                        clear hd e15 e1
                        go_wp2
                        exact ⟨rfl, Ext.refl _, rfl⟩
                      · intro vals w1 hx hd
                        have e16 : vals 16 = .pointer (some ⟨gb, go + k * 2 + 1, none⟩) := hd 16 (by decide)
                        have e1 : vals 1 = .bool false := hd 1 (by decide)
                        refine .run [(224, .pointer (some ⟨gb, go + k * 2 + 1, none⟩)), (209, .bool false)] { dst := some 0, op := Go.Op.load 3 (Go.Operand.const (.pointer (some ⟨gb, go + k * 2 + 1, none⟩))), type := 3, pos := "", after := #[], guard := none } 225 ⟨.inn 16 (by kernel_rfl) e16, .inn 1 (by kernel_rfl) e1, trivial⟩ (by kernel_rfl) (by kernel_rfl) (by kernel_rfl) rfl rfl rfl ?_
                        clear hd e16 e1
                        have dd1 := ext_cell hx dd1
                        go_wp2
                        exact ⟨rfl, Ext.refl _, rfl⟩
                      · intro vals w1 hx hd
                        have e1 : vals 1 = .bool false := hd 1 (by decide)
                        refine .run [(13, .int .i64 la), (209, .bool false)] { dst := some 0, op := Go.Op.move (Go.Operand.const (.int .i64 la)), type := 3, pos := "", after := #[], guard := none } 226 ⟨.out (by kernel_rfl) (by kernel_rfl), .inn 1 (by kernel_rfl) e1, trivial⟩ (by kernel_rfl) (by kernel_rfl) (by kernel_rfl) rfl rfl rfl ?_
                        clear hd e1
                        go_wp2
                        exact ⟨rfl, Ext.refl _, rfl⟩
                      · intro vals w1 hx hd
                        have e17 : vals 17 = .int .i64 f2 := hd 17 (by decide)
                        have e18 : vals 18 = .int .i64 la := hd 18 (by decide)
                        have e1 : vals 1 = .bool false := hd 1 (by decide)
                        refine .run [(225, .int .i64 f2), (226, .int .i64 la), (209, .bool false)] { dst := some 0, op := Go.Op.binOp Go.BinOp.sub 3 (Go.Operand.const (.int .i64 f2)) (Go.Operand.const (.int .i64 la)) 3, type := 3, pos := "", after := #[], guard := none } 227 ⟨.inn 17 (by kernel_rfl) e17, .inn 18 (by kernel_rfl) e18, .inn 1 (by kernel_rfl) e1, trivial⟩ (by kernel_rfl) (by kernel_rfl) (by kernel_rfl) rfl rfl rfl ?_
                        clear hd e17 e18 e1
                        go_wp2
                        exact ⟨rfl, Ext.refl _, rfl⟩
                      · intro vals w1 hx hd
                        have e12 : vals 12 = .int .i64 (f1 - la) := hd 12 (by decide)
                        have e19 : vals 19 = .int .i64 (f2 - la) := hd 19 (by decide)
                        have e1 : vals 1 = .bool false := hd 1 (by decide)
                        refine .run [(220, .int .i64 (f1 - la)), (227, .int .i64 (f2 - la)), (209, .bool false)] { dst := some 0, op := Go.Op.build 34 #[(0, (Go.Operand.const (.int .i64 (f1 - la)))), (1, (Go.Operand.const (.int .i64 (f2 - la))))], type := 34, pos := "", after := #[], guard := none } 228 ⟨.inn 12 (by kernel_rfl) e12, .inn 19 (by kernel_rfl) e19, .inn 1 (by kernel_rfl) e1, trivial⟩ (by kernel_rfl) (by kernel_rfl) (by kernel_rfl) rfl rfl rfl ?_
                        clear hd e12 e19 e1
                        go_wp2
                        exact ⟨rfl, Ext.refl _, rfl⟩
                      · intro vals w1 hx hd
                        have e5 : vals 5 = .agg #[.int .i64 z.fr, .int .i64 z.tt] := hd 5 (by decide)
                        have e20 : vals 20 = .agg #[.int .i64 (f1 - la), .int .i64 (f2 - la)] := hd 20 (by decide)
                        have e1 : vals 1 = .bool false := hd 1 (by decide)
                        refine .run [(213, .agg #[.int .i64 z.fr, .int .i64 z.tt]), (228, .agg #[.int .i64 (f1 - la), .int .i64 (f2 - la)]), (209, .bool false)] { dst := some 0, op := Go.Op.binOp Go.BinOp.eql 34 (Go.Operand.const (.agg #[.int .i64 z.fr, .int .i64 z.tt])) (Go.Operand.const (.agg #[.int .i64 (f1 - la), .int .i64 (f2 - la)])) 34, type := 4, pos := "", after := #[], guard := none } 229 ⟨.inn 5 (by kernel_rfl) e5, .inn 20 (by kernel_rfl) e20, .inn 1 (by kernel_rfl) e1, trivial⟩ (by kernel_rfl) (by kernel_rfl) (by kernel_rfl) rfl rfl rfl ?_
                        clear hd e5 e20 e1
                        have hq := eql_spl z ⟨f1 - la, f2 - la⟩
                        dsimp only at hq
                        go_wp2
                        exact ⟨rfl, Ext.refl _, rfl⟩
                      · intro vals w1 hx hd
                        have e1 : vals 1 = .bool false := hd 1 (by decide)
                        have e21 : vals 21 = .bool (decide (z = ⟨f1 - la, f2 - la⟩)) := hd 21 (by decide)
                        refine .run [(209, .bool false), (229, .bool (decide (z = ⟨f1 - la, f2 - la⟩)))] { dst := some 0, op := Go.Op.pick (Go.Operand.const (.bool false)) (Go.Operand.const (Go.Value.bool true)) (Go.Operand.const (.bool (decide (z = ⟨f1 - la, f2 - la⟩)))), type := 4, pos := "", after := #[], guard := none } 230 ⟨.inn 1 (by kernel_rfl) e1, .inn 21 (by kernel_rfl) e21, trivial⟩ (by kernel_rfl) (by kernel_rfl) (by kernel_rfl) rfl rfl rfl ?_
                        clear hd e1 e21
                        go_wp2
                        exact ⟨rfl, Ext.refl _, rfl⟩
                    intro vals W30 hx30 hf
                    have e22 : vals 22 = .bool (decide (z = ⟨f1 - la, f2 - la⟩)) := hf 22 (by omega)
                    clear hf
                    have hx30 := hx30.undrew
                    have hxw := Ext.trans hxw hx30
                    clear hx30
                    refine tail1 23 _ (by kernel_rfl) (by kernel_rfl) rfl ?_
                    simp only [Lf, dstAt, Act.put, List.getElem?_toArray, List.getElem?_cons_zero, List.getElem?_cons_succ, Option.bind_some, List.setIfInBounds_toArray, List.set_cons_zero, List.set_cons_succ]
                    rw [e22]
                    clear e22
                    clear dd0 dd1 uu0 uu1
                    go_wp2
                    go_roundw
                    case rel => exact ⟨m + 1, _, by omega, by go_num, rfl, Lib.hid (by rw [HST.out, Bool.false_or]), hxw⟩
                    case measure => simp [intOf]; omega
                  · skip
                    refine wp_region_obl 23 (fun ix vals v w1 => match ix with | 0 => v = .bool true | 1 => v = .bool true | 2 => v = undef | 3 => v = undef | 4 => v = undef | 5 => v = undef | 6 => v = undef | 7 => v = undef | 8 => v = undef | 9 => v = undef | 10 => v = undef | 11 => v = undef | 12 => v = undef | 13 => v = undef | 14 => v = undef | 15 => v = undef | 16 => v = undef | 17 => v = undef | 18 => v = undef | 19 => v = undef | 20 => v = undef | 21 => v = undef | _ => v = .bool true) (by kernel_rfl) (by kernel_rfl) ?_ ?_ ?_ ?_
                    · intro ix vals v w1 w2 hi hr hx
                      match ix, hr with
                      | 0, hr => exact hr
                      | 1, hr => exact hr
                      | 2, hr => exact hr
                      | 3, hr => exact hr
                      | 4, hr => exact hr
                      | 5, hr => exact hr
                      | 6, hr => exact hr
                      | 7, hr => exact hr
                      | 8, hr => exact hr
                      | 9, hr => exact hr
                      | 10, hr => exact hr
                      | 11, hr => exact hr
                      | 12, hr => exact hr
                      | 13, hr => exact hr
                      | 14, hr => exact hr
                      | 15, hr => exact hr
                      | 16, hr => exact hr
                      | 17, hr => exact hr
                      | 18, hr => exact hr
                      | 19, hr => exact hr
                      | 20, hr => exact hr
                      | 21, hr => exact hr
                      | (kx + 22), hr => exact hr
                    · intro ix vals vals_ v w1 hi hv hr
                      exact hr
                    · refine obls_ofT [some 208, some 209, some 210, some 211, some 212, some 213, some 214, some 215, some 216, some 217, some 218, some 219, some 220, some 221, some 222, some 223, some 224, some 225, some 226, some 227, some 228, some 229, some 230, some 25] [(15, .slice (some ⟨gb, go, none⟩) n1 c1), (24, .int .i64 (k : Int)), (14, .pointer (some ⟨g14, 0, none⟩)), (25, .bool true), (26, .int .i64 (m : Int)), (17, .slice (some ⟨qb, qo, none⟩) n0 c0), (13, .int .i64 la)] 233 (by kernel_rfl) (by kernel_rfl) ⟨by kernel_rfl, by kernel_rfl, by kernel_rfl, by kernel_rfl, by kernel_rfl, by kernel_rfl, by kernel_rfl, trivial⟩ ?_
                      refine ⟨?_, ?_, ?_, ?_, ?_, ?_, ?_, ?_, ?_, ?_, ?_, ?_, ?_, ?_, ?_, ?_, ?_, ?_, ?_, ?_, ?_, ?_, ?_, trivial⟩
                      · intro vals w1 hx hd
                        refine .run [(25, .bool true)] { dst := some 0, op := Go.Op.move (Go.Operand.const (.bool true)), type := 4, pos := "", after := #[], guard := none } 208 ⟨.out (by kernel_rfl) (by kernel_rfl), trivial⟩ (by kernel_rfl) (by kernel_rfl) (by kernel_rfl) rfl rfl rfl ?_
                        clear hd
                        go_wp2
                        exact ⟨rfl, Ext.refl _, rfl⟩
                      · intro vals w1 hx hd
                        have e0 : vals 0 = .bool true := hd 0 (by decide)
                        refine .run [(208, .bool true)] { dst := some 0, op := Go.Op.move (Go.Operand.const (.bool true)), type := 4, pos := "", after := #[], guard := none } 209 ⟨.inn 0 (by kernel_rfl) e0, trivial⟩ (by kernel_rfl) (by kernel_rfl) (by kernel_rfl) rfl rfl rfl ?_
                        clear hd e0
                        go_wp2
                        exact ⟨rfl, Ext.refl _, rfl⟩
                      · intro vals w1 hx hd
                        have e1 : vals 1 = .bool true := hd 1 (by decide)
                        exact .no [(209, .bool true)] 210 ⟨.inn 1 (by kernel_rfl) e1, trivial⟩ (by kernel_rfl) rfl (by kernel_rfl) rfl
                      · intro vals w1 hx hd
                        have e1 : vals 1 = .bool true := hd 1 (by decide)
                        exact .no [(209, .bool true)] 211 ⟨.inn 1 (by kernel_rfl) e1, trivial⟩ (by kernel_rfl) rfl (by kernel_rfl) rfl
                      · intro vals w1 hx hd
                        have e1 : vals 1 = .bool true := hd 1 (by decide)
                        exact .no [(209, .bool true)] 212 ⟨.inn 1 (by kernel_rfl) e1, trivial⟩ (by kernel_rfl) rfl (by kernel_rfl) rfl
                      · intro vals w1 hx hd
                        have e1 : vals 1 = .bool true := hd 1 (by decide)
                        exact .no [(209, .bool true)] 213 ⟨.inn 1 (by kernel_rfl) e1, trivial⟩ (by kernel_rfl) rfl (by kernel_rfl) rfl
                      · intro vals w1 hx hd
                        have e1 : vals 1 = .bool true := hd 1 (by decide)
                        exact .no [(209, .bool true)] 214 ⟨.inn 1 (by kernel_rfl) e1, trivial⟩ (by kernel_rfl) rfl (by kernel_rfl) rfl
                      · intro vals w1 hx hd
                        have e1 : vals 1 = .bool true := hd 1 (by decide)
                        exact .no [(209, .bool true)] 215 ⟨.inn 1 (by kernel_rfl) e1, trivial⟩ (by kernel_rfl) rfl (by kernel_rfl) rfl
                      · intro vals w1 hx hd
                        have e1 : vals 1 = .bool true := hd 1 (by decide)
                        exact .no [(209, .bool true)] 216 ⟨.inn 1 (by kernel_rfl) e1, trivial⟩ (by kernel_rfl) rfl (by kernel_rfl) rfl
                      · intro vals w1 hx hd
                        have e1 : vals 1 = .bool true := hd 1 (by decide)
                        exact .no [(209, .bool true)] 217 ⟨.inn 1 (by kernel_rfl) e1, trivial⟩ (by kernel_rfl) rfl (by kernel_rfl) rfl
                      · intro vals w1 hx hd
                        have e1 : vals 1 = .bool true := hd 1 (by decide)
                        exact .no [(209, .bool true)] 218 ⟨.inn 1 (by kernel_rfl) e1, trivial⟩ (by kernel_rfl) rfl (by kernel_rfl) rfl
                      · intro vals w1 hx hd
                        have e1 : vals 1 = .bool true := hd 1 (by decide)
                        exact .no [(209, .bool true)] 219 ⟨.inn 1 (by kernel_rfl) e1, trivial⟩ (by kernel_rfl) rfl (by kernel_rfl) rfl
                      · intro vals w1 hx hd
                        have e1 : vals 1 = .bool true := hd 1 (by decide)
                        exact .no [(209, .bool true)] 220 ⟨.inn 1 (by kernel_rfl) e1, trivial⟩ (by kernel_rfl) rfl (by kernel_rfl) rfl
                      · intro vals w1 hx hd
                        have e1 : vals 1 = .bool true := hd 1 (by decide)
                        exact .no [(209, .bool true)] 221 ⟨.inn 1 (by kernel_rfl) e1, trivial⟩ (by kernel_rfl) rfl (by kernel_rfl) rfl
                      · intro vals w1 hx hd
                        have e1 : vals 1 = .bool true := hd 1 (by decide)
                        exact .no [(209, .bool true)] 222 ⟨.inn 1 (by kernel_rfl) e1, trivial⟩ (by kernel_rfl) rfl (by kernel_rfl) rfl
                      · intro vals w1 hx hd
                        have e1 : vals 1 = .bool true := hd 1 (by decide)
                        exact .no [(209, .bool true)] 223 ⟨.inn 1 (by kernel_rfl) e1, trivial⟩ (by kernel_rfl) rfl (by kernel_rfl) rfl
                      · intro vals w1 hx hd
                        have e1 : vals 1 = .bool true := hd 1 (by decide)
                        exact .no [(209, .bool true)] 224 ⟨.inn 1 (by kernel_rfl) e1, trivial⟩ (by kernel_rfl) rfl (by kernel_rfl) rfl
                      · intro vals w1 hx hd
                        have e1 : vals 1 = .bool true := hd 1 (by decide)
                        exact .no [(209, .bool true)] 225 ⟨.inn 1 (by kernel_rfl) e1, trivial⟩ (by kernel_rfl) rfl (by kernel_rfl) rfl
                      · intro vals w1 hx hd
                        have e1 : vals 1 = .bool true := hd 1 (by decide)
                        exact .no [(209, .bool true)] 226 ⟨.inn 1 (by kernel_rfl) e1, trivial⟩ (by kernel_rfl) rfl (by kernel_rfl) rfl
                      · intro vals w1 hx hd
                        have e1 : vals 1 = .bool true := hd 1 (by decide)
                        exact .no [(209, .bool true)] 227 ⟨.inn 1 (by kernel_rfl) e1, trivial⟩ (by kernel_rfl) rfl (by kernel_rfl) rfl
                      · intro vals w1 hx hd
                        have e1 : vals 1 = .bool true := hd 1 (by decide)
                        exact .no [(209, .bool true)] 228 ⟨.inn 1 (by kernel_rfl) e1, trivial⟩ (by kernel_rfl) rfl (by kernel_rfl) rfl
                      · intro vals w1 hx hd
                        have e1 : vals 1 = .bool true := hd 1 (by decide)
                        exact .no [(209, .bool true)] 229 ⟨.inn 1 (by kernel_rfl) e1, trivial⟩ (by kernel_rfl) rfl (by kernel_rfl) rfl
                      · intro vals w1 hx hd
                        have e1 : vals 1 = .bool true := hd 1 (by decide)
                        have e21 : vals 21 = undef := hd 21 (by decide)
                        refine .run [(209, .bool true), (229, undef)] { dst := some 0, op := Go.Op.pick (Go.Operand.const (.bool true)) (Go.Operand.const (Go.Value.bool true)) (Go.Operand.const (undef)), type := 4, pos := "", after := #[], guard := none } 230 ⟨.inn 1 (by kernel_rfl) e1, .inn 21 (by kernel_rfl) e21, trivial⟩ (by kernel_rfl) (by kernel_rfl) (by kernel_rfl) rfl rfl rfl ?_
                        clear hd e1 e21
                        go_wp2
                        exact ⟨rfl, Ext.refl _, rfl⟩
                    intro vals W30 hx30 hf
                    have e22 : vals 22 = .bool true := hf 22 (by omega)
                    clear hf
                    have hx30 := hx30.undrew
                    have hxw := Ext.trans hxw hx30
                    clear hx30
                    refine tail1 23 _ (by kernel_rfl) (by kernel_rfl) rfl ?_
                    simp only [Lf, dstAt, Act.put, List.getElem?_toArray, List.getElem?_cons_zero, List.getElem?_cons_succ, Option.bind_some, List.setIfInBounds_toArray, List.set_cons_zero, List.set_cons_succ]
                    rw [e22]
                    clear e22
                    clear dd0 dd1 uu0 uu1
                    go_wp2
                    go_roundw
                    case rel => exact ⟨m + 1, _, by omega, by go_num, rfl, Lib.hid (by rw [HST.out, Bool.true_or]), hxw⟩
                    case measure => simp [intOf]; omega
                · have hth : th = true := by
                    rw [HTH.out, List.take_of_length_le (by have := HLN0.out; omega), List.any_eq_true]
                    exact ⟨_, HM2.out, by simp⟩
                  subst hth
                  clear HTH
                  have hx := Ext.trans hx hxw
                  clear dd0 dd1 hxw
                  go_wp2
                  go_roundw
                  case rel => exact ⟨k + 1, by omega, by go_num, hx⟩
                  case measure => simp [intOf]; omega
        · have hk1 : (0 : Int) < (k : Int) := by omega
          have hkd : decide (0 < k) = true := by simp; omega
          obtain ⟨pl1, pp1⟩ := hpt (by omega)
          have HK0 := Lib.hid hk0
          have cf4 : decide (f1 ≤ pt) = false := by simp; omega
          have hki : IntKind.i64.wrap ((k : Int) - 1) = (k : Int) - 1 := IntWalk.i64_in _ (by omega)
          have hkn1 : ((k : Int) - 1).toNat = k - 1 := by omega
          clear hk0 hpt
          refine wp_region_obl 49 (fun ix vals v w1 => match ix with | 0 => v = .slice (some ⟨gb, go, none⟩) n1 c1 | 1 => v = .int .i64 (k : Int) | 2 => v = .pointer (some ⟨gb, go + k * 2, none⟩) | 3 => v = .pointer (some ⟨gb, go + k * 2, none⟩) | 4 => v = .int .i64 f1 | 5 => v = .pointer (some ⟨g14, 0, none⟩) | 6 => v = .int .i64 a | 7 => v = .bool false | 8 => v = .bool false | 9 => v = .slice (some ⟨gb, go, none⟩) n1 c1 | 10 => v = .int .i64 (k : Int) | 11 => v = .pointer (some ⟨gb, go + k * 2, none⟩) | 12 => v = .pointer (some ⟨gb, go + k * 2, none⟩) | 13 => v = .int .i64 f1 | 14 => v = .slice (some ⟨gb, go, none⟩) n1 c1 | 15 => v = .int .i64 (k : Int) | 16 => v = .pointer (some ⟨gb, go + k * 2, none⟩) | 17 => v = .pointer (some ⟨gb, go + k * 2 + 1, none⟩) | 18 => v = .int .i64 f2 | 19 => v = .bool false | 20 => v = .bool false | 21 => v = .bool false | 22 => v = .slice (some ⟨gb, go, none⟩) n1 c1 | 23 => v = .int .i64 (k : Int) | 24 => v = .pointer (some ⟨gb, go + k * 2, none⟩) | 25 => v = .pointer (some ⟨gb, go + k * 2 + 1, none⟩) | 26 => v = .int .i64 f2 | 27 => v = .pointer (some ⟨g14, 1, none⟩) | 28 => v = .int .i64 b | 29 => v = .bool false | 30 => v = .bool false | 31 => v = .bool false | 32 => v = .int .i64 (k : Int) | 33 => v = .bool true | 34 => v = .bool true | 35 => v = .slice (some ⟨gb, go, none⟩) n1 c1 | 36 => v = .int .i64 (k : Int) | 37 => v = .pointer (some ⟨gb, go + k * 2, none⟩) | 38 => v = .pointer (some ⟨gb, go + k * 2, none⟩) | 39 => v = .int .i64 f1 | 40 => v = .slice (some ⟨gb, go, none⟩) n1 c1 | 41 => v = .int .i64 (k : Int) | 42 => v = .int .i64 ((k : Int) - 1) | 43 => v = .pointer (some ⟨gb, go + (k - 1) * 2, none⟩) | 44 => v = .pointer (some ⟨gb, go + (k - 1) * 2 + 1, none⟩) | 45 => v = .int .i64 pt | 46 => v = .bool false | 47 => v = .bool false | _ => v = .bool false) (by kernel_rfl) (by kernel_rfl) ?_ ?_ ?_ ?_
          · intro ix vals v w1 w2 hi hr hx
            match ix, hr with
            | 0, hr => exact hr
            | 1, hr => exact hr
            | 2, hr => exact hr
            | 3, hr => exact hr
            | 4, hr => exact hr
            | 5, hr => exact hr
            | 6, hr => exact hr
            | 7, hr => exact hr
            | 8, hr => exact hr
            | 9, hr => exact hr
            | 10, hr => exact hr
            | 11, hr => exact hr
            | 12, hr => exact hr
            | 13, hr => exact hr
            | 14, hr => exact hr
            | 15, hr => exact hr
            | 16, hr => exact hr
            | 17, hr => exact hr
            | 18, hr => exact hr
            | 19, hr => exact hr
            | 20, hr => exact hr
            | 21, hr => exact hr
            | 22, hr => exact hr
            | 23, hr => exact hr
            | 24, hr => exact hr
            | 25, hr => exact hr
            | 26, hr => exact hr
            | 27, hr => exact hr
            | 28, hr => exact hr
            | 29, hr => exact hr
            | 30, hr => exact hr
            | 31, hr => exact hr
            | 32, hr => exact hr
            | 33, hr => exact hr
            | 34, hr => exact hr
            | 35, hr => exact hr
            | 36, hr => exact hr
            | 37, hr => exact hr
            | 38, hr => exact hr
            | 39, hr => exact hr
            | 40, hr => exact hr
            | 41, hr => exact hr
            | 42, hr => exact hr
            | 43, hr => exact hr
            | 44, hr => exact hr
            | 45, hr => exact hr
            | 46, hr => exact hr
            | 47, hr => exact hr
            | (kx + 48), hr => exact hr
          · intro ix vals vals_ v w1 hi hv hr
            exact hr
          · refine obls_ofT [some 133, some 134, some 135, some 136, some 137, some 138, some 139, some 140, some 141, some 142, some 143, some 144, some 145, some 146, some 147, some 148, some 149, some 150, some 151, some 152, some 153, some 154, some 155, some 156, some 157, some 158, some 159, some 160, some 161, some 162, some 163, some 164, some 165, some 166, some 167, some 168, some 169, some 170, some 171, some 172, some 173, some 174, some 175, some 176, some 177, some 178, some 179, some 180, some 181] [(15, .slice (some ⟨gb, go, none⟩) n1 c1), (24, .int .i64 (k : Int)), (14, .pointer (some ⟨g14, 0, none⟩))] 233 (by kernel_rfl) (by kernel_rfl) ⟨by kernel_rfl, by kernel_rfl, by kernel_rfl, trivial⟩ ?_
            refine ⟨?_, ?_, ?_, ?_, ?_, ?_, ?_, ?_, ?_, ?_, ?_, ?_, ?_, ?_, ?_, ?_, ?_, ?_, ?_, ?_, ?_, ?_, ?_, ?_, ?_, ?_, ?_, ?_, ?_, ?_, ?_, ?_, ?_, ?_, ?_, ?_, ?_, ?_, ?_, ?_, ?_, ?_, ?_, ?_, ?_, ?_, ?_, ?_, ?_, trivial⟩
            · intro vals w1 hx hd
              refine .run [(15, .slice (some ⟨gb, go, none⟩) n1 c1)] { dst := some 0, op := Go.Op.move (Go.Operand.const (.slice (some ⟨gb, go, none⟩) n1 c1)), type := 54, pos := "", after := #[], guard := none } 133 ⟨.out (by kernel_rfl) (by kernel_rfl), trivial⟩ (by kernel_rfl) (by kernel_rfl) (by kernel_rfl) rfl rfl rfl ?_
              clear hd
              go_wp2
              exact ⟨rfl, Ext.refl _, rfl⟩
            · intro vals w1 hx hd
              refine .run [(24, .int .i64 (k : Int))] { dst := some 0, op := Go.Op.move (Go.Operand.const (.int .i64 (k : Int))), type := 3, pos := "", after := #[], guard := none } 134 ⟨.out (by kernel_rfl) (by kernel_rfl), trivial⟩ (by kernel_rfl) (by kernel_rfl) (by kernel_rfl) rfl rfl rfl ?_
              clear hd
              go_wp2
              exact ⟨rfl, Ext.refl _, rfl⟩
            · intro vals w1 hx hd
              have e0 : vals 0 = .slice (some ⟨gb, go, none⟩) n1 c1 := hd 0 (by decide)
              have e1 : vals 1 = .int .i64 (k : Int) := hd 1 (by decide)
              refine .run [(133, .slice (some ⟨gb, go, none⟩) n1 c1), (134, .int .i64 (k : Int))] { dst := some 0, op := Go.Op.indexAddr 54 (Go.Operand.const (.slice (some ⟨gb, go, none⟩) n1 c1)) (Go.Operand.const (.int .i64 (k : Int))), type := 0, pos := "", after := #[], guard := none } 135 ⟨.inn 0 (by kernel_rfl) e0, .inn 1 (by kernel_rfl) e1, trivial⟩ (by kernel_rfl) (by kernel_rfl) (by kernel_rfl) rfl rfl rfl ?_
              clear hd e0 e1
              go_wp2
              exact ⟨rfl, Ext.refl _, rfl⟩
            · intro vals w1 hx hd
              have e2 : vals 2 = .pointer (some ⟨gb, go + k * 2, none⟩) := hd 2 (by decide)
              refine .run [(135, .pointer (some ⟨gb, go + k * 2, none⟩))] { dst := some 0, op := Go.Op.fieldAddr 34 (Go.Operand.const (.pointer (some ⟨gb, go + k * 2, none⟩))) 0, type := 0, pos := "", after := #[], guard := none } 136 ⟨.inn 2 (by kernel_rfl) e2, trivial⟩ (by kernel_rfl) (by kernel_rfl) (by kernel_rfl) rfl rfl rfl ?_
              clear hd e2
              go_wp2
              exact ⟨rfl, Ext.refl _, rfl⟩
            · intro vals w1 hx hd
              have e3 : vals 3 = .pointer (some ⟨gb, go + k * 2, none⟩) := hd 3 (by decide)
              refine .run [(136, .pointer (some ⟨gb, go + k * 2, none⟩))] { dst := some 0, op := Go.Op.load 3 (Go.Operand.const (.pointer (some ⟨gb, go + k * 2, none⟩))), type := 3, pos := "", after := #[], guard := none } 137 ⟨.inn 3 (by kernel_rfl) e3, trivial⟩ (by kernel_rfl) (by kernel_rfl) (by kernel_rfl) rfl rfl rfl ?_
              clear hd e3
              have dd0 := ext_cell hx dd0
              go_wp2
              exact ⟨rfl, Ext.refl _, rfl⟩
            · intro vals w1 hx hd
              refine .run [(14, .pointer (some ⟨g14, 0, none⟩))] { dst := some 0, op := Go.Op.fieldAddr 34 (Go.Operand.const (.pointer (some ⟨g14, 0, none⟩))) 0, type := 0, pos := "", after := #[], guard := none } 138 ⟨.out (by kernel_rfl) (by kernel_rfl), trivial⟩ (by kernel_rfl) (by kernel_rfl) (by kernel_rfl) rfl rfl rfl ?_
              clear hd
              go_wp2
              exact ⟨rfl, Ext.refl _, rfl⟩
            · intro vals w1 hx hd
              have e5 : vals 5 = .pointer (some ⟨g14, 0, none⟩) := hd 5 (by decide)
              refine .run [(138, .pointer (some ⟨g14, 0, none⟩))] { dst := some 0, op := Go.Op.load 3 (Go.Operand.const (.pointer (some ⟨g14, 0, none⟩))), type := 3, pos := "", after := #[], guard := none } 139 ⟨.inn 5 (by kernel_rfl) e5, trivial⟩ (by kernel_rfl) (by kernel_rfl) (by kernel_rfl) rfl rfl rfl ?_
              clear hd e5
              have t0 := ext_cell hx t0
              go_wp2
              exact ⟨rfl, Ext.refl _, rfl⟩
            · intro vals w1 hx hd
              have e4 : vals 4 = .int .i64 f1 := hd 4 (by decide)
              have e6 : vals 6 = .int .i64 a := hd 6 (by decide)
              refine .run [(137, .int .i64 f1), (139, .int .i64 a)] { dst := some 0, op := Go.Op.binOp Go.BinOp.lss 3 (Go.Operand.const (.int .i64 f1)) (Go.Operand.const (.int .i64 a)) 3, type := 4, pos := "", after := #[], guard := none } 140 ⟨.inn 4 (by kernel_rfl) e4, .inn 6 (by kernel_rfl) e6, trivial⟩ (by kernel_rfl) (by kernel_rfl) (by kernel_rfl) rfl rfl rfl ?_
              clear hd e4 e6
              go_wp2
              exact ⟨rfl, Ext.refl _, rfl⟩
            · intro vals w1 hx hd
              have e7 : vals 7 = .bool false := hd 7 (by decide)
              refine .run [(140, .bool false)] { dst := some 0, op := Go.Op.move (Go.Operand.const (.bool false)), type := 4, pos := "", after := #[], guard := none } 141 ⟨.inn 7 (by kernel_rfl) e7, trivial⟩ (by kernel_rfl) (by kernel_rfl) (by kernel_rfl) rfl rfl rfl ?_
              clear hd e7
              go_wp2
              exact ⟨rfl, Ext.refl _, rfl⟩
            · intro vals w1 hx hd
              have e8 : vals 8 = .bool false := hd 8 (by decide)
              refine .run [(15, .slice (some ⟨gb, go, none⟩) n1 c1), (141, .bool false)] { dst := some 0, op := Go.Op.move (Go.Operand.const (.slice (some ⟨gb, go, none⟩) n1 c1)), type := 54, pos := "", after := #[], guard := none } 142 ⟨.out (by kernel_rfl) (by kernel_rfl), .inn 8 (by kernel_rfl) e8, trivial⟩ (by kernel_rfl) (by kernel_rfl) (by kernel_rfl) rfl rfl rfl ?_
              clear hd e8
              go_wp2
              exact ⟨rfl, Ext.refl _, rfl⟩
            · intro vals w1 hx hd
              have e8 : vals 8 = .bool false := hd 8 (by decide)
              refine .run [(24, .int .i64 (k : Int)), (141, .bool false)] { dst := some 0, op := Go.Op.move (Go.Operand.const (.int .i64 (k : Int))), type := 3, pos := "", after := #[], guard := none } 143 ⟨.out (by kernel_rfl) (by kernel_rfl), .inn 8 (by kernel_rfl) e8, trivial⟩ (by kernel_rfl) (by kernel_rfl) (by kernel_rfl) rfl rfl rfl ?_
              clear hd e8
              go_wp2
              exact ⟨rfl, Ext.refl _, rfl⟩
            · intro vals w1 hx hd
              have e9 : vals 9 = .slice (some ⟨gb, go, none⟩) n1 c1 := hd 9 (by decide)
              have e10 : vals 10 = .int .i64 (k : Int) := hd 10 (by decide)
              have e8 : vals 8 = .bool false := hd 8 (by decide)
              refine .run [(142, .slice (some ⟨gb, go, none⟩) n1 c1), (143, .int .i64 (k : Int)), (141, .bool false)] { dst := some 0, op := Go.Op.indexAddr 54 (Go.Operand.const (.slice (some ⟨gb, go, none⟩) n1 c1)) (Go.Operand.const (.int .i64 (k : Int))), type := 0, pos := "", after := #[], guard := none } 144 ⟨.inn 9 (by kernel_rfl) e9, .inn 10 (by kernel_rfl) e10, .inn 8 (by kernel_rfl) e8, trivial⟩ (by kernel_rfl) (by kernel_rfl) (by kernel_rfl) rfl rfl rfl ?_
              clear hd e9 e10 e8
              go_wp2
              exact ⟨rfl, Ext.refl _, rfl⟩
            · intro vals w1 hx hd
              have e11 : vals 11 = .pointer (some ⟨gb, go + k * 2, none⟩) := hd 11 (by decide)
              have e8 : vals 8 = .bool false := hd 8 (by decide)
              refine .run [(144, .pointer (some ⟨gb, go + k * 2, none⟩)), (141, .bool false)] { dst := some 0, op := Go.Op.fieldAddr 34 (Go.Operand.const (.pointer (some ⟨gb, go + k * 2, none⟩))) 0, type := 0, pos := "", after := #[], guard := none } 145 ⟨.inn 11 (by kernel_rfl) e11, .inn 8 (by kernel_rfl) e8, trivial⟩ (by kernel_rfl) (by kernel_rfl) (by kernel_rfl) rfl rfl rfl ?_
              clear hd e11 e8
              go_wp2
              exact ⟨rfl, Ext.refl _, rfl⟩
            · intro vals w1 hx hd
              have e12 : vals 12 = .pointer (some ⟨gb, go + k * 2, none⟩) := hd 12 (by decide)
              have e8 : vals 8 = .bool false := hd 8 (by decide)
              refine .run [(145, .pointer (some ⟨gb, go + k * 2, none⟩)), (141, .bool false)] { dst := some 0, op := Go.Op.load 3 (Go.Operand.const (.pointer (some ⟨gb, go + k * 2, none⟩))), type := 3, pos := "", after := #[], guard := none } 146 ⟨.inn 12 (by kernel_rfl) e12, .inn 8 (by kernel_rfl) e8, trivial⟩ (by kernel_rfl) (by kernel_rfl) (by kernel_rfl) rfl rfl rfl ?_
              clear hd e12 e8
              have dd0 := ext_cell hx dd0
              go_wp2
              exact ⟨rfl, Ext.refl _, rfl⟩
            · intro vals w1 hx hd
              have e8 : vals 8 = .bool false := hd 8 (by decide)
              refine .run [(15, .slice (some ⟨gb, go, none⟩) n1 c1), (141, .bool false)] { dst := some 0, op := Go.Op.move (Go.Operand.const (.slice (some ⟨gb, go, none⟩) n1 c1)), type := 54, pos := "", after := #[], guard := none } 147 ⟨.out (by kernel_rfl) (by kernel_rfl), .inn 8 (by kernel_rfl) e8, trivial⟩ (by kernel_rfl) (by kernel_rfl) (by kernel_rfl) rfl rfl rfl ?_
              clear hd e8
              go_wp2
              exact ⟨rfl, Ext.refl _, rfl⟩
            · intro vals w1 hx hd
              have e8 : vals 8 = .bool false := hd 8 (by decide)
              refine .run [(24, .int .i64 (k : Int)), (141, .bool false)] { dst := some 0, op := Go.Op.move (Go.Operand.const (.int .i64 (k : Int))), type := 3, pos := "", after := #[], guard := none } 148 ⟨.out (by kernel_rfl) (by kernel_rfl), .inn 8 (by kernel_rfl) e8, trivial⟩ (by kernel_rfl) (by kernel_rfl) (by kernel_rfl) rfl rfl rfl ?_
              clear hd e8
              go_wp2
              exact ⟨rfl, Ext.refl _, rfl⟩
            · intro vals w1 hx hd
              have e14 : vals 14 = .slice (some ⟨gb, go, none⟩) n1 c1 := hd 14 (by decide)
              have e15 : vals 15 = .int .i64 (k : Int) := hd 15 (by decide)
              have e8 : vals 8 = .bool false := hd 8 (by decide)
              refine .run [(147, .slice (some ⟨gb, go, none⟩) n1 c1), (148, .int .i64 (k : Int)), (141, .bool false)] { dst := some 0, op := Go.Op.indexAddr 54 (Go.Operand.const (.slice (some ⟨gb, go, none⟩) n1 c1)) (Go.Operand.const (.int .i64 (k : Int))), type := 0, pos := "", after := #[], guard := none } 149 ⟨.inn 14 (by kernel_rfl) e14, .inn 15 (by kernel_rfl) e15, .inn 8 (by kernel_rfl) e8, trivial⟩ (by kernel_rfl) (by kernel_rfl) (by kernel_rfl) rfl rfl rfl ?_
              clear hd e14 e15 e8
              go_wp2
              exact ⟨rfl, Ext.refl _, rfl⟩
            · intro vals w1 hx hd
              have e16 : vals 16 = .pointer (some ⟨gb, go + k * 2, none⟩) := hd 16 (by decide)
              have e8 : vals 8 = .bool false := hd 8 (by decide)
              refine .run [(149, .pointer (some ⟨gb, go + k * 2, none⟩)), (141, .bool false)] { dst := some 0, op := Go.Op.fieldAddr 34 (Go.Operand.const (.pointer (some ⟨gb, go + k * 2, none⟩))) 1, type := 0, pos := "", after := #[], guard := none } 150 ⟨.inn 16 (by kernel_rfl) e16, .inn 8 (by kernel_rfl) e8, trivial⟩ (by kernel_rfl) (by kernel_rfl) (by kernel_rfl) rfl rfl rfl ?_
              clear hd e16 e8
              go_wp2
              exact ⟨rfl, Ext.refl _, rfl⟩
            · intro vals w1 hx hd
              have e17 : vals 17 = .pointer (some ⟨gb, go + k * 2 + 1, none⟩) := hd 17 (by decide)
              have e8 : vals 8 = .bool false := hd 8 (by decide)
              refine .run [(150, .pointer (some ⟨gb, go + k * 2 + 1, none⟩)), (141, .bool false)] { dst := some 0, op := Go.Op.load 3 (Go.Operand.const (.pointer (some ⟨gb, go + k * 2 + 1, none⟩))), type := 3, pos := "", after := #[], guard := none } 151 ⟨.inn 17 (by kernel_rfl) e17, .inn 8 (by kernel_rfl) e8, trivial⟩ (by kernel_rfl) (by kernel_rfl) (by kernel_rfl) rfl rfl rfl ?_
              clear hd e17 e8
              have dd1 := ext_cell hx dd1
              go_wp2
              exact ⟨rfl, Ext.refl _, rfl⟩
            · intro vals w1 hx hd
              have e13 : vals 13 = .int .i64 f1 := hd 13 (by decide)
              have e18 : vals 18 = .int .i64 f2 := hd 18 (by decide)
              have e8 : vals 8 = .bool false := hd 8 (by decide)
              refine .run [(146, .int .i64 f1), (151, .int .i64 f2), (141, .bool false)] { dst := some 0, op := Go.Op.binOp Go.BinOp.geq 3 (Go.Operand.const (.int .i64 f1)) (Go.Operand.const (.int .i64 f2)) 3, type := 4, pos := "", after := #[], guard := none } 152 ⟨.inn 13 (by kernel_rfl) e13, .inn 18 (by kernel_rfl) e18, .inn 8 (by kernel_rfl) e8, trivial⟩ (by kernel_rfl) (by kernel_rfl) (by kernel_rfl) rfl rfl rfl ?_
              clear hd e13 e18 e8
              go_wp2
              exact ⟨rfl, Ext.refl _, rfl⟩
            · intro vals w1 hx hd
              have e8 : vals 8 = .bool false := hd 8 (by decide)
              have e19 : vals 19 = .bool false := hd 19 (by decide)
              refine .run [(141, .bool false), (152, .bool false)] { dst := some 0, op := Go.Op.pick (Go.Operand.const (.bool false)) (Go.Operand.const (Go.Value.bool true)) (Go.Operand.const (.bool false)), type := 4, pos := "", after := #[], guard := none } 153 ⟨.inn 8 (by kernel_rfl) e8, .inn 19 (by kernel_rfl) e19, trivial⟩ (by kernel_rfl) (by kernel_rfl) (by kernel_rfl) rfl rfl rfl ?_
              clear hd e8 e19
              go_wp2
              exact ⟨rfl, Ext.refl _, rfl⟩
            · intro vals w1 hx hd
              have e20 : vals 20 = .bool false := hd 20 (by decide)
              refine .run [(153, .bool false)] { dst := some 0, op := Go.Op.move (Go.Operand.const (.bool false)), type := 4, pos := "", after := #[], guard := none } 154 ⟨.inn 20 (by kernel_rfl) e20, trivial⟩ (by kernel_rfl) (by kernel_rfl) (by kernel_rfl) rfl rfl rfl ?_
              clear hd e20
              go_wp2
              exact ⟨rfl, Ext.refl _, rfl⟩
            · intro vals w1 hx hd
              have e21 : vals 21 = .bool false := hd 21 (by decide)
              refine .run [(15, .slice (some ⟨gb, go, none⟩) n1 c1), (154, .bool false)] { dst := some 0, op := Go.Op.move (Go.Operand.const (.slice (some ⟨gb, go, none⟩) n1 c1)), type := 54, pos := "", after := #[], guard := none } 155 ⟨.out (by kernel_rfl) (by kernel_rfl), .inn 21 (by kernel_rfl) e21, trivial⟩ (by kernel_rfl) (by kernel_rfl) (by kernel_rfl) rfl rfl rfl ?_
              clear hd e21
              go_wp2
              exact ⟨rfl, Ext.refl _, rfl⟩
            · intro vals w1 hx hd
              have e21 : vals 21 = .bool false := hd 21 (by decide)
              refine .run [(24, .int .i64 (k : Int)), (154, .bool false)] { dst := some 0, op := Go.Op.move (Go.Operand.const (.int .i64 (k : Int))), type := 3, pos := "", after := #[], guard := none } 156 ⟨.out (by kernel_rfl) (by kernel_rfl), .inn 21 (by kernel_rfl) e21, trivial⟩ (by kernel_rfl) (by kernel_rfl) (by kernel_rfl) rfl rfl rfl ?_
              clear hd e21
              go_wp2
              exact ⟨rfl, Ext.refl _, rfl⟩
            · intro vals w1 hx hd
              have e22 : vals 22 = .slice (some ⟨gb, go, none⟩) n1 c1 := hd 22 (by decide)
              have e23 : vals 23 = .int .i64 (k : Int) := hd 23 (by decide)
              have e21 : vals 21 = .bool false := hd 21 (by decide)
              refine .run [(155, .slice (some ⟨gb, go, none⟩) n1 c1), (156, .int .i64 (k : Int)), (154, .bool false)] { dst := some 0, op := Go.Op.indexAddr 54 (Go.Operand.const (.slice (some ⟨gb, go, none⟩) n1 c1)) (Go.Operand.const (.int .i64 (k : Int))), type := 0, pos := "", after := #[], guard := none } 157 ⟨.inn 22 (by kernel_rfl) e22, .inn 23 (by kernel_rfl) e23, .inn 21 (by kernel_rfl) e21, trivial⟩ (by kernel_rfl) (by kernel_rfl) (by kernel_rfl) rfl rfl rfl ?_
              clear hd e22 e23 e21
              go_wp2
              exact ⟨rfl, Ext.refl _, rfl⟩
            · intro vals w1 hx hd
              have e24 : vals 24 = .pointer (some ⟨gb, go + k * 2, none⟩) := hd 24 (by decide)
              have e21 : vals 21 = .bool false := hd 21 (by decide)
              refine .run [(157, .pointer (some ⟨gb, go + k * 2, none⟩)), (154, .bool false)] { dst := some 0, op := Go.Op.fieldAddr 34 (Go.Operand.const (.pointer (some ⟨gb, go + k * 2, none⟩))) 1, type := 0, pos := "", after := #[], guard := none } 158 ⟨.inn 24 (by kernel_rfl) e24, .inn 21 (by kernel_rfl) e21, trivial⟩ (by kernel_rfl) (by kernel_rfl) (by kernel_rfl) rfl rfl rfl ?_
              clear hd e24 e21
              go_wp2
              exact ⟨rfl, Ext.refl _, rfl⟩
            · intro vals w1 hx hd
              have e25 : vals 25 = .pointer (some ⟨gb, go + k * 2 + 1, none⟩) := hd 25 (by decide)
              have e21 : vals 21 = .bool false := hd 21 (by decide)
              refine .run [(158, .pointer (some ⟨gb, go + k * 2 + 1, none⟩)), (154, .bool false)] { dst := some 0, op := Go.Op.load 3 (Go.Operand.const (.pointer (some ⟨gb, go + k * 2 + 1, none⟩))), type := 3, pos := "", after := #[], guard := none } 159 ⟨.inn 25 (by kernel_rfl) e25, .inn 21 (by kernel_rfl) e21, trivial⟩ (by kernel_rfl) (by kernel_rfl) (by kernel_rfl) rfl rfl rfl ?_
              clear hd e25 e21
              have dd1 := ext_cell hx dd1
              go_wp2
              exact ⟨rfl, Ext.refl _, rfl⟩
            · intro vals w1 hx hd
              have e21 : vals 21 = .bool false := hd 21 (by decide)
              refine .run [(14, .pointer (some ⟨g14, 0, none⟩)), (154, .bool false)] { dst := some 0, op := Go.Op.fieldAddr 34 (Go.Operand.const (.pointer (some ⟨g14, 0, none⟩))) 1, type := 0, pos := "", after := #[], guard := none } 160 ⟨.out (by kernel_rfl) (by kernel_rfl), .inn 21 (by kernel_rfl) e21, trivial⟩ (by kernel_rfl) (by kernel_rfl) (by kernel_rfl) rfl rfl rfl ?_
              clear hd e21
              go_wp2
              exact ⟨rfl, Ext.refl _, rfl⟩
            · intro vals w1 hx hd
              have e27 : vals 27 = .pointer (some ⟨g14, 1, none⟩) := hd 27 (by decide)
              have e21 : vals 21 = .bool false := hd 21 (by decide)
              refine .run [(160, .pointer (some ⟨g14, 1, none⟩)), (154, .bool false)] { dst := some 0, op := Go.Op.load 3 (Go.Operand.const (.pointer (some ⟨g14, 1, none⟩))), type := 3, pos := "", after := #[], guard := none } 161 ⟨.inn 27 (by kernel_rfl) e27, .inn 21 (by kernel_rfl) e21, trivial⟩ (by kernel_rfl) (by kernel_rfl) (by kernel_rfl) rfl rfl rfl ?_
              clear hd e27 e21
              have t1 := ext_cell hx t1
              go_wp2
              exact ⟨rfl, Ext.refl _, rfl⟩
            · intro vals w1 hx hd
              have e26 : vals 26 = .int .i64 f2 := hd 26 (by decide)
              have e28 : vals 28 = .int .i64 b := hd 28 (by decide)
              have e21 : vals 21 = .bool false := hd 21 (by decide)
              refine .run [(159, .int .i64 f2), (161, .int .i64 b), (154, .bool false)] { dst := some 0, op := Go.Op.binOp Go.BinOp.gtr 3 (Go.Operand.const (.int .i64 f2)) (Go.Operand.const (.int .i64 b)) 3, type := 4, pos := "", after := #[], guard := none } 162 ⟨.inn 26 (by kernel_rfl) e26, .inn 28 (by kernel_rfl) e28, .inn 21 (by kernel_rfl) e21, trivial⟩ (by kernel_rfl) (by kernel_rfl) (by kernel_rfl) rfl rfl rfl ?_
              clear hd e26 e28 e21
              go_wp2
              exact ⟨rfl, Ext.refl _, rfl⟩
            · intro vals w1 hx hd
              have e21 : vals 21 = .bool false := hd 21 (by decide)
              have e29 : vals 29 = .bool false := hd 29 (by decide)
              refine .run [(154, .bool false), (162, .bool false)] { dst := some 0, op := Go.Op.pick (Go.Operand.const (.bool false)) (Go.Operand.const (Go.Value.bool true)) (Go.Operand.const (.bool false)), type := 4, pos := "", after := #[], guard := none } 163 ⟨.inn 21 (by kernel_rfl) e21, .inn 29 (by kernel_rfl) e29, trivial⟩ (by kernel_rfl) (by kernel_rfl) (by kernel_rfl) rfl rfl rfl ?_
              clear hd e21 e29
              go_wp2
              exact ⟨rfl, Ext.refl _, rfl⟩
            · intro vals w1 hx hd
              have e30 : vals 30 = .bool false := hd 30 (by decide)
              refine .run [(163, .bool false)] { dst := some 0, op := Go.Op.move (Go.Operand.const (.bool false)), type := 4, pos := "", after := #[], guard := none } 164 ⟨.inn 30 (by kernel_rfl) e30, trivial⟩ (by kernel_rfl) (by kernel_rfl) (by kernel_rfl) rfl rfl rfl ?_
              clear hd e30
              go_wp2
              exact ⟨rfl, Ext.refl _, rfl⟩
            · intro vals w1 hx hd
              have e31 : vals 31 = .bool false := hd 31 (by decide)
              refine .run [(24, .int .i64 (k : Int)), (164, .bool false)] { dst := some 0, op := Go.Op.move (Go.Operand.const (.int .i64 (k : Int))), type := 3, pos := "", after := #[], guard := none } 165 ⟨.out (by kernel_rfl) (by kernel_rfl), .inn 31 (by kernel_rfl) e31, trivial⟩ (by kernel_rfl) (by kernel_rfl) (by kernel_rfl) rfl rfl rfl ?_
              clear hd e31
              go_wp2
              exact ⟨rfl, Ext.refl _, rfl⟩
            · intro vals w1 hx hd
              have e32 : vals 32 = .int .i64 (k : Int) := hd 32 (by decide)
              have e31 : vals 31 = .bool false := hd 31 (by decide)
              refine .run [(165, .int .i64 (k : Int)), (164, .bool false)] { dst := some 0, op := Go.Op.binOp Go.BinOp.gtr 3 (Go.Operand.const (.int .i64 (k : Int))) (Go.Operand.const (Go.Value.int Go.IntKind.i64 0)) 3, type := 4, pos := "", after := #[], guard := none } 166 ⟨.inn 32 (by kernel_rfl) e32, .inn 31 (by kernel_rfl) e31, trivial⟩ (by kernel_rfl) (by kernel_rfl) (by kernel_rfl) rfl rfl rfl ?_
              clear hd e32 e31
              go_wp2
              exact ⟨rfl, Ext.refl _, rfl⟩
            · intro vals w1 hx hd
              have e33 : vals 33 = .bool true := hd 33 (by decide)
              have e31 : vals 31 = .bool false := hd 31 (by decide)
              refine .run [(166, .bool true), (164, .bool false)] { dst := some 0, op := Go.Op.move (Go.Operand.const (.bool true)), type := 4, pos := "", after := #[], guard := none } 167 ⟨.inn 33 (by kernel_rfl) e33, .inn 31 (by kernel_rfl) e31, trivial⟩ (by kernel_rfl) (by kernel_rfl) (by kernel_rfl) rfl rfl rfl ?_
              clear hd e33 e31
              go_wp2
              exact ⟨rfl, Ext.refl _, rfl⟩
            · intro vals w1 hx hd
              have e34 : vals 34 = .bool true := hd 34 (by decide)
              refine .run [(15, .slice (some ⟨gb, go, none⟩) n1 c1), (167, .bool true)] { dst := some 0, op := Go.Op.move (Go.Operand.const (.slice (some ⟨gb, go, none⟩) n1 c1)), type := 54, pos := "", after := #[], guard := none } 168 ⟨.out (by kernel_rfl) (by kernel_rfl), .inn 34 (by kernel_rfl) e34, trivial⟩ (by kernel_rfl) (by kernel_rfl) (by kernel_rfl) rfl rfl rfl ?_
              clear hd e34
              go_wp2
              exact ⟨rfl, Ext.refl _, rfl⟩
            · intro vals w1 hx hd
              have e34 : vals 34 = .bool true := hd 34 (by decide)
              refine .run [(24, .int .i64 (k : Int)), (167, .bool true)] { dst := some 0, op := Go.Op.move (Go.Operand.const (.int .i64 (k : Int))), type := 3, pos := "", after := #[], guard := none } 169 ⟨.out (by kernel_rfl) (by kernel_rfl), .inn 34 (by kernel_rfl) e34, trivial⟩ (by kernel_rfl) (by kernel_rfl) (by kernel_rfl) rfl rfl rfl ?_
              clear hd e34
              go_wp2
              exact ⟨rfl, Ext.refl _, rfl⟩
            · intro vals w1 hx hd
              have e35 : vals 35 = .slice (some ⟨gb, go, none⟩) n1 c1 := hd 35 (by decide)
              have e36 : vals 36 = .int .i64 (k : Int) := hd 36 (by decide)
              have e34 : vals 34 = .bool true := hd 34 (by decide)
              refine .run [(168, .slice (some ⟨gb, go, none⟩) n1 c1), (169, .int .i64 (k : Int)), (167, .bool true)] { dst := some 0, op := Go.Op.indexAddr 54 (Go.Operand.const (.slice (some ⟨gb, go, none⟩) n1 c1)) (Go.Operand.const (.int .i64 (k : Int))), type := 0, pos := "", after := #[], guard := none } 170 ⟨.inn 35 (by kernel_rfl) e35, .inn 36 (by kernel_rfl) e36, .inn 34 (by kernel_rfl) e34, trivial⟩ (by kernel_rfl) (by kernel_rfl) (by kernel_rfl) rfl rfl rfl ?_
              clear hd e35 e36 e34
              go_wp2
              exact ⟨rfl, Ext.refl _, rfl⟩
            · intro vals w1 hx hd
              have e37 : vals 37 = .pointer (some ⟨gb, go + k * 2, none⟩) := hd 37 (by decide)
              have e34 : vals 34 = .bool true := hd 34 (by decide)
              refine .run [(170, .pointer (some ⟨gb, go + k * 2, none⟩)), (167, .bool true)] { dst := some 0, op := Go.Op.fieldAddr 34 (Go.Operand.const (.pointer (some ⟨gb, go + k * 2, none⟩))) 0, type := 0, pos := "", after := #[], guard := none } 171 ⟨.inn 37 (by kernel_rfl) e37, .inn 34 (by kernel_rfl) e34, trivial⟩ (by kernel_rfl) (by kernel_rfl) (by kernel_rfl) rfl rfl rfl ?_
              clear hd e37 e34
              go_wp2
              exact ⟨rfl, Ext.refl _, rfl⟩
            · intro vals w1 hx hd
              have e38 : vals 38 = .pointer (some ⟨gb, go + k * 2, none⟩) := hd 38 (by decide)
              have e34 : vals 34 = .bool true := hd 34 (by decide)
              refine .run [(171, .pointer (some ⟨gb, go + k * 2, none⟩)), (167, .bool true)] { dst := some 0, op := Go.Op.load 3 (Go.Operand.const (.pointer (some ⟨gb, go + k * 2, none⟩))), type := 3, pos := "", after := #[], guard := none } 172 ⟨.inn 38 (by kernel_rfl) e38, .inn 34 (by kernel_rfl) e34, trivial⟩ (by kernel_rfl) (by kernel_rfl) (by kernel_rfl) rfl rfl rfl ?_
              clear hd e38 e34
              have dd0 := ext_cell hx dd0
              go_wp2
              exact ⟨rfl, Ext.refl _, rfl⟩
            · intro vals w1 hx hd
              have e34 : vals 34 = .bool true := hd 34 (by decide)
              refine .run [(15, .slice (some ⟨gb, go, none⟩) n1 c1), (167, .bool true)] { dst := some 0, op := Go.Op.move (Go.Operand.const (.slice (some ⟨gb, go, none⟩) n1 c1)), type := 54, pos := "", after := #[], guard := none } 173 ⟨.out (by kernel_rfl) (by kernel_rfl), .inn 34 (by kernel_rfl) e34, trivial⟩ (by kernel_rfl) (by kernel_rfl) (by kernel_rfl) rfl rfl rfl ?_
              clear hd e34
              go_wp2
              exact ⟨rfl, Ext.refl _, rfl⟩
            · intro vals w1 hx hd
              have e34 : vals 34 = .bool true := hd 34 (by decide)
              refine .run [(24, .int .i64 (k : Int)), (167, .bool true)] { dst := some 0, op := Go.Op.move (Go.Operand.const (.int .i64 (k : Int))), type := 3, pos := "", after := #[], guard := none } 174 ⟨.out (by kernel_rfl) (by kernel_rfl), .inn 34 (by kernel_rfl) e34, trivial⟩ (by kernel_rfl) (by kernel_rfl) (by kernel_rfl) rfl rfl rfl ?_
              clear hd e34
              go_wp2
              exact ⟨rfl, Ext.refl _, rfl⟩
            · intro vals w1 hx hd
              have e41 : vals 41 = .int .i64 (k : Int) := hd 41 (by decide)
              have e34 : vals 34 = .bool true := hd 34 (by decide)
              refine .run [(174, .int .i64 (k : Int)), (167, .bool true)] { dst := some 0, op := Go.Op.binOp Go.BinOp.sub 3 (Go.Operand.const (.int .i64 (k : Int))) (Go.Operand.const (Go.Value.int Go.IntKind.i64 1)) 3, type := 3, pos := "", after := #[], guard := none } 175 ⟨.inn 41 (by kernel_rfl) e41, .inn 34 (by kernel_rfl) e34, trivial⟩ (by kernel_rfl) (by kernel_rfl) (by kernel_rfl) rfl rfl rfl ?_
              clear hd e41 e34
              go_wp2
              exact ⟨rfl, Ext.refl _, rfl⟩
            · intro vals w1 hx hd
              have e40 : vals 40 = .slice (some ⟨gb, go, none⟩) n1 c1 := hd 40 (by decide)
              have e42 : vals 42 = .int .i64 ((k : Int) - 1) := hd 42 (by decide)
              have e34 : vals 34 = .bool true := hd 34 (by decide)
              refine .run [(173, .slice (some ⟨gb, go, none⟩) n1 c1), (175, .int .i64 ((k : Int) - 1)), (167, .bool true)] { dst := some 0, op := Go.Op.indexAddr 54 (Go.Operand.const (.slice (some ⟨gb, go, none⟩) n1 c1)) (Go.Operand.const (.int .i64 ((k : Int) - 1))), type := 0, pos := "", after := #[], guard := none } 176 ⟨.inn 40 (by kernel_rfl) e40, .inn 42 (by kernel_rfl) e42, .inn 34 (by kernel_rfl) e34, trivial⟩ (by kernel_rfl) (by kernel_rfl) (by kernel_rfl) rfl rfl rfl ?_
              clear hd e40 e42 e34
              go_wp2
              exact ⟨rfl, Ext.refl _, rfl⟩
            · intro vals w1 hx hd
              have e43 : vals 43 = .pointer (some ⟨gb, go + (k - 1) * 2, none⟩) := hd 43 (by decide)
              have e34 : vals 34 = .bool true := hd 34 (by decide)
              refine .run [(176, .pointer (some ⟨gb, go + (k - 1) * 2, none⟩)), (167, .bool true)] { dst := some 0, op := Go.Op.fieldAddr 34 (Go.Operand.const (.pointer (some ⟨gb, go + (k - 1) * 2, none⟩))) 1, type := 0, pos := "", after := #[], guard := none } 177 ⟨.inn 43 (by kernel_rfl) e43, .inn 34 (by kernel_rfl) e34, trivial⟩ (by kernel_rfl) (by kernel_rfl) (by kernel_rfl) rfl rfl rfl ?_
              clear hd e43 e34
              go_wp2
              exact ⟨rfl, Ext.refl _, rfl⟩
            · intro vals w1 hx hd
              have e44 : vals 44 = .pointer (some ⟨gb, go + (k - 1) * 2 + 1, none⟩) := hd 44 (by decide)
              have e34 : vals 34 = .bool true := hd 34 (by decide)
              refine .run [(177, .pointer (some ⟨gb, go + (k - 1) * 2 + 1, none⟩)), (167, .bool true)] { dst := some 0, op := Go.Op.load 3 (Go.Operand.const (.pointer (some ⟨gb, go + (k - 1) * 2 + 1, none⟩))), type := 3, pos := "", after := #[], guard := none } 178 ⟨.inn 44 (by kernel_rfl) e44, .inn 34 (by kernel_rfl) e34, trivial⟩ (by kernel_rfl) (by kernel_rfl) (by kernel_rfl) rfl rfl rfl ?_
              clear hd e44 e34
              have pp1 := ext_cell hx pp1
              go_wp2
              exact ⟨rfl, Ext.refl _, rfl⟩
            · intro vals w1 hx hd
              have e39 : vals 39 = .int .i64 f1 := hd 39 (by decide)
              have e45 : vals 45 = .int .i64 pt := hd 45 (by decide)
              have e34 : vals 34 = .bool true := hd 34 (by decide)
              refine .run [(172, .int .i64 f1), (178, .int .i64 pt), (167, .bool true)] { dst := some 0, op := Go.Op.binOp Go.BinOp.leq 3 (Go.Operand.const (.int .i64 f1)) (Go.Operand.const (.int .i64 pt)) 3, type := 4, pos := "", after := #[], guard := none } 179 ⟨.inn 39 (by kernel_rfl) e39, .inn 45 (by kernel_rfl) e45, .inn 34 (by kernel_rfl) e34, trivial⟩ (by kernel_rfl) (by kernel_rfl) (by kernel_rfl) rfl rfl rfl ?_
              clear hd e39 e45 e34
              go_wp2
              exact ⟨rfl, Ext.refl _, rfl⟩
            · intro vals w1 hx hd
              have e34 : vals 34 = .bool true := hd 34 (by decide)
              have e46 : vals 46 = .bool false := hd 46 (by decide)
              have e31 : vals 31 = .bool false := hd 31 (by decide)
              refine .run [(167, .bool true), (179, .bool false), (164, .bool false)] { dst := some 0, op := Go.Op.pick (Go.Operand.const (.bool true)) (Go.Operand.const (.bool false)) (Go.Operand.const (Go.Value.bool false)), type := 4, pos := "", after := #[], guard := none } 180 ⟨.inn 34 (by kernel_rfl) e34, .inn 46 (by kernel_rfl) e46, .inn 31 (by kernel_rfl) e31, trivial⟩ (by kernel_rfl) (by kernel_rfl) (by kernel_rfl) rfl rfl rfl ?_
              clear hd e34 e46 e31
              go_wp2
              exact ⟨rfl, Ext.refl _, rfl⟩
            · intro vals w1 hx hd
              have e31 : vals 31 = .bool false := hd 31 (by decide)
              have e47 : vals 47 = .bool false := hd 47 (by decide)
              refine .run [(164, .bool false), (180, .bool false)] { dst := some 0, op := Go.Op.pick (Go.Operand.const (.bool false)) (Go.Operand.const (Go.Value.bool true)) (Go.Operand.const (.bool false)), type := 4, pos := "", after := #[], guard := none } 181 ⟨.inn 31 (by kernel_rfl) e31, .inn 47 (by kernel_rfl) e47, trivial⟩ (by kernel_rfl) (by kernel_rfl) (by kernel_rfl) rfl rfl rfl ?_
              clear hd e31 e47
              go_wp2
              exact ⟨rfl, Ext.refl _, rfl⟩
          intro vals W20 hx20 hf
          have e48 : vals 48 = .bool false := hf 48 (by omega)
          clear hf
          have hx20 := hx20.undrew
          have hx := Ext.trans hx hx20
          have dd0 := ext_cell hx20 dd0
          have dd1 := ext_cell hx20 dd1
          have t0 := ext_cell hx20 t0
          have t1 := ext_cell hx20 t1
          clear hx20
          refine tail0 (by kernel_rfl) ?_
          simp only [Lf, dstAt, Act.put, List.getElem?_toArray, List.getElem?_cons_zero, List.getElem?_cons_succ, Option.bind_some, List.setIfInBounds_toArray, List.set_cons_zero, List.set_cons_succ]
          rw [e48]
          clear e48
          clear pp1
          go_upto_region 29 with (fail)
          have w1_ : IntKind.i64.wrap (a + 10) = a + 10 := IntWalk.i64_in _ (by omega)
          have w2_ : IntKind.i64.wrap (b - 10) = b - 10 := IntWalk.i64_in _ (by omega)
          by_cases h1 : f1 ≤ a + 10
          · skip
            refine wp_region_obl 20 (fun ix vals v w1 => match ix with | 0 => v = .slice (some ⟨gb, go, none⟩) n1 c1 | 1 => v = .int .i64 (k : Int) | 2 => v = .pointer (some ⟨gb, go + k * 2, none⟩) | 3 => v = .pointer (some ⟨gb, go + k * 2, none⟩) | 4 => v = .int .i64 f1 | 5 => v = .pointer (some ⟨g14, 0, none⟩) | 6 => v = .int .i64 a | 7 => v = .int .i64 (a + 10) | 8 => v = .bool true | 9 => v = .bool true | 10 => v = undef | 11 => v = undef | 12 => v = undef | 13 => v = undef | 14 => v = undef | 15 => v = undef | 16 => v = undef | 17 => v = undef | 18 => v = undef | _ => v = .bool true) (by kernel_rfl) (by kernel_rfl) ?_ ?_ ?_ ?_
            · intro ix vals v w1 w2 hi hr hx
              match ix, hr with
              | 0, hr => exact hr
              | 1, hr => exact hr
              | 2, hr => exact hr
              | 3, hr => exact hr
              | 4, hr => exact hr
              | 5, hr => exact hr
              | 6, hr => exact hr
              | 7, hr => exact hr
              | 8, hr => exact hr
              | 9, hr => exact hr
              | 10, hr => exact hr
              | 11, hr => exact hr
              | 12, hr => exact hr
              | 13, hr => exact hr
              | 14, hr => exact hr
              | 15, hr => exact hr
              | 16, hr => exact hr
              | 17, hr => exact hr
              | 18, hr => exact hr
              | (kx + 19), hr => exact hr
            · intro ix vals vals_ v w1 hi hv hr
              exact hr
            · refine obls_ofT [some 182, some 183, some 184, some 185, some 186, some 187, some 188, some 189, some 190, some 191, some 192, some 193, some 194, some 195, some 196, some 197, some 198, some 199, some 200, some 201] [(15, .slice (some ⟨gb, go, none⟩) n1 c1), (24, .int .i64 (k : Int)), (14, .pointer (some ⟨g14, 0, none⟩))] 233 (by kernel_rfl) (by kernel_rfl) ⟨by kernel_rfl, by kernel_rfl, by kernel_rfl, trivial⟩ ?_
              refine ⟨?_, ?_, ?_, ?_, ?_, ?_, ?_, ?_, ?_, ?_, ?_, ?_, ?_, ?_, ?_, ?_, ?_, ?_, ?_, ?_, trivial⟩
              · intro vals w1 hx hd
                refine .run [(15, .slice (some ⟨gb, go, none⟩) n1 c1)] { dst := some 0, op := Go.Op.move (Go.Operand.const (.slice (some ⟨gb, go, none⟩) n1 c1)), type := 54, pos := "", after := #[], guard := none } 182 ⟨.out (by kernel_rfl) (by kernel_rfl), trivial⟩ (by kernel_rfl) (by kernel_rfl) (by kernel_rfl) rfl rfl rfl ?_
                clear hd
                go_wp2
                exact ⟨rfl, Ext.refl _, rfl⟩
              · intro vals w1 hx hd
                refine .run [(24, .int .i64 (k : Int))] { dst := some 0, op := Go.Op.move (Go.Operand.const (.int .i64 (k : Int))), type := 3, pos := "", after := #[], guard := none } 183 ⟨.out (by kernel_rfl) (by kernel_rfl), trivial⟩ (by kernel_rfl) (by kernel_rfl) (by kernel_rfl) rfl rfl rfl ?_
                clear hd
                go_wp2
                exact ⟨rfl, Ext.refl _, rfl⟩
              · intro vals w1 hx hd
                have e0 : vals 0 = .slice (some ⟨gb, go, none⟩) n1 c1 := hd 0 (by decide)
                have e1 : vals 1 = .int .i64 (k : Int) := hd 1 (by decide)
                refine .run [(182, .slice (some ⟨gb, go, none⟩) n1 c1), (183, .int .i64 (k : Int))] { dst := some 0, op := Go.Op.indexAddr 54 (Go.Operand.const (.slice (some ⟨gb, go, none⟩) n1 c1)) (Go.Operand.const (.int .i64 (k : Int))), type := 0, pos := "", after := #[], guard := none } 184 ⟨.inn 0 (by kernel_rfl) e0, .inn 1 (by kernel_rfl) e1, trivial⟩ (by kernel_rfl) (by kernel_rfl) (by kernel_rfl) rfl rfl rfl ?_
                clear hd e0 e1
                go_wp2
                exact ⟨rfl, Ext.refl _, rfl⟩
              · intro vals w1 hx hd
                have e2 : vals 2 = .pointer (some ⟨gb, go + k * 2, none⟩) := hd 2 (by decide)
                refine .run [(184, .pointer (some ⟨gb, go + k * 2, none⟩))] { dst := some 0, op := Go.Op.fieldAddr 34 (Go.Operand.const (.pointer (some ⟨gb, go + k * 2, none⟩))) 0, type := 0, pos := "", after := #[], guard := none } 185 ⟨.inn 2 (by kernel_rfl) e2, trivial⟩ (by kernel_rfl) (by kernel_rfl) (by kernel_rfl) rfl rfl rfl ?_
                clear hd e2
                go_wp2
                exact ⟨rfl, Ext.refl _, rfl⟩
              · intro vals w1 hx hd
                have e3 : vals 3 = .pointer (some ⟨gb, go + k * 2, none⟩) := hd 3 (by decide)
                refine .run [(185, .pointer (some ⟨gb, go + k * 2, none⟩))] { dst := some 0, op := Go.Op.load 3 (Go.Operand.const (.pointer (some ⟨gb, go + k * 2, none⟩))), type := 3, pos := "", after := #[], guard := none } 186 ⟨.inn 3 (by kernel_rfl) e3, trivial⟩ (by kernel_rfl) (by kernel_rfl) (by kernel_rfl) rfl rfl rfl ?_
                clear hd e3
                have dd0 := ext_cell hx dd0
                go_wp2
                exact ⟨rfl, Ext.refl _, rfl⟩
              · intro vals w1 hx hd
                refine .run [(14, .pointer (some ⟨g14, 0, none⟩))] { dst := some 0, op := Go.Op.fieldAddr 34 (Go.Operand.const (.pointer (some ⟨g14, 0, none⟩))) 0, type := 0, pos := "", after := #[], guard := none } 187 ⟨.out (by kernel_rfl) (by kernel_rfl), trivial⟩ (by kernel_rfl) (by kernel_rfl) (by kernel_rfl) rfl rfl rfl ?_
                clear hd
                go_wp2
                exact ⟨rfl, Ext.refl _, rfl⟩
              · intro vals w1 hx hd
                have e5 : vals 5 = .pointer (some ⟨g14, 0, none⟩) := hd 5 (by decide)
                refine .run [(187, .pointer (some ⟨g14, 0, none⟩))] { dst := some 0, op := Go.Op.load 3 (Go.Operand.const (.pointer (some ⟨g14, 0, none⟩))), type := 3, pos := "", after := #[], guard := none } 188 ⟨.inn 5 (by kernel_rfl) e5, trivial⟩ (by kernel_rfl) (by kernel_rfl) (by kernel_rfl) rfl rfl rfl ?_
                clear hd e5
                have t0 := ext_cell hx t0
                go_wp2
                exact ⟨rfl, Ext.refl _, rfl⟩
              · intro vals w1 hx hd
                have e6 : vals 6 = .int .i64 a := hd 6 (by decide)
                refine .run [(188, .int .i64 a)] { dst := some 0, op := Go.Op.binOp Go.BinOp.add 3 (Go.Operand.const (.int .i64 a)) (Go.Operand.const (Go.Value.int Go.IntKind.i64 10)) 3, type := 3, pos := "", after := #[], guard := none } 189 ⟨.inn 6 (by kernel_rfl) e6, trivial⟩ (by kernel_rfl) (by kernel_rfl) (by kernel_rfl) rfl rfl rfl ?_
                clear hd e6
                go_wp2
                exact ⟨rfl, Ext.refl _, rfl⟩
              · intro vals w1 hx hd
                have e4 : vals 4 = .int .i64 f1 := hd 4 (by decide)
                have e7 : vals 7 = .int .i64 (a + 10) := hd 7 (by decide)
                refine .run [(186, .int .i64 f1), (189, .int .i64 (a + 10))] { dst := some 0, op := Go.Op.binOp Go.BinOp.leq 3 (Go.Operand.const (.int .i64 f1)) (Go.Operand.const (.int .i64 (a + 10))) 3, type := 4, pos := "", after := #[], guard := none } 190 ⟨.inn 4 (by kernel_rfl) e4, .inn 7 (by kernel_rfl) e7, trivial⟩ (by kernel_rfl) (by kernel_rfl) (by kernel_rfl) rfl rfl rfl ?_
                clear hd e4 e7
                go_wp2
                exact ⟨rfl, Ext.refl _, rfl⟩
              · intro vals w1 hx hd
                have e8 : vals 8 = .bool true := hd 8 (by decide)
                refine .run [(190, .bool true)] { dst := some 0, op := Go.Op.move (Go.Operand.const (.bool true)), type := 4, pos := "", after := #[], guard := none } 191 ⟨.inn 8 (by kernel_rfl) e8, trivial⟩ (by kernel_rfl) (by kernel_rfl) (by kernel_rfl) rfl rfl rfl ?_
                clear hd e8
                go_wp2
                exact ⟨rfl, Ext.refl _, rfl⟩
              · intro vals w1 hx hd
                have e9 : vals 9 = .bool true := hd 9 (by decide)
                exact .no [(191, .bool true)] 192 ⟨.inn 9 (by kernel_rfl) e9, trivial⟩ (by kernel_rfl) rfl (by kernel_rfl) rfl
              · intro vals w1 hx hd
                have e9 : vals 9 = .bool true := hd 9 (by decide)
                exact .no [(191, .bool true)] 193 ⟨.inn 9 (by kernel_rfl) e9, trivial⟩ (by kernel_rfl) rfl (by kernel_rfl) rfl
              · intro vals w1 hx hd
                have e9 : vals 9 = .bool true := hd 9 (by decide)
                exact .no [(191, .bool true)] 194 ⟨.inn 9 (by kernel_rfl) e9, trivial⟩ (by kernel_rfl) rfl (by kernel_rfl) rfl
              · intro vals w1 hx hd
                have e9 : vals 9 = .bool true := hd 9 (by decide)
                exact .no [(191, .bool true)] 195 ⟨.inn 9 (by kernel_rfl) e9, trivial⟩ (by kernel_rfl) rfl (by kernel_rfl) rfl
              · intro vals w1 hx hd
                have e9 : vals 9 = .bool true := hd 9 (by decide)
                exact .no [(191, .bool true)] 196 ⟨.inn 9 (by kernel_rfl) e9, trivial⟩ (by kernel_rfl) rfl (by kernel_rfl) rfl
              · intro vals w1 hx hd
                have e9 : vals 9 = .bool true := hd 9 (by decide)
                exact .no [(191, .bool true)] 197 ⟨.inn 9 (by kernel_rfl) e9, trivial⟩ (by kernel_rfl) rfl (by kernel_rfl) rfl
              · intro vals w1 hx hd
                have e9 : vals 9 = .bool true := hd 9 (by decide)
                exact .no [(191, .bool true)] 198 ⟨.inn 9 (by kernel_rfl) e9, trivial⟩ (by kernel_rfl) rfl (by kernel_rfl) rfl
              · intro vals w1 hx hd
                have e9 : vals 9 = .bool true := hd 9 (by decide)
                exact .no [(191, .bool true)] 199 ⟨.inn 9 (by kernel_rfl) e9, trivial⟩ (by kernel_rfl) rfl (by kernel_rfl) rfl
              · intro vals w1 hx hd
                have e9 : vals 9 = .bool true := hd 9 (by decide)
                exact .no [(191, .bool true)] 200 ⟨.inn 9 (by kernel_rfl) e9, trivial⟩ (by kernel_rfl) rfl (by kernel_rfl) rfl
              · intro vals w1 hx hd
                have e9 : vals 9 = .bool true := hd 9 (by decide)
                have e18 : vals 18 = undef := hd 18 (by decide)
                refine .run [(191, .bool true), (200, undef)] { dst := some 0, op := Go.Op.pick (Go.Operand.const (.bool true)) (Go.Operand.const (Go.Value.bool true)) (Go.Operand.const (undef)), type := 4, pos := "", after := #[], guard := none } 201 ⟨.inn 9 (by kernel_rfl) e9, .inn 18 (by kernel_rfl) e18, trivial⟩ (by kernel_rfl) (by kernel_rfl) (by kernel_rfl) rfl rfl rfl ?_
                clear hd e9 e18
                go_wp2
                exact ⟨rfl, Ext.refl _, rfl⟩
            intro vals W21 hx21 hf
            have e19 : vals 19 = .bool true := hf 19 (by omega)
            clear hf
            have hx21 := hx21.undrew
            have hx := Ext.trans hx hx21
            have dd0 := ext_cell hx21 dd0
            have dd1 := ext_cell hx21 dd1
            clear hx21 t0 t1
            refine tail0 (by kernel_rfl) ?_
            simp only [Lf, dstAt, Act.put, List.getElem?_toArray, List.getElem?_cons_zero, List.getElem?_cons_succ, Option.bind_some, List.setIfInBounds_toArray, List.set_cons_zero, List.set_cons_succ]
            rw [e19]
            clear e19
            clear dd0 dd1
            go_wp2
            go_roundw
            case rel => exact ⟨k + 1, by omega, by go_num, hx⟩
            case measure => simp [intOf]; omega
          · have h1d : decide (f1 ≤ a + 10) = false := by simpa using h1
            by_cases h2 : b - 10 ≤ f2
            · have h2d : decide (b - 10 ≤ f2) = true := by simpa using h2
              refine wp_region_obl 20 (fun ix vals v w1 => match ix with | 0 => v = .slice (some ⟨gb, go, none⟩) n1 c1 | 1 => v = .int .i64 (k : Int) | 2 => v = .pointer (some ⟨gb, go + k * 2, none⟩) | 3 => v = .pointer (some ⟨gb, go + k * 2, none⟩) | 4 => v = .int .i64 f1 | 5 => v = .pointer (some ⟨g14, 0, none⟩) | 6 => v = .int .i64 a | 7 => v = .int .i64 (a + 10) | 8 => v = .bool false | 9 => v = .bool false | 10 => v = .slice (some ⟨gb, go, none⟩) n1 c1 | 11 => v = .int .i64 (k : Int) | 12 => v = .pointer (some ⟨gb, go + k * 2, none⟩) | 13 => v = .pointer (some ⟨gb, go + k * 2 + 1, none⟩) | 14 => v = .int .i64 f2 | 15 => v = .pointer (some ⟨g14, 1, none⟩) | 16 => v = .int .i64 b | 17 => v = .int .i64 (b - 10) | 18 => v = .bool true | _ => v = .bool true) (by kernel_rfl) (by kernel_rfl) ?_ ?_ ?_ ?_
              · intro ix vals v w1 w2 hi hr hx
                match ix, hr with
                | 0, hr => exact hr
                | 1, hr => exact hr
                | 2, hr => exact hr
                | 3, hr => exact hr
                | 4, hr => exact hr
                | 5, hr => exact hr
                | 6, hr => exact hr
                | 7, hr => exact hr
                | 8, hr => exact hr
                | 9, hr => exact hr
                | 10, hr => exact hr
                | 11, hr => exact hr
                | 12, hr => exact hr
                | 13, hr => exact hr
                | 14, hr => exact hr
                | 15, hr => exact hr
                | 16, hr => exact hr
                | 17, hr => exact hr
                | 18, hr => exact hr
                | (kx + 19), hr => exact hr
              · intro ix vals vals_ v w1 hi hv hr
                exact hr
              · refine obls_ofT [some 182, some 183, some 184, some 185, some 186, some 187, some 188, some 189, some 190, some 191, some 192, some 193, some 194, some 195, some 196, some 197, some 198, some 199, some 200, some 201] [(15, .slice (some ⟨gb, go, none⟩) n1 c1), (24, .int .i64 (k : Int)), (14, .pointer (some ⟨g14, 0, none⟩))] 233 (by kernel_rfl) (by kernel_rfl) ⟨by kernel_rfl, by kernel_rfl, by kernel_rfl, trivial⟩ ?_
                refine ⟨?_, ?_, ?_, ?_, ?_, ?_, ?_, ?_, ?_, ?_, ?_, ?_, ?_, ?_, ?_, ?_, ?_, ?_, ?_, ?_, trivial⟩
                · intro vals w1 hx hd
                  refine .run [(15, .slice (some ⟨gb, go, none⟩) n1 c1)] { dst := some 0, op := Go.Op.move (Go.Operand.const (.slice (some ⟨gb, go, none⟩) n1 c1)), type := 54, pos := "", after := #[], guard := none } 182 ⟨.out (by kernel_rfl) (by kernel_rfl), trivial⟩ (by kernel_rfl) (by kernel_rfl) (by kernel_rfl) rfl rfl rfl ?_
                  clear hd
                  go_wp2
                  exact ⟨rfl, Ext.refl _, rfl⟩
                · intro vals w1 hx hd
                  refine .run [(24, .int .i64 (k : Int))] { dst := some 0, op := Go.Op.move (Go.Operand.const (.int .i64 (k : Int))), type := 3, pos := "", after := #[], guard := none } 183 ⟨.out (by kernel_rfl) (by kernel_rfl), trivial⟩ (by kernel_rfl) (by kernel_rfl) (by kernel_rfl) rfl rfl rfl ?_
                  clear hd
                  go_wp2
                  exact ⟨rfl, Ext.refl _, rfl⟩
                · intro vals w1 hx hd
                  have e0 : vals 0 = .slice (some ⟨gb, go, none⟩) n1 c1 := hd 0 (by decide)
                  have e1 : vals 1 = .int .i64 (k : Int) := hd 1 (by decide)
                  refine .run [(182, .slice (some ⟨gb, go, none⟩) n1 c1), (183, .int .i64 (k : Int))] { dst := some 0, op := Go.Op.indexAddr 54 (Go.Operand.const (.slice (some ⟨gb, go, none⟩) n1 c1)) (Go.Operand.const (.int .i64 (k : Int))), type := 0, pos := "", after := #[], guard := none } 184 ⟨.inn 0 (by kernel_rfl) e0, .inn 1 (by kernel_rfl) e1, trivial⟩ (by kernel_rfl) (by kernel_rfl) (by kernel_rfl) rfl rfl rfl ?_
                  clear hd e0 e1
                  go_wp2
                  exact ⟨rfl, Ext.refl _, rfl⟩
                · intro vals w1 hx hd
                  have e2 : vals 2 = .pointer (some ⟨gb, go + k * 2, none⟩) := hd 2 (by decide)
                  refine .run [(184, .pointer (some ⟨gb, go + k * 2, none⟩))] { dst := some 0, op := Go.Op.fieldAddr 34 (Go.Operand.const (.pointer (some ⟨gb, go + k * 2, none⟩))) 0, type := 0, pos := "", after := #[], guard := none } 185 ⟨.inn 2 (by kernel_rfl) e2, trivial⟩ (by kernel_rfl) (by kernel_rfl) (by kernel_rfl) rfl rfl rfl ?_
                  clear hd e2
                  go_wp2
                  exact ⟨rfl, Ext.refl _, rfl⟩
                · intro vals w1 hx hd
                  have e3 : vals 3 = .pointer (some ⟨gb, go + k * 2, none⟩) := hd 3 (by decide)
                  refine .run [(185, .pointer (some ⟨gb, go + k * 2, none⟩))] { dst := some 0, op := Go.Op.load 3 (Go.Operand.const (.pointer (some ⟨gb, go + k * 2, none⟩))), type := 3, pos := "", after := #[], guard := none } 186 ⟨.inn 3 (by kernel_rfl) e3, trivial⟩ (by kernel_rfl) (by kernel_rfl) (by kernel_rfl) rfl rfl rfl ?_
                  clear hd e3
                  have dd0 := ext_cell hx dd0
                  go_wp2
                  exact ⟨rfl, Ext.refl _, rfl⟩
                · intro vals w1 hx hd
                  refine .run [(14, .pointer (some ⟨g14, 0, none⟩))] { dst := some 0, op := Go.Op.fieldAddr 34 (Go.Operand.const (.pointer (some ⟨g14, 0, none⟩))) 0, type := 0, pos := "", after := #[], guard := none } 187 ⟨.out (by kernel_rfl) (by kernel_rfl), trivial⟩ (by kernel_rfl) (by kernel_rfl) (by kernel_rfl) rfl rfl rfl ?_
                  clear hd
                  go_wp2
                  exact ⟨rfl, Ext.refl _, rfl⟩
                · intro vals w1 hx hd
                  have e5 : vals 5 = .pointer (some ⟨g14, 0, none⟩) := hd 5 (by decide)
                  refine .run [(187, .pointer (some ⟨g14, 0, none⟩))] { dst := some 0, op := Go.Op.load 3 (Go.Operand.const (.pointer (some ⟨g14, 0, none⟩))), type := 3, pos := "", after := #[], guard := none } 188 ⟨.inn 5 (by kernel_rfl) e5, trivial⟩ (by kernel_rfl) (by kernel_rfl) (by kernel_rfl) rfl rfl rfl ?_
                  clear hd e5
                  have t0 := ext_cell hx t0
                  go_wp2
                  exact ⟨rfl, Ext.refl _, rfl⟩
                · intro vals w1 hx hd
                  have e6 : vals 6 = .int .i64 a := hd 6 (by decide)
                  refine .run [(188, .int .i64 a)] { dst := some 0, op := Go.Op.binOp Go.BinOp.add 3 (Go.Operand.const (.int .i64 a)) (Go.Operand.const (Go.Value.int Go.IntKind.i64 10)) 3, type := 3, pos := "", after := #[], guard := none } 189 ⟨.inn 6 (by kernel_rfl) e6, trivial⟩ (by kernel_rfl) (by kernel_rfl) (by kernel_rfl) rfl rfl rfl ?_
                  clear hd e6
                  go_wp2
                  exact ⟨rfl, Ext.refl _, rfl⟩
                · intro vals w1 hx hd
                  have e4 : vals 4 = .int .i64 f1 := hd 4 (by decide)
                  have e7 : vals 7 = .int .i64 (a + 10) := hd 7 (by decide)
                  refine .run [(186, .int .i64 f1), (189, .int .i64 (a + 10))] { dst := some 0, op := Go.Op.binOp Go.BinOp.leq 3 (Go.Operand.const (.int .i64 f1)) (Go.Operand.const (.int .i64 (a + 10))) 3, type := 4, pos := "", after := #[], guard := none } 190 ⟨.inn 4 (by kernel_rfl) e4, .inn 7 (by kernel_rfl) e7, trivial⟩ (by kernel_rfl) (by kernel_rfl) (by kernel_rfl) rfl rfl rfl ?_
                  clear hd e4 e7
                  go_wp2
                  exact ⟨rfl, Ext.refl _, rfl⟩
                · intro vals w1 hx hd
                  have e8 : vals 8 = .bool false := hd 8 (by decide)
                  refine .run [(190, .bool false)] { dst := some 0, op := Go.Op.move (Go.Operand.const (.bool false)), type := 4, pos := "", after := #[], guard := none } 191 ⟨.inn 8 (by kernel_rfl) e8, trivial⟩ (by kernel_rfl) (by kernel_rfl) (by kernel_rfl) rfl rfl rfl ?_
                  clear hd e8
                  go_wp2
                  exact ⟨rfl, Ext.refl _, rfl⟩
                · intro vals w1 hx hd
                  have e9 : vals 9 = .bool false := hd 9 (by decide)
                  refine .run [(15, .slice (some ⟨gb, go, none⟩) n1 c1), (191, .bool false)] { dst := some 0, op := Go.Op.move (Go.Operand.const (.slice (some ⟨gb, go, none⟩) n1 c1)), type := 54, pos := "", after := #[], guard := none } 192 ⟨.out (by kernel_rfl) (by kernel_rfl), .inn 9 (by kernel_rfl) e9, trivial⟩ (by kernel_rfl) (by kernel_rfl) (by kernel_rfl) rfl rfl rfl ?_
                  clear hd e9
                  go_wp2
                  exact ⟨rfl, Ext.refl _, rfl⟩
                · intro vals w1 hx hd
                  have e9 : vals 9 = .bool false := hd 9 (by decide)
                  refine .run [(24, .int .i64 (k : Int)), (191, .bool false)] { dst := some 0, op := Go.Op.move (Go.Operand.const (.int .i64 (k : Int))), type := 3, pos := "", after := #[], guard := none } 193 ⟨.out (by kernel_rfl) (by kernel_rfl), .inn 9 (by kernel_rfl) e9, trivial⟩ (by kernel_rfl) (by kernel_rfl) (by kernel_rfl) rfl rfl rfl ?_
                  clear hd e9
                  go_wp2
                  exact ⟨rfl, Ext.refl _, rfl⟩
                · intro vals w1 hx hd
                  have e10 : vals 10 = .slice (some ⟨gb, go, none⟩) n1 c1 := hd 10 (by decide)
                  have e11 : vals 11 = .int .i64 (k : Int) := hd 11 (by decide)
                  have e9 : vals 9 = .bool false := hd 9 (by decide)
                  refine .run [(192, .slice (some ⟨gb, go, none⟩) n1 c1), (193, .int .i64 (k : Int)), (191, .bool false)] { dst := some 0, op := Go.Op.indexAddr 54 (Go.Operand.const (.slice (some ⟨gb, go, none⟩) n1 c1)) (Go.Operand.const (.int .i64 (k : Int))), type := 0, pos := "", after := #[], guard := none } 194 ⟨.inn 10 (by kernel_rfl) e10, .inn 11 (by kernel_rfl) e11, .inn 9 (by kernel_rfl) e9, trivial⟩ (by kernel_rfl) (by kernel_rfl) (by kernel_rfl) rfl rfl rfl ?_
                  clear hd e10 e11 e9
                  go_wp2
                  exact ⟨rfl, Ext.refl _, rfl⟩
                · intro vals w1 hx hd
                  have e12 : vals 12 = .pointer (some ⟨gb, go + k * 2, none⟩) := hd 12 (by decide)
                  have e9 : vals 9 = .bool false := hd 9 (by decide)
                  refine .run [(194, .pointer (some ⟨gb, go + k * 2, none⟩)), (191, .bool false)] { dst := some 0, op := Go.Op.fieldAddr 34 (Go.Operand.const (.pointer (some ⟨gb, go + k * 2, none⟩))) 1, type := 0, pos := "", after := #[], guard := none } 195 ⟨.inn 12 (by kernel_rfl) e12, .inn 9 (by kernel_rfl) e9, trivial⟩ (by kernel_rfl) (by kernel_rfl) (by kernel_rfl) rfl rfl rfl ?_
                  clear hd e12 e9
                  go_wp2
                  exact ⟨rfl, Ext.refl _, rfl⟩
                · intro vals w1 hx hd
                  have e13 : vals 13 = .pointer (some ⟨gb, go + k * 2 + 1, none⟩) := hd 13 (by decide)
                  have e9 : vals 9 = .bool false := hd 9 (by decide)
                  refine .run [(195, .pointer (some ⟨gb, go + k * 2 + 1, none⟩)), (191, .bool false)] { dst := some 0, op := Go.Op.load 3 (Go.Operand.const (.pointer (some ⟨gb, go + k * 2 + 1, none⟩))), type := 3, pos := "", after := #[], guard := none } 196 ⟨.inn 13 (by kernel_rfl) e13, .inn 9 (by kernel_rfl) e9, trivial⟩ (by kernel_rfl) (by kernel_rfl) (by kernel_rfl) rfl rfl rfl ?_
                  clear hd e13 e9
                  have dd1 := ext_cell hx dd1
                  go_wp2
                  exact ⟨rfl, Ext.refl _, rfl⟩
                · intro vals w1 hx hd
                  have e9 : vals 9 = .bool false := hd 9 (by decide)
                  refine .run [(14, .pointer (some ⟨g14, 0, none⟩)), (191, .bool false)] { dst := some 0, op := Go.Op.fieldAddr 34 (Go.Operand.const (.pointer (some ⟨g14, 0, none⟩))) 1, type := 0, pos := "", after := #[], guard := none } 197 ⟨.out (by kernel_rfl) (by kernel_rfl), .inn 9 (by kernel_rfl) e9, trivial⟩ (by kernel_rfl) (by kernel_rfl) (by kernel_rfl) rfl rfl rfl ?_
                  clear hd e9
                  go_wp2
                  exact ⟨rfl, Ext.refl _, rfl⟩
                · intro vals w1 hx hd
                  have e15 : vals 15 = .pointer (some ⟨g14, 1, none⟩) := hd 15 (by decide)
                  have e9 : vals 9 = .bool false := hd 9 (by decide)
                  refine .run [(197, .pointer (some ⟨g14, 1, none⟩)), (191, .bool false)] { dst := some 0, op := Go.Op.load 3 (Go.Operand.const (.pointer (some ⟨g14, 1, none⟩))), type := 3, pos := "", after := #[], guard := none } 198 ⟨.inn 15 (by kernel_rfl) e15, .inn 9 (by kernel_rfl) e9, trivial⟩ (by kernel_rfl) (by kernel_rfl) (by kernel_rfl) rfl rfl rfl ?_
                  clear hd e15 e9
                  have t1 := ext_cell hx t1
                  go_wp2
                  exact ⟨rfl, Ext.refl _, rfl⟩
                · intro vals w1 hx hd
                  have e16 : vals 16 = .int .i64 b := hd 16 (by decide)
                  have e9 : vals 9 = .bool false := hd 9 (by decide)
                  refine .run [(198, .int .i64 b), (191, .bool false)] { dst := some 0, op := Go.Op.binOp Go.BinOp.sub 3 (Go.Operand.const (.int .i64 b)) (Go.Operand.const (Go.Value.int Go.IntKind.i64 10)) 3, type := 3, pos := "", after := #[], guard := none } 199 ⟨.inn 16 (by kernel_rfl) e16, .inn 9 (by kernel_rfl) e9, trivial⟩ (by kernel_rfl) (by kernel_rfl) (by kernel_rfl) rfl rfl rfl ?_
                  clear hd e16 e9
                  go_wp2
                  exact ⟨rfl, Ext.refl _, rfl⟩
                · intro vals w1 hx hd
                  have e14 : vals 14 = .int .i64 f2 := hd 14 (by decide)
                  have e17 : vals 17 = .int .i64 (b - 10) := hd 17 (by decide)
                  have e9 : vals 9 = .bool false := hd 9 (by decide)
                  refine .run [(196, .int .i64 f2), (199, .int .i64 (b - 10)), (191, .bool false)] { dst := some 0, op := Go.Op.binOp Go.BinOp.geq 3 (Go.Operand.const (.int .i64 f2)) (Go.Operand.const (.int .i64 (b - 10))) 3, type := 4, pos := "", after := #[], guard := none } 200 ⟨.inn 14 (by kernel_rfl) e14, .inn 17 (by kernel_rfl) e17, .inn 9 (by kernel_rfl) e9, trivial⟩ (by kernel_rfl) (by kernel_rfl) (by kernel_rfl) rfl rfl rfl ?_
                  clear hd e14 e17 e9
                  go_wp2
                  exact ⟨rfl, Ext.refl _, rfl⟩
                · intro vals w1 hx hd
                  have e9 : vals 9 = .bool false := hd 9 (by decide)
                  have e18 : vals 18 = .bool true := hd 18 (by decide)
                  refine .run [(191, .bool false), (200, .bool true)] { dst := some 0, op := Go.Op.pick (Go.Operand.const (.bool false)) (Go.Operand.const (Go.Value.bool true)) (Go.Operand.const (.bool true)), type := 4, pos := "", after := #[], guard := none } 201 ⟨.inn 9 (by kernel_rfl) e9, .inn 18 (by kernel_rfl) e18, trivial⟩ (by kernel_rfl) (by kernel_rfl) (by kernel_rfl) rfl rfl rfl ?_
                  clear hd e9 e18
                  go_wp2
                  exact ⟨rfl, Ext.refl _, rfl⟩
              intro vals W21 hx21 hf
              have e19 : vals 19 = .bool true := hf 19 (by omega)
              clear hf
              have hx21 := hx21.undrew
              have hx := Ext.trans hx hx21
              have dd0 := ext_cell hx21 dd0
              have dd1 := ext_cell hx21 dd1
              clear hx21 t0 t1
              refine tail0 (by kernel_rfl) ?_
              simp only [Lf, dstAt, Act.put, List.getElem?_toArray, List.getElem?_cons_zero, List.getElem?_cons_succ, Option.bind_some, List.setIfInBounds_toArray, List.set_cons_zero, List.set_cons_succ]
              rw [e19]
              clear e19
              clear dd0 dd1
              go_wp2
              go_roundw
              case rel => exact ⟨k + 1, by omega, by go_num, hx⟩
              case measure => simp [intOf]; omega
            · have h2d : decide (b - 10 ≤ f2) = false := by simpa using h2
              have hm2 := HME.out (by omega) (by omega)
              have HM2 := Lib.hid hm2
              clear hm2
              refine wp_region_obl 20 (fun ix vals v w1 => match ix with | 0 => v = .slice (some ⟨gb, go, none⟩) n1 c1 | 1 => v = .int .i64 (k : Int) | 2 => v = .pointer (some ⟨gb, go + k * 2, none⟩) | 3 => v = .pointer (some ⟨gb, go + k * 2, none⟩) | 4 => v = .int .i64 f1 | 5 => v = .pointer (some ⟨g14, 0, none⟩) | 6 => v = .int .i64 a | 7 => v = .int .i64 (a + 10) | 8 => v = .bool false | 9 => v = .bool false | 10 => v = .slice (some ⟨gb, go, none⟩) n1 c1 | 11 => v = .int .i64 (k : Int) | 12 => v = .pointer (some ⟨gb, go + k * 2, none⟩) | 13 => v = .pointer (some ⟨gb, go + k * 2 + 1, none⟩) | 14 => v = .int .i64 f2 | 15 => v = .pointer (some ⟨g14, 1, none⟩) | 16 => v = .int .i64 b | 17 => v = .int .i64 (b - 10) | 18 => v = .bool false | _ => v = .bool false) (by kernel_rfl) (by kernel_rfl) ?_ ?_ ?_ ?_
              · intro ix vals v w1 w2 hi hr hx
                match ix, hr with
                | 0, hr => exact hr
                | 1, hr => exact hr
                | 2, hr => exact hr
                | 3, hr => exact hr
                | 4, hr => exact hr
                | 5, hr => exact hr
                | 6, hr => exact hr
                | 7, hr => exact hr
                | 8, hr => exact hr
                | 9, hr => exact hr
                | 10, hr => exact hr
                | 11, hr => exact hr
                | 12, hr => exact hr
                | 13, hr => exact hr
                | 14, hr => exact hr
                | 15, hr => exact hr
                | 16, hr => exact hr
                | 17, hr => exact hr
                | 18, hr => exact hr
                | (kx + 19), hr => exact hr
              · intro ix vals vals_ v w1 hi hv hr
                exact hr
              · refine obls_ofT [some 182, some 183, some 184, some 185, some 186, some 187, some 188, some 189, some 190, some 191, some 192, some 193, some 194, some 195, some 196, some 197, some 198, some 199, some 200, some 201] [(15, .slice (some ⟨gb, go, none⟩) n1 c1), (24, .int .i64 (k : Int)), (14, .pointer (some ⟨g14, 0, none⟩))] 233 (by kernel_rfl) (by kernel_rfl) ⟨by kernel_rfl, by kernel_rfl, by kernel_rfl, trivial⟩ ?_
                refine ⟨?_, ?_, ?_, ?_, ?_, ?_, ?_, ?_, ?_, ?_, ?_, ?_, ?_, ?_, ?_, ?_, ?_, ?_, ?_, ?_, trivial⟩
                · intro vals w1 hx hd
                  refine .run [(15, .slice (some ⟨gb, go, none⟩) n1 c1)] { dst := some 0, op := Go.Op.move (Go.Operand.const (.slice (some ⟨gb, go, none⟩) n1 c1)), type := 54, pos := "", after := #[], guard := none } 182 ⟨.out (by kernel_rfl) (by kernel_rfl), trivial⟩ (by kernel_rfl) (by kernel_rfl) (by kernel_rfl) rfl rfl rfl ?_
                  clear hd
                  go_wp2
                  exact ⟨rfl, Ext.refl _, rfl⟩
                · intro vals w1 hx hd
                  refine .run [(24, .int .i64 (k : Int))] { dst := some 0, op := Go.Op.move (Go.Operand.const (.int .i64 (k : Int))), type := 3, pos := "", after := #[], guard := none } 183 ⟨.out (by kernel_rfl) (by kernel_rfl), trivial⟩ (by kernel_rfl) (by kernel_rfl) (by kernel_rfl) rfl rfl rfl ?_
                  clear hd
                  go_wp2
                  exact ⟨rfl, Ext.refl _, rfl⟩
                · intro vals w1 hx hd
                  have e0 : vals 0 = .slice (some ⟨gb, go, none⟩) n1 c1 := hd 0 (by decide)
                  have e1 : vals 1 = .int .i64 (k : Int) := hd 1 (by decide)
                  refine .run [(182, .slice (some ⟨gb, go, none⟩) n1 c1), (183, .int .i64 (k : Int))] { dst := some 0, op := Go.Op.indexAddr 54 (Go.Operand.const (.slice (some ⟨gb, go, none⟩) n1 c1)) (Go.Operand.const (.int .i64 (k : Int))), type := 0, pos := "", after := #[], guard := none } 184 ⟨.inn 0 (by kernel_rfl) e0, .inn 1 (by kernel_rfl) e1, trivial⟩ (by kernel_rfl) (by kernel_rfl) (by kernel_rfl) rfl rfl rfl ?_
                  clear hd e0 e1
                  go_wp2
                  exact ⟨rfl, Ext.refl _, rfl⟩
                · intro vals w1 hx hd
                  have e2 : vals 2 = .pointer (some ⟨gb, go + k * 2, none⟩) := hd 2 (by decide)
                  refine .run [(184, .pointer (some ⟨gb, go + k * 2, none⟩))] { dst := some 0, op := Go.Op.fieldAddr 34 (Go.Operand.const (.pointer (some ⟨gb, go + k * 2, none⟩))) 0, type := 0, pos := "", after := #[], guard := none } 185 ⟨.inn 2 (by kernel_rfl) e2, trivial⟩ (by kernel_rfl) (by kernel_rfl) (by kernel_rfl) rfl rfl rfl ?_
                  clear hd e2
                  go_wp2
                  exact ⟨rfl, Ext.refl _, rfl⟩
                · intro vals w1 hx hd
                  have e3 : vals 3 = .pointer (some ⟨gb, go + k * 2, none⟩) := hd 3 (by decide)
                  refine .run [(185, .pointer (some ⟨gb, go + k * 2, none⟩))] { dst := some 0, op := Go.Op.load 3 (Go.Operand.const (.pointer (some ⟨gb, go + k * 2, none⟩))), type := 3, pos := "", after := #[], guard := none } 186 ⟨.inn 3 (by kernel_rfl) e3, trivial⟩ (by kernel_rfl) (by kernel_rfl) (by kernel_rfl) rfl rfl rfl ?_
                  clear hd e3
                  have dd0 := ext_cell hx dd0
                  go_wp2
                  exact ⟨rfl, Ext.refl _, rfl⟩
                · intro vals w1 hx hd
                  refine .run [(14, .pointer (some ⟨g14, 0, none⟩))] { dst := some 0, op := Go.Op.fieldAddr 34 (Go.Operand.const (.pointer (some ⟨g14, 0, none⟩))) 0, type := 0, pos := "", after := #[], guard := none } 187 ⟨.out (by kernel_rfl) (by kernel_rfl), trivial⟩ (by kernel_rfl) (by kernel_rfl) (by kernel_rfl) rfl rfl rfl ?_
                  clear hd
                  go_wp2
                  exact ⟨rfl, Ext.refl _, rfl⟩
                · intro vals w1 hx hd
                  have e5 : vals 5 = .pointer (some ⟨g14, 0, none⟩) := hd 5 (by decide)
                  refine .run [(187, .pointer (some ⟨g14, 0, none⟩))] { dst := some 0, op := Go.Op.load 3 (Go.Operand.const (.pointer (some ⟨g14, 0, none⟩))), type := 3, pos := "", after := #[], guard := none } 188 ⟨.inn 5 (by kernel_rfl) e5, trivial⟩ (by kernel_rfl) (by kernel_rfl) (by kernel_rfl) rfl rfl rfl ?_
                  clear hd e5
                  have t0 := ext_cell hx t0
                  go_wp2
                  exact ⟨rfl, Ext.refl _, rfl⟩
                · intro vals w1 hx hd
                  have e6 : vals 6 = .int .i64 a := hd 6 (by decide)
                  refine .run [(188, .int .i64 a)] { dst := some 0, op := Go.Op.binOp Go.BinOp.add 3 (Go.Operand.const (.int .i64 a)) (Go.Operand.const (Go.Value.int Go.IntKind.i64 10)) 3, type := 3, pos := "", after := #[], guard := none } 189 ⟨.inn 6 (by kernel_rfl) e6, trivial⟩ (by kernel_rfl) (by kernel_rfl) (by kernel_rfl) rfl rfl rfl ?_
                  clear hd e6
                  go_wp2
                  exact ⟨rfl, Ext.refl _, rfl⟩
                · intro vals w1 hx hd
                  have e4 : vals 4 = .int .i64 f1 := hd 4 (by decide)
                  have e7 : vals 7 = .int .i64 (a + 10) := hd 7 (by decide)
                  refine .run [(186, .int .i64 f1), (189, .int .i64 (a + 10))] { dst := some 0, op := Go.Op.binOp Go.BinOp.leq 3 (Go.Operand.const (.int .i64 f1)) (Go.Operand.const (.int .i64 (a + 10))) 3, type := 4, pos := "", after := #[], guard := none } 190 ⟨.inn 4 (by kernel_rfl) e4, .inn 7 (by kernel_rfl) e7, trivial⟩ (by kernel_rfl) (by kernel_rfl) (by kernel_rfl) rfl rfl rfl ?_
                  clear hd e4 e7
                  go_wp2
                  exact ⟨rfl, Ext.refl _, rfl⟩
                · intro vals w1 hx hd
                  have e8 : vals 8 = .bool false := hd 8 (by decide)
                  refine .run [(190, .bool false)] { dst := some 0, op := Go.Op.move (Go.Operand.const (.bool false)), type := 4, pos := "", after := #[], guard := none } 191 ⟨.inn 8 (by kernel_rfl) e8, trivial⟩ (by kernel_rfl) (by kernel_rfl) (by kernel_rfl) rfl rfl rfl ?_
                  clear hd e8
                  go_wp2
                  exact ⟨rfl, Ext.refl _, rfl⟩
                · intro vals w1 hx hd
                  have e9 : vals 9 = .bool false := hd 9 (by decide)
                  refine .run [(15, .slice (some ⟨gb, go, none⟩) n1 c1), (191, .bool false)] { dst := some 0, op := Go.Op.move (Go.Operand.const (.slice (some ⟨gb, go, none⟩) n1 c1)), type := 54, pos := "", after := #[], guard := none } 192 ⟨.out (by kernel_rfl) (by kernel_rfl), .inn 9 (by kernel_rfl) e9, trivial⟩ (by kernel_rfl) (by kernel_rfl) (by kernel_rfl) rfl rfl rfl ?_
                  clear hd e9
                  go_wp2
                  exact ⟨rfl, Ext.refl _, rfl⟩
                · intro vals w1 hx hd
                  have e9 : vals 9 = .bool false := hd 9 (by decide)
                  refine .run [(24, .int .i64 (k : Int)), (191, .bool false)] { dst := some 0, op := Go.Op.move (Go.Operand.const (.int .i64 (k : Int))), type := 3, pos := "", after := #[], guard := none } 193 ⟨.out (by kernel_rfl) (by kernel_rfl), .inn 9 (by kernel_rfl) e9, trivial⟩ (by kernel_rfl) (by kernel_rfl) (by kernel_rfl) rfl rfl rfl ?_
                  clear hd e9
                  go_wp2
                  exact ⟨rfl, Ext.refl _, rfl⟩
                · intro vals w1 hx hd
                  have e10 : vals 10 = .slice (some ⟨gb, go, none⟩) n1 c1 := hd 10 (by decide)
                  have e11 : vals 11 = .int .i64 (k : Int) := hd 11 (by decide)
                  have e9 : vals 9 = .bool false := hd 9 (by decide)
                  refine .run [(192, .slice (some ⟨gb, go, none⟩) n1 c1), (193, .int .i64 (k : Int)), (191, .bool false)] { dst := some 0, op := Go.Op.indexAddr 54 (Go.Operand.const (.slice (some ⟨gb, go, none⟩) n1 c1)) (Go.Operand.const (.int .i64 (k : Int))), type := 0, pos := "", after := #[], guard := none } 194 ⟨.inn 10 (by kernel_rfl) e10, .inn 11 (by kernel_rfl) e11, .inn 9 (by kernel_rfl) e9, trivial⟩ (by kernel_rfl) (by kernel_rfl) (by kernel_rfl) rfl rfl rfl ?_
                  clear hd e10 e11 e9
                  go_wp2
                  exact ⟨rfl, Ext.refl _, rfl⟩
                · intro vals w1 hx hd
                  have e12 : vals 12 = .pointer (some ⟨gb, go + k * 2, none⟩) := hd 12 (by decide)
                  have e9 : vals 9 = .bool false := hd 9 (by decide)
                  refine .run [(194, .pointer (some ⟨gb, go + k * 2, none⟩)), (191, .bool false)] { dst := some 0, op := Go.Op.fieldAddr 34 (Go.Operand.const (.pointer (some ⟨gb, go + k * 2, none⟩))) 1, type := 0, pos := "", after := #[], guard := none } 195 ⟨.inn 12 (by kernel_rfl) e12, .inn 9 (by kernel_rfl) e9, trivial⟩ (by kernel_rfl) (by kernel_rfl) (by kernel_rfl) rfl rfl rfl ?_
                  clear hd e12 e9
                  go_wp2
                  exact ⟨rfl, Ext.refl _, rfl⟩
                · intro vals w1 hx hd
                  have e13 : vals 13 = .pointer (some ⟨gb, go + k * 2 + 1, none⟩) := hd 13 (by decide)
                  have e9 : vals 9 = .bool false := hd 9 (by decide)
                  refine .run [(195, .pointer (some ⟨gb, go + k * 2 + 1, none⟩)), (191, .bool false)] { dst := some 0, op := Go.Op.load 3 (Go.Operand.const (.pointer (some ⟨gb, go + k * 2 + 1, none⟩))), type := 3, pos := "", after := #[], guard := none } 196 ⟨.inn 13 (by kernel_rfl) e13, .inn 9 (by kernel_rfl) e9, trivial⟩ (by kernel_rfl) (by kernel_rfl) (by kernel_rfl) rfl rfl rfl ?_
                  clear hd e13 e9
                  have dd1 := ext_cell hx dd1
                  go_wp2
                  exact ⟨rfl, Ext.refl _, rfl⟩
                · intro vals w1 hx hd
                  have e9 : vals 9 = .bool false := hd 9 (by decide)
                  refine .run [(14, .pointer (some ⟨g14, 0, none⟩)), (191, .bool false)] { dst := some 0, op := Go.Op.fieldAddr 34 (Go.Operand.const (.pointer (some ⟨g14, 0, none⟩))) 1, type := 0, pos := "", after := #[], guard := none } 197 ⟨.out (by kernel_rfl) (by kernel_rfl), .inn 9 (by kernel_rfl) e9, trivial⟩ (by kernel_rfl) (by kernel_rfl) (by kernel_rfl) rfl rfl rfl ?_
                  clear hd e9
                  go_wp2
                  exact ⟨rfl, Ext.refl _, rfl⟩
                · intro vals w1 hx hd
                  have e15 : vals 15 = .pointer (some ⟨g14, 1, none⟩) := hd 15 (by decide)
                  have e9 : vals 9 = .bool false := hd 9 (by decide)
                  refine .run [(197, .pointer (some ⟨g14, 1, none⟩)), (191, .bool false)] { dst := some 0, op := Go.Op.load 3 (Go.Operand.const (.pointer (some ⟨g14, 1, none⟩))), type := 3, pos := "", after := #[], guard := none } 198 ⟨.inn 15 (by kernel_rfl) e15, .inn 9 (by kernel_rfl) e9, trivial⟩ (by kernel_rfl) (by kernel_rfl) (by kernel_rfl) rfl rfl rfl ?_
                  clear hd e15 e9
                  have t1 := ext_cell hx t1
                  go_wp2
                  exact ⟨rfl, Ext.refl _, rfl⟩
                · intro vals w1 hx hd
                  have e16 : vals 16 = .int .i64 b := hd 16 (by decide)
                  have e9 : vals 9 = .bool false := hd 9 (by decide)
                  refine .run [(198, .int .i64 b), (191, .bool false)] { dst := some 0, op := Go.Op.binOp Go.BinOp.sub 3 (Go.Operand.const (.int .i64 b)) (Go.Operand.const (Go.Value.int Go.IntKind.i64 10)) 3, type := 3, pos := "", after := #[], guard := none } 199 ⟨.inn 16 (by kernel_rfl) e16, .inn 9 (by kernel_rfl) e9, trivial⟩ (by kernel_rfl) (by kernel_rfl) (by kernel_rfl) rfl rfl rfl ?_
                  clear hd e16 e9
                  go_wp2
                  exact ⟨rfl, Ext.refl _, rfl⟩
                · intro vals w1 hx hd
                  have e14 : vals 14 = .int .i64 f2 := hd 14 (by decide)
                  have e17 : vals 17 = .int .i64 (b - 10) := hd 17 (by decide)
                  have e9 : vals 9 = .bool false := hd 9 (by decide)
                  refine .run [(196, .int .i64 f2), (199, .int .i64 (b - 10)), (191, .bool false)] { dst := some 0, op := Go.Op.binOp Go.BinOp.geq 3 (Go.Operand.const (.int .i64 f2)) (Go.Operand.const (.int .i64 (b - 10))) 3, type := 4, pos := "", after := #[], guard := none } 200 ⟨.inn 14 (by kernel_rfl) e14, .inn 17 (by kernel_rfl) e17, .inn 9 (by kernel_rfl) e9, trivial⟩ (by kernel_rfl) (by kernel_rfl) (by kernel_rfl) rfl rfl rfl ?_
                  clear hd e14 e17 e9
                  go_wp2
                  exact ⟨rfl, Ext.refl _, rfl⟩
                · intro vals w1 hx hd
                  have e9 : vals 9 = .bool false := hd 9 (by decide)
                  have e18 : vals 18 = .bool false := hd 18 (by decide)
                  refine .run [(191, .bool false), (200, .bool false)] { dst := some 0, op := Go.Op.pick (Go.Operand.const (.bool false)) (Go.Operand.const (Go.Value.bool true)) (Go.Operand.const (.bool false)), type := 4, pos := "", after := #[], guard := none } 201 ⟨.inn 9 (by kernel_rfl) e9, .inn 18 (by kernel_rfl) e18, trivial⟩ (by kernel_rfl) (by kernel_rfl) (by kernel_rfl) rfl rfl rfl ?_
                  clear hd e9 e18
                  go_wp2
                  exact ⟨rfl, Ext.refl _, rfl⟩
              intro vals W21 hx21 hf
              have e19 : vals 19 = .bool false := hf 19 (by omega)
              clear hf
              have hx21 := hx21.undrew
              have hx := Ext.trans hx hx21
              have dd0 := ext_cell hx21 dd0
              have dd1 := ext_cell hx21 dd1
              clear hx21 t0 t1
              refine tail0 (by kernel_rfl) ?_
              simp only [Lf, dstAt, Act.put, List.getElem?_toArray, List.getElem?_cons_zero, List.getElem?_cons_succ, Option.bind_some, List.setIfInBounds_toArray, List.set_cons_zero, List.set_cons_succ]
              rw [e19]
              clear e19
              go_wp2
              obtain ⟨wo, hwo⟩ : ∃ wo : World, wo = W21 := ⟨_, rfl⟩
              rw [← hwo] at hx dd0 dd1 ⊢
              clear hwo
              go_loopw [25, 26] (fun x y wi => ∃ (m : Nat) (th : Bool), m ≤ n0 ∧ y = .int .i64 m ∧ x = .bool th ∧ Hid (th = (L0.take m).any fun z => decide (z = ⟨f1 - la, f2 - la⟩)) ∧ Ext wo wi) (fun _ y _ => n0 - (intOf y).toNat)
              case atStart => exact ⟨0, false, Nat.zero_le _, rfl, rfl, Lib.hid rfl, Ext.refl _⟩
              case round =>
                obtain ⟨m, th, hm, rfl, rfl, HTH, hxw⟩ := hrel
                by_cases hmn : m < n0
                · skip
                  obtain ⟨qb, qo, hz, hA, _, hc⟩ := (HR0.out.below (Ext.trans hx hxw)).at_ spl_len hmn
                  have hst : (L0.take (m + 1)).any (fun z => decide (z = ⟨f1 - la, f2 - la⟩)) = (th || decide (L0[m] = ⟨f1 - la, f2 - la⟩)) := by rw [List.take_succ_eq_append_getElem hz, List.any_append, HTH.out]; simp
                  have uu0 : wr.cell? ⟨qb, qo + m * 2, none⟩ = some (.int .i64 L0[m].fr) := hc 0 (by omega)
                  have uu1 : wr.cell? ⟨qb, qo + m * 2 + 1, none⟩ = some (.int .i64 L0[m].tt) := hc 1 (by omega)
                  generalize L0[m] = z at hst uu0 uu1
                  have HST := Lib.hid hst
                  have dd0 := ext_cell hxw dd0
                  have dd1 := ext_cell hxw dd1
                  clear hst hc hz HTH
                  subst hA
                  have w3_ : IntKind.i64.wrap (f1 - la) = f1 - la := IntWalk.i64_in _ (by omega)
                  have w4_ : IntKind.i64.wrap (f2 - la) = f2 - la := IntWalk.i64_in _ (by omega)
                  go_upto_region 34 with (fail)
                  cases th
                  · skip
                    refine wp_region_obl 23 (fun ix vals v w1 => match ix with | 0 => v = .bool false | 1 => v = .bool false | 2 => v = .slice (some ⟨qb, qo, none⟩) n0 c0 | 3 => v = .int .i64 (m : Int) | 4 => v = .pointer (some ⟨qb, qo + m * 2, none⟩) | 5 => v = .agg #[.int .i64 z.fr, .int .i64 z.tt] | 6 => v = .slice (some ⟨gb, go, none⟩) n1 c1 | 7 => v = .int .i64 (k : Int) | 8 => v = .pointer (some ⟨gb, go + k * 2, none⟩) | 9 => v = .pointer (some ⟨gb, go + k * 2, none⟩) | 10 => v = .int .i64 f1 | 11 => v = .int .i64 la | 12 => v = .int .i64 (f1 - la) | 13 => v = .slice (some ⟨gb, go, none⟩) n1 c1 | 14 => v = .int .i64 (k : Int) | 15 => v = .pointer (some ⟨gb, go + k * 2, none⟩) | 16 => v = .pointer (some ⟨gb, go + k * 2 + 1, none⟩) | 17 => v = .int .i64 f2 | 18 => v = .int .i64 la | 19 => v = .int .i64 (f2 - la) | 20 => v = .agg #[.int .i64 (f1 - la), .int .i64 (f2 - la)] | 21 => v = .bool (decide (z = ⟨f1 - la, f2 - la⟩)) | _ => v = .bool (decide (z = ⟨f1 - la, f2 - la⟩))) (by kernel_rfl) (by kernel_rfl) ?_ ?_ ?_ ?_
                    · intro ix vals v w1 w2 hi hr hx
                      match ix, hr with
                      | 0, hr => exact hr
                      | 1, hr => exact hr
                      | 2, hr => exact hr
                      | 3, hr => exact hr
                      | 4, hr => exact hr
                      | 5, hr => exact hr
                      | 6, hr => exact hr
                      | 7, hr => exact hr
                      | 8, hr => exact hr
                      | 9, hr => exact hr
                      | 10, hr => exact hr
                      | 11, hr => exact hr
                      | 12, hr => exact hr
                      | 13, hr => exact hr
                      | 14, hr => exact hr
                      | 15, hr => exact hr
                      | 16, hr => exact hr
                      | 17, hr => exact hr
                      | 18, hr => exact hr
                      | 19, hr => exact hr
                      | 20, hr => exact hr
                      | 21, hr => exact hr
                      | (kx + 22), hr => exact hr
                    · intro ix vals vals_ v w1 hi hv hr
                      exact hr
                    · refine obls_ofT [some 208, some 209, some 210, some 211, some 212, some 213, some 214, some 215, some 216, some 217, some 218, some 219, some 220, some 221, some 222, some 223, some 224, some 225, some 226, some 227, some 228, some 229, some 230, some 25] [(15, .slice (some ⟨gb, go, none⟩) n1 c1), (24, .int .i64 (k : Int)), (14, .pointer (some ⟨g14, 0, none⟩)), (25, .bool false), (26, .int .i64 (m : Int)), (17, .slice (some ⟨qb, qo, none⟩) n0 c0), (13, .int .i64 la)] 233 (by kernel_rfl) (by kernel_rfl) ⟨by kernel_rfl, by kernel_rfl, by kernel_rfl, by kernel_rfl, by kernel_rfl, by kernel_rfl, by kernel_rfl, trivial⟩ ?_
                      refine ⟨?_, ?_, ?_, ?_, ?_, ?_, ?_, ?_, ?_, ?_, ?_, ?_, ?_, ?_, ?_, ?_, ?_, ?_, ?_, ?_, ?_, ?_, ?_, trivial⟩
                      · intro vals w1 hx hd
                        refine .run [(25, .bool false)] { dst := some 0, op := Go.Op.move (Go.Operand.const (.bool false)), type := 4, pos := "", after := #[], guard := none } 208 ⟨.out (by kernel_rfl) (by kernel_rfl), trivial⟩ (by kernel_rfl) (by kernel_rfl) (by kernel_rfl) rfl rfl rfl ?_
                        clear hd
                        go_wp2
                        exact ⟨rfl, Ext.refl _, rfl⟩
                      · intro vals w1 hx hd
                        have e0 : vals 0 = .bool false := hd 0 (by decide)
                        refine .run [(208, .bool false)] { dst := some 0, op := Go.Op.move (Go.Operand.const (.bool false)), type := 4, pos := "", after := #[], guard := none } 209 ⟨.inn 0 (by kernel_rfl) e0, trivial⟩ (by kernel_rfl) (by kernel_rfl) (by kernel_rfl) rfl rfl rfl ?_
                        clear hd e0
                        go_wp2
                        exact ⟨rfl, Ext.refl _, rfl⟩
                      · intro vals w1 hx hd
                        have e1 : vals 1 = .bool false := hd 1 (by decide)
                        refine .run [(17, .slice (some ⟨qb, qo, none⟩) n0 c0), (209, .bool false)] { dst := some 0, op := Go.Op.move (Go.Operand.const (.slice (some ⟨qb, qo, none⟩) n0 c0)), type := 54, pos := "", after := #[], guard := none } 210 ⟨.out (by kernel_rfl) (by kernel_rfl), .inn 1 (by kernel_rfl) e1, trivial⟩ (by kernel_rfl) (by kernel_rfl) (by kernel_rfl) rfl rfl rfl ?_
                        clear hd e1
                        go_wp2
                        exact ⟨rfl, Ext.refl _, rfl⟩
                      · intro vals w1 hx hd
                        have e1 : vals 1 = .bool false := hd 1 (by decide)
                        refine .run [(26, .int .i64 (m : Int)), (209, .bool false)] { dst := some 0, op := Go.Op.move (Go.Operand.const (.int .i64 (m : Int))), type := 3, pos := "", after := #[], guard := none } 211 ⟨.out (by kernel_rfl) (by kernel_rfl), .inn 1 (by kernel_rfl) e1, trivial⟩ (by kernel_rfl) (by kernel_rfl) (by kernel_rfl) rfl rfl rfl ?_
                        clear hd e1
                        go_wp2
                        exact ⟨rfl, Ext.refl _, rfl⟩
                      · intro vals w1 hx hd
                        have e2 : vals 2 = .slice (some ⟨qb, qo, none⟩) n0 c0 := hd 2 (by decide)
                        have e3 : vals 3 = .int .i64 (m : Int) := hd 3 (by decide)
                        have e1 : vals 1 = .bool false := hd 1 (by decide)
                        refine .run [(210, .slice (some ⟨qb, qo, none⟩) n0 c0), (211, .int .i64 (m : Int)), (209, .bool false)] { dst := some 0, op := Go.Op.indexAddr 54 (Go.Operand.const (.slice (some ⟨qb, qo, none⟩) n0 c0)) (Go.Operand.const (.int .i64 (m : Int))), type := 0, pos := "", after := #[], guard := none } 212 ⟨.inn 2 (by kernel_rfl) e2, .inn 3 (by kernel_rfl) e3, .inn 1 (by kernel_rfl) e1, trivial⟩ (by kernel_rfl) (by kernel_rfl) (by kernel_rfl) rfl rfl rfl ?_
                        clear hd e2 e3 e1
                        go_wp2
                        exact ⟨rfl, Ext.refl _, rfl⟩
                      · intro vals w1 hx hd
                        have e4 : vals 4 = .pointer (some ⟨qb, qo + m * 2, none⟩) := hd 4 (by decide)
                        have e1 : vals 1 = .bool false := hd 1 (by decide)
                        refine .run [(212, .pointer (some ⟨qb, qo + m * 2, none⟩)), (209, .bool false)] { dst := some 0, op := Go.Op.load 34 (Go.Operand.const (.pointer (some ⟨qb, qo + m * 2, none⟩))), type := 34, pos := "", after := #[], guard := none } 213 ⟨.inn 4 (by kernel_rfl) e4, .inn 1 (by kernel_rfl) e1, trivial⟩ (by kernel_rfl) (by kernel_rfl) (by kernel_rfl) rfl rfl rfl ?_
                        clear hd e4 e1
                        have uu0 := ext_cell hx uu0
                        have uu1 := ext_cell hx uu1
                        go_wp2
                        exact ⟨rfl, Ext.refl _, rfl⟩
                      · intro vals w1 hx hd
                        have e1 : vals 1 = .bool false := hd 1 (by decide)
                        refine .run [(15, .slice (some ⟨gb, go, none⟩) n1 c1), (209, .bool false)] { dst := some 0, op := Go.Op.move (Go.Operand.const (.slice (some ⟨gb, go, none⟩) n1 c1)), type := 54, pos := "", after := #[], guard := none } 214 ⟨.out (by kernel_rfl) (by kernel_rfl), .inn 1 (by kernel_rfl) e1, trivial⟩ (by kernel_rfl) (by kernel_rfl) (by kernel_rfl) rfl rfl rfl ?_
                        clear hd e1
                        go_wp2
                        exact ⟨rfl, Ext.refl _, rfl⟩
                      · intro vals w1 hx hd
                        have e1 : vals 1 = .bool false := hd 1 (by decide)
                        refine .run [(24, .int .i64 (k : Int)), (209, .bool false)] { dst := some 0, op := Go.Op.move (Go.Operand.const (.int .i64 (k : Int))), type := 3, pos := "", after := #[], guard := none } 215 ⟨.out (by kernel_rfl) (by kernel_rfl), .inn 1 (by kernel_rfl) e1, trivial⟩ (by kernel_rfl) (by kernel_rfl) (by kernel_rfl) rfl rfl rfl ?_
                        clear hd e1
                        go_wp2
                        exact ⟨rfl, Ext.refl _, rfl⟩
                      · intro vals w1 hx hd
                        have e6 : vals 6 = .slice (some ⟨gb, go, none⟩) n1 c1 := hd 6 (by decide)
                        have e7 : vals 7 = .int .i64 (k : Int) := hd 7 (by decide)
                        have e1 : vals 1 = .bool false := hd 1 (by decide)
                        refine .run [(214, .slice (some ⟨gb, go, none⟩) n1 c1), (215, .int .i64 (k : Int)), (209, .bool false)] { dst := some 0, op := Go.Op.indexAddr 54 (Go.Operand.const (.slice (some ⟨gb, go, none⟩) n1 c1)) (Go.Operand.const (.int .i64 (k : Int))), type := 0, pos := "", after := #[], guard := none } 216 ⟨.inn 6 (by kernel_rfl) e6, .inn 7 (by kernel_rfl) e7, .inn 1 (by kernel_rfl) e1, trivial⟩ (by kernel_rfl) (by kernel_rfl) (by kernel_rfl) rfl rfl rfl ?_
                        clear hd e6 e7 e1
                        go_wp2
                        exact ⟨rfl, Ext.refl _, rfl⟩
                      · intro vals w1 hx hd
                        have e8 : vals 8 = .pointer (some ⟨gb, go + k * 2, none⟩) := hd 8 (by decide)
                        have e1 : vals 1 = .bool false := hd 1 (by decide)
                        refine .run [(216, .pointer (some ⟨gb, go + k * 2, none⟩)), (209, .bool false)] { dst := some 0, op := Go.Op.fieldAddr 34 (Go.Operand.const (.pointer (some ⟨gb, go + k * 2, none⟩))) 0, type := 0, pos := "", after := #[], guard := none } 217 ⟨.inn 8 (by kernel_rfl) e8, .inn 1 (by kernel_rfl) e1, trivial⟩ (by kernel_rfl) (by kernel_rfl) (by kernel_rfl) rfl rfl rfl ?_
                        clear hd e8 e1
                        go_wp2
                        exact ⟨rfl, Ext.refl _, rfl⟩
                      · intro vals w1 hx hd
                        have e9 : vals 9 = .pointer (some ⟨gb, go + k * 2, none⟩) := hd 9 (by decide)
                        have e1 : vals 1 = .bool false := hd 1 (by decide)
                        refine .run [(217, .pointer (some ⟨gb, go + k * 2, none⟩)), (209, .bool false)] { dst := some 0, op := Go.Op.load 3 (Go.Operand.const (.pointer (some ⟨gb, go + k * 2, none⟩))), type := 3, pos := "", after := #[], guard := none } 218 ⟨.inn 9 (by kernel_rfl) e9, .inn 1 (by kernel_rfl) e1, trivial⟩ (by kernel_rfl) (by kernel_rfl) (by kernel_rfl) rfl rfl rfl ?_
                        clear hd e9 e1
                        have dd0 := ext_cell hx dd0
                        go_wp2
                        exact ⟨rfl, Ext.refl _, rfl⟩
                      · intro vals w1 hx hd
                        have e1 : vals 1 = .bool false := hd 1 (by decide)
                        refine .run [(13, .int .i64 la), (209, .bool false)] { dst := some 0, op := Go.Op.move (Go.Operand.const (.int .i64 la)), type := 3, pos := "", after := #[], guard := none } 219 ⟨.out (by kernel_rfl) (by kernel_rfl), .inn 1 (by kernel_rfl) e1, trivial⟩ (by kernel_rfl) (by kernel_rfl) (by kernel_rfl) rfl rfl rfl ?_
                        clear hd e1
                        go_wp2
                        exact ⟨rfl, Ext.refl _, rfl⟩
                      · intro vals w1 hx hd
                        have e10 : vals 10 = .int .i64 f1 := hd 10 (by decide)
                        have e11 : vals 11 = .int .i64 la := hd 11 (by decide)
                        have e1 : vals 1 = .bool false := hd 1 (by decide)
                        refine .run [(218, .int .i64 f1), (219, .int .i64 la), (209, .bool false)] { dst := some 0, op := Go.Op.binOp Go.BinOp.sub 3 (Go.Operand.const (.int .i64 f1)) (Go.Operand.const (.int .i64 la)) 3, type := 3, pos := "", after := #[], guard := none } 220 ⟨.inn 10 (by kernel_rfl) e10, .inn 11 (by kernel_rfl) e11, .inn 1 (by kernel_rfl) e1, trivial⟩ (by kernel_rfl) (by kernel_rfl) (by kernel_rfl) rfl rfl rfl ?_
                        clear hd e10 e11 e1
                        go_wp2
                        exact ⟨rfl, Ext.refl _, rfl⟩
                      · intro vals w1 hx hd
                        have e1 : vals 1 = .bool false := hd 1 (by decide)
                        refine .run [(15, .slice (some ⟨gb, go, none⟩) n1 c1), (209, .bool false)] { dst := some 0, op := Go.Op.move (Go.Operand.const (.slice (some ⟨gb, go, none⟩) n1 c1)), type := 54, pos := "", after := #[], guard := none } 221 ⟨.out (by kernel_rfl) (by kernel_rfl), .inn 1 (by kernel_rfl) e1, trivial⟩ (by kernel_rfl) (by kernel_rfl) (by kernel_rfl) rfl rfl rfl ?_
                        clear hd e1
                        go_wp2
                        exact ⟨rfl, Ext.refl _, rfl⟩
                      · intro vals w1 hx hd
                        have e1 : vals 1 = .bool false := hd 1 (by decide)
                        refine .run [(24, .int .i64 (k : Int)), (209, .bool false)] { dst := some 0, op := Go.Op.move (Go.Operand.const (.int .i64 (k : Int))), type := 3, pos := "", after := #[], guard := none } 222 ⟨.out (by kernel_rfl) (by kernel_rfl), .inn 1 (by kernel_rfl) e1, trivial⟩ (by kernel_rfl) (by kernel_rfl) (by kernel_rfl) rfl rfl rfl ?_
                        clear hd e1
                        go_wp2
                        exact ⟨rfl, Ext.refl _, rfl⟩
                      · intro vals w1 hx hd
                        have e13 : vals 13 = .slice (some ⟨gb, go, none⟩) n1 c1 := hd 13 (by decide)
                        have e14 : vals 14 = .int .i64 (k : Int) := hd 14 (by decide)
                        have e1 : vals 1 = .bool false := hd 1 (by decide)
                        refine .run [(221, .slice (some ⟨gb, go, none⟩) n1 c1), (222, .int .i64 (k : Int)), (209, .bool false)] { dst := some 0, op := Go.Op.indexAddr 54 (Go.Operand.const (.slice (some ⟨gb, go, none⟩) n1 c1)) (Go.Operand.const (.int .i64 (k : Int))), type := 0, pos := "", after := #[], guard := none } 223 ⟨.inn 13 (by kernel_rfl) e13, .inn 14 (by kernel_rfl) e14, .inn 1 (by kernel_rfl) e1, trivial⟩ (by kernel_rfl) (by kernel_rfl) (by kernel_rfl) rfl rfl rfl ?_
                        clear hd e13 e14 e1
                        go_wp2
                        exact ⟨rfl, Ext.refl _, rfl⟩
                      · intro vals w1 hx hd
                        have e15 : vals 15 = .pointer (some ⟨gb, go + k * 2, none⟩) := hd 15 (by decide)
                        have e1 : vals 1 = .bool false := hd 1 (by decide)
                        refine .run [(223, .pointer (some ⟨gb, go + k * 2, none⟩)), (209, .bool false)] { dst := some 0, op := Go.Op.fieldAddr 34 (Go.Operand.const (.pointer (some ⟨gb, go + k * 2, none⟩))) 1, type := 0, pos := "", after := #[], guard := none } 224 ⟨.inn 15 (by kernel_rfl) e15, .inn 1 (by kernel_rfl) e1, trivial⟩ (by kernel_rfl) (by kernel_rfl) (by kernel_rfl) rfl rfl rfl ?_
                        clear hd e15 e1
                        go_wp2
                        exact ⟨rfl, Ext.refl _, rfl⟩
                      · intro vals w1 hx hd
                        have e16 : vals 16 = .pointer (some ⟨gb, go + k * 2 + 1, none⟩) := hd 16 (by decide)
                        have e1 : vals 1 = .bool false := hd 1 (by decide)
                        refine .run [(224, .pointer (some ⟨gb, go + k * 2 + 1, none⟩)), (209, .bool false)] { dst := some 0, op := Go.Op.load 3 (Go.Operand.const (.pointer (some ⟨gb, go + k * 2 + 1, none⟩))), type := 3, pos := "", after := #[], guard := none } 225 ⟨.inn 16 (by kernel_rfl) e16, .inn 1 (by kernel_rfl) e1, trivial⟩ (by kernel_rfl) (by kernel_rfl) (by kernel_rfl) rfl rfl rfl ?_
                        clear hd e16 e1
                        have dd1 := ext_cell hx dd1
                        go_wp2
                        exact ⟨rfl, Ext.refl _, rfl⟩
                      · intro vals w1 hx hd
                        have e1 : vals 1 = .bool false := hd 1 (by decide)
                        refine .run [(13, .int .i64 la), (209, .bool false)] { dst := some 0, op := Go.Op.move (Go.Operand.const (.int .i64 la)), type := 3, pos := "", after := #[], guard := none } 226 ⟨.out (by kernel_rfl) (by kernel_rfl), .inn 1 (by kernel_rfl) e1, trivial⟩ (by kernel_rfl) (by kernel_rfl) (by kernel_rfl) rfl rfl rfl ?_
                        clear hd e1
                        go_wp2
                        exact ⟨rfl, Ext.refl _, rfl⟩
                      · intro vals w1 hx hd
                        have e17 : vals 17 = .int .i64 f2 := hd 17 (by decide)
                        have e18 : vals 18 = .int .i64 la := hd 18 (by decide)
                        have e1 : vals 1 = .bool false := hd 1 (by decide)
                        refine .run [(225, .int .i64 f2), (226, .int .i64 la), (209, .bool false)] { dst := some 0, op := Go.Op.binOp Go.BinOp.sub 3 (Go.Operand.const (.int .i64 f2)) (Go.Operand.const (.int .i64 la)) 3, type := 3, pos := "", after := #[], guard := none } 227 ⟨.inn 17 (by kernel_rfl) e17, .inn 18 (by kernel_rfl) e18, .inn 1 (by kernel_rfl) e1, trivial⟩ (by kernel_rfl) (by kernel_rfl) (by kernel_rfl) rfl rfl rfl ?_
                        clear hd e17 e18 e1
                        go_wp2
                        exact ⟨rfl, Ext.refl _, rfl⟩
                      · intro vals w1 hx hd
                        have e12 : vals 12 = .int .i64 (f1 - la) := hd 12 (by decide)
                        have e19 : vals 19 = .int .i64 (f2 - la) := hd 19 (by decide)
                        have e1 : vals 1 = .bool false := hd 1 (by decide)
                        refine .run [(220, .int .i64 (f1 - la)), (227, .int .i64 (f2 - la)), (209, .bool false)] { dst := some 0, op := Go.Op.build 34 #[(0, (Go.Operand.const (.int .i64 (f1 - la)))), (1, (Go.Operand.const (.int .i64 (f2 - la))))], type := 34, pos := "", after := #[], guard := none } 228 ⟨.inn 12 (by kernel_rfl) e12, .inn 19 (by kernel_rfl) e19, .inn 1 (by kernel_rfl) e1, trivial⟩ (by kernel_rfl) (by kernel_rfl) (by kernel_rfl) rfl rfl rfl ?_
                        clear hd e12 e19 e1
                        go_wp2
                        exact ⟨rfl, Ext.refl _, rfl⟩
                      · intro vals w1 hx hd
                        have e5 : vals 5 = .agg #[.int .i64 z.fr, .int .i64 z.tt] := hd 5 (by decide)
                        have e20 : vals 20 = .agg #[.int .i64 (f1 - la), .int .i64 (f2 - la)] := hd 20 (by decide)
                        have e1 : vals 1 = .bool false := hd 1 (by decide)
                        refine .run [(213, .agg #[.int .i64 z.fr, .int .i64 z.tt]), (228, .agg #[.int .i64 (f1 - la), .int .i64 (f2 - la)]), (209, .bool false)] { dst := some 0, op := Go.Op.binOp Go.BinOp.eql 34 (Go.Operand.const (.agg #[.int .i64 z.fr, .int .i64 z.tt])) (Go.Operand.const (.agg #[.int .i64 (f1 - la), .int .i64 (f2 - la)])) 34, type := 4, pos := "", after := #[], guard := none } 229 ⟨.inn 5 (by kernel_rfl) e5, .inn 20 (by kernel_rfl) e20, .inn 1 (by kernel_rfl) e1, trivial⟩ (by kernel_rfl) (by kernel_rfl) (by kernel_rfl) rfl rfl rfl ?_
                        clear hd e5 e20 e1
                        have hq := eql_spl z ⟨f1 - la, f2 - la⟩
                        dsimp only at hq
                        go_wp2
                        exact ⟨rfl, Ext.refl _, rfl⟩
                      · intro vals w1 hx hd
                        have e1 : vals 1 = .bool false := hd 1 (by decide)
                        have e21 : vals 21 = .bool (decide (z = ⟨f1 - la, f2 - la⟩)) := hd 21 (by decide)
                        refine .run [(209, .bool false), (229, .bool (decide (z = ⟨f1 - la, f2 - la⟩)))] { dst := some 0, op := Go.Op.pick (Go.Operand.const (.bool false)) (Go.Operand.const (Go.Value.bool true)) (Go.Operand.const (.bool (decide (z = ⟨f1 - la, f2 - la⟩)))), type := 4, pos := "", after := #[], guard := none } 230 ⟨.inn 1 (by kernel_rfl) e1, .inn 21 (by kernel_rfl) e21, trivial⟩ (by kernel_rfl) (by kernel_rfl) (by kernel_rfl) rfl rfl rfl ?_
                        clear hd e1 e21
                        go_wp2
                        exact ⟨rfl, Ext.refl _, rfl⟩
                    intro vals W30 hx30 hf
                    have e22 : vals 22 = .bool (decide (z = ⟨f1 - la, f2 - la⟩)) := hf 22 (by omega)
                    clear hf
                    have hx30 := hx30.undrew
                    have hxw := Ext.trans hxw hx30
                    clear hx30
                    refine tail1 23 _ (by kernel_rfl) (by kernel_rfl) rfl ?_
                    simp only [Lf, dstAt, Act.put, List.getElem?_toArray, List.getElem?_cons_zero, List.getElem?_cons_succ, Option.bind_some, List.setIfInBounds_toArray, List.set_cons_zero, List.set_cons_succ]
                    rw [e22]
                    clear e22
                    clear dd0 dd1 uu0 uu1
                    go_wp2
                    go_roundw
                    case rel => exact ⟨m + 1, _, by omega, by go_num, rfl, Lib.hid (by rw [HST.out, Bool.false_or]), hxw⟩
                    case measure => simp [intOf]; omega
                  · skip
                    refine wp_region_obl 23 (fun ix vals v w1 => match ix with | 0 => v = .bool true | 1 => v = .bool true | 2 => v = undef | 3 => v = undef | 4 => v = undef | 5 => v = undef | 6 => v = undef | 7 => v = undef | 8 => v = undef | 9 => v = undef | 10 => v = undef | 11 => v = undef | 12 => v = undef | 13 => v = undef | 14 => v = undef | 15 => v = undef | 16 => v = undef | 17 => v = undef | 18 => v = undef | 19 => v = undef | 20 => v = undef | 21 => v = undef | _ => v = .bool true) (by kernel_rfl) (by kernel_rfl) ?_ ?_ ?_ ?_
                    · intro ix vals v w1 w2 hi hr hx
                      match ix, hr with
                      | 0, hr => exact hr
                      | 1, hr => exact hr
                      | 2, hr => exact hr
                      | 3, hr => exact hr
                      | 4, hr => exact hr
                      | 5, hr => exact hr
                      | 6, hr => exact hr
                      | 7, hr => exact hr
                      | 8, hr => exact hr
                      | 9, hr => exact hr
                      | 10, hr => exact hr
                      | 11, hr => exact hr
                      | 12, hr => exact hr
                      | 13, hr => exact hr
                      | 14, hr => exact hr
                      | 15, hr => exact hr
                      | 16, hr => exact hr
                      | 17, hr => exact hr
                      | 18, hr => exact hr
                      | 19, hr => exact hr
                      | 20, hr => exact hr
                      | 21, hr => exact hr
                      | (kx + 22), hr => exact hr
                    · intro ix vals vals_ v w1 hi hv hr
                      exact hr
                    · refine obls_ofT [some 208, some 209, some 210, some 211, some 212, some 213, some 214, some 215, some 216, some 217, some 218, some 219, some 220, some 221, some 222, some 223, some 224, some 225, some 226, some 227, some 228, some 229, some 230, some 25] [(15, .slice (some ⟨gb, go, none⟩) n1 c1), (24, .int .i64 (k : Int)), (14, .pointer (some ⟨g14, 0, none⟩)), (25, .bool true), (26, .int .i64 (m : Int)), (17, .slice (some ⟨qb, qo, none⟩) n0 c0), (13, .int .i64 la)] 233 (by kernel_rfl) (by kernel_rfl) ⟨by kernel_rfl, by kernel_rfl, by kernel_rfl, by kernel_rfl, by kernel_rfl, by kernel_rfl, by kernel_rfl, trivial⟩ ?_
                      refine ⟨?_, ?_, ?_, ?_, ?_, ?_, ?_, ?_, ?_, ?_, ?_, ?_, ?_, ?_, ?_, ?_, ?_, ?_, ?_, ?_, ?_, ?_, ?_, trivial⟩
                      · intro vals w1 hx hd
                        refine .run [(25, .bool true)] { dst := some 0, op := Go.Op.move (Go.Operand.const (.bool true)), type := 4, pos := "", after := #[], guard := none } 208 ⟨.out (by kernel_rfl) (by kernel_rfl), trivial⟩ (by kernel_rfl) (by kernel_rfl) (by kernel_rfl) rfl rfl rfl ?_
                        clear hd
                        go_wp2
                        exact ⟨rfl, Ext.refl _, rfl⟩
                      · intro vals w1 hx hd
                        have e0 : vals 0 = .bool true := hd 0 (by decide)
                        refine .run [(208, .bool true)] { dst := some 0, op := Go.Op.move (Go.Operand.const (.bool true)), type := 4, pos := "", after := #[], guard := none } 209 ⟨.inn 0 (by kernel_rfl) e0, trivial⟩ (by kernel_rfl) (by kernel_rfl) (by kernel_rfl) rfl rfl rfl ?_
                        clear hd e0
                        go_wp2
                        exact ⟨rfl, Ext.refl _, rfl⟩
                      · intro vals w1 hx hd
                        have e1 : vals 1 = .bool true := hd 1 (by decide)
                        exact .no [(209, .bool true)] 210 ⟨.inn 1 (by kernel_rfl) e1, trivial⟩ (by kernel_rfl) rfl (by kernel_rfl) rfl
                      · intro vals w1 hx hd
                        have e1 : vals 1 = .bool true := hd 1 (by decide)
                        exact .no [(209, .bool true)] 211 ⟨.inn 1 (by kernel_rfl) e1, trivial⟩ (by kernel_rfl) rfl (by kernel_rfl) rfl
                      · intro vals w1 hx hd
                        have e1 : vals 1 = .bool true := hd 1 (by decide)
                        exact .no [(209, .bool true)] 212 ⟨.inn 1 (by kernel_rfl) e1, trivial⟩ (by kernel_rfl) rfl (by kernel_rfl) rfl
                      · intro vals w1 hx hd
                        have e1 : vals 1 = .bool true := hd 1 (by decide)
                        exact .no [(209, .bool true)] 213 ⟨.inn 1 (by kernel_rfl) e1, trivial⟩ (by kernel_rfl) rfl (by kernel_rfl) rfl
                      · intro vals w1 hx hd
                        have e1 : vals 1 = .bool true := hd 1 (by decide)
                        exact .no [(209, .bool true)] 214 ⟨.inn 1 (by kernel_rfl) e1, trivial⟩ (by kernel_rfl) rfl (by kernel_rfl) rfl
                      · intro vals w1 hx hd
                        have e1 : vals 1 = .bool true := hd 1 (by decide)
                        exact .no [(209, .bool true)] 215 ⟨.inn 1 (by kernel_rfl) e1, trivial⟩ (by kernel_rfl) rfl (by kernel_rfl) rfl
                      · intro vals w1 hx hd
                        have e1 : vals 1 = .bool true := hd 1 (by decide)
                        exact .no [(209, .bool true)] 216 ⟨.inn 1 (by kernel_rfl) e1, trivial⟩ (by kernel_rfl) rfl (by kernel_rfl) rfl
                      · intro vals w1 hx hd
                        have e1 : vals 1 = .bool true := hd 1 (by decide)
                        exact .no [(209, .bool true)] 217 ⟨.inn 1 (by kernel_rfl) e1, trivial⟩ (by kernel_rfl) rfl (by kernel_rfl) rfl
                      · intro vals w1 hx hd
                        have e1 : vals 1 = .bool true := hd 1 (by decide)
                        exact .no [(209, .bool true)] 218 ⟨.inn 1 (by kernel_rfl) e1, trivial⟩ (by kernel_rfl) rfl (by kernel_rfl) rfl
                      · intro vals w1 hx hd
                        have e1 : vals 1 = .bool true := hd 1 (by decide)
                        exact .no [(209, .bool true)] 219 ⟨.inn 1 (by kernel_rfl) e1, trivial⟩ (by kernel_rfl) rfl (by kernel_rfl) rfl
                      · intro vals w1 hx hd
                        have e1 : vals 1 = .bool true := hd 1 (by decide)
                        exact .no [(209, .bool true)] 220 ⟨.inn 1 (by kernel_rfl) e1, trivial⟩ (by kernel_rfl) rfl (by kernel_rfl) rfl
                      · intro vals w1 hx hd
                        have e1 : vals 1 = .bool true := hd 1 (by decide)
                        exact .no [(209, .bool true)] 221 ⟨.inn 1 (by kernel_rfl) e1, trivial⟩ (by kernel_rfl) rfl (by kernel_rfl) rfl
                      · intro vals w1 hx hd
                        have e1 : vals 1 = .bool true := hd 1 (by decide)
                        exact .no [(209, .bool true)] 222 ⟨.inn 1 (by kernel_rfl) e1, trivial⟩ (by kernel_rfl) rfl (by kernel_rfl) rfl
                      · intro vals w1 hx hd
                        have e1 : vals 1 = .bool true := hd 1 (by decide)
                        exact .no [(209, .bool true)] 223 ⟨.inn 1 (by kernel_rfl) e1, trivial⟩ (by kernel_rfl) rfl (by kernel_rfl) rfl
                      · intro vals w1 hx hd
                        have e1 : vals 1 = .bool true := hd 1 (by decide)
                        exact .no [(209, .bool true)] 224 ⟨.inn 1 (by kernel_rfl) e1, trivial⟩ (by kernel_rfl) rfl (by kernel_rfl) rfl
                      · intro vals w1 hx hd
                        have e1 : vals 1 = .bool true := hd 1 (by decide)
                        exact .no [(209, .bool true)] 225 ⟨.inn 1 (by kernel_rfl) e1, trivial⟩ (by kernel_rfl) rfl (by kernel_rfl) rfl
                      · intro vals w1 hx hd
                        have e1 : vals 1 = .bool true := hd 1 (by decide)
                        exact .no [(209, .bool true)] 226 ⟨.inn 1 (by kernel_rfl) e1, trivial⟩ (by kernel_rfl) rfl (by kernel_rfl) rfl
                      · intro vals w1 hx hd
                        have e1 : vals 1 = .bool true := hd 1 (by decide)
                        exact .no [(209, .bool true)] 227 ⟨.inn 1 (by kernel_rfl) e1, trivial⟩ (by kernel_rfl) rfl (by kernel_rfl) rfl
                      · intro vals w1 hx hd
                        have e1 : vals 1 = .bool true := hd 1 (by decide)
                        exact .no [(209, .bool true)] 228 ⟨.inn 1 (by kernel_rfl) e1, trivial⟩ (by kernel_rfl) rfl (by kernel_rfl) rfl
                      · intro vals w1 hx hd
                        have e1 : vals 1 = .bool true := hd 1 (by decide)
                        exact .no [(209, .bool true)] 229 ⟨.inn 1 (by kernel_rfl) e1, trivial⟩ (by kernel_rfl) rfl (by kernel_rfl) rfl
                      · intro vals w1 hx hd
                        have e1 : vals 1 = .bool true := hd 1 (by decide)
                        have e21 : vals 21 = undef := hd 21 (by decide)
                        refine .run [(209, .bool true), (229, undef)] { dst := some 0, op := Go.Op.pick (Go.Operand.const (.bool true)) (Go.Operand.const (Go.Value.bool true)) (Go.Operand.const (undef)), type := 4, pos := "", after := #[], guard := none } 230 ⟨.inn 1 (by kernel_rfl) e1, .inn 21 (by kernel_rfl) e21, trivial⟩ (by kernel_rfl) (by kernel_rfl) (by kernel_rfl) rfl rfl rfl ?_
                        clear hd e1 e21
                        go_wp2
                        exact ⟨rfl, Ext.refl _, rfl⟩
                    intro vals W30 hx30 hf
                    have e22 : vals 22 = .bool true := hf 22 (by omega)
                    clear hf
                    have hx30 := hx30.undrew
                    have hxw := Ext.trans hxw hx30
                    clear hx30
                    refine tail1 23 _ (by kernel_rfl) (by kernel_rfl) rfl ?_
                    simp only [Lf, dstAt, Act.put, List.getElem?_toArray, List.getElem?_cons_zero, List.getElem?_cons_succ, Option.bind_some, List.setIfInBounds_toArray, List.set_cons_zero, List.set_cons_succ]
                    rw [e22]
                    clear e22
                    clear dd0 dd1 uu0 uu1
                    go_wp2
                    go_roundw
                    case rel => exact ⟨m + 1, _, by omega, by go_num, rfl, Lib.hid (by rw [HST.out, Bool.true_or]), hxw⟩
                    case measure => simp [intOf]; omega
                · have hth : th = true := by
                    rw [HTH.out, List.take_of_length_le (by have := HLN0.out; omega), List.any_eq_true]
                    exact ⟨_, HM2.out, by simp⟩
                  subst hth
                  clear HTH
                  have hx := Ext.trans hx hxw
                  clear dd0 dd1 hxw
                  go_wp2
                  go_roundw
                  case rel => exact ⟨k + 1, by omega, by go_num, hx⟩
                  case measure => simp [intOf]; omega
      · go_wp2
        go_ret
        exact ⟨rfl, Ext.trans hB hx⟩

end Go.Proofs.Ytlmpmhfbjblhnaa
