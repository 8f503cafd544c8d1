/- ContactSure: the walk (printed by contact_e9.py). -/
import Derived.Test.YtlmpmhfbjblhnaaD1
import Derived.Test.YtlmpmhfbjblhnaaP5
import Derived.Test.YtlmpmhfbjblhnaaTn2
import Derived.BigQuiet
namespace Go.Proofs.Ytlmpmhfbjblhnaa
open Go.RowKit

def orbD (o : Orb) : List Value := [.int .i64 o.period, .int .i64 o.phase, .int .i64 o.low, .int .i64 o.high, .int .i64 o.node, .int .i64 o.turn, .int .i64 o.slack]
theorem stn_one9 (x : Stn) : (stnCells x).toArray.all (·.oneCell') = true := by simp [stnCells, Value.oneCell']
theorem view_d (o : Orb) (y : Stn) (t la : Int) (w : World) : Calls Try.prog 26 #[.agg (orbD o).toArray, .agg (stnCells y).toArray, .int .i64 t, .int .i64 la] w fun e w' => e = .returned (viewV (viewP o y t la)) ∧ Ext w w' := by
  obtain ⟨p, f, lo, hi, no, tu, sl⟩ := o
  obtain ⟨id, ⟨x, y⟩, re, an, sk⟩ := y
  exact View_any p f lo hi no tu sl id x y re an sk t la w
set_option maxRecDepth 100000 in
set_option maxHeartbeats 16000000 in
theorem sure_walk (x0 x1 x2 x3 x4 x5 x6 z0 z1 z2 z3 fr0 lg0 ft0 : Int) (w : World) (bx0 : I64ok x0) (bx1 : I64ok x1) (bx2 : I64ok x2) (bx3 : I64ok x3) (bx4 : I64ok x4) (bx5 : I64ok x5) (bx6 : I64ok x6) (bz0 : I64ok z0) (bz1 : I64ok z1) (bz2 : I64ok z2) (bz3 : I64ok z3) (bf : I64ok fr0) (bl : I64ok lg0) (bt : I64ok ft0) :
    Calls Try.prog 5 #[.agg #[.int .i64 x0, .int .i64 x1, .int .i64 x2, .int .i64 x3, .int .i64 x4, .int .i64 x5, .int .i64 x6], .agg #[.int .i64 z0, .int .i64 z1, .int .i64 z2, .int .i64 z3], .int .i64 fr0, .int .i64 lg0, .int .i64 ft0] w (Tru w) := by
  have hsat := fun w => sat_any 1 x0 x1 x2 x3 x4 x5 x6 0 0 0 0 w ⟨by omega, by omega⟩ bx0 bx1 bx2 bx3 bx4 bx5 bx6 ⟨by omega, by omega⟩ ⟨by omega, by omega⟩ ⟨by omega, by omega⟩ ⟨by omega, by omega⟩
  have hstn := fun w => station_any 2 z0 z1 z2 z3 w ⟨by omega, by omega⟩ bz0 bz1 bz2 bz3
  obtain ⟨s, hs⟩ : ∃ s, s = satP 1 x0 x1 x2 x3 x4 x5 x6 0 0 0 0 := ⟨_, rfl⟩
  have hso : satOK s = true := by rw [hs]; exact satP_ok 1 x0 x1 x2 x3 x4 x5 x6 0 0 0 0
  rw [← hs] at hsat
  clear hs
  obtain ⟨st, hst⟩ : ∃ st, st = stnP 2 z0 z1 z2 z3 := ⟨_, rfl⟩
  have hok : stnOK st = true := by rw [hst]; exact stnP_ok 2 z0 z1 z2 z3
  rw [← hst] at hstn
  clear hst
  obtain ⟨SX, hSX⟩ : ∃ X, (satCells s).toArray = X := ⟨_, rfl⟩
  have HO1 : Hid (SX.all (·.oneCell') = true) := Lib.hid (by rw [← hSX]; exact sat_one _)
  have HZ1 : Hid (SX.size = 21) := Lib.hid (by rw [← hSX]; rfl)
  obtain ⟨sid, hsid⟩ : ∃ n, n = s.id := ⟨_, rfl⟩
  obtain ⟨yid, hyid⟩ : ∃ n, n = st.id := ⟨_, rfl⟩
  obtain ⟨sl, hsl⟩ : ∃ n, n = s.orbit.slack := ⟨_, rfl⟩
  have HC0 : Hid (SX[0]? = some (.int .i64 sid)) := Lib.hid (by rw [← hSX, hsid]; rfl)
  have HC8 : Hid (SX[8]? = some (.int .i64 sl)) := Lib.hid (by rw [← hSX, hsl]; rfl)
  obtain ⟨TX, hTX⟩ : ∃ X, (stnCells st).toArray = X := ⟨_, rfl⟩
  have HO2 : Hid (TX.all (·.oneCell') = true) := Lib.hid (by rw [← hTX]; exact stn_one9 _)
  have HZ2 : Hid (TX.size = 6) := Lib.hid (by rw [← hTX]; rfl)
  have HD0 : Hid (TX[0]? = some (.int .i64 yid)) := Lib.hid (by rw [← hTX, hyid]; rfl)
  rw [hSX] at hsat
  rw [hTX] at hstn
  have HSAT := Lib.hid hsat
  have HSTN := Lib.hid hstn
  obtain ⟨hor, sl0, sl1⟩ := sat_orb hso
  rw [← hsl] at sl0 sl1
  obtain ⟨OX, hOX⟩ : ∃ X, (orbD s.orbit).toArray = X := ⟨_, rfl⟩
  have HZ3 : Hid (OX.size = 7) := Lib.hid (by rw [← hOX]; rfl)
  have P1 := fun w => lpick_any fr0 999600 w bf.1 bf.2 (by omega) (by omega)
  have q1 := pickI_bd fr0 999600 (by omega)
  generalize pickI fr0 999600 = k1 at P1 q1
  obtain ⟨q1a, q1b⟩ := q1
  have HP1 := Lib.hid P1
  clear P1
  have P2 := fun w => lpick_any lg0 300 w bl.1 bl.2 (by omega) (by omega)
  have q2 := pickI_bd lg0 300 (by omega)
  generalize pickI lg0 300 = k2 at P2 q2
  obtain ⟨q2a, q2b⟩ := q2
  have HP2 := Lib.hid P2
  clear P2
  obtain ⟨a, ha⟩ : ∃ a, a = k1 := ⟨_, rfl⟩
  subst ha
  obtain ⟨b, hb⟩ : ∃ b, b = a + 1 + k2 := ⟨_, rfl⟩
  have ab1 : a < b := by omega
  have ab2 : b ≤ a + 300 := by omega
  have HBB := Lib.hid hb
  clear hb
  have P3 := fun w => lpick_any ft0 (b - a) w bt.1 bt.2 (by omega) (by omega)
  have q3 := pickI_bd ft0 (b - a) (by omega)
  generalize pickI ft0 (b - a) = k3 at P3 q3
  obtain ⟨q3a, q3b⟩ := q3
  have HP3 := Lib.hid P3
  clear P3
  have hspan : spanOK ⟨a, b⟩ = true := by simp [spanOK]; omega
  obtain ⟨PL, hPL⟩ : ∃ l, l = pairP s ⟨a, b⟩ st := ⟨_, rfl⟩
  obtain ⟨nP, hnP⟩ : ∃ n, n = PL.length := ⟨_, rfl⟩
  have HPS : Hid (∀ (w : World) (g1 g2 : Nat), Blk w g1 27 SX → Blk w g2 31 TX → Calls Try.prog 31 #[.slice (some ⟨g1, 0, none⟩) 1 1, .slice (some ⟨g2, 0, none⟩) 1 1, .agg #[.int .i64 a, .int .i64 b]] w (PassesRet (if nP ≤ 64 then some PL else none) w)) := Lib.hid (fun w g1 g2 K1 K2 => by
    have h := Passes_all [s] [st] (some ⟨g1, 0, none⟩) (some ⟨g2, 0, none⟩) 1 1 1 1 a b w (RA.one rfl (by rw [hSX]; exact K1)) (RA.one rfl (by rw [hTX]; exact K2))
    rw [passes_one hso hok hspan (by omega) ⟨q1a, ab1⟩, ← hPL, ← hnP] at h
    exact h)
  have HVW : Hid (∀ (t la : Int) (w : World), a ≤ t → t < b → -sl ≤ la → la ≤ sl → Calls Try.prog 26 #[.agg OX, .agg TX, .int .i64 t, .int .i64 la] w fun e w' => e = .returned (.tuple #[.bool (plainP s.orbit st (t - la)), .int .i64 0]) ∧ Ext w w') := Lib.hid (fun t la w h1 h2 h3 h4 => by
    have h := view_d s.orbit st t la w
    rw [view_plain hor hok ⟨by omega, by omega⟩ ⟨by omega, by omega⟩, hOX, hTX] at h
    exact h)
  have HSURE : Hid (∀ t, a ≤ t → t < b → (PL.any fun p => inS p.sure t) = allF (fun u => plainP s.orbit st (t - u)) (-sl) (2 * sl + 1).toNat) := Lib.hid (fun t h1 h2 => by rw [hPL, hsl]; exact sure_all (by omega) q1a h1 h2)
  have HCAN : Hid (∀ t, a ≤ t → t < b → (PL.any fun p => inS p.can t) = anyF (fun u => plainP s.orbit st (t - u)) (-sl) (2 * sl + 1).toNat) := Lib.hid (fun t h1 h2 => by rw [hPL, hsl]; exact can_any (by omega) q1a h1 h2)
  have HMANY : Hid (¬ nP ≤ 64 → 64 < b - a) := Lib.hid (fun h => by have := pair_many (s := s) (y := st) (span := ⟨a, b⟩) ⟨by omega, by omega⟩ ⟨q1a, ab1⟩ (by rw [← hPL, ← hnP]; exact h); exact this)
  have HMEM : Hid (∀ (k : Nat) (h : k < PL.length), PL[k].sat = sid ∧ PL[k].station = yid ∧ a ≤ PL[k].can.fr ∧ PL[k].can.tt ≤ b) := Lib.hid (fun k h => by have := pair_mem hso hok (span := ⟨a, b⟩) ⟨q1a, ab1, by show b ≤ 1000001; omega⟩ (p := PL[k]) (by rw [← hPL]; exact List.getElem_mem h); rw [hsid, hyid]; exact ⟨this.1, this.2.1, this.2.2.1, this.2.2.2.1⟩)
  have HPROP : Hid (nP ≤ 64 → properP PL = true) := Lib.hid (fun h => by rw [hPL]; exact pair_proper hso hok ⟨q1a, ab1, by show b ≤ 1000001; omega⟩ (by rw [← hPL, ← hnP]; exact h))
  have HOXS : Hid ((satCells s).toArray = SX) := Lib.hid hSX
  have HOX := Lib.hid hOX
  have HNP := Lib.hid hnP
  have HR9 : Hid (∀ (w : World) (g : Nat), Blk w g 27 SX → w.rangeAt g 2 OX.toList) := Lib.hid (fun w g K j u hu => by
    refine (Blk.range K SX.toList rfl) (2 + j) u ?_ |> fun h => by rw [Nat.zero_add] at h; exact h
    rw [← hSX]
    rw [← hOX] at hu
    match j, hu with
    | 0, hu => exact hu
    | 1, hu => exact hu
    | 2, hu => exact hu
    | 3, hu => exact hu
    | 4, hu => exact hu
    | 5, hu => exact hu
    | 6, hu => exact hu
    | j + 7, hu => simp [orbD] at hu)
  generalize s.orbit = ob at HVW HSURE HCAN
  clear hso hok hSX hTX hOX hsid hyid hsl hor hspan hPL hnP hsat hstn
  go_enter Try.func5, Try.ntmps5
  go_wp2_with fail
  obtain ⟨g5, hg5⟩ : ∃ g, g = w.heap.size := ⟨_, rfl⟩
  obtain ⟨g6, hg6⟩ : ∃ g, g = w.heap.size + 1 := ⟨_, rfl⟩
  have J5 : Blk ((w.alloc (.cells #[.int .i64 x0, .int .i64 x1, .int .i64 x2, .int .i64 x3, .int .i64 x4, .int .i64 x5, .int .i64 x6] 65)).alloc (.cells #[.int .i64 z0, .int .i64 z1, .int .i64 z2, .int .i64 z3] 66)) g5 65 #[.int .i64 x0, .int .i64 x1, .int .i64 x2, .int .i64 x3, .int .i64 x4, .int .i64 x5, .int .i64 x6] := (Blk.new_at _ _ _ hg5.symm).alloc _
  have J6 : Blk ((w.alloc (.cells #[.int .i64 x0, .int .i64 x1, .int .i64 x2, .int .i64 x3, .int .i64 x4, .int .i64 x5, .int .i64 x6] 65)).alloc (.cells #[.int .i64 z0, .int .i64 z1, .int .i64 z2, .int .i64 z3] 66)) g6 66 #[.int .i64 z0, .int .i64 z1, .int .i64 z2, .int .i64 z3] := Blk.new_at _ _ _ (by simp [hg6])
  have hB : Ext w ((w.alloc (.cells #[.int .i64 x0, .int .i64 x1, .int .i64 x2, .int .i64 x3, .int .i64 x4, .int .i64 x5, .int .i64 x6] 65)).alloc (.cells #[.int .i64 z0, .int .i64 z1, .int .i64 z2, .int .i64 z3] 66)) := bl_alloc (bl_alloc (Below.refl _ _) _) _
  rw [← hg6, ← hg5]
  generalize (w.alloc (.cells #[.int .i64 x0, .int .i64 x1, .int .i64 x2, .int .i64 x3, .int .i64 x4, .int .i64 x5, .int .i64 x6] 65)).alloc (.cells #[.int .i64 z0, .int .i64 z1, .int .i64 z2, .int .i64 z3] 66) = W0 at J5 J6 hB ⊢
  clear hg5 hg6
  refine (sane_any _).mono ?_
  rintro e W1 ⟨rfl, hx⟩
  have J5 := J5.ext hx
  have J6 := J6.ext hx
  have hB := Ext.trans hB hx
  clear hx
  have k_0 : W1.cell? ⟨g5, 0, none⟩ = some (.int .i64 x0) := J5.cell 0
  have k_1 : W1.cell? ⟨g5, 1, none⟩ = some (.int .i64 x1) := J5.cell 1
  have k_2 : W1.cell? ⟨g5, 2, none⟩ = some (.int .i64 x2) := J5.cell 2
  have k_3 : W1.cell? ⟨g5, 3, none⟩ = some (.int .i64 x3) := J5.cell 3
  have k_4 : W1.cell? ⟨g5, 4, none⟩ = some (.int .i64 x4) := J5.cell 4
  have k_5 : W1.cell? ⟨g5, 5, none⟩ = some (.int .i64 x5) := J5.cell 5
  have k_6 : W1.cell? ⟨g5, 6, none⟩ = some (.int .i64 x6) := J5.cell 6
  go_wp2_with (fail)
  refine (HSAT.out _).mono ?_
  rintro e W2 ⟨rfl, hx⟩
  have J5 := J5.ext hx
  have J6 := J6.ext hx
  have hB := Ext.trans hB hx
  clear hx
  clear k_0 k_1 k_2 k_3 k_4 k_5 k_6
  clear J5
  go_upto_region 4 with (refine wpList_store_new rfl 27 _ _ rfl _ SX rfl rfl (by rw [HZ1.out]; exact sat_size) (by rw [HZ1.out]; rfl) HO1.out ?_)
  have J11 : Blk (W2.alloc (.cells SX 27)) W2.heap.size 27 SX := Blk.new _ _ _
  have hx : Ext W2 (W2.alloc (.cells SX 27)) := bl_alloc (Below.refl _ _) _
  obtain ⟨g11, hg⟩ : ∃ g, g = W2.heap.size := ⟨_, rfl⟩
  have n_J6_J11 : g6 ≠ g11 := by have := J6.lt; omega
  have n_w_J11 : w.heap.size ≤ g11 := by have := hB.size; omega
  rw [← hg] at J11 ⊢
  generalize W2.alloc (.cells SX 27) = W3 at J11 hx ⊢
  have J6 := J6.ext hx
  have hB := Ext.trans hB hx
  clear hx
  clear hg
  have k_0 : W3.cell? ⟨g6, 0, none⟩ = some (.int .i64 z0) := J6.cell 0
  have k_1 : W3.cell? ⟨g6, 1, none⟩ = some (.int .i64 z1) := J6.cell 1
  have k_2 : W3.cell? ⟨g6, 2, none⟩ = some (.int .i64 z2) := J6.cell 2
  have k_3 : W3.cell? ⟨g6, 3, none⟩ = some (.int .i64 z3) := J6.cell 3
  go_wp2_with (fail)
  refine (HSTN.out _).mono ?_
  rintro e W4 ⟨rfl, hx⟩
  have J6 := J6.ext hx
  have hB := Ext.trans hB hx
  have J11 := J11.ext hx
  clear hx
  clear k_0 k_1 k_2 k_3
  clear n_J6_J11
  clear J6
  go_upto_region 5 with (refine wpList_store_new rfl 31 _ _ rfl _ TX rfl rfl (by rw [HZ2.out]; exact stn_size_) (by rw [HZ2.out]; rfl) HO2.out ?_)
  have J12 : Blk (W4.alloc (.cells TX 31)) W4.heap.size 31 TX := Blk.new _ _ _
  have hx : Ext W4 (W4.alloc (.cells TX 31)) := bl_alloc (Below.refl _ _) _
  obtain ⟨g12, hg⟩ : ∃ g, g = W4.heap.size := ⟨_, rfl⟩
  have n_J11_J12 : g11 ≠ g12 := by have := J11.lt; omega
  have n_w_J12 : w.heap.size ≤ g12 := by have := hB.size; omega
  rw [← hg] at J12 ⊢
  generalize W4.alloc (.cells TX 31) = W5 at J12 hx ⊢
  have hB := Ext.trans hB hx
  have J11 := J11.ext hx
  clear hx
  clear hg
  clear n_J11_J12
  go_wp2_with (fail)
  refine (HP1.out _).mono ?_
  rintro e w2 ⟨rfl, rfl⟩
  go_upto_region 6 with (fail)
  have J13 : Blk (W5.alloc (.cells #[.int .i64 a, .int .i64 0] 34)) W5.heap.size 34 #[.int .i64 a, .int .i64 0] := Blk.new _ _ _
  have hx : Ext W5 (W5.alloc (.cells #[.int .i64 a, .int .i64 0] 34)) := bl_alloc (Below.refl _ _) _
  obtain ⟨g13, hg⟩ : ∃ g, g = W5.heap.size := ⟨_, rfl⟩
  have n_J11_J13 : g11 ≠ g13 := by have := J11.lt; omega
  have n_J12_J13 : g12 ≠ g13 := by have := J12.lt; omega
  have n_w_J13 : w.heap.size ≤ g13 := by have := hB.size; omega
  rw [← hg] at J13 ⊢
  generalize W5.alloc (.cells #[.int .i64 a, .int .i64 0] 34) = W6 at J13 hx ⊢
  have hB := Ext.trans hB hx
  have J11 := J11.ext hx
  have J12 := J12.ext hx
  clear hx
  clear hg
  have t0 : W6.cell? ⟨g13, 0, none⟩ = some (.int .i64 a) := J13.cell 0
  have w1_ : IntKind.i64.wrap (a + 1) = a + 1 := IntWalk.i64_in _ (by omega)
  have w2_ : IntKind.i64.wrap (a + 1 + k2) = b := by rw [HBB.out]; exact IntWalk.i64_in _ (by omega)
  refine wp_region_obl 7 (fun ix vals v w1 => match ix with | 0 => v = .pointer (some ⟨g13, 0, none⟩) | 1 => v = .int .i64 a | 2 => v = .int .i64 (a + 1) | 3 => v = .int .i64 lg0 | 4 => v = .int .i64 k2 | 5 => v = .int .i64 b | _ => v = .pointer (some ⟨g13, 1, none⟩)) (by kernel_rfl) (by kernel_rfl) ?_ ?_ ?_ ?_
  · intro ix vals v w1 w2 hi hr hx
    match ix, hr with
    | 0, hr => exact hr
    | 1, hr => exact hr
    | 2, hr => exact hr
    | 3, hr => exact hr
    | 4, hr => exact hr
    | 5, hr => exact hr
    | (kx + 6), hr => exact hr
  · intro ix vals vals_ v w1 hi hv hr
    exact hr
  · refine obls_ofT [some 37, some 38, some 39, some 40, some 41, some 42, some 43, none] [(13, .pointer (some ⟨g13, 0, none⟩)), (3, .int .i64 lg0)] 200 (by kernel_rfl) (by kernel_rfl) ⟨by kernel_rfl, by kernel_rfl, trivial⟩ ?_
    refine ⟨?_, ?_, ?_, ?_, ?_, ?_, ?_, trivial⟩
    · intro vals w1 hx hd
      refine .run [(13, .pointer (some ⟨g13, 0, none⟩))] { dst := some 0, op := Go.Op.fieldAddr 34 (Go.Operand.const (.pointer (some ⟨g13, 0, none⟩))) 0, type := 0, pos := "", after := #[], guard := none } 37 ⟨.out (by kernel_rfl) (by kernel_rfl), trivial⟩ (by kernel_rfl) (by kernel_rfl) (by kernel_rfl) rfl rfl rfl ?_
      clear hd
      go_wp2
      exact ⟨rfl, Ext.refl _, rfl⟩
    · intro vals w1 hx hd
      have e0 : vals 0 = .pointer (some ⟨g13, 0, none⟩) := hd 0 (by decide)
      refine .run [(37, .pointer (some ⟨g13, 0, none⟩))] { dst := some 0, op := Go.Op.load 3 (Go.Operand.const (.pointer (some ⟨g13, 0, none⟩))), type := 3, pos := "", after := #[], guard := none } 38 ⟨.inn 0 (by kernel_rfl) e0, trivial⟩ (by kernel_rfl) (by kernel_rfl) (by kernel_rfl) rfl rfl rfl ?_
      clear hd e0
      have t0 := ext_cell hx t0
      go_wp2
      exact ⟨rfl, Ext.refl _, rfl⟩
    · intro vals w1 hx hd
      have e1 : vals 1 = .int .i64 a := hd 1 (by decide)
      refine .run [(38, .int .i64 a)] { dst := some 0, op := Go.Op.binOp Go.BinOp.add 3 (Go.Operand.const (.int .i64 a)) (Go.Operand.const (Go.Value.int Go.IntKind.i64 1)) 3, type := 3, pos := "", after := #[], guard := none } 39 ⟨.inn 1 (by kernel_rfl) e1, trivial⟩ (by kernel_rfl) (by kernel_rfl) (by kernel_rfl) rfl rfl rfl ?_
      clear hd e1
      go_wp2
      exact ⟨rfl, Ext.refl _, rfl⟩
    · intro vals w1 hx hd
      refine .run [(3, .int .i64 lg0)] { dst := some 0, op := Go.Op.move (Go.Operand.const (.int .i64 lg0)), type := 3, pos := "", after := #[], guard := none } 40 ⟨.out (by kernel_rfl) (by kernel_rfl), trivial⟩ (by kernel_rfl) (by kernel_rfl) (by kernel_rfl) rfl rfl rfl ?_
      clear hd
      go_wp2
      exact ⟨rfl, Ext.refl _, rfl⟩
    · intro vals w1 hx hd
      have e3 : vals 3 = .int .i64 lg0 := hd 3 (by decide)
      refine .run [(40, .int .i64 lg0)] { dst := some 0, op := Go.Op.call { callee := Go.Callee.value (Go.Operand.func 13), args := #[(Go.Operand.const (.int .i64 lg0)), Go.Operand.const (Go.Value.int Go.IntKind.i64 300)], argTypes := #[3, 3] }, type := 3, pos := "", after := #[], guard := none } 41 ⟨.inn 3 (by kernel_rfl) e3, trivial⟩ (by kernel_rfl) (by kernel_rfl) (by kernel_rfl) rfl rfl rfl ?_
      clear hd e3
      go_wp2_with fail
      refine (HP2.out _).mono ?_
      rintro e w2 ⟨rfl, rfl⟩
      go_wp2
      exact ⟨rfl, Ext.refl _, rfl⟩
    · intro vals w1 hx hd
      have e2 : vals 2 = .int .i64 (a + 1) := hd 2 (by decide)
      have e4 : vals 4 = .int .i64 k2 := hd 4 (by decide)
      refine .run [(39, .int .i64 (a + 1)), (41, .int .i64 k2)] { dst := some 0, op := Go.Op.binOp Go.BinOp.add 3 (Go.Operand.const (.int .i64 (a + 1))) (Go.Operand.const (.int .i64 k2)) 3, type := 3, pos := "", after := #[], guard := none } 42 ⟨.inn 2 (by kernel_rfl) e2, .inn 4 (by kernel_rfl) e4, trivial⟩ (by kernel_rfl) (by kernel_rfl) (by kernel_rfl) rfl rfl rfl ?_
      clear hd e2 e4
      go_wp2
      exact ⟨rfl, Ext.refl _, rfl⟩
    · intro vals w1 hx hd
      refine .run [(13, .pointer (some ⟨g13, 0, none⟩))] { dst := some 0, op := Go.Op.fieldAddr 34 (Go.Operand.const (.pointer (some ⟨g13, 0, none⟩))) 1, type := 0, pos := "", after := #[], guard := none } 43 ⟨.out (by kernel_rfl) (by kernel_rfl), trivial⟩ (by kernel_rfl) (by kernel_rfl) (by kernel_rfl) rfl rfl rfl ?_
      clear hd
      go_wp2
      exact ⟨rfl, Ext.refl _, rfl⟩
  intro vals W7 hx hf
  have e5 : vals 5 = .int .i64 b := hf 5 (by omega)
  have e6 : vals 6 = .pointer (some ⟨g13, 1, none⟩) := hf 6 (by omega)
  clear hf t0 w1_ w2_
  have hx := hx.undrew
  have hB := Ext.trans hB hx
  have J11 := J11.ext hx
  have J12 := J12.ext hx
  have J13 := J13.ext hx
  clear hx
  refine tail1 7 _ (by kernel_rfl) (by kernel_rfl) rfl ?_
  simp only [Lf, dstAt, Act.put, List.getElem?_toArray, List.getElem?_cons_zero, List.getElem?_cons_succ, Option.bind_some, List.setIfInBounds_toArray, List.set_cons_zero, List.set_cons_succ]
  rw [e5, e6]
  clear e5 e6
  have t1 : W7.cell? ⟨g13, 1, none⟩ = some (.int .i64 0) := J13.cell 1
  have t2 : W7.frozen? ⟨g13, 1, none⟩ = false := J13.frozen 1
  go_upto_region 7 with (fail)
  clear t1 t2
  have hB := hB.setCell (p := ⟨g13, 1, none⟩) n_w_J13 (.int .i64 b)
  have J11 := J11.far (p := ⟨g13, 1, none⟩) n_J11_J13 (.int .i64 b)
  have J12 := J12.far (p := ⟨g13, 1, none⟩) n_J12_J13 (.int .i64 b)
  have J13 := J13.set_ 1 (.int .i64 b)
  simp only [List.setIfInBounds_toArray, List.set_cons_zero, List.set_cons_succ] at J13
  generalize W7.setCell ⟨g13, 1, none⟩ (.int .i64 b) = W8 at hB J11 J12 J13 ⊢
  clear n_J11_J13 n_J12_J13 n_w_J13 n_w_J11 n_w_J12
  have p0 : ((W8.alloc (.cells SX 27)).alloc (.cells TX 31)).cell? ⟨g13, 0, none⟩ = some (.int .i64 a) := ((J13.alloc _).alloc _).cell 0
  have p1 : ((W8.alloc (.cells SX 27)).alloc (.cells TX 31)).cell? ⟨g13, 1, none⟩ = some (.int .i64 b) := ((J13.alloc _).alloc _).cell 1
  have J12a := J12.alloc (.cells SX 27)
  go_wp2_with (first | (refine wpList_load_st rfl 27 _ rfl g11 0 rfl SX SX.toList (by simp) _ (Blk.range J11 _ rfl) Try.underlying27 rfl (by rw [Array.length_toList, HZ1.out]; exact sat_size) ?_) | (refine wpList_buildOne rfl 36 27 _ rfl SX rfl Try.underlying36 21 info_sat2 HZ1.out (by omega) (by omega) ?_) | (refine wpList_load_st rfl 31 _ rfl g12 0 rfl TX TX.toList (by simp) _ (Blk.range J12a _ rfl) Try.underlying31 rfl (by rw [Array.length_toList, HZ2.out]; exact stn_size_) ?_) | (refine wpList_buildOne rfl 38 31 _ rfl TX rfl Try.underlying38 6 info_stn2 HZ2.out (by omega) (by omega) ?_))
  have JA : Blk ((W8.alloc (.cells SX 27)).alloc (.cells TX 31)) W8.heap.size 27 SX := (Blk.new _ _ _).alloc _
  have JB : Blk ((W8.alloc (.cells SX 27)).alloc (.cells TX 31)) (W8.heap.size + 1) 31 TX := Blk.new_at _ _ _ (by simp)
  have hx0 : Ext W8 ((W8.alloc (.cells SX 27)).alloc (.cells TX 31)) := bl_alloc (bl_alloc (Below.refl _ _) _) _
  have hps := HPS.out _ _ _ JA JB
  clear HPS JA JB J12a p0 p1
  by_cases h64 : nP ≤ 64
  · rw [if_pos h64] at hps
    refine hps.mono ?_
    rintro e W9 ⟨vp, rfl, hownp, hx⟩
    clear hps
    have hx := Ext.trans hx0 hx
    have hB := Ext.trans hB hx
    have J11 := J11.ext hx
    have J12 := J12.ext hx
    have J13 := J13.ext hx
    clear hx
    clear hx0
    rw [← HNP.out] at hownp
    obtain ⟨AP, cP, hvp, _, _⟩ := own_slice hownp
    subst hvp
    have HRP := Lib.hid (RA.of_own (cells := pasCells) hownp HNP.out.symm (by omega))
    clear hownp
    have t0 : W9.cell? ⟨g13, 0, none⟩ = some (.int .i64 a) := J13.cell 0
    have t1 : W9.cell? ⟨g13, 1, none⟩ = some (.int .i64 b) := J13.cell 1
    have w1_ : IntKind.i64.wrap (b - a) = b - a := IntWalk.i64_in _ (by omega)
    obtain ⟨be, hbe⟩ : ∃ n, n = a + k3 := ⟨_, rfl⟩
    have be1 : a ≤ be := by omega
    have be2 : be < b := by omega
    have w2_ : IntKind.i64.wrap (a + k3) = be := by rw [hbe]; exact IntWalk.i64_in _ (by omega)
    clear hbe
    have w3_ : IntKind.i64.wrap (be + 40) = be + 40 := IntWalk.i64_in _ (by omega)
    go_upto_region 10 with (fail)
    refine wp_region_obl 10 (fun ix vals v w1 => match ix with | 0 => v = .pointer (some ⟨g13, 0, none⟩) | 1 => v = .int .i64 a | 2 => v = .int .i64 ft0 | 3 => v = .pointer (some ⟨g13, 1, none⟩) | 4 => v = .int .i64 b | 5 => v = .pointer (some ⟨g13, 0, none⟩) | 6 => v = .int .i64 a | 7 => v = .int .i64 (b - a) | 8 => v = .int .i64 k3 | _ => v = .int .i64 be) (by kernel_rfl) (by kernel_rfl) ?_ ?_ ?_ ?_
    · intro ix vals v w1 w2 hi hr hx
      match ix, hr with
      | 0, hr => exact hr
      | 1, hr => exact hr
      | 2, hr => exact hr
      | 3, hr => exact hr
      | 4, hr => exact hr
      | 5, hr => exact hr
      | 6, hr => exact hr
      | 7, hr => exact hr
      | 8, hr => exact hr
      | (kx + 9), hr => exact hr
    · intro ix vals vals_ v w1 hi hv hr
      exact hr
    · refine obls_ofT [some 65, some 66, some 67, some 68, some 69, some 70, some 71, some 72, some 73, some 74, some 16] [(13, .pointer (some ⟨g13, 0, none⟩)), (4, .int .i64 ft0)] 200 (by kernel_rfl) (by kernel_rfl) ⟨by kernel_rfl, by kernel_rfl, trivial⟩ ?_
      refine ⟨?_, ?_, ?_, ?_, ?_, ?_, ?_, ?_, ?_, ?_, trivial⟩
      · intro vals w1 hx hd
        refine .run [(13, .pointer (some ⟨g13, 0, none⟩))] { dst := some 0, op := Go.Op.fieldAddr 34 (Go.Operand.const (.pointer (some ⟨g13, 0, none⟩))) 0, type := 0, pos := "", after := #[], guard := none } 65 ⟨.out (by kernel_rfl) (by kernel_rfl), trivial⟩ (by kernel_rfl) (by kernel_rfl) (by kernel_rfl) rfl rfl rfl ?_
        clear hd
        go_wp2
        exact ⟨rfl, Ext.refl _, rfl⟩
      · intro vals w1 hx hd
        have e0 : vals 0 = .pointer (some ⟨g13, 0, none⟩) := hd 0 (by decide)
        refine .run [(65, .pointer (some ⟨g13, 0, none⟩))] { dst := some 0, op := Go.Op.load 3 (Go.Operand.const (.pointer (some ⟨g13, 0, none⟩))), type := 3, pos := "", after := #[], guard := none } 66 ⟨.inn 0 (by kernel_rfl) e0, trivial⟩ (by kernel_rfl) (by kernel_rfl) (by kernel_rfl) rfl rfl rfl ?_
        clear hd e0
        have t0 := ext_cell hx t0
        go_wp2
        exact ⟨rfl, Ext.refl _, rfl⟩
      · intro vals w1 hx hd
        refine .run [(4, .int .i64 ft0)] { dst := some 0, op := Go.Op.move (Go.Operand.const (.int .i64 ft0)), type := 3, pos := "", after := #[], guard := none } 67 ⟨.out (by kernel_rfl) (by kernel_rfl), trivial⟩ (by kernel_rfl) (by kernel_rfl) (by kernel_rfl) rfl rfl rfl ?_
        clear hd
        go_wp2
        exact ⟨rfl, Ext.refl _, rfl⟩
      · intro vals w1 hx hd
        refine .run [(13, .pointer (some ⟨g13, 0, none⟩))] { dst := some 0, op := Go.Op.fieldAddr 34 (Go.Operand.const (.pointer (some ⟨g13, 0, none⟩))) 1, type := 0, pos := "", after := #[], guard := none } 68 ⟨.out (by kernel_rfl) (by kernel_rfl), trivial⟩ (by kernel_rfl) (by kernel_rfl) (by kernel_rfl) rfl rfl rfl ?_
        clear hd
        go_wp2
        exact ⟨rfl, Ext.refl _, rfl⟩
      · intro vals w1 hx hd
        have e3 : vals 3 = .pointer (some ⟨g13, 1, none⟩) := hd 3 (by decide)
        refine .run [(68, .pointer (some ⟨g13, 1, none⟩))] { dst := some 0, op := Go.Op.load 3 (Go.Operand.const (.pointer (some ⟨g13, 1, none⟩))), type := 3, pos := "", after := #[], guard := none } 69 ⟨.inn 3 (by kernel_rfl) e3, trivial⟩ (by kernel_rfl) (by kernel_rfl) (by kernel_rfl) rfl rfl rfl ?_
        clear hd e3
        have t1 := ext_cell hx t1
        go_wp2
        exact ⟨rfl, Ext.refl _, rfl⟩
      · intro vals w1 hx hd
        refine .run [(13, .pointer (some ⟨g13, 0, none⟩))] { dst := some 0, op := Go.Op.fieldAddr 34 (Go.Operand.const (.pointer (some ⟨g13, 0, none⟩))) 0, type := 0, pos := "", after := #[], guard := none } 70 ⟨.out (by kernel_rfl) (by kernel_rfl), trivial⟩ (by kernel_rfl) (by kernel_rfl) (by kernel_rfl) rfl rfl rfl ?_
        clear hd
        go_wp2
        exact ⟨rfl, Ext.refl _, rfl⟩
      · intro vals w1 hx hd
        have e5 : vals 5 = .pointer (some ⟨g13, 0, none⟩) := hd 5 (by decide)
        refine .run [(70, .pointer (some ⟨g13, 0, none⟩))] { dst := some 0, op := Go.Op.load 3 (Go.Operand.const (.pointer (some ⟨g13, 0, none⟩))), type := 3, pos := "", after := #[], guard := none } 71 ⟨.inn 5 (by kernel_rfl) e5, trivial⟩ (by kernel_rfl) (by kernel_rfl) (by kernel_rfl) rfl rfl rfl ?_
        clear hd e5
        have t0 := ext_cell hx t0
        go_wp2
        exact ⟨rfl, Ext.refl _, rfl⟩
      · intro vals w1 hx hd
        have e4 : vals 4 = .int .i64 b := hd 4 (by decide)
        have e6 : vals 6 = .int .i64 a := hd 6 (by decide)
        refine .run [(69, .int .i64 b), (71, .int .i64 a)] { dst := some 0, op := Go.Op.binOp Go.BinOp.sub 3 (Go.Operand.const (.int .i64 b)) (Go.Operand.const (.int .i64 a)) 3, type := 3, pos := "", after := #[], guard := none } 72 ⟨.inn 4 (by kernel_rfl) e4, .inn 6 (by kernel_rfl) e6, trivial⟩ (by kernel_rfl) (by kernel_rfl) (by kernel_rfl) rfl rfl rfl ?_
        clear hd e4 e6
        go_wp2
        exact ⟨rfl, Ext.refl _, rfl⟩
      · intro vals w1 hx hd
        have e2 : vals 2 = .int .i64 ft0 := hd 2 (by decide)
        have e7 : vals 7 = .int .i64 (b - a) := hd 7 (by decide)
        refine .run [(67, .int .i64 ft0), (72, .int .i64 (b - a))] { dst := some 0, op := Go.Op.call { callee := Go.Callee.value (Go.Operand.func 13), args := #[(Go.Operand.const (.int .i64 ft0)), (Go.Operand.const (.int .i64 (b - a)))], argTypes := #[3, 3] }, type := 3, pos := "", after := #[], guard := none } 73 ⟨.inn 2 (by kernel_rfl) e2, .inn 7 (by kernel_rfl) e7, trivial⟩ (by kernel_rfl) (by kernel_rfl) (by kernel_rfl) rfl rfl rfl ?_
        clear hd e2 e7
        go_wp2_with fail
        refine (HP3.out _).mono ?_
        rintro e w2 ⟨rfl, rfl⟩
        go_wp2
        exact ⟨rfl, Ext.refl _, rfl⟩
      · intro vals w1 hx hd
        have e1 : vals 1 = .int .i64 a := hd 1 (by decide)
        have e8 : vals 8 = .int .i64 k3 := hd 8 (by decide)
        refine .run [(66, .int .i64 a), (73, .int .i64 k3)] { dst := some 0, op := Go.Op.binOp Go.BinOp.add 3 (Go.Operand.const (.int .i64 a)) (Go.Operand.const (.int .i64 k3)) 3, type := 3, pos := "", after := #[], guard := none } 74 ⟨.inn 1 (by kernel_rfl) e1, .inn 8 (by kernel_rfl) e8, trivial⟩ (by kernel_rfl) (by kernel_rfl) (by kernel_rfl) rfl rfl rfl ?_
        clear hd e1 e8
        go_wp2
        exact ⟨rfl, Ext.refl _, rfl⟩
    intro vals W10 hx hf
    have e9 : vals 9 = .int .i64 be := hf 9 (by omega)
    clear hf t0 t1 w1_ w2_
    have hx := hx.undrew
    have hB := Ext.trans hB hx
    have J11 := J11.ext hx
    have J12 := J12.ext hx
    have J13 := J13.ext hx
    have HRP := Lib.hid ((HRP.out.below hx).more (Below.size hx))
    clear hx
    refine tail1 10 _ (by kernel_rfl) (by kernel_rfl) rfl ?_
    simp only [Lf, dstAt, Act.put, List.getElem?_toArray, List.getElem?_cons_zero, List.getElem?_cons_succ, Option.bind_some, List.setIfInBounds_toArray, List.set_cons_zero, List.set_cons_succ]
    rw [e9]
    clear e9
    obtain ⟨Wb, hWb⟩ : ∃ W : World, W = W10 := ⟨_, rfl⟩
    rw [← hWb] at J11 J12 J13 hB HRP ⊢
    clear hWb
    go_wp2
    go_loopw [17] (fun x wr => ∃ t : Int, be ≤ t ∧ t ≤ b ∧ x = .int .i64 t ∧ Ext Wb wr) (fun x _ => (b - intOf x).toNat)
    case atStart => exact ⟨be, Int.le_refl _, by omega, rfl, Ext.refl _⟩
    case round =>
      obtain ⟨t, ta, tb, rfl, hx⟩ := hrel
      have t1 : wr.cell? ⟨g13, 1, none⟩ = some (.int .i64 b) := (J13.ext hx).cell 1
      have s8 : wr.cell? ⟨g11, 8, none⟩ = some (.int .i64 sl) := ((J11.ext hx).cell 8).trans HC8.out
      have w4_ : IntKind.i64.wrap (-sl) = -sl := IntWalk.i64_in _ (by omega)
      have w5_ : IntKind.i64.wrap (t + 1) = t + 1 := IntWalk.i64_in _ (by omega)
      by_cases hlt : t < b ∧ t < be + 40
      · obtain ⟨hl1, hl2⟩ := hlt
        have ta2 : a ≤ t := by omega
        obtain ⟨Wc, hWc⟩ : ∃ W : World, W = wr := ⟨_, rfl⟩
        rw [← hWc] at hx s8 t1 ⊢
        clear hWc
        go_wp2
        clear s8 w4_ t1
        go_loopw [18, 19, 20] (fun x y z wr => ∃ k : Nat, (k : Int) ≤ 2 * sl + 1 ∧ z = .int .i64 (-sl + k) ∧ x = .bool (allF (fun u => plainP ob st (t - u)) (-sl) k) ∧ y = .bool (anyF (fun u => plainP ob st (t - u)) (-sl) k) ∧ Ext Wc wr) (fun _ _ z _ => (sl + 1 - intOf z).toNat)
        case atStart => exact ⟨0, by omega, by go_num, rfl, rfl, Ext.refl _⟩
        case round =>
          obtain ⟨k, hk, rfl, rfl, rfl, hy⟩ := hrel
          have s8 : wr.cell? ⟨g11, 8, none⟩ = some (.int .i64 sl) := ((J11.ext (Ext.trans hx hy)).cell 8).trans HC8.out
          obtain ⟨la, hla⟩ : ∃ n, n = -sl + (k : Int) := ⟨_, rfl⟩
          rw [← hla]
          have la1 : -sl ≤ la := by omega
          by_cases hks : (k : Int) < 2 * sl + 1
          · skip
            have la2 : la ≤ sl := by omega
            have K11 := J11.ext (Ext.trans hx hy)
            have K12 := J12.ext (Ext.trans hx hy)
            have hr9 := HR9.out _ _ K11
            have ea : allF (fun u => plainP ob st (t - u)) (-sl) (k + 1) = (allF (fun u => plainP ob st (t - u)) (-sl) k && plainP ob st (t - la)) := by rw [allF, hla]
            have ey : anyF (fun u => plainP ob st (t - u)) (-sl) (k + 1) = (anyF (fun u => plainP ob st (t - u)) (-sl) k || plainP ob st (t - la)) := by rw [anyF, hla]
            have HLA := Lib.hid hla
            clear hla
            have hvw := fun w => HVW.out t la w ta2 hl1 la1 la2
            generalize plainP ob st (t - la) = qv at ea ey hvw
            have HEA := Lib.hid ea
            have HEY := Lib.hid ey
            have HVQ := Lib.hid hvw
            clear ea ey hvw
            have w6_ : IntKind.i64.wrap (la + 1) = la + 1 := IntWalk.i64_in _ (by omega)
            go_wp2_with (first | (refine wpList_load_st rfl 25 _ rfl g11 2 rfl OX OX.toList (by simp) _ (hr9) Try.underlying25 rfl (by rw [Array.length_toList, HZ3.out]; exact orb_size) ?_) | (refine wpList_load_st rfl 31 _ rfl g12 0 rfl TX TX.toList (by simp) _ (Blk.range K12 _ rfl) Try.underlying31 rfl (by rw [Array.length_toList, HZ2.out]; exact stn_size_) ?_))
            refine (HVQ.out _).mono ?_
            rintro e W12 ⟨rfl, hz⟩
            have hy := Ext.trans hy hz
            clear hz K11 K12 hr9 s8
            generalize allF (fun u => plainP ob st (t - u)) (-sl) k = q1 at HEA
            generalize anyF (fun u => plainP ob st (t - u)) (-sl) k = q2 at HEY
            cases q1
            all_goals
              cases q2
              all_goals
                go_wp2
                go_roundw
                case rel => exact ⟨k + 1, by omega, by rw [HLA.out]; go_num, by rw [HEA.out]; simp, by rw [HEY.out]; simp, hy⟩
                case measure => simp [intOf]; omega
          · skip
            have hk2 : k = (2 * sl + 1).toNat := by omega
            have la2 : sl < la := by omega
            clear hla
            rw [hk2, ← HSURE.out t ta2 hl1, ← HCAN.out t ta2 hl1]
            clear hk2
            obtain ⟨qs, hqs⟩ : ∃ q, q = PL.any fun p => inS p.sure t := ⟨_, rfl⟩
            obtain ⟨qc, hqc⟩ : ∃ q, q = PL.any fun p => inS p.can t := ⟨_, rfl⟩
            rw [← hqs, ← hqc]
            have HQS := Lib.hid hqs
            have HQC := Lib.hid hqc
            clear hqs hqc
            have hx := Ext.trans hx hy
            clear hy
            obtain ⟨Wd, hWd⟩ : ∃ W : World, W = wr := ⟨_, rfl⟩
            rw [← hWd] at hx s8 ⊢
            clear hWd
            go_wp2
            clear s8
            go_loopw [23, 24, 25] (fun x y z wr => ∃ k : Nat, k ≤ nP ∧ z = .int .i64 k ∧ x = .bool ((PL.take k).any fun p => inS p.sure t) ∧ y = .bool ((PL.take k).any fun p => inS p.can t) ∧ Ext Wd wr) (fun _ _ z _ => nP - (intOf z).toNat)
            case atStart => exact ⟨0, Nat.zero_le _, rfl, rfl, rfl, Ext.refl _⟩
            case round =>
              clear hk
              obtain ⟨k, hk, rfl, rfl, rfl, hy⟩ := hrel
              by_cases hkn : k < nP
              · skip
                obtain ⟨gp, gpo, hz1, hA1, _, hc1⟩ := (HRP.out.below (Ext.trans hx hy)).at_ pas_len hkn
                have ea : (PL.take (k + 1)).any (fun p => inS p.sure t) = ((PL.take k).any (fun p => inS p.sure t) || inS PL[k].sure t) := by rw [List.take_succ_eq_append_getElem hz1, List.any_append]; simp
                have ey : (PL.take (k + 1)).any (fun p => inS p.can t) = ((PL.take k).any (fun p => inS p.can t) || inS PL[k].can t) := by rw [List.take_succ_eq_append_getElem hz1, List.any_append]; simp
                generalize PL[k] = z at hc1 ea ey
                have d2 : wr.cell? ⟨gp, gpo + k * 6 + 2, none⟩ = some (.int .i64 z.sure.fr) := hc1 2 (by omega)
                have d3 : wr.cell? ⟨gp, gpo + k * 6 + 3, none⟩ = some (.int .i64 z.sure.tt) := hc1 3 (by omega)
                have d4 : wr.cell? ⟨gp, gpo + k * 6 + 4, none⟩ = some (.int .i64 z.can.fr) := hc1 4 (by omega)
                have d5 : wr.cell? ⟨gp, gpo + k * 6 + 5, none⟩ = some (.int .i64 z.can.tt) := hc1 5 (by omega)
                have hi1 := fun w => in_any z.sure.fr z.sure.tt t w
                have hi2 := fun w => in_any z.can.fr z.can.tt t w
                rw [show (⟨z.sure.fr, z.sure.tt⟩ : Spl) = z.sure from rfl] at hi1
                rw [show (⟨z.can.fr, z.can.tt⟩ : Spl) = z.can from rfl] at hi2
                generalize inS z.sure t = r1 at hi1 ea
                generalize inS z.can t = r2 at hi2 ey
                generalize z.sure.fr = f1 at d2 hi1
                generalize z.sure.tt = f2 at d3 hi1
                generalize z.can.fr = f3 at d4 hi2
                generalize z.can.tt = f4 at d5 hi2
                have HI1 := Lib.hid hi1
                have HI2 := Lib.hid hi2
                have HEA := Lib.hid ea
                have HEY := Lib.hid ey
                clear hc1 hz1 hi1 hi2 ea ey
                subst hA1
                generalize (PL.take k).any (fun p => inS p.sure t) = q1 at HEA
                generalize (PL.take k).any (fun p => inS p.can t) = q2 at HEY
                cases q1
                · go_wp2_with fail
                  refine (HI1.out _).mono ?_
                  rintro e W13 ⟨rfl, hz⟩
                  have hy := Ext.trans hy hz
                  have d4 := ext_cell hz d4
                  have d5 := ext_cell hz d5
                  clear hz d2 d3
                  cases q2
                  · go_wp2_with fail
                    refine (HI2.out _).mono ?_
                    rintro e W14 ⟨rfl, hz⟩
                    have hy := Ext.trans hy hz
                    clear hz d4 d5
                    go_wp2
                    go_roundw
                    case rel => exact ⟨k + 1, by omega, by go_num, by rw [HEA.out]; simp, by rw [HEY.out]; simp, hy⟩
                    case measure => simp [intOf]; omega
                  · clear d4 d5
                    go_wp2
                    go_roundw
                    case rel => exact ⟨k + 1, by omega, by go_num, by rw [HEA.out]; simp, by rw [HEY.out]; simp, hy⟩
                    case measure => simp [intOf]; omega
                · clear d2 d3
                  cases q2
                  · go_wp2_with fail
                    refine (HI2.out _).mono ?_
                    rintro e W14 ⟨rfl, hz⟩
                    have hy := Ext.trans hy hz
                    clear hz d4 d5
                    go_wp2
                    go_roundw
                    case rel => exact ⟨k + 1, by omega, by go_num, by rw [HEA.out]; simp, by rw [HEY.out]; simp, hy⟩
                    case measure => simp [intOf]; omega
                  · clear d4 d5
                    go_wp2
                    go_roundw
                    case rel => exact ⟨k + 1, by omega, by go_num, by rw [HEA.out]; simp, by rw [HEY.out]; simp, hy⟩
                    case measure => simp [intOf]; omega
              · skip
                have hk2 : k = nP := by omega
                subst hk2
                rw [List.take_of_length_le (by rw [← HNP.out]; exact Nat.le_refl _), ← HQS.out, ← HQC.out]
                clear HQS HQC
                have hx := Ext.trans hx hy
                clear hy
                cases qs
                all_goals
                  cases qc
                  all_goals
                    go_wp2
                    go_roundw
                    case rel => exact ⟨t + 1, by omega, by omega, rfl, hx⟩
                    case measure => simp [intOf]; omega
      · skip
        have hx2 := hx
        obtain ⟨We, hWe⟩ : ∃ W : World, W = wr := ⟨_, rfl⟩
        rw [← hWe] at hx t1 ⊢
        clear hWe hx2 s8 w4_ w5_
        by_cases hl1 : t < b
        · have hl2 : ¬ t < be + 40 := fun h => hlt ⟨hl1, h⟩
          clear hlt
          go_wp2
          clear t1
          go_loopw [26] (fun x wr => ∃ k : Nat, k ≤ nP ∧ x = .int .i64 k ∧ Ext We wr) (fun x _ => nP - (intOf x).toNat)
          case atStart => exact ⟨0, Nat.zero_le _, rfl, Ext.refl _⟩
          case round =>
            obtain ⟨k, hk, rfl, hy⟩ := hrel
            by_cases hkn : k < nP
            · skip
              obtain ⟨gp, gpo, hz1, hA1, _, hc1⟩ := (HRP.out.below (Ext.trans hx hy)).at_ pas_len hkn
              have hm := HMEM.out k hz1
              generalize PL[k] = z at hc1 hm
              have d1 : wr.cell? ⟨gp, gpo + k * 6 + 1, none⟩ = some (.int .i64 z.station) := hc1 1 (by omega)
              have d4 : wr.cell? ⟨gp, gpo + k * 6 + 4, none⟩ = some (.int .i64 z.can.fr) := hc1 4 (by omega)
              have d5 : wr.cell? ⟨gp, gpo + k * 6 + 5, none⟩ = some (.int .i64 z.can.tt) := hc1 5 (by omega)
              have d0 : wr.cell? ⟨gp, gpo + k * 6, none⟩ = some (.int .i64 z.sat) := hc1 0 (by omega)
              obtain ⟨m1, m2, m3, m4⟩ := hm
              rw [m1] at d0
              rw [m2] at d1
              generalize z.can.fr = f3 at d4 m3
              generalize z.can.tt = f4 at d5 m4
              clear hc1 hz1 m1 m2 z
              subst hA1
              have K11 := J11.ext (Ext.trans hx hy)
              have K12 := J12.ext (Ext.trans hx hy)
              have K13 := J13.ext (Ext.trans hx hy)
              have i0 : wr.cell? ⟨g11, 0, none⟩ = some (.int .i64 sid) := (K11.cell 0).trans HC0.out
              have i1 : wr.cell? ⟨g12, 0, none⟩ = some (.int .i64 yid) := (K12.cell 0).trans HD0.out
              have t0 : wr.cell? ⟨g13, 0, none⟩ = some (.int .i64 a) := K13.cell 0
              have t1 : wr.cell? ⟨g13, 1, none⟩ = some (.int .i64 b) := K13.cell 1
              clear K11 K12 K13
              have cf1 : decide (f3 < a) = false := by simp; omega
              have cf2 : decide (b < f4) = false := by simp; omega
              go_upto_region 36 with (fail)
              refine wp_region_obl 40 (fun ix vals v w1 => match ix with | 0 => v = .slice (some ⟨gp, gpo, none⟩) nP cP | 1 => v = .int .i64 (k : Int) | 2 => v = .pointer (some ⟨gp, gpo + k * 6, none⟩) | 3 => v = .pointer (some ⟨gp, gpo + k * 6, none⟩) | 4 => v = .int .i64 sid | 5 => v = .pointer (some ⟨g11, 0, none⟩) | 6 => v = .int .i64 sid | 7 => v = .bool false | 8 => v = .bool false | 9 => v = .slice (some ⟨gp, gpo, none⟩) nP cP | 10 => v = .int .i64 (k : Int) | 11 => v = .pointer (some ⟨gp, gpo + k * 6, none⟩) | 12 => v = .pointer (some ⟨gp, gpo + k * 6 + 1, none⟩) | 13 => v = .int .i64 yid | 14 => v = .pointer (some ⟨g12, 0, none⟩) | 15 => v = .int .i64 yid | 16 => v = .bool false | 17 => v = .bool false | 18 => v = .bool false | 19 => v = .slice (some ⟨gp, gpo, none⟩) nP cP | 20 => v = .int .i64 (k : Int) | 21 => v = .pointer (some ⟨gp, gpo + k * 6, none⟩) | 22 => v = .pointer (some ⟨gp, gpo + k * 6 + 4, none⟩) | 23 => v = .pointer (some ⟨gp, gpo + k * 6 + 4, none⟩) | 24 => v = .int .i64 f3 | 25 => v = .pointer (some ⟨g13, 0, none⟩) | 26 => v = .int .i64 a | 27 => v = .bool false | 28 => v = .bool false | 29 => v = .bool false | 30 => v = .slice (some ⟨gp, gpo, none⟩) nP cP | 31 => v = .int .i64 (k : Int) | 32 => v = .pointer (some ⟨gp, gpo + k * 6, none⟩) | 33 => v = .pointer (some ⟨gp, gpo + k * 6 + 4, none⟩) | 34 => v = .pointer (some ⟨gp, gpo + k * 6 + 5, none⟩) | 35 => v = .int .i64 f4 | 36 => v = .pointer (some ⟨g13, 1, none⟩) | 37 => v = .int .i64 b | 38 => v = .bool false | _ => v = .bool false) (by kernel_rfl) (by kernel_rfl) ?_ ?_ ?_ ?_
              · intro ix vals v w1 w2 hi hr hx
                match ix, hr with
                | 0, hr => exact hr
                | 1, hr => exact hr
                | 2, hr => exact hr
                | 3, hr => exact hr
                | 4, hr => exact hr
                | 5, hr => exact hr
                | 6, hr => exact hr
                | 7, hr => exact hr
                | 8, hr => exact hr
                | 9, hr => exact hr
                | 10, hr => exact hr
                | 11, hr => exact hr
                | 12, hr => exact hr
                | 13, hr => exact hr
                | 14, hr => exact hr
                | 15, hr => exact hr
                | 16, hr => exact hr
                | 17, hr => exact hr
                | 18, hr => exact hr
                | 19, hr => exact hr
                | 20, hr => exact hr
                | 21, hr => exact hr
                | 22, hr => exact hr
                | 23, hr => exact hr
                | 24, hr => exact hr
                | 25, hr => exact hr
                | 26, hr => exact hr
                | 27, hr => exact hr
                | 28, hr => exact hr
                | 29, hr => exact hr
                | 30, hr => exact hr
                | 31, hr => exact hr
                | 32, hr => exact hr
                | 33, hr => exact hr
                | 34, hr => exact hr
                | 35, hr => exact hr
                | 36, hr => exact hr
                | 37, hr => exact hr
                | 38, hr => exact hr
                | (kx + 39), hr => exact hr
              · intro ix vals vals_ v w1 hi hv hr
                exact hr
              · refine obls_ofT [some 158, some 159, some 160, some 161, some 162, some 163, some 164, some 165, some 166, some 167, some 168, some 169, some 170, some 171, some 172, some 173, some 174, some 175, some 176, some 177, some 178, some 179, some 180, some 181, some 182, some 183, some 184, some 185, some 186, some 187, some 188, some 189, some 190, some 191, some 192, some 193, some 194, some 195, some 196, some 197] [(14, .slice (some ⟨gp, gpo, none⟩) nP cP), (26, .int .i64 (k : Int)), (11, .pointer (some ⟨g11, 0, none⟩)), (12, .pointer (some ⟨g12, 0, none⟩)), (13, .pointer (some ⟨g13, 0, none⟩))] 200 (by kernel_rfl) (by kernel_rfl) ⟨by kernel_rfl, by kernel_rfl, by kernel_rfl, by kernel_rfl, by kernel_rfl, trivial⟩ ?_
                refine ⟨?_, ?_, ?_, ?_, ?_, ?_, ?_, ?_, ?_, ?_, ?_, ?_, ?_, ?_, ?_, ?_, ?_, ?_, ?_, ?_, ?_, ?_, ?_, ?_, ?_, ?_, ?_, ?_, ?_, ?_, ?_, ?_, ?_, ?_, ?_, ?_, ?_, ?_, ?_, ?_, trivial⟩
                · intro vals w1 hx hd
                  refine .run [(14, .slice (some ⟨gp, gpo, none⟩) nP cP)] { dst := some 0, op := Go.Op.move (Go.Operand.const (.slice (some ⟨gp, gpo, none⟩) nP cP)), type := 32, pos := "", after := #[], guard := none } 158 ⟨.out (by kernel_rfl) (by kernel_rfl), trivial⟩ (by kernel_rfl) (by kernel_rfl) (by kernel_rfl) rfl rfl rfl ?_
                  clear hd
                  go_wp2
                  exact ⟨rfl, Ext.refl _, rfl⟩
                · intro vals w1 hx hd
                  refine .run [(26, .int .i64 (k : Int))] { dst := some 0, op := Go.Op.move (Go.Operand.const (.int .i64 (k : Int))), type := 3, pos := "", after := #[], guard := none } 159 ⟨.out (by kernel_rfl) (by kernel_rfl), trivial⟩ (by kernel_rfl) (by kernel_rfl) (by kernel_rfl) rfl rfl rfl ?_
                  clear hd
                  go_wp2
                  exact ⟨rfl, Ext.refl _, rfl⟩
                · intro vals w1 hx hd
                  have e0 : vals 0 = .slice (some ⟨gp, gpo, none⟩) nP cP := hd 0 (by decide)
                  have e1 : vals 1 = .int .i64 (k : Int) := hd 1 (by decide)
                  refine .run [(158, .slice (some ⟨gp, gpo, none⟩) nP cP), (159, .int .i64 (k : Int))] { dst := some 0, op := Go.Op.indexAddr 32 (Go.Operand.const (.slice (some ⟨gp, gpo, none⟩) nP cP)) (Go.Operand.const (.int .i64 (k : Int))), type := 0, pos := "", after := #[], guard := none } 160 ⟨.inn 0 (by kernel_rfl) e0, .inn 1 (by kernel_rfl) e1, trivial⟩ (by kernel_rfl) (by kernel_rfl) (by kernel_rfl) rfl rfl rfl ?_
                  clear hd e0 e1
                  go_wp2
                  exact ⟨rfl, Ext.refl _, rfl⟩
                · intro vals w1 hx hd
                  have e2 : vals 2 = .pointer (some ⟨gp, gpo + k * 6, none⟩) := hd 2 (by decide)
                  refine .run [(160, .pointer (some ⟨gp, gpo + k * 6, none⟩))] { dst := some 0, op := Go.Op.fieldAddr 47 (Go.Operand.const (.pointer (some ⟨gp, gpo + k * 6, none⟩))) 0, type := 0, pos := "", after := #[], guard := none } 161 ⟨.inn 2 (by kernel_rfl) e2, trivial⟩ (by kernel_rfl) (by kernel_rfl) (by kernel_rfl) rfl rfl rfl ?_
                  clear hd e2
                  go_wp2
                  exact ⟨rfl, Ext.refl _, rfl⟩
                · intro vals w1 hx hd
                  have e3 : vals 3 = .pointer (some ⟨gp, gpo + k * 6, none⟩) := hd 3 (by decide)
                  refine .run [(161, .pointer (some ⟨gp, gpo + k * 6, none⟩))] { dst := some 0, op := Go.Op.load 3 (Go.Operand.const (.pointer (some ⟨gp, gpo + k * 6, none⟩))), type := 3, pos := "", after := #[], guard := none } 162 ⟨.inn 3 (by kernel_rfl) e3, trivial⟩ (by kernel_rfl) (by kernel_rfl) (by kernel_rfl) rfl rfl rfl ?_
                  clear hd e3
                  have d0 := ext_cell hx d0
                  go_wp2
                  exact ⟨rfl, Ext.refl _, rfl⟩
                · intro vals w1 hx hd
                  refine .run [(11, .pointer (some ⟨g11, 0, none⟩))] { dst := some 0, op := Go.Op.fieldAddr 27 (Go.Operand.const (.pointer (some ⟨g11, 0, none⟩))) 0, type := 0, pos := "", after := #[], guard := none } 163 ⟨.out (by kernel_rfl) (by kernel_rfl), trivial⟩ (by kernel_rfl) (by kernel_rfl) (by kernel_rfl) rfl rfl rfl ?_
                  clear hd
                  go_wp2
                  exact ⟨rfl, Ext.refl _, rfl⟩
                · intro vals w1 hx hd
                  have e5 : vals 5 = .pointer (some ⟨g11, 0, none⟩) := hd 5 (by decide)
                  refine .run [(163, .pointer (some ⟨g11, 0, none⟩))] { dst := some 0, op := Go.Op.load 3 (Go.Operand.const (.pointer (some ⟨g11, 0, none⟩))), type := 3, pos := "", after := #[], guard := none } 164 ⟨.inn 5 (by kernel_rfl) e5, trivial⟩ (by kernel_rfl) (by kernel_rfl) (by kernel_rfl) rfl rfl rfl ?_
                  clear hd e5
                  have i0 := ext_cell hx i0
                  go_wp2
                  exact ⟨rfl, Ext.refl _, rfl⟩
                · intro vals w1 hx hd
                  have e4 : vals 4 = .int .i64 sid := hd 4 (by decide)
                  have e6 : vals 6 = .int .i64 sid := hd 6 (by decide)
                  refine .run [(162, .int .i64 sid), (164, .int .i64 sid)] { dst := some 0, op := Go.Op.binOp Go.BinOp.neq 3 (Go.Operand.const (.int .i64 sid)) (Go.Operand.const (.int .i64 sid)) 3, type := 4, pos := "", after := #[], guard := none } 165 ⟨.inn 4 (by kernel_rfl) e4, .inn 6 (by kernel_rfl) e6, trivial⟩ (by kernel_rfl) (by kernel_rfl) (by kernel_rfl) rfl rfl rfl ?_
                  clear hd e4 e6
                  go_wp2
                  exact ⟨rfl, Ext.refl _, rfl⟩
                · intro vals w1 hx hd
                  have e7 : vals 7 = .bool false := hd 7 (by decide)
                  refine .run [(165, .bool false)] { dst := some 0, op := Go.Op.move (Go.Operand.const (.bool false)), type := 4, pos := "", after := #[], guard := none } 166 ⟨.inn 7 (by kernel_rfl) e7, trivial⟩ (by kernel_rfl) (by kernel_rfl) (by kernel_rfl) rfl rfl rfl ?_
                  clear hd e7
                  go_wp2
                  exact ⟨rfl, Ext.refl _, rfl⟩
                · intro vals w1 hx hd
                  have e8 : vals 8 = .bool false := hd 8 (by decide)
                  refine .run [(14, .slice (some ⟨gp, gpo, none⟩) nP cP), (166, .bool false)] { dst := some 0, op := Go.Op.move (Go.Operand.const (.slice (some ⟨gp, gpo, none⟩) nP cP)), type := 32, pos := "", after := #[], guard := none } 167 ⟨.out (by kernel_rfl) (by kernel_rfl), .inn 8 (by kernel_rfl) e8, trivial⟩ (by kernel_rfl) (by kernel_rfl) (by kernel_rfl) rfl rfl rfl ?_
                  clear hd e8
                  go_wp2
                  exact ⟨rfl, Ext.refl _, rfl⟩
                · intro vals w1 hx hd
                  have e8 : vals 8 = .bool false := hd 8 (by decide)
                  refine .run [(26, .int .i64 (k : Int)), (166, .bool false)] { dst := some 0, op := Go.Op.move (Go.Operand.const (.int .i64 (k : Int))), type := 3, pos := "", after := #[], guard := none } 168 ⟨.out (by kernel_rfl) (by kernel_rfl), .inn 8 (by kernel_rfl) e8, trivial⟩ (by kernel_rfl) (by kernel_rfl) (by kernel_rfl) rfl rfl rfl ?_
                  clear hd e8
                  go_wp2
                  exact ⟨rfl, Ext.refl _, rfl⟩
                · intro vals w1 hx hd
                  have e9 : vals 9 = .slice (some ⟨gp, gpo, none⟩) nP cP := hd 9 (by decide)
                  have e10 : vals 10 = .int .i64 (k : Int) := hd 10 (by decide)
                  have e8 : vals 8 = .bool false := hd 8 (by decide)
                  refine .run [(167, .slice (some ⟨gp, gpo, none⟩) nP cP), (168, .int .i64 (k : Int)), (166, .bool false)] { dst := some 0, op := Go.Op.indexAddr 32 (Go.Operand.const (.slice (some ⟨gp, gpo, none⟩) nP cP)) (Go.Operand.const (.int .i64 (k : Int))), type := 0, pos := "", after := #[], guard := none } 169 ⟨.inn 9 (by kernel_rfl) e9, .inn 10 (by kernel_rfl) e10, .inn 8 (by kernel_rfl) e8, trivial⟩ (by kernel_rfl) (by kernel_rfl) (by kernel_rfl) rfl rfl rfl ?_
                  clear hd e9 e10 e8
                  go_wp2
                  exact ⟨rfl, Ext.refl _, rfl⟩
                · intro vals w1 hx hd
                  have e11 : vals 11 = .pointer (some ⟨gp, gpo + k * 6, none⟩) := hd 11 (by decide)
                  have e8 : vals 8 = .bool false := hd 8 (by decide)
                  refine .run [(169, .pointer (some ⟨gp, gpo + k * 6, none⟩)), (166, .bool false)] { dst := some 0, op := Go.Op.fieldAddr 47 (Go.Operand.const (.pointer (some ⟨gp, gpo + k * 6, none⟩))) 1, type := 0, pos := "", after := #[], guard := none } 170 ⟨.inn 11 (by kernel_rfl) e11, .inn 8 (by kernel_rfl) e8, trivial⟩ (by kernel_rfl) (by kernel_rfl) (by kernel_rfl) rfl rfl rfl ?_
                  clear hd e11 e8
                  go_wp2
                  exact ⟨rfl, Ext.refl _, rfl⟩
                · intro vals w1 hx hd
                  have e12 : vals 12 = .pointer (some ⟨gp, gpo + k * 6 + 1, none⟩) := hd 12 (by decide)
                  have e8 : vals 8 = .bool false := hd 8 (by decide)
                  refine .run [(170, .pointer (some ⟨gp, gpo + k * 6 + 1, none⟩)), (166, .bool false)] { dst := some 0, op := Go.Op.load 3 (Go.Operand.const (.pointer (some ⟨gp, gpo + k * 6 + 1, none⟩))), type := 3, pos := "", after := #[], guard := none } 171 ⟨.inn 12 (by kernel_rfl) e12, .inn 8 (by kernel_rfl) e8, trivial⟩ (by kernel_rfl) (by kernel_rfl) (by kernel_rfl) rfl rfl rfl ?_
                  clear hd e12 e8
                  have d1 := ext_cell hx d1
                  go_wp2
                  exact ⟨rfl, Ext.refl _, rfl⟩
                · intro vals w1 hx hd
                  have e8 : vals 8 = .bool false := hd 8 (by decide)
                  refine .run [(12, .pointer (some ⟨g12, 0, none⟩)), (166, .bool false)] { dst := some 0, op := Go.Op.fieldAddr 31 (Go.Operand.const (.pointer (some ⟨g12, 0, none⟩))) 0, type := 0, pos := "", after := #[], guard := none } 172 ⟨.out (by kernel_rfl) (by kernel_rfl), .inn 8 (by kernel_rfl) e8, trivial⟩ (by kernel_rfl) (by kernel_rfl) (by kernel_rfl) rfl rfl rfl ?_
                  clear hd e8
                  go_wp2
                  exact ⟨rfl, Ext.refl _, rfl⟩
                · intro vals w1 hx hd
                  have e14 : vals 14 = .pointer (some ⟨g12, 0, none⟩) := hd 14 (by decide)
                  have e8 : vals 8 = .bool false := hd 8 (by decide)
                  refine .run [(172, .pointer (some ⟨g12, 0, none⟩)), (166, .bool false)] { dst := some 0, op := Go.Op.load 3 (Go.Operand.const (.pointer (some ⟨g12, 0, none⟩))), type := 3, pos := "", after := #[], guard := none } 173 ⟨.inn 14 (by kernel_rfl) e14, .inn 8 (by kernel_rfl) e8, trivial⟩ (by kernel_rfl) (by kernel_rfl) (by kernel_rfl) rfl rfl rfl ?_
                  clear hd e14 e8
                  have i1 := ext_cell hx i1
                  go_wp2
                  exact ⟨rfl, Ext.refl _, rfl⟩
                · intro vals w1 hx hd
                  have e13 : vals 13 = .int .i64 yid := hd 13 (by decide)
                  have e15 : vals 15 = .int .i64 yid := hd 15 (by decide)
                  have e8 : vals 8 = .bool false := hd 8 (by decide)
                  refine .run [(171, .int .i64 yid), (173, .int .i64 yid), (166, .bool false)] { dst := some 0, op := Go.Op.binOp Go.BinOp.neq 3 (Go.Operand.const (.int .i64 yid)) (Go.Operand.const (.int .i64 yid)) 3, type := 4, pos := "", after := #[], guard := none } 174 ⟨.inn 13 (by kernel_rfl) e13, .inn 15 (by kernel_rfl) e15, .inn 8 (by kernel_rfl) e8, trivial⟩ (by kernel_rfl) (by kernel_rfl) (by kernel_rfl) rfl rfl rfl ?_
                  clear hd e13 e15 e8
                  go_wp2
                  exact ⟨rfl, Ext.refl _, rfl⟩
                · intro vals w1 hx hd
                  have e8 : vals 8 = .bool false := hd 8 (by decide)
                  have e16 : vals 16 = .bool false := hd 16 (by decide)
                  refine .run [(166, .bool false), (174, .bool false)] { dst := some 0, op := Go.Op.pick (Go.Operand.const (.bool false)) (Go.Operand.const (Go.Value.bool true)) (Go.Operand.const (.bool false)), type := 4, pos := "", after := #[], guard := none } 175 ⟨.inn 8 (by kernel_rfl) e8, .inn 16 (by kernel_rfl) e16, trivial⟩ (by kernel_rfl) (by kernel_rfl) (by kernel_rfl) rfl rfl rfl ?_
                  clear hd e8 e16
                  go_wp2
                  exact ⟨rfl, Ext.refl _, rfl⟩
                · intro vals w1 hx hd
                  have e17 : vals 17 = .bool false := hd 17 (by decide)
                  refine .run [(175, .bool false)] { dst := some 0, op := Go.Op.move (Go.Operand.const (.bool false)), type := 4, pos := "", after := #[], guard := none } 176 ⟨.inn 17 (by kernel_rfl) e17, trivial⟩ (by kernel_rfl) (by kernel_rfl) (by kernel_rfl) rfl rfl rfl ?_
                  clear hd e17
                  go_wp2
                  exact ⟨rfl, Ext.refl _, rfl⟩
                · intro vals w1 hx hd
                  have e18 : vals 18 = .bool false := hd 18 (by decide)
                  refine .run [(14, .slice (some ⟨gp, gpo, none⟩) nP cP), (176, .bool false)] { dst := some 0, op := Go.Op.move (Go.Operand.const (.slice (some ⟨gp, gpo, none⟩) nP cP)), type := 32, pos := "", after := #[], guard := none } 177 ⟨.out (by kernel_rfl) (by kernel_rfl), .inn 18 (by kernel_rfl) e18, trivial⟩ (by kernel_rfl) (by kernel_rfl) (by kernel_rfl) rfl rfl rfl ?_
                  clear hd e18
                  go_wp2
                  exact ⟨rfl, Ext.refl _, rfl⟩
                · intro vals w1 hx hd
                  have e18 : vals 18 = .bool false := hd 18 (by decide)
                  refine .run [(26, .int .i64 (k : Int)), (176, .bool false)] { dst := some 0, op := Go.Op.move (Go.Operand.const (.int .i64 (k : Int))), type := 3, pos := "", after := #[], guard := none } 178 ⟨.out (by kernel_rfl) (by kernel_rfl), .inn 18 (by kernel_rfl) e18, trivial⟩ (by kernel_rfl) (by kernel_rfl) (by kernel_rfl) rfl rfl rfl ?_
                  clear hd e18
                  go_wp2
                  exact ⟨rfl, Ext.refl _, rfl⟩
                · intro vals w1 hx hd
                  have e19 : vals 19 = .slice (some ⟨gp, gpo, none⟩) nP cP := hd 19 (by decide)
                  have e20 : vals 20 = .int .i64 (k : Int) := hd 20 (by decide)
                  have e18 : vals 18 = .bool false := hd 18 (by decide)
                  refine .run [(177, .slice (some ⟨gp, gpo, none⟩) nP cP), (178, .int .i64 (k : Int)), (176, .bool false)] { dst := some 0, op := Go.Op.indexAddr 32 (Go.Operand.const (.slice (some ⟨gp, gpo, none⟩) nP cP)) (Go.Operand.const (.int .i64 (k : Int))), type := 0, pos := "", after := #[], guard := none } 179 ⟨.inn 19 (by kernel_rfl) e19, .inn 20 (by kernel_rfl) e20, .inn 18 (by kernel_rfl) e18, trivial⟩ (by kernel_rfl) (by kernel_rfl) (by kernel_rfl) rfl rfl rfl ?_
                  clear hd e19 e20 e18
                  go_wp2
                  exact ⟨rfl, Ext.refl _, rfl⟩
                · intro vals w1 hx hd
                  have e21 : vals 21 = .pointer (some ⟨gp, gpo + k * 6, none⟩) := hd 21 (by decide)
                  have e18 : vals 18 = .bool false := hd 18 (by decide)
                  refine .run [(179, .pointer (some ⟨gp, gpo + k * 6, none⟩)), (176, .bool false)] { dst := some 0, op := Go.Op.fieldAddr 47 (Go.Operand.const (.pointer (some ⟨gp, gpo + k * 6, none⟩))) 3, type := 0, pos := "", after := #[], guard := none } 180 ⟨.inn 21 (by kernel_rfl) e21, .inn 18 (by kernel_rfl) e18, trivial⟩ (by kernel_rfl) (by kernel_rfl) (by kernel_rfl) rfl rfl rfl ?_
                  clear hd e21 e18
                  go_wp2
                  exact ⟨rfl, Ext.refl _, rfl⟩
                · intro vals w1 hx hd
                  have e22 : vals 22 = .pointer (some ⟨gp, gpo + k * 6 + 4, none⟩) := hd 22 (by decide)
                  have e18 : vals 18 = .bool false := hd 18 (by decide)
                  refine .run [(180, .pointer (some ⟨gp, gpo + k * 6 + 4, none⟩)), (176, .bool false)] { dst := some 0, op := Go.Op.fieldAddr 34 (Go.Operand.const (.pointer (some ⟨gp, gpo + k * 6 + 4, none⟩))) 0, type := 0, pos := "", after := #[], guard := none } 181 ⟨.inn 22 (by kernel_rfl) e22, .inn 18 (by kernel_rfl) e18, trivial⟩ (by kernel_rfl) (by kernel_rfl) (by kernel_rfl) rfl rfl rfl ?_
                  clear hd e22 e18
                  go_wp2
                  exact ⟨rfl, Ext.refl _, rfl⟩
                · intro vals w1 hx hd
                  have e23 : vals 23 = .pointer (some ⟨gp, gpo + k * 6 + 4, none⟩) := hd 23 (by decide)
                  have e18 : vals 18 = .bool false := hd 18 (by decide)
                  refine .run [(181, .pointer (some ⟨gp, gpo + k * 6 + 4, none⟩)), (176, .bool false)] { dst := some 0, op := Go.Op.load 3 (Go.Operand.const (.pointer (some ⟨gp, gpo + k * 6 + 4, none⟩))), type := 3, pos := "", after := #[], guard := none } 182 ⟨.inn 23 (by kernel_rfl) e23, .inn 18 (by kernel_rfl) e18, trivial⟩ (by kernel_rfl) (by kernel_rfl) (by kernel_rfl) rfl rfl rfl ?_
                  clear hd e23 e18
                  have d4 := ext_cell hx d4
                  go_wp2
                  exact ⟨rfl, Ext.refl _, rfl⟩
                · intro vals w1 hx hd
                  have e18 : vals 18 = .bool false := hd 18 (by decide)
                  refine .run [(13, .pointer (some ⟨g13, 0, none⟩)), (176, .bool false)] { dst := some 0, op := Go.Op.fieldAddr 34 (Go.Operand.const (.pointer (some ⟨g13, 0, none⟩))) 0, type := 0, pos := "", after := #[], guard := none } 183 ⟨.out (by kernel_rfl) (by kernel_rfl), .inn 18 (by kernel_rfl) e18, trivial⟩ (by kernel_rfl) (by kernel_rfl) (by kernel_rfl) rfl rfl rfl ?_
                  clear hd e18
                  go_wp2
                  exact ⟨rfl, Ext.refl _, rfl⟩
                · intro vals w1 hx hd
                  have e25 : vals 25 = .pointer (some ⟨g13, 0, none⟩) := hd 25 (by decide)
                  have e18 : vals 18 = .bool false := hd 18 (by decide)
                  refine .run [(183, .pointer (some ⟨g13, 0, none⟩)), (176, .bool false)] { dst := some 0, op := Go.Op.load 3 (Go.Operand.const (.pointer (some ⟨g13, 0, none⟩))), type := 3, pos := "", after := #[], guard := none } 184 ⟨.inn 25 (by kernel_rfl) e25, .inn 18 (by kernel_rfl) e18, trivial⟩ (by kernel_rfl) (by kernel_rfl) (by kernel_rfl) rfl rfl rfl ?_
                  clear hd e25 e18
                  have t0 := ext_cell hx t0
                  go_wp2
                  exact ⟨rfl, Ext.refl _, rfl⟩
                · intro vals w1 hx hd
                  have e24 : vals 24 = .int .i64 f3 := hd 24 (by decide)
                  have e26 : vals 26 = .int .i64 a := hd 26 (by decide)
                  have e18 : vals 18 = .bool false := hd 18 (by decide)
                  refine .run [(182, .int .i64 f3), (184, .int .i64 a), (176, .bool false)] { dst := some 0, op := Go.Op.binOp Go.BinOp.lss 3 (Go.Operand.const (.int .i64 f3)) (Go.Operand.const (.int .i64 a)) 3, type := 4, pos := "", after := #[], guard := none } 185 ⟨.inn 24 (by kernel_rfl) e24, .inn 26 (by kernel_rfl) e26, .inn 18 (by kernel_rfl) e18, trivial⟩ (by kernel_rfl) (by kernel_rfl) (by kernel_rfl) rfl rfl rfl ?_
                  clear hd e24 e26 e18
                  go_wp2
                  exact ⟨rfl, Ext.refl _, rfl⟩
                · intro vals w1 hx hd
                  have e18 : vals 18 = .bool false := hd 18 (by decide)
                  have e27 : vals 27 = .bool false := hd 27 (by decide)
                  refine .run [(176, .bool false), (185, .bool false)] { dst := some 0, op := Go.Op.pick (Go.Operand.const (.bool false)) (Go.Operand.const (Go.Value.bool true)) (Go.Operand.const (.bool false)), type := 4, pos := "", after := #[], guard := none } 186 ⟨.inn 18 (by kernel_rfl) e18, .inn 27 (by kernel_rfl) e27, trivial⟩ (by kernel_rfl) (by kernel_rfl) (by kernel_rfl) rfl rfl rfl ?_
                  clear hd e18 e27
                  go_wp2
                  exact ⟨rfl, Ext.refl _, rfl⟩
                · intro vals w1 hx hd
                  have e28 : vals 28 = .bool false := hd 28 (by decide)
                  refine .run [(186, .bool false)] { dst := some 0, op := Go.Op.move (Go.Operand.const (.bool false)), type := 4, pos := "", after := #[], guard := none } 187 ⟨.inn 28 (by kernel_rfl) e28, trivial⟩ (by kernel_rfl) (by kernel_rfl) (by kernel_rfl) rfl rfl rfl ?_
                  clear hd e28
                  go_wp2
                  exact ⟨rfl, Ext.refl _, rfl⟩
                · intro vals w1 hx hd
                  have e29 : vals 29 = .bool false := hd 29 (by decide)
                  refine .run [(14, .slice (some ⟨gp, gpo, none⟩) nP cP), (187, .bool false)] { dst := some 0, op := Go.Op.move (Go.Operand.const (.slice (some ⟨gp, gpo, none⟩) nP cP)), type := 32, pos := "", after := #[], guard := none } 188 ⟨.out (by kernel_rfl) (by kernel_rfl), .inn 29 (by kernel_rfl) e29, trivial⟩ (by kernel_rfl) (by kernel_rfl) (by kernel_rfl) rfl rfl rfl ?_
                  clear hd e29
                  go_wp2
                  exact ⟨rfl, Ext.refl _, rfl⟩
                · intro vals w1 hx hd
                  have e29 : vals 29 = .bool false := hd 29 (by decide)
                  refine .run [(26, .int .i64 (k : Int)), (187, .bool false)] { dst := some 0, op := Go.Op.move (Go.Operand.const (.int .i64 (k : Int))), type := 3, pos := "", after := #[], guard := none } 189 ⟨.out (by kernel_rfl) (by kernel_rfl), .inn 29 (by kernel_rfl) e29, trivial⟩ (by kernel_rfl) (by kernel_rfl) (by kernel_rfl) rfl rfl rfl ?_
                  clear hd e29
                  go_wp2
                  exact ⟨rfl, Ext.refl _, rfl⟩
                · intro vals w1 hx hd
                  have e30 : vals 30 = .slice (some ⟨gp, gpo, none⟩) nP cP := hd 30 (by decide)
                  have e31 : vals 31 = .int .i64 (k : Int) := hd 31 (by decide)
                  have e29 : vals 29 = .bool false := hd 29 (by decide)
                  refine .run [(188, .slice (some ⟨gp, gpo, none⟩) nP cP), (189, .int .i64 (k : Int)), (187, .bool false)] { dst := some 0, op := Go.Op.indexAddr 32 (Go.Operand.const (.slice (some ⟨gp, gpo, none⟩) nP cP)) (Go.Operand.const (.int .i64 (k : Int))), type := 0, pos := "", after := #[], guard := none } 190 ⟨.inn 30 (by kernel_rfl) e30, .inn 31 (by kernel_rfl) e31, .inn 29 (by kernel_rfl) e29, trivial⟩ (by kernel_rfl) (by kernel_rfl) (by kernel_rfl) rfl rfl rfl ?_
                  clear hd e30 e31 e29
                  go_wp2
                  exact ⟨rfl, Ext.refl _, rfl⟩
                · intro vals w1 hx hd
                  have e32 : vals 32 = .pointer (some ⟨gp, gpo + k * 6, none⟩) := hd 32 (by decide)
                  have e29 : vals 29 = .bool false := hd 29 (by decide)
                  refine .run [(190, .pointer (some ⟨gp, gpo + k * 6, none⟩)), (187, .bool false)] { dst := some 0, op := Go.Op.fieldAddr 47 (Go.Operand.const (.pointer (some ⟨gp, gpo + k * 6, none⟩))) 3, type := 0, pos := "", after := #[], guard := none } 191 ⟨.inn 32 (by kernel_rfl) e32, .inn 29 (by kernel_rfl) e29, trivial⟩ (by kernel_rfl) (by kernel_rfl) (by kernel_rfl) rfl rfl rfl ?_
                  clear hd e32 e29
                  go_wp2
                  exact ⟨rfl, Ext.refl _, rfl⟩
                · intro vals w1 hx hd
                  have e33 : vals 33 = .pointer (some ⟨gp, gpo + k * 6 + 4, none⟩) := hd 33 (by decide)
                  have e29 : vals 29 = .bool false := hd 29 (by decide)
                  refine .run [(191, .pointer (some ⟨gp, gpo + k * 6 + 4, none⟩)), (187, .bool false)] { dst := some 0, op := Go.Op.fieldAddr 34 (Go.Operand.const (.pointer (some ⟨gp, gpo + k * 6 + 4, none⟩))) 1, type := 0, pos := "", after := #[], guard := none } 192 ⟨.inn 33 (by kernel_rfl) e33, .inn 29 (by kernel_rfl) e29, trivial⟩ (by kernel_rfl) (by kernel_rfl) (by kernel_rfl) rfl rfl rfl ?_
                  clear hd e33 e29
                  go_wp2
                  exact ⟨rfl, Ext.refl _, rfl⟩
                · intro vals w1 hx hd
                  have e34 : vals 34 = .pointer (some ⟨gp, gpo + k * 6 + 5, none⟩) := hd 34 (by decide)
                  have e29 : vals 29 = .bool false := hd 29 (by decide)
                  refine .run [(192, .pointer (some ⟨gp, gpo + k * 6 + 5, none⟩)), (187, .bool false)] { dst := some 0, op := Go.Op.load 3 (Go.Operand.const (.pointer (some ⟨gp, gpo + k * 6 + 5, none⟩))), type := 3, pos := "", after := #[], guard := none } 193 ⟨.inn 34 (by kernel_rfl) e34, .inn 29 (by kernel_rfl) e29, trivial⟩ (by kernel_rfl) (by kernel_rfl) (by kernel_rfl) rfl rfl rfl ?_
                  clear hd e34 e29
                  have d5 := ext_cell hx d5
                  go_wp2
                  exact ⟨rfl, Ext.refl _, rfl⟩
                · intro vals w1 hx hd
                  have e29 : vals 29 = .bool false := hd 29 (by decide)
                  refine .run [(13, .pointer (some ⟨g13, 0, none⟩)), (187, .bool false)] { dst := some 0, op := Go.Op.fieldAddr 34 (Go.Operand.const (.pointer (some ⟨g13, 0, none⟩))) 1, type := 0, pos := "", after := #[], guard := none } 194 ⟨.out (by kernel_rfl) (by kernel_rfl), .inn 29 (by kernel_rfl) e29, trivial⟩ (by kernel_rfl) (by kernel_rfl) (by kernel_rfl) rfl rfl rfl ?_
                  clear hd e29
                  go_wp2
                  exact ⟨rfl, Ext.refl _, rfl⟩
                · intro vals w1 hx hd
                  have e36 : vals 36 = .pointer (some ⟨g13, 1, none⟩) := hd 36 (by decide)
                  have e29 : vals 29 = .bool false := hd 29 (by decide)
                  refine .run [(194, .pointer (some ⟨g13, 1, none⟩)), (187, .bool false)] { dst := some 0, op := Go.Op.load 3 (Go.Operand.const (.pointer (some ⟨g13, 1, none⟩))), type := 3, pos := "", after := #[], guard := none } 195 ⟨.inn 36 (by kernel_rfl) e36, .inn 29 (by kernel_rfl) e29, trivial⟩ (by kernel_rfl) (by kernel_rfl) (by kernel_rfl) rfl rfl rfl ?_
                  clear hd e36 e29
                  have t1 := ext_cell hx t1
                  go_wp2
                  exact ⟨rfl, Ext.refl _, rfl⟩
                · intro vals w1 hx hd
                  have e35 : vals 35 = .int .i64 f4 := hd 35 (by decide)
                  have e37 : vals 37 = .int .i64 b := hd 37 (by decide)
                  have e29 : vals 29 = .bool false := hd 29 (by decide)
                  refine .run [(193, .int .i64 f4), (195, .int .i64 b), (187, .bool false)] { dst := some 0, op := Go.Op.binOp Go.BinOp.gtr 3 (Go.Operand.const (.int .i64 f4)) (Go.Operand.const (.int .i64 b)) 3, type := 4, pos := "", after := #[], guard := none } 196 ⟨.inn 35 (by kernel_rfl) e35, .inn 37 (by kernel_rfl) e37, .inn 29 (by kernel_rfl) e29, trivial⟩ (by kernel_rfl) (by kernel_rfl) (by kernel_rfl) rfl rfl rfl ?_
                  clear hd e35 e37 e29
                  go_wp2
                  exact ⟨rfl, Ext.refl _, rfl⟩
                · intro vals w1 hx hd
                  have e29 : vals 29 = .bool false := hd 29 (by decide)
                  have e38 : vals 38 = .bool false := hd 38 (by decide)
                  refine .run [(187, .bool false), (196, .bool false)] { dst := some 0, op := Go.Op.pick (Go.Operand.const (.bool false)) (Go.Operand.const (Go.Value.bool true)) (Go.Operand.const (.bool false)), type := 4, pos := "", after := #[], guard := none } 197 ⟨.inn 29 (by kernel_rfl) e29, .inn 38 (by kernel_rfl) e38, trivial⟩ (by kernel_rfl) (by kernel_rfl) (by kernel_rfl) rfl rfl rfl ?_
                  clear hd e29 e38
                  go_wp2
                  exact ⟨rfl, Ext.refl _, rfl⟩
              intro vals W15 hz hf
              have e39 : vals 39 = .bool false := hf 39 (by omega)
              clear hf d0 d1 d4 d5 i0 i1 t0 t1
              have hy := Ext.trans hy hz.undrew
              clear hz
              refine tail0 (by kernel_rfl) ?_
              simp only [Lf, dstAt, Act.put, List.getElem?_toArray, List.getElem?_cons_zero, List.getElem?_cons_succ, Option.bind_some, List.setIfInBounds_toArray, List.set_cons_zero, List.set_cons_succ]
              rw [e39]
              clear e39
              go_wp2
              go_roundw
              case rel => exact ⟨k + 1, by omega, by go_num, hy⟩
              case measure => simp [intOf]; omega
            · skip
              have hpr := fun w (h : Ext Wb w) => proper_any PL AP nP cP w ((HRP.out.below h).more (Below.size h))
              rw [HPROP.out h64] at hpr
              have HPR := Lib.hid hpr
              clear hpr
              have hx := Ext.trans hx hy
              go_wp2_with fail
              refine (HPR.out _ hx).mono ?_
              rintro e W16 ⟨rfl, hz⟩
              go_wp2
              go_ret
              exact ⟨rfl, Ext.trans hB (Ext.trans hx hz)⟩
        · clear hlt
          go_wp2
          clear t1
          go_loopw [26] (fun x wr => ∃ k : Nat, k ≤ nP ∧ x = .int .i64 k ∧ Ext We wr) (fun x _ => nP - (intOf x).toNat)
          case atStart => exact ⟨0, Nat.zero_le _, rfl, Ext.refl _⟩
          case round =>
            obtain ⟨k, hk, rfl, hy⟩ := hrel
            by_cases hkn : k < nP
            · skip
              obtain ⟨gp, gpo, hz1, hA1, _, hc1⟩ := (HRP.out.below (Ext.trans hx hy)).at_ pas_len hkn
              have hm := HMEM.out k hz1
              generalize PL[k] = z at hc1 hm
              have d1 : wr.cell? ⟨gp, gpo + k * 6 + 1, none⟩ = some (.int .i64 z.station) := hc1 1 (by omega)
              have d4 : wr.cell? ⟨gp, gpo + k * 6 + 4, none⟩ = some (.int .i64 z.can.fr) := hc1 4 (by omega)
              have d5 : wr.cell? ⟨gp, gpo + k * 6 + 5, none⟩ = some (.int .i64 z.can.tt) := hc1 5 (by omega)
              have d0 : wr.cell? ⟨gp, gpo + k * 6, none⟩ = some (.int .i64 z.sat) := hc1 0 (by omega)
              obtain ⟨m1, m2, m3, m4⟩ := hm
              rw [m1] at d0
              rw [m2] at d1
              generalize z.can.fr = f3 at d4 m3
              generalize z.can.tt = f4 at d5 m4
              clear hc1 hz1 m1 m2 z
              subst hA1
              have K11 := J11.ext (Ext.trans hx hy)
              have K12 := J12.ext (Ext.trans hx hy)
              have K13 := J13.ext (Ext.trans hx hy)
              have i0 : wr.cell? ⟨g11, 0, none⟩ = some (.int .i64 sid) := (K11.cell 0).trans HC0.out
              have i1 : wr.cell? ⟨g12, 0, none⟩ = some (.int .i64 yid) := (K12.cell 0).trans HD0.out
              have t0 : wr.cell? ⟨g13, 0, none⟩ = some (.int .i64 a) := K13.cell 0
              have t1 : wr.cell? ⟨g13, 1, none⟩ = some (.int .i64 b) := K13.cell 1
              clear K11 K12 K13
              have cf1 : decide (f3 < a) = false := by simp; omega
              have cf2 : decide (b < f4) = false := by simp; omega
              go_upto_region 36 with (fail)
              refine wp_region_obl 40 (fun ix vals v w1 => match ix with | 0 => v = .slice (some ⟨gp, gpo, none⟩) nP cP | 1 => v = .int .i64 (k : Int) | 2 => v = .pointer (some ⟨gp, gpo + k * 6, none⟩) | 3 => v = .pointer (some ⟨gp, gpo + k * 6, none⟩) | 4 => v = .int .i64 sid | 5 => v = .pointer (some ⟨g11, 0, none⟩) | 6 => v = .int .i64 sid | 7 => v = .bool false | 8 => v = .bool false | 9 => v = .slice (some ⟨gp, gpo, none⟩) nP cP | 10 => v = .int .i64 (k : Int) | 11 => v = .pointer (some ⟨gp, gpo + k * 6, none⟩) | 12 => v = .pointer (some ⟨gp, gpo + k * 6 + 1, none⟩) | 13 => v = .int .i64 yid | 14 => v = .pointer (some ⟨g12, 0, none⟩) | 15 => v = .int .i64 yid | 16 => v = .bool false | 17 => v = .bool false | 18 => v = .bool false | 19 => v = .slice (some ⟨gp, gpo, none⟩) nP cP | 20 => v = .int .i64 (k : Int) | 21 => v = .pointer (some ⟨gp, gpo + k * 6, none⟩) | 22 => v = .pointer (some ⟨gp, gpo + k * 6 + 4, none⟩) | 23 => v = .pointer (some ⟨gp, gpo + k * 6 + 4, none⟩) | 24 => v = .int .i64 f3 | 25 => v = .pointer (some ⟨g13, 0, none⟩) | 26 => v = .int .i64 a | 27 => v = .bool false | 28 => v = .bool false | 29 => v = .bool false | 30 => v = .slice (some ⟨gp, gpo, none⟩) nP cP | 31 => v = .int .i64 (k : Int) | 32 => v = .pointer (some ⟨gp, gpo + k * 6, none⟩) | 33 => v = .pointer (some ⟨gp, gpo + k * 6 + 4, none⟩) | 34 => v = .pointer (some ⟨gp, gpo + k * 6 + 5, none⟩) | 35 => v = .int .i64 f4 | 36 => v = .pointer (some ⟨g13, 1, none⟩) | 37 => v = .int .i64 b | 38 => v = .bool false | _ => v = .bool false) (by kernel_rfl) (by kernel_rfl) ?_ ?_ ?_ ?_
              · intro ix vals v w1 w2 hi hr hx
                match ix, hr with
                | 0, hr => exact hr
                | 1, hr => exact hr
                | 2, hr => exact hr
                | 3, hr => exact hr
                | 4, hr => exact hr
                | 5, hr => exact hr
                | 6, hr => exact hr
                | 7, hr => exact hr
                | 8, hr => exact hr
                | 9, hr => exact hr
                | 10, hr => exact hr
                | 11, hr => exact hr
                | 12, hr => exact hr
                | 13, hr => exact hr
                | 14, hr => exact hr
                | 15, hr => exact hr
                | 16, hr => exact hr
                | 17, hr => exact hr
                | 18, hr => exact hr
                | 19, hr => exact hr
                | 20, hr => exact hr
                | 21, hr => exact hr
                | 22, hr => exact hr
                | 23, hr => exact hr
                | 24, hr => exact hr
                | 25, hr => exact hr
                | 26, hr => exact hr
                | 27, hr => exact hr
                | 28, hr => exact hr
                | 29, hr => exact hr
                | 30, hr => exact hr
                | 31, hr => exact hr
                | 32, hr => exact hr
                | 33, hr => exact hr
                | 34, hr => exact hr
                | 35, hr => exact hr
                | 36, hr => exact hr
                | 37, hr => exact hr
                | 38, hr => exact hr
                | (kx + 39), hr => exact hr
              · intro ix vals vals_ v w1 hi hv hr
                exact hr
              · refine obls_ofT [some 158, some 159, some 160, some 161, some 162, some 163, some 164, some 165, some 166, some 167, some 168, some 169, some 170, some 171, some 172, some 173, some 174, some 175, some 176, some 177, some 178, some 179, some 180, some 181, some 182, some 183, some 184, some 185, some 186, some 187, some 188, some 189, some 190, some 191, some 192, some 193, some 194, some 195, some 196, some 197] [(14, .slice (some ⟨gp, gpo, none⟩) nP cP), (26, .int .i64 (k : Int)), (11, .pointer (some ⟨g11, 0, none⟩)), (12, .pointer (some ⟨g12, 0, none⟩)), (13, .pointer (some ⟨g13, 0, none⟩))] 200 (by kernel_rfl) (by kernel_rfl) ⟨by kernel_rfl, by kernel_rfl, by kernel_rfl, by kernel_rfl, by kernel_rfl, trivial⟩ ?_
                refine ⟨?_, ?_, ?_, ?_, ?_, ?_, ?_, ?_, ?_, ?_, ?_, ?_, ?_, ?_, ?_, ?_, ?_, ?_, ?_, ?_, ?_, ?_, ?_, ?_, ?_, ?_, ?_, ?_, ?_, ?_, ?_, ?_, ?_, ?_, ?_, ?_, ?_, ?_, ?_, ?_, trivial⟩
                · intro vals w1 hx hd
                  refine .run [(14, .slice (some ⟨gp, gpo, none⟩) nP cP)] { dst := some 0, op := Go.Op.move (Go.Operand.const (.slice (some ⟨gp, gpo, none⟩) nP cP)), type := 32, pos := "", after := #[], guard := none } 158 ⟨.out (by kernel_rfl) (by kernel_rfl), trivial⟩ (by kernel_rfl) (by kernel_rfl) (by kernel_rfl) rfl rfl rfl ?_
                  clear hd
                  go_wp2
                  exact ⟨rfl, Ext.refl _, rfl⟩
                · intro vals w1 hx hd
                  refine .run [(26, .int .i64 (k : Int))] { dst := some 0, op := Go.Op.move (Go.Operand.const (.int .i64 (k : Int))), type := 3, pos := "", after := #[], guard := none } 159 ⟨.out (by kernel_rfl) (by kernel_rfl), trivial⟩ (by kernel_rfl) (by kernel_rfl) (by kernel_rfl) rfl rfl rfl ?_
                  clear hd
                  go_wp2
                  exact ⟨rfl, Ext.refl _, rfl⟩
                · intro vals w1 hx hd
                  have e0 : vals 0 = .slice (some ⟨gp, gpo, none⟩) nP cP := hd 0 (by decide)
                  have e1 : vals 1 = .int .i64 (k : Int) := hd 1 (by decide)
                  refine .run [(158, .slice (some ⟨gp, gpo, none⟩) nP cP), (159, .int .i64 (k : Int))] { dst := some 0, op := Go.Op.indexAddr 32 (Go.Operand.const (.slice (some ⟨gp, gpo, none⟩) nP cP)) (Go.Operand.const (.int .i64 (k : Int))), type := 0, pos := "", after := #[], guard := none } 160 ⟨.inn 0 (by kernel_rfl) e0, .inn 1 (by kernel_rfl) e1, trivial⟩ (by kernel_rfl) (by kernel_rfl) (by kernel_rfl) rfl rfl rfl ?_
                  clear hd e0 e1
                  go_wp2
                  exact ⟨rfl, Ext.refl _, rfl⟩
                · intro vals w1 hx hd
                  have e2 : vals 2 = .pointer (some ⟨gp, gpo + k * 6, none⟩) := hd 2 (by decide)
                  refine .run [(160, .pointer (some ⟨gp, gpo + k * 6, none⟩))] { dst := some 0, op := Go.Op.fieldAddr 47 (Go.Operand.const (.pointer (some ⟨gp, gpo + k * 6, none⟩))) 0, type := 0, pos := "", after := #[], guard := none } 161 ⟨.inn 2 (by kernel_rfl) e2, trivial⟩ (by kernel_rfl) (by kernel_rfl) (by kernel_rfl) rfl rfl rfl ?_
                  clear hd e2
                  go_wp2
                  exact ⟨rfl, Ext.refl _, rfl⟩
                · intro vals w1 hx hd
                  have e3 : vals 3 = .pointer (some ⟨gp, gpo + k * 6, none⟩) := hd 3 (by decide)
                  refine .run [(161, .pointer (some ⟨gp, gpo + k * 6, none⟩))] { dst := some 0, op := Go.Op.load 3 (Go.Operand.const (.pointer (some ⟨gp, gpo + k * 6, none⟩))), type := 3, pos := "", after := #[], guard := none } 162 ⟨.inn 3 (by kernel_rfl) e3, trivial⟩ (by kernel_rfl) (by kernel_rfl) (by kernel_rfl) rfl rfl rfl ?_
                  clear hd e3
                  have d0 := ext_cell hx d0
                  go_wp2
                  exact ⟨rfl, Ext.refl _, rfl⟩
                · intro vals w1 hx hd
                  refine .run [(11, .pointer (some ⟨g11, 0, none⟩))] { dst := some 0, op := Go.Op.fieldAddr 27 (Go.Operand.const (.pointer (some ⟨g11, 0, none⟩))) 0, type := 0, pos := "", after := #[], guard := none } 163 ⟨.out (by kernel_rfl) (by kernel_rfl), trivial⟩ (by kernel_rfl) (by kernel_rfl) (by kernel_rfl) rfl rfl rfl ?_
                  clear hd
                  go_wp2
                  exact ⟨rfl, Ext.refl _, rfl⟩
                · intro vals w1 hx hd
                  have e5 : vals 5 = .pointer (some ⟨g11, 0, none⟩) := hd 5 (by decide)
                  refine .run [(163, .pointer (some ⟨g11, 0, none⟩))] { dst := some 0, op := Go.Op.load 3 (Go.Operand.const (.pointer (some ⟨g11, 0, none⟩))), type := 3, pos := "", after := #[], guard := none } 164 ⟨.inn 5 (by kernel_rfl) e5, trivial⟩ (by kernel_rfl) (by kernel_rfl) (by kernel_rfl) rfl rfl rfl ?_
                  clear hd e5
                  have i0 := ext_cell hx i0
                  go_wp2
                  exact ⟨rfl, Ext.refl _, rfl⟩
                · intro vals w1 hx hd
                  have e4 : vals 4 = .int .i64 sid := hd 4 (by decide)
                  have e6 : vals 6 = .int .i64 sid := hd 6 (by decide)
                  refine .run [(162, .int .i64 sid), (164, .int .i64 sid)] { dst := some 0, op := Go.Op.binOp Go.BinOp.neq 3 (Go.Operand.const (.int .i64 sid)) (Go.Operand.const (.int .i64 sid)) 3, type := 4, pos := "", after := #[], guard := none } 165 ⟨.inn 4 (by kernel_rfl) e4, .inn 6 (by kernel_rfl) e6, trivial⟩ (by kernel_rfl) (by kernel_rfl) (by kernel_rfl) rfl rfl rfl ?_
                  clear hd e4 e6
                  go_wp2
                  exact ⟨rfl, Ext.refl _, rfl⟩
                · intro vals w1 hx hd
                  have e7 : vals 7 = .bool false := hd 7 (by decide)
                  refine .run [(165, .bool false)] { dst := some 0, op := Go.Op.move (Go.Operand.const (.bool false)), type := 4, pos := "", after := #[], guard := none } 166 ⟨.inn 7 (by kernel_rfl) e7, trivial⟩ (by kernel_rfl) (by kernel_rfl) (by kernel_rfl) rfl rfl rfl ?_
                  clear hd e7
                  go_wp2
                  exact ⟨rfl, Ext.refl _, rfl⟩
                · intro vals w1 hx hd
                  have e8 : vals 8 = .bool false := hd 8 (by decide)
                  refine .run [(14, .slice (some ⟨gp, gpo, none⟩) nP cP), (166, .bool false)] { dst := some 0, op := Go.Op.move (Go.Operand.const (.slice (some ⟨gp, gpo, none⟩) nP cP)), type := 32, pos := "", after := #[], guard := none } 167 ⟨.out (by kernel_rfl) (by kernel_rfl), .inn 8 (by kernel_rfl) e8, trivial⟩ (by kernel_rfl) (by kernel_rfl) (by kernel_rfl) rfl rfl rfl ?_
                  clear hd e8
                  go_wp2
                  exact ⟨rfl, Ext.refl _, rfl⟩
                · intro vals w1 hx hd
                  have e8 : vals 8 = .bool false := hd 8 (by decide)
                  refine .run [(26, .int .i64 (k : Int)), (166, .bool false)] { dst := some 0, op := Go.Op.move (Go.Operand.const (.int .i64 (k : Int))), type := 3, pos := "", after := #[], guard := none } 168 ⟨.out (by kernel_rfl) (by kernel_rfl), .inn 8 (by kernel_rfl) e8, trivial⟩ (by kernel_rfl) (by kernel_rfl) (by kernel_rfl) rfl rfl rfl ?_
                  clear hd e8
                  go_wp2
                  exact ⟨rfl, Ext.refl _, rfl⟩
                · intro vals w1 hx hd
                  have e9 : vals 9 = .slice (some ⟨gp, gpo, none⟩) nP cP := hd 9 (by decide)
                  have e10 : vals 10 = .int .i64 (k : Int) := hd 10 (by decide)
                  have e8 : vals 8 = .bool false := hd 8 (by decide)
                  refine .run [(167, .slice (some ⟨gp, gpo, none⟩) nP cP), (168, .int .i64 (k : Int)), (166, .bool false)] { dst := some 0, op := Go.Op.indexAddr 32 (Go.Operand.const (.slice (some ⟨gp, gpo, none⟩) nP cP)) (Go.Operand.const (.int .i64 (k : Int))), type := 0, pos := "", after := #[], guard := none } 169 ⟨.inn 9 (by kernel_rfl) e9, .inn 10 (by kernel_rfl) e10, .inn 8 (by kernel_rfl) e8, trivial⟩ (by kernel_rfl) (by kernel_rfl) (by kernel_rfl) rfl rfl rfl ?_
                  clear hd e9 e10 e8
                  go_wp2
                  exact ⟨rfl, Ext.refl _, rfl⟩
                · intro vals w1 hx hd
                  have e11 : vals 11 = .pointer (some ⟨gp, gpo + k * 6, none⟩) := hd 11 (by decide)
                  have e8 : vals 8 = .bool false := hd 8 (by decide)
                  refine .run [(169, .pointer (some ⟨gp, gpo + k * 6, none⟩)), (166, .bool false)] { dst := some 0, op := Go.Op.fieldAddr 47 (Go.Operand.const (.pointer (some ⟨gp, gpo + k * 6, none⟩))) 1, type := 0, pos := "", after := #[], guard := none } 170 ⟨.inn 11 (by kernel_rfl) e11, .inn 8 (by kernel_rfl) e8, trivial⟩ (by kernel_rfl) (by kernel_rfl) (by kernel_rfl) rfl rfl rfl ?_
                  clear hd e11 e8
                  go_wp2
                  exact ⟨rfl, Ext.refl _, rfl⟩
                · intro vals w1 hx hd
                  have e12 : vals 12 = .pointer (some ⟨gp, gpo + k * 6 + 1, none⟩) := hd 12 (by decide)
                  have e8 : vals 8 = .bool false := hd 8 (by decide)
                  refine .run [(170, .pointer (some ⟨gp, gpo + k * 6 + 1, none⟩)), (166, .bool false)] { dst := some 0, op := Go.Op.load 3 (Go.Operand.const (.pointer (some ⟨gp, gpo + k * 6 + 1, none⟩))), type := 3, pos := "", after := #[], guard := none } 171 ⟨.inn 12 (by kernel_rfl) e12, .inn 8 (by kernel_rfl) e8, trivial⟩ (by kernel_rfl) (by kernel_rfl) (by kernel_rfl) rfl rfl rfl ?_
                  clear hd e12 e8
                  have d1 := ext_cell hx d1
                  go_wp2
                  exact ⟨rfl, Ext.refl _, rfl⟩
                · intro vals w1 hx hd
                  have e8 : vals 8 = .bool false := hd 8 (by decide)
                  refine .run [(12, .pointer (some ⟨g12, 0, none⟩)), (166, .bool false)] { dst := some 0, op := Go.Op.fieldAddr 31 (Go.Operand.const (.pointer (some ⟨g12, 0, none⟩))) 0, type := 0, pos := "", after := #[], guard := none } 172 ⟨.out (by kernel_rfl) (by kernel_rfl), .inn 8 (by kernel_rfl) e8, trivial⟩ (by kernel_rfl) (by kernel_rfl) (by kernel_rfl) rfl rfl rfl ?_
                  clear hd e8
                  go_wp2
                  exact ⟨rfl, Ext.refl _, rfl⟩
                · intro vals w1 hx hd
                  have e14 : vals 14 = .pointer (some ⟨g12, 0, none⟩) := hd 14 (by decide)
                  have e8 : vals 8 = .bool false := hd 8 (by decide)
                  refine .run [(172, .pointer (some ⟨g12, 0, none⟩)), (166, .bool false)] { dst := some 0, op := Go.Op.load 3 (Go.Operand.const (.pointer (some ⟨g12, 0, none⟩))), type := 3, pos := "", after := #[], guard := none } 173 ⟨.inn 14 (by kernel_rfl) e14, .inn 8 (by kernel_rfl) e8, trivial⟩ (by kernel_rfl) (by kernel_rfl) (by kernel_rfl) rfl rfl rfl ?_
                  clear hd e14 e8
                  have i1 := ext_cell hx i1
                  go_wp2
                  exact ⟨rfl, Ext.refl _, rfl⟩
                · intro vals w1 hx hd
                  have e13 : vals 13 = .int .i64 yid := hd 13 (by decide)
                  have e15 : vals 15 = .int .i64 yid := hd 15 (by decide)
                  have e8 : vals 8 = .bool false := hd 8 (by decide)
                  refine .run [(171, .int .i64 yid), (173, .int .i64 yid), (166, .bool false)] { dst := some 0, op := Go.Op.binOp Go.BinOp.neq 3 (Go.Operand.const (.int .i64 yid)) (Go.Operand.const (.int .i64 yid)) 3, type := 4, pos := "", after := #[], guard := none } 174 ⟨.inn 13 (by kernel_rfl) e13, .inn 15 (by kernel_rfl) e15, .inn 8 (by kernel_rfl) e8, trivial⟩ (by kernel_rfl) (by kernel_rfl) (by kernel_rfl) rfl rfl rfl ?_
                  clear hd e13 e15 e8
                  go_wp2
                  exact ⟨rfl, Ext.refl _, rfl⟩
                · intro vals w1 hx hd
                  have e8 : vals 8 = .bool false := hd 8 (by decide)
                  have e16 : vals 16 = .bool false := hd 16 (by decide)
                  refine .run [(166, .bool false), (174, .bool false)] { dst := some 0, op := Go.Op.pick (Go.Operand.const (.bool false)) (Go.Operand.const (Go.Value.bool true)) (Go.Operand.const (.bool false)), type := 4, pos := "", after := #[], guard := none } 175 ⟨.inn 8 (by kernel_rfl) e8, .inn 16 (by kernel_rfl) e16, trivial⟩ (by kernel_rfl) (by kernel_rfl) (by kernel_rfl) rfl rfl rfl ?_
                  clear hd e8 e16
                  go_wp2
                  exact ⟨rfl, Ext.refl _, rfl⟩
                · intro vals w1 hx hd
                  have e17 : vals 17 = .bool false := hd 17 (by decide)
                  refine .run [(175, .bool false)] { dst := some 0, op := Go.Op.move (Go.Operand.const (.bool false)), type := 4, pos := "", after := #[], guard := none } 176 ⟨.inn 17 (by kernel_rfl) e17, trivial⟩ (by kernel_rfl) (by kernel_rfl) (by kernel_rfl) rfl rfl rfl ?_
                  clear hd e17
                  go_wp2
                  exact ⟨rfl, Ext.refl _, rfl⟩
                · intro vals w1 hx hd
                  have e18 : vals 18 = .bool false := hd 18 (by decide)
                  refine .run [(14, .slice (some ⟨gp, gpo, none⟩) nP cP), (176, .bool false)] { dst := some 0, op := Go.Op.move (Go.Operand.const (.slice (some ⟨gp, gpo, none⟩) nP cP)), type := 32, pos := "", after := #[], guard := none } 177 ⟨.out (by kernel_rfl) (by kernel_rfl), .inn 18 (by kernel_rfl) e18, trivial⟩ (by kernel_rfl) (by kernel_rfl) (by kernel_rfl) rfl rfl rfl ?_
                  clear hd e18
                  go_wp2
                  exact ⟨rfl, Ext.refl _, rfl⟩
                · intro vals w1 hx hd
                  have e18 : vals 18 = .bool false := hd 18 (by decide)
                  refine .run [(26, .int .i64 (k : Int)), (176, .bool false)] { dst := some 0, op := Go.Op.move (Go.Operand.const (.int .i64 (k : Int))), type := 3, pos := "", after := #[], guard := none } 178 ⟨.out (by kernel_rfl) (by kernel_rfl), .inn 18 (by kernel_rfl) e18, trivial⟩ (by kernel_rfl) (by kernel_rfl) (by kernel_rfl) rfl rfl rfl ?_
                  clear hd e18
                  go_wp2
                  exact ⟨rfl, Ext.refl _, rfl⟩
                · intro vals w1 hx hd
                  have e19 : vals 19 = .slice (some ⟨gp, gpo, none⟩) nP cP := hd 19 (by decide)
                  have e20 : vals 20 = .int .i64 (k : Int) := hd 20 (by decide)
                  have e18 : vals 18 = .bool false := hd 18 (by decide)
                  refine .run [(177, .slice (some ⟨gp, gpo, none⟩) nP cP), (178, .int .i64 (k : Int)), (176, .bool false)] { dst := some 0, op := Go.Op.indexAddr 32 (Go.Operand.const (.slice (some ⟨gp, gpo, none⟩) nP cP)) (Go.Operand.const (.int .i64 (k : Int))), type := 0, pos := "", after := #[], guard := none } 179 ⟨.inn 19 (by kernel_rfl) e19, .inn 20 (by kernel_rfl) e20, .inn 18 (by kernel_rfl) e18, trivial⟩ (by kernel_rfl) (by kernel_rfl) (by kernel_rfl) rfl rfl rfl ?_
                  clear hd e19 e20 e18
                  go_wp2
                  exact ⟨rfl, Ext.refl _, rfl⟩
                · intro vals w1 hx hd
                  have e21 : vals 21 = .pointer (some ⟨gp, gpo + k * 6, none⟩) := hd 21 (by decide)
                  have e18 : vals 18 = .bool false := hd 18 (by decide)
                  refine .run [(179, .pointer (some ⟨gp, gpo + k * 6, none⟩)), (176, .bool false)] { dst := some 0, op := Go.Op.fieldAddr 47 (Go.Operand.const (.pointer (some ⟨gp, gpo + k * 6, none⟩))) 3, type := 0, pos := "", after := #[], guard := none } 180 ⟨.inn 21 (by kernel_rfl) e21, .inn 18 (by kernel_rfl) e18, trivial⟩ (by kernel_rfl) (by kernel_rfl) (by kernel_rfl) rfl rfl rfl ?_
                  clear hd e21 e18
                  go_wp2
                  exact ⟨rfl, Ext.refl _, rfl⟩
                · intro vals w1 hx hd
                  have e22 : vals 22 = .pointer (some ⟨gp, gpo + k * 6 + 4, none⟩) := hd 22 (by decide)
                  have e18 : vals 18 = .bool false := hd 18 (by decide)
                  refine .run [(180, .pointer (some ⟨gp, gpo + k * 6 + 4, none⟩)), (176, .bool false)] { dst := some 0, op := Go.Op.fieldAddr 34 (Go.Operand.const (.pointer (some ⟨gp, gpo + k * 6 + 4, none⟩))) 0, type := 0, pos := "", after := #[], guard := none } 181 ⟨.inn 22 (by kernel_rfl) e22, .inn 18 (by kernel_rfl) e18, trivial⟩ (by kernel_rfl) (by kernel_rfl) (by kernel_rfl) rfl rfl rfl ?_
                  clear hd e22 e18
                  go_wp2
                  exact ⟨rfl, Ext.refl _, rfl⟩
                · intro vals w1 hx hd
                  have e23 : vals 23 = .pointer (some ⟨gp, gpo + k * 6 + 4, none⟩) := hd 23 (by decide)
                  have e18 : vals 18 = .bool false := hd 18 (by decide)
                  refine .run [(181, .pointer (some ⟨gp, gpo + k * 6 + 4, none⟩)), (176, .bool false)] { dst := some 0, op := Go.Op.load 3 (Go.Operand.const (.pointer (some ⟨gp, gpo + k * 6 + 4, none⟩))), type := 3, pos := "", after := #[], guard := none } 182 ⟨.inn 23 (by kernel_rfl) e23, .inn 18 (by kernel_rfl) e18, trivial⟩ (by kernel_rfl) (by kernel_rfl) (by kernel_rfl) rfl rfl rfl ?_
                  clear hd e23 e18
                  have d4 := ext_cell hx d4
                  go_wp2
                  exact ⟨rfl, Ext.refl _, rfl⟩
                · intro vals w1 hx hd
                  have e18 : vals 18 = .bool false := hd 18 (by decide)
                  refine .run [(13, .pointer (some ⟨g13, 0, none⟩)), (176, .bool false)] { dst := some 0, op := Go.Op.fieldAddr 34 (Go.Operand.const (.pointer (some ⟨g13, 0, none⟩))) 0, type := 0, pos := "", after := #[], guard := none } 183 ⟨.out (by kernel_rfl) (by kernel_rfl), .inn 18 (by kernel_rfl) e18, trivial⟩ (by kernel_rfl) (by kernel_rfl) (by kernel_rfl) rfl rfl rfl ?_
                  clear hd e18
                  go_wp2
                  exact ⟨rfl, Ext.refl _, rfl⟩
                · intro vals w1 hx hd
                  have e25 : vals 25 = .pointer (some ⟨g13, 0, none⟩) := hd 25 (by decide)
                  have e18 : vals 18 = .bool false := hd 18 (by decide)
                  refine .run [(183, .pointer (some ⟨g13, 0, none⟩)), (176, .bool false)] { dst := some 0, op := Go.Op.load 3 (Go.Operand.const (.pointer (some ⟨g13, 0, none⟩))), type := 3, pos := "", after := #[], guard := none } 184 ⟨.inn 25 (by kernel_rfl) e25, .inn 18 (by kernel_rfl) e18, trivial⟩ (by kernel_rfl) (by kernel_rfl) (by kernel_rfl) rfl rfl rfl ?_
                  clear hd e25 e18
                  have t0 := ext_cell hx t0
                  go_wp2
                  exact ⟨rfl, Ext.refl _, rfl⟩
                · intro vals w1 hx hd
                  have e24 : vals 24 = .int .i64 f3 := hd 24 (by decide)
                  have e26 : vals 26 = .int .i64 a := hd 26 (by decide)
                  have e18 : vals 18 = .bool false := hd 18 (by decide)
                  refine .run [(182, .int .i64 f3), (184, .int .i64 a), (176, .bool false)] { dst := some 0, op := Go.Op.binOp Go.BinOp.lss 3 (Go.Operand.const (.int .i64 f3)) (Go.Operand.const (.int .i64 a)) 3, type := 4, pos := "", after := #[], guard := none } 185 ⟨.inn 24 (by kernel_rfl) e24, .inn 26 (by kernel_rfl) e26, .inn 18 (by kernel_rfl) e18, trivial⟩ (by kernel_rfl) (by kernel_rfl) (by kernel_rfl) rfl rfl rfl ?_
                  clear hd e24 e26 e18
                  go_wp2
                  exact ⟨rfl, Ext.refl _, rfl⟩
                · intro vals w1 hx hd
                  have e18 : vals 18 = .bool false := hd 18 (by decide)
                  have e27 : vals 27 = .bool false := hd 27 (by decide)
                  refine .run [(176, .bool false), (185, .bool false)] { dst := some 0, op := Go.Op.pick (Go.Operand.const (.bool false)) (Go.Operand.const (Go.Value.bool true)) (Go.Operand.const (.bool false)), type := 4, pos := "", after := #[], guard := none } 186 ⟨.inn 18 (by kernel_rfl) e18, .inn 27 (by kernel_rfl) e27, trivial⟩ (by kernel_rfl) (by kernel_rfl) (by kernel_rfl) rfl rfl rfl ?_
                  clear hd e18 e27
                  go_wp2
                  exact ⟨rfl, Ext.refl _, rfl⟩
                · intro vals w1 hx hd
                  have e28 : vals 28 = .bool false := hd 28 (by decide)
                  refine .run [(186, .bool false)] { dst := some 0, op := Go.Op.move (Go.Operand.const (.bool false)), type := 4, pos := "", after := #[], guard := none } 187 ⟨.inn 28 (by kernel_rfl) e28, trivial⟩ (by kernel_rfl) (by kernel_rfl) (by kernel_rfl) rfl rfl rfl ?_
                  clear hd e28
                  go_wp2
                  exact ⟨rfl, Ext.refl _, rfl⟩
                · intro vals w1 hx hd
                  have e29 : vals 29 = .bool false := hd 29 (by decide)
                  refine .run [(14, .slice (some ⟨gp, gpo, none⟩) nP cP), (187, .bool false)] { dst := some 0, op := Go.Op.move (Go.Operand.const (.slice (some ⟨gp, gpo, none⟩) nP cP)), type := 32, pos := "", after := #[], guard := none } 188 ⟨.out (by kernel_rfl) (by kernel_rfl), .inn 29 (by kernel_rfl) e29, trivial⟩ (by kernel_rfl) (by kernel_rfl) (by kernel_rfl) rfl rfl rfl ?_
                  clear hd e29
                  go_wp2
                  exact ⟨rfl, Ext.refl _, rfl⟩
                · intro vals w1 hx hd
                  have e29 : vals 29 = .bool false := hd 29 (by decide)
                  refine .run [(26, .int .i64 (k : Int)), (187, .bool false)] { dst := some 0, op := Go.Op.move (Go.Operand.const (.int .i64 (k : Int))), type := 3, pos := "", after := #[], guard := none } 189 ⟨.out (by kernel_rfl) (by kernel_rfl), .inn 29 (by kernel_rfl) e29, trivial⟩ (by kernel_rfl) (by kernel_rfl) (by kernel_rfl) rfl rfl rfl ?_
                  clear hd e29
                  go_wp2
                  exact ⟨rfl, Ext.refl _, rfl⟩
                · intro vals w1 hx hd
                  have e30 : vals 30 = .slice (some ⟨gp, gpo, none⟩) nP cP := hd 30 (by decide)
                  have e31 : vals 31 = .int .i64 (k : Int) := hd 31 (by decide)
                  have e29 : vals 29 = .bool false := hd 29 (by decide)
                  refine .run [(188, .slice (some ⟨gp, gpo, none⟩) nP cP), (189, .int .i64 (k : Int)), (187, .bool false)] { dst := some 0, op := Go.Op.indexAddr 32 (Go.Operand.const (.slice (some ⟨gp, gpo, none⟩) nP cP)) (Go.Operand.const (.int .i64 (k : Int))), type := 0, pos := "", after := #[], guard := none } 190 ⟨.inn 30 (by kernel_rfl) e30, .inn 31 (by kernel_rfl) e31, .inn 29 (by kernel_rfl) e29, trivial⟩ (by kernel_rfl) (by kernel_rfl) (by kernel_rfl) rfl rfl rfl ?_
                  clear hd e30 e31 e29
                  go_wp2
                  exact ⟨rfl, Ext.refl _, rfl⟩
                · intro vals w1 hx hd
                  have e32 : vals 32 = .pointer (some ⟨gp, gpo + k * 6, none⟩) := hd 32 (by decide)
                  have e29 : vals 29 = .bool false := hd 29 (by decide)
                  refine .run [(190, .pointer (some ⟨gp, gpo + k * 6, none⟩)), (187, .bool false)] { dst := some 0, op := Go.Op.fieldAddr 47 (Go.Operand.const (.pointer (some ⟨gp, gpo + k * 6, none⟩))) 3, type := 0, pos := "", after := #[], guard := none } 191 ⟨.inn 32 (by kernel_rfl) e32, .inn 29 (by kernel_rfl) e29, trivial⟩ (by kernel_rfl) (by kernel_rfl) (by kernel_rfl) rfl rfl rfl ?_
                  clear hd e32 e29
                  go_wp2
                  exact ⟨rfl, Ext.refl _, rfl⟩
                · intro vals w1 hx hd
                  have e33 : vals 33 = .pointer (some ⟨gp, gpo + k * 6 + 4, none⟩) := hd 33 (by decide)
                  have e29 : vals 29 = .bool false := hd 29 (by decide)
                  refine .run [(191, .pointer (some ⟨gp, gpo + k * 6 + 4, none⟩)), (187, .bool false)] { dst := some 0, op := Go.Op.fieldAddr 34 (Go.Operand.const (.pointer (some ⟨gp, gpo + k * 6 + 4, none⟩))) 1, type := 0, pos := "", after := #[], guard := none } 192 ⟨.inn 33 (by kernel_rfl) e33, .inn 29 (by kernel_rfl) e29, trivial⟩ (by kernel_rfl) (by kernel_rfl) (by kernel_rfl) rfl rfl rfl ?_
                  clear hd e33 e29
                  go_wp2
                  exact ⟨rfl, Ext.refl _, rfl⟩
                · intro vals w1 hx hd
                  have e34 : vals 34 = .pointer (some ⟨gp, gpo + k * 6 + 5, none⟩) := hd 34 (by decide)
                  have e29 : vals 29 = .bool false := hd 29 (by decide)
                  refine .run [(192, .pointer (some ⟨gp, gpo + k * 6 + 5, none⟩)), (187, .bool false)] { dst := some 0, op := Go.Op.load 3 (Go.Operand.const (.pointer (some ⟨gp, gpo + k * 6 + 5, none⟩))), type := 3, pos := "", after := #[], guard := none } 193 ⟨.inn 34 (by kernel_rfl) e34, .inn 29 (by kernel_rfl) e29, trivial⟩ (by kernel_rfl) (by kernel_rfl) (by kernel_rfl) rfl rfl rfl ?_
                  clear hd e34 e29
                  have d5 := ext_cell hx d5
                  go_wp2
                  exact ⟨rfl, Ext.refl _, rfl⟩
                · intro vals w1 hx hd
                  have e29 : vals 29 = .bool false := hd 29 (by decide)
                  refine .run [(13, .pointer (some ⟨g13, 0, none⟩)), (187, .bool false)] { dst := some 0, op := Go.Op.fieldAddr 34 (Go.Operand.const (.pointer (some ⟨g13, 0, none⟩))) 1, type := 0, pos := "", after := #[], guard := none } 194 ⟨.out (by kernel_rfl) (by kernel_rfl), .inn 29 (by kernel_rfl) e29, trivial⟩ (by kernel_rfl) (by kernel_rfl) (by kernel_rfl) rfl rfl rfl ?_
                  clear hd e29
                  go_wp2
                  exact ⟨rfl, Ext.refl _, rfl⟩
                · intro vals w1 hx hd
                  have e36 : vals 36 = .pointer (some ⟨g13, 1, none⟩) := hd 36 (by decide)
                  have e29 : vals 29 = .bool false := hd 29 (by decide)
                  refine .run [(194, .pointer (some ⟨g13, 1, none⟩)), (187, .bool false)] { dst := some 0, op := Go.Op.load 3 (Go.Operand.const (.pointer (some ⟨g13, 1, none⟩))), type := 3, pos := "", after := #[], guard := none } 195 ⟨.inn 36 (by kernel_rfl) e36, .inn 29 (by kernel_rfl) e29, trivial⟩ (by kernel_rfl) (by kernel_rfl) (by kernel_rfl) rfl rfl rfl ?_
                  clear hd e36 e29
                  have t1 := ext_cell hx t1
                  go_wp2
                  exact ⟨rfl, Ext.refl _, rfl⟩
                · intro vals w1 hx hd
                  have e35 : vals 35 = .int .i64 f4 := hd 35 (by decide)
                  have e37 : vals 37 = .int .i64 b := hd 37 (by decide)
                  have e29 : vals 29 = .bool false := hd 29 (by decide)
                  refine .run [(193, .int .i64 f4), (195, .int .i64 b), (187, .bool false)] { dst := some 0, op := Go.Op.binOp Go.BinOp.gtr 3 (Go.Operand.const (.int .i64 f4)) (Go.Operand.const (.int .i64 b)) 3, type := 4, pos := "", after := #[], guard := none } 196 ⟨.inn 35 (by kernel_rfl) e35, .inn 37 (by kernel_rfl) e37, .inn 29 (by kernel_rfl) e29, trivial⟩ (by kernel_rfl) (by kernel_rfl) (by kernel_rfl) rfl rfl rfl ?_
                  clear hd e35 e37 e29
                  go_wp2
                  exact ⟨rfl, Ext.refl _, rfl⟩
                · intro vals w1 hx hd
                  have e29 : vals 29 = .bool false := hd 29 (by decide)
                  have e38 : vals 38 = .bool false := hd 38 (by decide)
                  refine .run [(187, .bool false), (196, .bool false)] { dst := some 0, op := Go.Op.pick (Go.Operand.const (.bool false)) (Go.Operand.const (Go.Value.bool true)) (Go.Operand.const (.bool false)), type := 4, pos := "", after := #[], guard := none } 197 ⟨.inn 29 (by kernel_rfl) e29, .inn 38 (by kernel_rfl) e38, trivial⟩ (by kernel_rfl) (by kernel_rfl) (by kernel_rfl) rfl rfl rfl ?_
                  clear hd e29 e38
                  go_wp2
                  exact ⟨rfl, Ext.refl _, rfl⟩
              intro vals W15 hz hf
              have e39 : vals 39 = .bool false := hf 39 (by omega)
              clear hf d0 d1 d4 d5 i0 i1 t0 t1
              have hy := Ext.trans hy hz.undrew
              clear hz
              refine tail0 (by kernel_rfl) ?_
              simp only [Lf, dstAt, Act.put, List.getElem?_toArray, List.getElem?_cons_zero, List.getElem?_cons_succ, Option.bind_some, List.setIfInBounds_toArray, List.set_cons_zero, List.set_cons_succ]
              rw [e39]
              clear e39
              go_wp2
              go_roundw
              case rel => exact ⟨k + 1, by omega, by go_num, hy⟩
              case measure => simp [intOf]; omega
            · skip
              have hpr := fun w (h : Ext Wb w) => proper_any PL AP nP cP w ((HRP.out.below h).more (Below.size h))
              rw [HPROP.out h64] at hpr
              have HPR := Lib.hid hpr
              clear hpr
              have hx := Ext.trans hx hy
              go_wp2_with fail
              refine (HPR.out _ hx).mono ?_
              rintro e W16 ⟨rfl, hz⟩
              go_wp2
              go_ret
              exact ⟨rfl, Ext.trans hB (Ext.trans hx hz)⟩
  · rw [if_neg h64] at hps
    refine hps.mono ?_
    rintro e W9 ⟨rfl, hx⟩
    clear hps
    have hx := Ext.trans hx0 hx
    have hB := Ext.trans hB hx
    have J11 := J11.ext hx
    have J12 := J12.ext hx
    have J13 := J13.ext hx
    clear hx
    clear hx0
    have t0 : W9.cell? ⟨g13, 0, none⟩ = some (.int .i64 a) := J13.cell 0
    have t1 : W9.cell? ⟨g13, 1, none⟩ = some (.int .i64 b) := J13.cell 1
    have w1_ : IntKind.i64.wrap (b - a) = b - a := IntWalk.i64_in _ (by omega)
    have hm := HMANY.out h64
    go_wp2
    go_ret
    exact ⟨rfl, hB⟩

end Go.Proofs.Ytlmpmhfbjblhnaa
