/- ContactReach: the walk (printed by contact_e10.py). -/
import Derived.Test.YtlmpmhfbjblhnaaD1
import Derived.Test.YtlmpmhfbjblhnaaP8
import Derived.Test.YtlmpmhfbjblhnaaTn2
import Derived.BigQuiet
import Derived.Laws.Small
namespace Go.Proofs.Ytlmpmhfbjblhnaa
open Go.RowKit

def orbE (o : Orb) : List Value := [.int .i64 o.period, .int .i64 o.phase, .int .i64 o.low, .int .i64 o.high, .int .i64 o.node, .int .i64 o.turn, .int .i64 o.slack]
theorem stn_oneE (x : Stn) : (stnCells x).toArray.all (·.oneCell') = true := by simp [stnCells, Value.oneCell']
theorem view_e (o : Orb) (y : Stn) (t la : Int) (w : World) : Calls Try.prog 26 #[.agg (orbE o).toArray, .agg (stnCells y).toArray, .int .i64 t, .int .i64 la] w fun e w' => e = .returned (viewV (viewP o y t la)) ∧ Ext w w' := by
  obtain ⟨p, f, lo, hi, no, tu, sl⟩ := o
  obtain ⟨id, ⟨x, y⟩, re, an, sk⟩ := y
  exact View_any p f lo hi no tu sl id x y re an sk t la w
theorem passes_form {n : Nat} {l : List Pas} {w w' : World} {e : Ending} (h : PassesRet (if n ≤ 64 then some l else none) w e w') : ∃ (v : Value) (er : Int), e = .returned (.tuple #[v, .int .i64 er]) ∧ Ext w w' ∧ ((er = 0 ∧ n ≤ 64 ∧ w'.ownsRow w.heap.size 47 6 v l.length (l.flatMap pasCells)) ∨ (er = 90 ∧ ¬ n ≤ 64)) := by
  by_cases h64 : n ≤ 64
  · rw [if_pos h64] at h
    obtain ⟨v, rfl, h1, h2⟩ := h
    exact ⟨v, 0, rfl, h2, .inl ⟨rfl, h64, h1⟩⟩
  · rw [if_neg h64] at h
    obtain ⟨rfl, h2⟩ := h
    exact ⟨_, 90, rfl, h2, .inr ⟨rfl, h64⟩⟩
set_option maxRecDepth 100000 in
set_option maxHeartbeats 16000000 in
theorem reach_walk (x0 x1 x2 x3 x4 x5 x6 z0 z1 z2 z3 mo0 sk0 fr0 lg0 : Int) (w : World) (bx0 : I64ok x0) (bx1 : I64ok x1) (bx2 : I64ok x2) (bx3 : I64ok x3) (bx4 : I64ok x4) (bx5 : I64ok x5) (bx6 : I64ok x6) (bz0 : I64ok z0) (bz1 : I64ok z1) (bz2 : I64ok z2) (bz3 : I64ok z3) (bm : I64ok mo0) (bs : I64ok sk0) (bf : I64ok fr0) (bl : I64ok lg0) :
    Calls Try.prog 8 #[.agg #[.int .i64 x0, .int .i64 x1, .int .i64 x2, .int .i64 x3, .int .i64 x4, .int .i64 x5, .int .i64 x6], .agg #[.int .i64 z0, .int .i64 z1, .int .i64 z2, .int .i64 z3], .int .i64 mo0, .int .i64 sk0, .int .i64 fr0, .int .i64 lg0] w (Tru w) := by
  have hsat := fun w => sat_any 1 x0 x1 x2 x3 x4 x5 x6 0 0 0 0 w ⟨by omega, by omega⟩ bx0 bx1 bx2 bx3 bx4 bx5 bx6 ⟨by omega, by omega⟩ ⟨by omega, by omega⟩ ⟨by omega, by omega⟩ ⟨by omega, by omega⟩
  have hstn := fun w => station_any 2 z0 z1 z2 z3 w ⟨by omega, by omega⟩ bz0 bz1 bz2 bz3
  obtain ⟨s, hs⟩ : ∃ s, s = satP 1 x0 x1 x2 x3 x4 x5 x6 0 0 0 0 := ⟨_, rfl⟩
  have hso : satOK s = true := by rw [hs]; exact satP_ok 1 x0 x1 x2 x3 x4 x5 x6 0 0 0 0
  have hsk := satP_slack 1 x0 x1 x2 x3 x4 x5 x6 0 0 0 0
  rw [← hs] at hsat hsk
  clear hs
  obtain ⟨st, hst⟩ : ∃ st, st = stnP 2 z0 z1 z2 z3 := ⟨_, rfl⟩
  have hok : stnOK st = true := by rw [hst]; exact stnP_ok 2 z0 z1 z2 z3
  have hre := stnP_reach 2 z0 z1 z2 z3
  rw [← hst] at hstn hre
  clear hst
  have P1 := fun w => lpick_any fr0 999600 w bf.1 bf.2 (by omega) (by omega)
  have q1 := pickI_bd fr0 999600 (by omega)
  generalize pickI fr0 999600 = k1 at P1 q1
  obtain ⟨q1a, q1b⟩ := q1
  have HP1 := Lib.hid P1
  clear P1
  have P2 := fun w => lpick_any lg0 150 w bl.1 bl.2 (by omega) (by omega)
  have q2 := pickI_bd lg0 150 (by omega)
  generalize pickI lg0 150 = k2 at P2 q2
  obtain ⟨q2a, q2b⟩ := q2
  have HP2 := Lib.hid P2
  clear P2
  have P3 := fun w => lpick_any mo0 3 w bm.1 bm.2 (by omega) (by omega)
  have q3 := pickI_bd mo0 3 (by omega)
  generalize pickI mo0 3 = k3 at P3 q3
  obtain ⟨q3a, q3b⟩ := q3
  have HP3 := Lib.hid P3
  clear P3
  have P4 := fun w => lpick_any sk0 4 w bs.1 bs.2 (by omega) (by omega)
  have q4 := pickI_bd sk0 4 (by omega)
  generalize pickI sk0 4 = k4 at P4 q4
  obtain ⟨q4a, q4b⟩ := q4
  have HP4 := Lib.hid P4
  clear P4
  obtain ⟨a, ha⟩ : ∃ a, a = k1 := ⟨_, rfl⟩
  subst ha
  obtain ⟨b, hb⟩ : ∃ b, b = a + 1 + k2 := ⟨_, rfl⟩
  have ab1 : a < b := by omega
  have ab2 : b ≤ a + 150 := by omega
  have HBB := Lib.hid hb
  clear hb
  obtain ⟨sl, hsl⟩ : ∃ n, n = s.orbit.slack := ⟨_, rfl⟩
  obtain ⟨re, hre2⟩ : ∃ n, n = st.reach := ⟨_, rfl⟩
  rw [← hsl] at hsk
  rw [← hre2] at hre
  obtain ⟨sl0, sl1⟩ := hsk
  obtain ⟨re0, re1⟩ := hre
  obtain ⟨sm, hsm⟩ : ∃ n, n = sl + k4 := ⟨_, rfl⟩
  obtain ⟨rm, hrm⟩ : ∃ n, n = min 6 (re + k3) := ⟨_, rfl⟩
  have sm1 : sl ≤ sm := by omega
  have sm2 : sm ≤ 10 := by omega
  have rm1 : re ≤ rm := by omega
  have rm2 : rm ≤ 6 := by omega
  have hlo : satOK (withSlack s sm) = true := withSlack_ok hso ⟨by omega, by omega⟩
  have hfo : stnOK (withReach st rm) = true := withReach_ok hok ⟨by omega, by omega⟩
  obtain ⟨SX, hSX⟩ : ∃ X, (satCells s).toArray = X := ⟨_, rfl⟩
  have HZSX : Hid (SX.size = 21) := Lib.hid (by rw [← hSX]; rfl)
  have HOSX : Hid (SX.all (·.oneCell') = true) := Lib.hid (by rw [← hSX]; exact sat_one _)
  obtain ⟨LX, hLX⟩ : ∃ X, (satCells (withSlack s sm)).toArray = X := ⟨_, rfl⟩
  have HZLX : Hid (LX.size = 21) := Lib.hid (by rw [← hLX]; rfl)
  have HOLX : Hid (LX.all (·.oneCell') = true) := Lib.hid (by rw [← hLX]; exact sat_one _)
  obtain ⟨TX, hTX⟩ : ∃ X, (stnCells st).toArray = X := ⟨_, rfl⟩
  have HZTX : Hid (TX.size = 6) := Lib.hid (by rw [← hTX]; rfl)
  have HOTX : Hid (TX.all (·.oneCell') = true) := Lib.hid (by rw [← hTX]; exact stn_oneE _)
  obtain ⟨FX, hFX⟩ : ∃ X, (stnCells (withReach st rm)).toArray = X := ⟨_, rfl⟩
  have HZFX : Hid (FX.size = 6) := Lib.hid (by rw [← hFX]; rfl)
  have HOFX : Hid (FX.all (·.oneCell') = true) := Lib.hid (by rw [← hFX]; exact stn_oneE _)
  obtain ⟨OX, hOX⟩ : ∃ X, (orbE s.orbit).toArray = X := ⟨_, rfl⟩
  have HZOX : Hid (OX.size = 7) := Lib.hid (by rw [← hOX]; rfl)
  have HC8 : Hid (SX[8]? = some (.int .i64 sl)) := Lib.hid (by rw [← hSX, hsl]; rfl)
  have HD3 : Hid (TX[3]? = some (.int .i64 re)) := Lib.hid (by rw [← hTX, hre2]; rfl)
  have HL : Hid (SX.setIfInBounds 8 (.int .i64 sm) = LX) := Lib.hid (by rw [← hSX, ← hLX]; exact withSlack_cells s sm)
  have HF : Hid (TX.setIfInBounds 3 (.int .i64 rm) = FX) := Lib.hid (by rw [← hTX, ← hFX]; exact withReach_cells st rm)
  rw [hSX] at hsat
  rw [hTX] at hstn
  have HSAT := Lib.hid hsat
  have HSTN := Lib.hid hstn
  have hor := (sat_orb hso).1
  have hspan : spanOK ⟨a, b⟩ = true := by simp [spanOK]; omega
  obtain ⟨PA, hPA⟩ : ∃ l, l = pairP s ⟨a, b⟩ st := ⟨_, rfl⟩
  obtain ⟨nA, hnA⟩ : ∃ n, n = PA.length := ⟨_, rfl⟩
  have HPSA : Hid (∀ (w : World) (g1 g2 : Nat), Blk w g1 27 SX → Blk w g2 31 TX → Calls Try.prog 31 #[.slice (some ⟨g1, 0, none⟩) 1 1, .slice (some ⟨g2, 0, none⟩) 1 1, .agg #[.int .i64 a, .int .i64 b]] w (PassesRet (if nA ≤ 64 then some PA else none) w)) := Lib.hid (fun w g1 g2 K1 K2 => by
    have h := Passes_all [s] [st] (some ⟨g1, 0, none⟩) (some ⟨g2, 0, none⟩) 1 1 1 1 a b w (RA.one rfl (by rw [hSX]; exact K1)) (RA.one rfl (by rw [hTX]; exact K2))
    rw [passes_one hso hok hspan (by rw [← hsl]; exact sl0) ⟨q1a, ab1⟩, ← hPA, ← hnA] at h
    exact h)
  have HMANYA : Hid (¬ nA ≤ 64 → 64 < b - a) := Lib.hid (fun h => by have := pair_many (s := s) (y := st) (span := ⟨a, b⟩) ⟨by rw [← hsl]; exact sl0, by omega⟩ ⟨q1a, ab1⟩ (by rw [← hPA, ← hnA]; exact h); exact this)
  obtain ⟨PB, hPB⟩ : ∃ l, l = pairP (withSlack s sm) ⟨a, b⟩ st := ⟨_, rfl⟩
  obtain ⟨nB, hnB⟩ : ∃ n, n = PB.length := ⟨_, rfl⟩
  have HPSB : Hid (∀ (w : World) (g1 g2 : Nat), Blk w g1 27 LX → Blk w g2 31 TX → Calls Try.prog 31 #[.slice (some ⟨g1, 0, none⟩) 1 1, .slice (some ⟨g2, 0, none⟩) 1 1, .agg #[.int .i64 a, .int .i64 b]] w (PassesRet (if nB ≤ 64 then some PB else none) w)) := Lib.hid (fun w g1 g2 K1 K2 => by
    have h := Passes_all [(withSlack s sm)] [st] (some ⟨g1, 0, none⟩) (some ⟨g2, 0, none⟩) 1 1 1 1 a b w (RA.one rfl (by rw [hLX]; exact K1)) (RA.one rfl (by rw [hTX]; exact K2))
    rw [passes_one hlo hok hspan (by show 0 ≤ sm; omega) ⟨q1a, ab1⟩, ← hPB, ← hnB] at h
    exact h)
  have HMANYB : Hid (¬ nB ≤ 64 → 64 < b - a) := Lib.hid (fun h => by have := pair_many (s := (withSlack s sm)) (y := st) (span := ⟨a, b⟩) ⟨by show 0 ≤ sm; omega, by show sm ≤ 10; omega⟩ ⟨q1a, ab1⟩ (by rw [← hPB, ← hnB]; exact h); exact this)
  have HVA : Hid (∀ (t : Int) (w : World), a ≤ t → t < b → Calls Try.prog 26 #[.agg OX, .agg TX, .int .i64 t, .int .i64 0] w fun e w' => e = .returned (.tuple #[.bool (plainP s.orbit st t), .int .i64 0]) ∧ Ext w w') := Lib.hid (fun t w h1 h2 => by
    have h := view_e s.orbit st t 0 w
    rw [view_plain hor hok ⟨by omega, by omega⟩ ⟨by omega, by omega⟩, hOX, hTX, show t - 0 = t by omega] at h
    exact h)
  have HVB : Hid (∀ (t : Int) (w : World), a ≤ t → t < b → Calls Try.prog 26 #[.agg OX, .agg FX, .int .i64 t, .int .i64 0] w fun e w' => e = .returned (.tuple #[.bool (plainP s.orbit (withReach st rm) t), .int .i64 0]) ∧ Ext w w') := Lib.hid (fun t w h1 h2 => by
    have h := view_e s.orbit (withReach st rm) t 0 w
    rw [view_plain hor hfo ⟨by omega, by omega⟩ ⟨by omega, by omega⟩, hOX, hFX, show t - 0 = t by omega] at h
    exact h)
  have HNW : Hid (∀ t, plainP s.orbit st t = true → plainP s.orbit (withReach st rm) t = true) := Lib.hid (fun t h => plain_reach (by omega) h)
  have HSURE : Hid (∀ t, a ≤ t → t < b → (PB.any fun p => inS p.sure t) = true → (PA.any fun p => inS p.sure t) = true) := Lib.hid (fun t h1 h2 => by rw [hPA, hPB]; exact sure_less (by omega) (by omega) q1a h1 h2)
  have HCAN : Hid (∀ t, a ≤ t → t < b → (PA.any fun p => inS p.can t) = true → (PB.any fun p => inS p.can t) = true) := Lib.hid (fun t h1 h2 => by rw [hPA, hPB]; exact can_more (by omega) (by omega) q1a h1 h2)
  have HNA := Lib.hid hnA
  have HNB := Lib.hid hnB
  have HR9 : Hid (∀ (w : World) (g : Nat), Blk w g 27 SX → w.rangeAt g 2 OX.toList) := Lib.hid (fun w g K j u hu => by
    refine (Blk.range K SX.toList rfl) (2 + j) u ?_ |> fun h => by rw [Nat.zero_add] at h; exact h
    rw [← hSX]
    rw [← hOX] at hu
    match j, hu with
    | 0, hu => exact hu
    | 1, hu => exact hu
    | 2, hu => exact hu
    | 3, hu => exact hu
    | 4, hu => exact hu
    | 5, hu => exact hu
    | 6, hu => exact hu
    | j + 7, hu => simp [orbE] at hu)
  have HSM := Lib.hid hsm
  have HRM := Lib.hid hrm
  generalize s.orbit = ob at HVA HVB HNW
  generalize withReach st rm = fa at HVB HNW
  clear hso hok hlo hfo hSX hTX hLX hFX hOX hsl hre2 hor hspan hPA hPB hnA hnB hsat hstn hsm hrm
  go_enter Try.func8, Try.ntmps8
  go_wp2_with fail
  obtain ⟨g5, hg5⟩ : ∃ g, g = w.heap.size := ⟨_, rfl⟩
  obtain ⟨g6, hg6⟩ : ∃ g, g = w.heap.size + 1 := ⟨_, rfl⟩
  have J5 : Blk ((w.alloc (.cells #[.int .i64 x0, .int .i64 x1, .int .i64 x2, .int .i64 x3, .int .i64 x4, .int .i64 x5, .int .i64 x6] 65)).alloc (.cells #[.int .i64 z0, .int .i64 z1, .int .i64 z2, .int .i64 z3] 66)) g5 65 #[.int .i64 x0, .int .i64 x1, .int .i64 x2, .int .i64 x3, .int .i64 x4, .int .i64 x5, .int .i64 x6] := (Blk.new_at _ _ _ hg5.symm).alloc _
  have J6 : Blk ((w.alloc (.cells #[.int .i64 x0, .int .i64 x1, .int .i64 x2, .int .i64 x3, .int .i64 x4, .int .i64 x5, .int .i64 x6] 65)).alloc (.cells #[.int .i64 z0, .int .i64 z1, .int .i64 z2, .int .i64 z3] 66)) g6 66 #[.int .i64 z0, .int .i64 z1, .int .i64 z2, .int .i64 z3] := Blk.new_at _ _ _ (by simp [hg6])
  have hB : Ext w ((w.alloc (.cells #[.int .i64 x0, .int .i64 x1, .int .i64 x2, .int .i64 x3, .int .i64 x4, .int .i64 x5, .int .i64 x6] 65)).alloc (.cells #[.int .i64 z0, .int .i64 z1, .int .i64 z2, .int .i64 z3] 66)) := bl_alloc (bl_alloc (Below.refl _ _) _) _
  rw [← hg6, ← hg5]
  generalize (w.alloc (.cells #[.int .i64 x0, .int .i64 x1, .int .i64 x2, .int .i64 x3, .int .i64 x4, .int .i64 x5, .int .i64 x6] 65)).alloc (.cells #[.int .i64 z0, .int .i64 z1, .int .i64 z2, .int .i64 z3] 66) = W0 at J5 J6 hB ⊢
  clear hg5 hg6
  refine (sane_any _).mono ?_
  rintro e W1 ⟨rfl, hx⟩
  have J5 := J5.ext hx
  have J6 := J6.ext hx
  have hB := Ext.trans hB hx
  clear hx
  have k_0 : W1.cell? ⟨g5, 0, none⟩ = some (.int .i64 x0) := J5.cell 0
  have k_1 : W1.cell? ⟨g5, 1, none⟩ = some (.int .i64 x1) := J5.cell 1
  have k_2 : W1.cell? ⟨g5, 2, none⟩ = some (.int .i64 x2) := J5.cell 2
  have k_3 : W1.cell? ⟨g5, 3, none⟩ = some (.int .i64 x3) := J5.cell 3
  have k_4 : W1.cell? ⟨g5, 4, none⟩ = some (.int .i64 x4) := J5.cell 4
  have k_5 : W1.cell? ⟨g5, 5, none⟩ = some (.int .i64 x5) := J5.cell 5
  have k_6 : W1.cell? ⟨g5, 6, none⟩ = some (.int .i64 x6) := J5.cell 6
  go_wp2_with (fail)
  refine (HSAT.out _).mono ?_
  rintro e W2 ⟨rfl, hx⟩
  have J5 := J5.ext hx
  have J6 := J6.ext hx
  have hB := Ext.trans hB hx
  clear hx
  clear k_0 k_1 k_2 k_3 k_4 k_5 k_6
  clear J5
  go_upto_region 4 with (refine wpList_store_new rfl 27 _ _ rfl _ SX rfl rfl (by rw [HZSX.out]; exact sat_size) (by rw [HZSX.out]; rfl) HOSX.out ?_)
  have J13 : Blk (W2.alloc (.cells SX 27)) W2.heap.size 27 SX := Blk.new _ _ _
  have hx : Ext W2 (W2.alloc (.cells SX 27)) := bl_alloc (Below.refl _ _) _
  obtain ⟨g13, hg⟩ : ∃ g, g = W2.heap.size := ⟨_, rfl⟩
  have n_J6_J13 : g6 ≠ g13 := by have := J6.lt; omega
  have n_w_J13 : w.heap.size ≤ g13 := by have := hB.size; omega
  rw [← hg] at J13 ⊢
  generalize W2.alloc (.cells SX 27) = W3 at J13 hx ⊢
  have J6 := J6.ext hx
  have hB := Ext.trans hB hx
  clear hx
  clear hg
  clear n_J6_J13 n_w_J13
  have k_0 : W3.cell? ⟨g6, 0, none⟩ = some (.int .i64 z0) := J6.cell 0
  have k_1 : W3.cell? ⟨g6, 1, none⟩ = some (.int .i64 z1) := J6.cell 1
  have k_2 : W3.cell? ⟨g6, 2, none⟩ = some (.int .i64 z2) := J6.cell 2
  have k_3 : W3.cell? ⟨g6, 3, none⟩ = some (.int .i64 z3) := J6.cell 3
  go_wp2_with (fail)
  refine (HSTN.out _).mono ?_
  rintro e W4 ⟨rfl, hx⟩
  have J6 := J6.ext hx
  have hB := Ext.trans hB hx
  have J13 := J13.ext hx
  clear hx
  clear k_0 k_1 k_2 k_3
  clear J6
  go_upto_region 5 with (refine wpList_store_new rfl 31 _ _ rfl _ TX rfl rfl (by rw [HZTX.out]; exact stn_size_) (by rw [HZTX.out]; rfl) HOTX.out ?_)
  have J14 : Blk (W4.alloc (.cells TX 31)) W4.heap.size 31 TX := Blk.new _ _ _
  have hx : Ext W4 (W4.alloc (.cells TX 31)) := bl_alloc (Below.refl _ _) _
  obtain ⟨g14, hg⟩ : ∃ g, g = W4.heap.size := ⟨_, rfl⟩
  have n_J13_J14 : g13 ≠ g14 := by have := J13.lt; omega
  have n_w_J14 : w.heap.size ≤ g14 := by have := hB.size; omega
  rw [← hg] at J14 ⊢
  generalize W4.alloc (.cells TX 31) = W5 at J14 hx ⊢
  have hB := Ext.trans hB hx
  have J13 := J13.ext hx
  clear hx
  clear hg
  clear n_J13_J14 n_w_J14
  go_upto_region 6 with (first | (refine wpList_load_st rfl 31 _ rfl g14 0 rfl TX TX.toList (by simp) _ (Blk.range J14 _ rfl) Try.underlying31 rfl (by rw [Array.length_toList, HZTX.out]; exact stn_size_) ?_) | (refine wpList_store_new rfl 31 _ _ rfl _ TX rfl rfl (by rw [HZTX.out]; exact stn_size_) (by rw [HZTX.out]; rfl) HOTX.out ?_))
  have J15 : Blk (W5.alloc (.cells TX 31)) W5.heap.size 31 TX := Blk.new _ _ _
  have hx : Ext W5 (W5.alloc (.cells TX 31)) := bl_alloc (Below.refl _ _) _
  obtain ⟨g15, hg⟩ : ∃ g, g = W5.heap.size := ⟨_, rfl⟩
  have n_J13_J15 : g13 ≠ g15 := by have := J13.lt; omega
  have n_J14_J15 : g14 ≠ g15 := by have := J14.lt; omega
  have n_w_J15 : w.heap.size ≤ g15 := by have := hB.size; omega
  rw [← hg] at J15 ⊢
  generalize W5.alloc (.cells TX 31) = W6 at J15 hx ⊢
  have hB := Ext.trans hB hx
  have J13 := J13.ext hx
  have J14 := J14.ext hx
  clear hx
  clear hg
  have d3 : W6.cell? ⟨g14, 3, none⟩ = some (.int .i64 re) := (J14.cell 3).trans HD3.out
  have w1_ : IntKind.i64.wrap (re + k3) = rm := by rw [HRM.out, show min 6 (re + k3) = re + k3 by omega]; exact IntWalk.i64_in _ (by omega)
  refine wp_region_obl 7 (fun ix vals v w1 => match ix with | 0 => v = .pointer (some ⟨g14, 3, none⟩) | 1 => v = .int .i64 re | 2 => v = .int .i64 mo0 | 3 => v = .int .i64 k3 | 4 => v = .int .i64 rm | 5 => v = .int .i64 rm | _ => v = .pointer (some ⟨g15, 3, none⟩)) (by kernel_rfl) (by kernel_rfl) ?_ ?_ ?_ ?_
  · intro ix vals v w1 w2 hi hr hx
    match ix, hr with
    | 0, hr => exact hr
    | 1, hr => exact hr
    | 2, hr => exact hr
    | 3, hr => exact hr
    | 4, hr => exact hr
    | 5, hr => exact hr
    | (kx + 6), hr => exact hr
  · intro ix vals vals_ v w1 hi hv hr
    exact hr
  · refine obls_ofT [some 38, some 39, some 40, some 41, some 42, some 43, some 44, none] [(14, .pointer (some ⟨g14, 0, none⟩)), (15, .pointer (some ⟨g15, 0, none⟩)), (2, .int .i64 mo0)] 207 (by kernel_rfl) (by kernel_rfl) ⟨by kernel_rfl, by kernel_rfl, by kernel_rfl, trivial⟩ ?_
    refine ⟨?_, ?_, ?_, ?_, ?_, ?_, ?_, trivial⟩
    · intro vals w1 hx hd
      refine .run [(14, .pointer (some ⟨g14, 0, none⟩))] { dst := some 0, op := Go.Op.fieldAddr 31 (Go.Operand.const (.pointer (some ⟨g14, 0, none⟩))) 2, type := 0, pos := "", after := #[], guard := none } 38 ⟨.out (by kernel_rfl) (by kernel_rfl), trivial⟩ (by kernel_rfl) (by kernel_rfl) (by kernel_rfl) rfl rfl rfl ?_
      clear hd
      go_wp2
      exact ⟨rfl, Ext.refl _, rfl⟩
    · intro vals w1 hx hd
      have e0 : vals 0 = .pointer (some ⟨g14, 3, none⟩) := hd 0 (by decide)
      refine .run [(38, .pointer (some ⟨g14, 3, none⟩))] { dst := some 0, op := Go.Op.load 3 (Go.Operand.const (.pointer (some ⟨g14, 3, none⟩))), type := 3, pos := "", after := #[], guard := none } 39 ⟨.inn 0 (by kernel_rfl) e0, trivial⟩ (by kernel_rfl) (by kernel_rfl) (by kernel_rfl) rfl rfl rfl ?_
      clear hd e0
      have d3 := ext_cell hx d3
      go_wp2
      exact ⟨rfl, Ext.refl _, rfl⟩
    · intro vals w1 hx hd
      refine .run [(2, .int .i64 mo0)] { dst := some 0, op := Go.Op.move (Go.Operand.const (.int .i64 mo0)), type := 3, pos := "", after := #[], guard := none } 40 ⟨.out (by kernel_rfl) (by kernel_rfl), trivial⟩ (by kernel_rfl) (by kernel_rfl) (by kernel_rfl) rfl rfl rfl ?_
      clear hd
      go_wp2
      exact ⟨rfl, Ext.refl _, rfl⟩
    · intro vals w1 hx hd
      have e2 : vals 2 = .int .i64 mo0 := hd 2 (by decide)
      refine .run [(40, .int .i64 mo0)] { dst := some 0, op := Go.Op.call { callee := Go.Callee.value (Go.Operand.func 13), args := #[(Go.Operand.const (.int .i64 mo0)), Go.Operand.const (Go.Value.int Go.IntKind.i64 3)], argTypes := #[3, 3] }, type := 3, pos := "", after := #[], guard := none } 41 ⟨.inn 2 (by kernel_rfl) e2, trivial⟩ (by kernel_rfl) (by kernel_rfl) (by kernel_rfl) rfl rfl rfl ?_
      clear hd e2
      go_wp2_with fail
      refine (HP3.out _).mono ?_
      rintro e w2 ⟨rfl, rfl⟩
      go_wp2
      exact ⟨rfl, Ext.refl _, rfl⟩
    · intro vals w1 hx hd
      have e1 : vals 1 = .int .i64 re := hd 1 (by decide)
      have e3 : vals 3 = .int .i64 k3 := hd 3 (by decide)
      refine .run [(39, .int .i64 re), (41, .int .i64 k3)] { dst := some 0, op := Go.Op.binOp Go.BinOp.add 3 (Go.Operand.const (.int .i64 re)) (Go.Operand.const (.int .i64 k3)) 3, type := 3, pos := "", after := #[], guard := none } 42 ⟨.inn 1 (by kernel_rfl) e1, .inn 3 (by kernel_rfl) e3, trivial⟩ (by kernel_rfl) (by kernel_rfl) (by kernel_rfl) rfl rfl rfl ?_
      clear hd e1 e3
      go_wp2
      exact ⟨rfl, Ext.refl _, rfl⟩
    · intro vals w1 hx hd
      have e4 : vals 4 = .int .i64 rm := hd 4 (by decide)
      refine .run [(42, .int .i64 rm)] { dst := some 0, op := Go.Op.call { callee := Go.Callee.builtin Go.Builtin.min, args := #[Go.Operand.const (Go.Value.int Go.IntKind.i64 6), (Go.Operand.const (.int .i64 rm))], argTypes := #[3, 3] }, type := 3, pos := "", after := #[], guard := none } 43 ⟨.inn 4 (by kernel_rfl) e4, trivial⟩ (by kernel_rfl) (by kernel_rfl) (by kernel_rfl) rfl rfl rfl ?_
      clear hd e4
      by_cases hm6 : rm < 6
      all_goals go_wp2
      all_goals exact ⟨rfl, Ext.refl _, by first | rfl | exact (congrArg (Value.int .i64) (show (6 : Int) = rm by omega) : Value.int .i64 6 = Value.int .i64 rm)⟩
    · intro vals w1 hx hd
      refine .run [(15, .pointer (some ⟨g15, 0, none⟩))] { dst := some 0, op := Go.Op.fieldAddr 31 (Go.Operand.const (.pointer (some ⟨g15, 0, none⟩))) 2, type := 0, pos := "", after := #[], guard := none } 44 ⟨.out (by kernel_rfl) (by kernel_rfl), trivial⟩ (by kernel_rfl) (by kernel_rfl) (by kernel_rfl) rfl rfl rfl ?_
      clear hd
      go_wp2
      exact ⟨rfl, Ext.refl _, rfl⟩
  intro vals W7 hx hf
  have e5 : vals 5 = .int .i64 rm := hf 5 (by omega)
  have e6 : vals 6 = .pointer (some ⟨g15, 3, none⟩) := hf 6 (by omega)
  clear hf d3 w1_
  have hx := hx.undrew
  have hB := Ext.trans hB hx
  have J13 := J13.ext hx
  have J14 := J14.ext hx
  have J15 := J15.ext hx
  clear hx
  refine tail1 7 _ (by kernel_rfl) (by kernel_rfl) rfl ?_
  simp only [Lf, dstAt, Act.put, List.getElem?_toArray, List.getElem?_cons_zero, List.getElem?_cons_succ, Option.bind_some, List.setIfInBounds_toArray, List.set_cons_zero, List.set_cons_succ]
  rw [e5, e6]
  clear e5 e6
  have t1 : W7.cell? ⟨g15, 3, none⟩ = some (.int .i64 re) := (J15.cell 3).trans HD3.out
  have t2 : W7.frozen? ⟨g15, 3, none⟩ = false := J15.frozen 3
  go_upto_region 7 with (fail)
  clear t1 t2
  have hB := hB.setCell (p := ⟨g15, 3, none⟩) n_w_J15 (.int .i64 rm)
  have J13 := J13.far (p := ⟨g15, 3, none⟩) n_J13_J15 (.int .i64 rm)
  have J14 := J14.far (p := ⟨g15, 3, none⟩) n_J14_J15 (.int .i64 rm)
  have J15 := J15.set_ 3 (.int .i64 rm)
  rw [HF.out] at J15
  generalize W7.setCell ⟨g15, 3, none⟩ (.int .i64 rm) = W8 at hB J13 J14 J15 ⊢
  clear n_J13_J15 n_J14_J15 n_w_J15
  go_upto_region 8 with (first | (refine wpList_load_st rfl 27 _ rfl g13 0 rfl SX SX.toList (by simp) _ (Blk.range J13 _ rfl) Try.underlying27 rfl (by rw [Array.length_toList, HZSX.out]; exact sat_size) ?_) | (refine wpList_store_new rfl 27 _ _ rfl _ SX rfl rfl (by rw [HZSX.out]; exact sat_size) (by rw [HZSX.out]; rfl) HOSX.out ?_))
  have J16 : Blk (W8.alloc (.cells SX 27)) W8.heap.size 27 SX := Blk.new _ _ _
  have hx : Ext W8 (W8.alloc (.cells SX 27)) := bl_alloc (Below.refl _ _) _
  obtain ⟨g16, hg⟩ : ∃ g, g = W8.heap.size := ⟨_, rfl⟩
  have n_J13_J16 : g13 ≠ g16 := by have := J13.lt; omega
  have n_J14_J16 : g14 ≠ g16 := by have := J14.lt; omega
  have n_J15_J16 : g15 ≠ g16 := by have := J15.lt; omega
  have n_w_J16 : w.heap.size ≤ g16 := by have := hB.size; omega
  rw [← hg] at J16 ⊢
  generalize W8.alloc (.cells SX 27) = W9 at J16 hx ⊢
  have hB := Ext.trans hB hx
  have J13 := J13.ext hx
  have J14 := J14.ext hx
  have J15 := J15.ext hx
  clear hx
  clear hg
  have d8 : W9.cell? ⟨g13, 8, none⟩ = some (.int .i64 sl) := (J13.cell 8).trans HC8.out
  have w1_ : IntKind.i64.wrap (sl + k4) = sm := by rw [HSM.out]; exact IntWalk.i64_in _ (by omega)
  refine wp_region_obl 8 (fun ix vals v w1 => match ix with | 0 => v = .pointer (some ⟨g13, 2, none⟩) | 1 => v = .pointer (some ⟨g13, 8, none⟩) | 2 => v = .int .i64 sl | 3 => v = .int .i64 sk0 | 4 => v = .int .i64 k4 | 5 => v = .int .i64 sm | 6 => v = .pointer (some ⟨g16, 2, none⟩) | _ => v = .pointer (some ⟨g16, 8, none⟩)) (by kernel_rfl) (by kernel_rfl) ?_ ?_ ?_ ?_
  · intro ix vals v w1 w2 hi hr hx
    match ix, hr with
    | 0, hr => exact hr
    | 1, hr => exact hr
    | 2, hr => exact hr
    | 3, hr => exact hr
    | 4, hr => exact hr
    | 5, hr => exact hr
    | 6, hr => exact hr
    | (kx + 7), hr => exact hr
  · intro ix vals vals_ v w1 hi hv hr
    exact hr
  · refine obls_ofT [some 46, some 47, some 48, some 49, some 50, some 51, some 52, some 53, none] [(13, .pointer (some ⟨g13, 0, none⟩)), (16, .pointer (some ⟨g16, 0, none⟩)), (3, .int .i64 sk0)] 207 (by kernel_rfl) (by kernel_rfl) ⟨by kernel_rfl, by kernel_rfl, by kernel_rfl, trivial⟩ ?_
    refine ⟨?_, ?_, ?_, ?_, ?_, ?_, ?_, ?_, trivial⟩
    · intro vals w1 hx hd
      refine .run [(13, .pointer (some ⟨g13, 0, none⟩))] { dst := some 0, op := Go.Op.fieldAddr 27 (Go.Operand.const (.pointer (some ⟨g13, 0, none⟩))) 2, type := 0, pos := "", after := #[], guard := none } 46 ⟨.out (by kernel_rfl) (by kernel_rfl), trivial⟩ (by kernel_rfl) (by kernel_rfl) (by kernel_rfl) rfl rfl rfl ?_
      clear hd
      go_wp2
      exact ⟨rfl, Ext.refl _, rfl⟩
    · intro vals w1 hx hd
      have e0 : vals 0 = .pointer (some ⟨g13, 2, none⟩) := hd 0 (by decide)
      refine .run [(46, .pointer (some ⟨g13, 2, none⟩))] { dst := some 0, op := Go.Op.fieldAddr 25 (Go.Operand.const (.pointer (some ⟨g13, 2, none⟩))) 6, type := 0, pos := "", after := #[], guard := none } 47 ⟨.inn 0 (by kernel_rfl) e0, trivial⟩ (by kernel_rfl) (by kernel_rfl) (by kernel_rfl) rfl rfl rfl ?_
      clear hd e0
      go_wp2
      exact ⟨rfl, Ext.refl _, rfl⟩
    · intro vals w1 hx hd
      have e1 : vals 1 = .pointer (some ⟨g13, 8, none⟩) := hd 1 (by decide)
      refine .run [(47, .pointer (some ⟨g13, 8, none⟩))] { dst := some 0, op := Go.Op.load 3 (Go.Operand.const (.pointer (some ⟨g13, 8, none⟩))), type := 3, pos := "", after := #[], guard := none } 48 ⟨.inn 1 (by kernel_rfl) e1, trivial⟩ (by kernel_rfl) (by kernel_rfl) (by kernel_rfl) rfl rfl rfl ?_
      clear hd e1
      have d8 := ext_cell hx d8
      go_wp2
      exact ⟨rfl, Ext.refl _, rfl⟩
    · intro vals w1 hx hd
      refine .run [(3, .int .i64 sk0)] { dst := some 0, op := Go.Op.move (Go.Operand.const (.int .i64 sk0)), type := 3, pos := "", after := #[], guard := none } 49 ⟨.out (by kernel_rfl) (by kernel_rfl), trivial⟩ (by kernel_rfl) (by kernel_rfl) (by kernel_rfl) rfl rfl rfl ?_
      clear hd
      go_wp2
      exact ⟨rfl, Ext.refl _, rfl⟩
    · intro vals w1 hx hd
      have e3 : vals 3 = .int .i64 sk0 := hd 3 (by decide)
      refine .run [(49, .int .i64 sk0)] { dst := some 0, op := Go.Op.call { callee := Go.Callee.value (Go.Operand.func 13), args := #[(Go.Operand.const (.int .i64 sk0)), Go.Operand.const (Go.Value.int Go.IntKind.i64 4)], argTypes := #[3, 3] }, type := 3, pos := "", after := #[], guard := none } 50 ⟨.inn 3 (by kernel_rfl) e3, trivial⟩ (by kernel_rfl) (by kernel_rfl) (by kernel_rfl) rfl rfl rfl ?_
      clear hd e3
      go_wp2_with fail
      refine (HP4.out _).mono ?_
      rintro e w2 ⟨rfl, rfl⟩
      go_wp2
      exact ⟨rfl, Ext.refl _, rfl⟩
    · intro vals w1 hx hd
      have e2 : vals 2 = .int .i64 sl := hd 2 (by decide)
      have e4 : vals 4 = .int .i64 k4 := hd 4 (by decide)
      refine .run [(48, .int .i64 sl), (50, .int .i64 k4)] { dst := some 0, op := Go.Op.binOp Go.BinOp.add 3 (Go.Operand.const (.int .i64 sl)) (Go.Operand.const (.int .i64 k4)) 3, type := 3, pos := "", after := #[], guard := none } 51 ⟨.inn 2 (by kernel_rfl) e2, .inn 4 (by kernel_rfl) e4, trivial⟩ (by kernel_rfl) (by kernel_rfl) (by kernel_rfl) rfl rfl rfl ?_
      clear hd e2 e4
      go_wp2
      exact ⟨rfl, Ext.refl _, rfl⟩
    · intro vals w1 hx hd
      refine .run [(16, .pointer (some ⟨g16, 0, none⟩))] { dst := some 0, op := Go.Op.fieldAddr 27 (Go.Operand.const (.pointer (some ⟨g16, 0, none⟩))) 2, type := 0, pos := "", after := #[], guard := none } 52 ⟨.out (by kernel_rfl) (by kernel_rfl), trivial⟩ (by kernel_rfl) (by kernel_rfl) (by kernel_rfl) rfl rfl rfl ?_
      clear hd
      go_wp2
      exact ⟨rfl, Ext.refl _, rfl⟩
    · intro vals w1 hx hd
      have e6 : vals 6 = .pointer (some ⟨g16, 2, none⟩) := hd 6 (by decide)
      refine .run [(52, .pointer (some ⟨g16, 2, none⟩))] { dst := some 0, op := Go.Op.fieldAddr 25 (Go.Operand.const (.pointer (some ⟨g16, 2, none⟩))) 6, type := 0, pos := "", after := #[], guard := none } 53 ⟨.inn 6 (by kernel_rfl) e6, trivial⟩ (by kernel_rfl) (by kernel_rfl) (by kernel_rfl) rfl rfl rfl ?_
      clear hd e6
      go_wp2
      exact ⟨rfl, Ext.refl _, rfl⟩
  intro vals Wa hx hf
  have e5 : vals 5 = .int .i64 sm := hf 5 (by omega)
  have e7 : vals 7 = .pointer (some ⟨g16, 8, none⟩) := hf 7 (by omega)
  clear hf d8 w1_
  have hx := hx.undrew
  have hB := Ext.trans hB hx
  have J13 := J13.ext hx
  have J14 := J14.ext hx
  have J15 := J15.ext hx
  have J16 := J16.ext hx
  clear hx
  refine tail1 8 _ (by kernel_rfl) (by kernel_rfl) rfl ?_
  simp only [Lf, dstAt, Act.put, List.getElem?_toArray, List.getElem?_cons_zero, List.getElem?_cons_succ, Option.bind_some, List.setIfInBounds_toArray, List.set_cons_zero, List.set_cons_succ]
  rw [e5, e7]
  clear e5 e7
  have t1 : Wa.cell? ⟨g16, 8, none⟩ = some (.int .i64 sl) := (J16.cell 8).trans HC8.out
  have t2 : Wa.frozen? ⟨g16, 8, none⟩ = false := J16.frozen 8
  go_upto_region 9 with (fail)
  clear t1 t2
  have hB := hB.setCell (p := ⟨g16, 8, none⟩) n_w_J16 (.int .i64 sm)
  have J13 := J13.far (p := ⟨g16, 8, none⟩) n_J13_J16 (.int .i64 sm)
  have J14 := J14.far (p := ⟨g16, 8, none⟩) n_J14_J16 (.int .i64 sm)
  have J15 := J15.far (p := ⟨g16, 8, none⟩) n_J15_J16 (.int .i64 sm)
  have J16 := J16.set_ 8 (.int .i64 sm)
  rw [HL.out] at J16
  generalize Wa.setCell ⟨g16, 8, none⟩ (.int .i64 sm) = Wb at hB J13 J14 J15 J16 ⊢
  clear n_J13_J16 n_J14_J16 n_J15_J16 n_w_J16
  go_wp2_with (fail)
  refine (HP1.out _).mono ?_
  rintro e w2 ⟨rfl, rfl⟩
  go_upto_region 10 with (fail)
  have J17 : Blk (Wb.alloc (.cells #[.int .i64 a, .int .i64 0] 34)) Wb.heap.size 34 #[.int .i64 a, .int .i64 0] := Blk.new _ _ _
  have hx : Ext Wb (Wb.alloc (.cells #[.int .i64 a, .int .i64 0] 34)) := bl_alloc (Below.refl _ _) _
  obtain ⟨g17, hg⟩ : ∃ g, g = Wb.heap.size := ⟨_, rfl⟩
  have n_J13_J17 : g13 ≠ g17 := by have := J13.lt; omega
  have n_J14_J17 : g14 ≠ g17 := by have := J14.lt; omega
  have n_J15_J17 : g15 ≠ g17 := by have := J15.lt; omega
  have n_J16_J17 : g16 ≠ g17 := by have := J16.lt; omega
  have n_w_J17 : w.heap.size ≤ g17 := by have := hB.size; omega
  rw [← hg] at J17 ⊢
  generalize Wb.alloc (.cells #[.int .i64 a, .int .i64 0] 34) = Wc at J17 hx ⊢
  have hB := Ext.trans hB hx
  have J13 := J13.ext hx
  have J14 := J14.ext hx
  have J15 := J15.ext hx
  have J16 := J16.ext hx
  clear hx
  clear hg
  have t0 : Wc.cell? ⟨g17, 0, none⟩ = some (.int .i64 a) := J17.cell 0
  have w1_ : IntKind.i64.wrap (a + 1) = a + 1 := IntWalk.i64_in _ (by omega)
  have w2_ : IntKind.i64.wrap (a + 1 + k2) = b := by rw [HBB.out]; exact IntWalk.i64_in _ (by omega)
  refine wp_region_obl 7 (fun ix vals v w1 => match ix with | 0 => v = .pointer (some ⟨g17, 0, none⟩) | 1 => v = .int .i64 a | 2 => v = .int .i64 (a + 1) | 3 => v = .int .i64 lg0 | 4 => v = .int .i64 k2 | 5 => v = .int .i64 b | _ => v = .pointer (some ⟨g17, 1, none⟩)) (by kernel_rfl) (by kernel_rfl) ?_ ?_ ?_ ?_
  · intro ix vals v w1 w2 hi hr hx
    match ix, hr with
    | 0, hr => exact hr
    | 1, hr => exact hr
    | 2, hr => exact hr
    | 3, hr => exact hr
    | 4, hr => exact hr
    | 5, hr => exact hr
    | (kx + 6), hr => exact hr
  · intro ix vals vals_ v w1 hi hv hr
    exact hr
  · refine obls_ofT [some 57, some 58, some 59, some 60, some 61, some 62, some 63, none] [(17, .pointer (some ⟨g17, 0, none⟩)), (5, .int .i64 lg0)] 207 (by kernel_rfl) (by kernel_rfl) ⟨by kernel_rfl, by kernel_rfl, trivial⟩ ?_
    refine ⟨?_, ?_, ?_, ?_, ?_, ?_, ?_, trivial⟩
    · intro vals w1 hx hd
      refine .run [(17, .pointer (some ⟨g17, 0, none⟩))] { dst := some 0, op := Go.Op.fieldAddr 34 (Go.Operand.const (.pointer (some ⟨g17, 0, none⟩))) 0, type := 0, pos := "", after := #[], guard := none } 57 ⟨.out (by kernel_rfl) (by kernel_rfl), trivial⟩ (by kernel_rfl) (by kernel_rfl) (by kernel_rfl) rfl rfl rfl ?_
      clear hd
      go_wp2
      exact ⟨rfl, Ext.refl _, rfl⟩
    · intro vals w1 hx hd
      have e0 : vals 0 = .pointer (some ⟨g17, 0, none⟩) := hd 0 (by decide)
      refine .run [(57, .pointer (some ⟨g17, 0, none⟩))] { dst := some 0, op := Go.Op.load 3 (Go.Operand.const (.pointer (some ⟨g17, 0, none⟩))), type := 3, pos := "", after := #[], guard := none } 58 ⟨.inn 0 (by kernel_rfl) e0, trivial⟩ (by kernel_rfl) (by kernel_rfl) (by kernel_rfl) rfl rfl rfl ?_
      clear hd e0
      have t0 := ext_cell hx t0
      go_wp2
      exact ⟨rfl, Ext.refl _, rfl⟩
    · intro vals w1 hx hd
      have e1 : vals 1 = .int .i64 a := hd 1 (by decide)
      refine .run [(58, .int .i64 a)] { dst := some 0, op := Go.Op.binOp Go.BinOp.add 3 (Go.Operand.const (.int .i64 a)) (Go.Operand.const (Go.Value.int Go.IntKind.i64 1)) 3, type := 3, pos := "", after := #[], guard := none } 59 ⟨.inn 1 (by kernel_rfl) e1, trivial⟩ (by kernel_rfl) (by kernel_rfl) (by kernel_rfl) rfl rfl rfl ?_
      clear hd e1
      go_wp2
      exact ⟨rfl, Ext.refl _, rfl⟩
    · intro vals w1 hx hd
      refine .run [(5, .int .i64 lg0)] { dst := some 0, op := Go.Op.move (Go.Operand.const (.int .i64 lg0)), type := 3, pos := "", after := #[], guard := none } 60 ⟨.out (by kernel_rfl) (by kernel_rfl), trivial⟩ (by kernel_rfl) (by kernel_rfl) (by kernel_rfl) rfl rfl rfl ?_
      clear hd
      go_wp2
      exact ⟨rfl, Ext.refl _, rfl⟩
    · intro vals w1 hx hd
      have e3 : vals 3 = .int .i64 lg0 := hd 3 (by decide)
      refine .run [(60, .int .i64 lg0)] { dst := some 0, op := Go.Op.call { callee := Go.Callee.value (Go.Operand.func 13), args := #[(Go.Operand.const (.int .i64 lg0)), Go.Operand.const (Go.Value.int Go.IntKind.i64 150)], argTypes := #[3, 3] }, type := 3, pos := "", after := #[], guard := none } 61 ⟨.inn 3 (by kernel_rfl) e3, trivial⟩ (by kernel_rfl) (by kernel_rfl) (by kernel_rfl) rfl rfl rfl ?_
      clear hd e3
      go_wp2_with fail
      refine (HP2.out _).mono ?_
      rintro e w2 ⟨rfl, rfl⟩
      go_wp2
      exact ⟨rfl, Ext.refl _, rfl⟩
    · intro vals w1 hx hd
      have e2 : vals 2 = .int .i64 (a + 1) := hd 2 (by decide)
      have e4 : vals 4 = .int .i64 k2 := hd 4 (by decide)
      refine .run [(59, .int .i64 (a + 1)), (61, .int .i64 k2)] { dst := some 0, op := Go.Op.binOp Go.BinOp.add 3 (Go.Operand.const (.int .i64 (a + 1))) (Go.Operand.const (.int .i64 k2)) 3, type := 3, pos := "", after := #[], guard := none } 62 ⟨.inn 2 (by kernel_rfl) e2, .inn 4 (by kernel_rfl) e4, trivial⟩ (by kernel_rfl) (by kernel_rfl) (by kernel_rfl) rfl rfl rfl ?_
      clear hd e2 e4
      go_wp2
      exact ⟨rfl, Ext.refl _, rfl⟩
    · intro vals w1 hx hd
      refine .run [(17, .pointer (some ⟨g17, 0, none⟩))] { dst := some 0, op := Go.Op.fieldAddr 34 (Go.Operand.const (.pointer (some ⟨g17, 0, none⟩))) 1, type := 0, pos := "", after := #[], guard := none } 63 ⟨.out (by kernel_rfl) (by kernel_rfl), trivial⟩ (by kernel_rfl) (by kernel_rfl) (by kernel_rfl) rfl rfl rfl ?_
      clear hd
      go_wp2
      exact ⟨rfl, Ext.refl _, rfl⟩
  intro vals Wd hx hf
  have e5 : vals 5 = .int .i64 b := hf 5 (by omega)
  have e6 : vals 6 = .pointer (some ⟨g17, 1, none⟩) := hf 6 (by omega)
  clear hf t0 w1_ w2_
  have hx := hx.undrew
  have hB := Ext.trans hB hx
  have J13 := J13.ext hx
  have J14 := J14.ext hx
  have J15 := J15.ext hx
  have J16 := J16.ext hx
  have J17 := J17.ext hx
  clear hx
  refine tail1 7 _ (by kernel_rfl) (by kernel_rfl) rfl ?_
  simp only [Lf, dstAt, Act.put, List.getElem?_toArray, List.getElem?_cons_zero, List.getElem?_cons_succ, Option.bind_some, List.setIfInBounds_toArray, List.set_cons_zero, List.set_cons_succ]
  rw [e5, e6]
  clear e5 e6
  have t1 : Wd.cell? ⟨g17, 1, none⟩ = some (.int .i64 0) := J17.cell 1
  have t2 : Wd.frozen? ⟨g17, 1, none⟩ = false := J17.frozen 1
  go_upto_region 11 with (fail)
  clear t1 t2
  have hB := hB.setCell (p := ⟨g17, 1, none⟩) n_w_J17 (.int .i64 b)
  have J13 := J13.far (p := ⟨g17, 1, none⟩) n_J13_J17 (.int .i64 b)
  have J14 := J14.far (p := ⟨g17, 1, none⟩) n_J14_J17 (.int .i64 b)
  have J15 := J15.far (p := ⟨g17, 1, none⟩) n_J15_J17 (.int .i64 b)
  have J16 := J16.far (p := ⟨g17, 1, none⟩) n_J16_J17 (.int .i64 b)
  have J17 := J17.set_ 1 (.int .i64 b)
  simp only [List.setIfInBounds_toArray, List.set_cons_zero, List.set_cons_succ] at J17
  generalize Wd.setCell ⟨g17, 1, none⟩ (.int .i64 b) = We at hB J13 J14 J15 J16 J17 ⊢
  clear n_J13_J17 n_J14_J17 n_J15_J17 n_J16_J17 n_w_J17
  have p0 : ((We.alloc (.cells SX 27)).alloc (.cells TX 31)).cell? ⟨g17, 0, none⟩ = some (.int .i64 a) := ((J17.alloc _).alloc _).cell 0
  have p1 : ((We.alloc (.cells SX 27)).alloc (.cells TX 31)).cell? ⟨g17, 1, none⟩ = some (.int .i64 b) := ((J17.alloc _).alloc _).cell 1
  have J14a := J14.alloc (.cells SX 27)
  go_wp2_with (first | (refine wpList_load_st rfl 27 _ rfl g13 0 rfl SX SX.toList (by simp) _ (Blk.range J13 _ rfl) Try.underlying27 rfl (by rw [Array.length_toList, HZSX.out]; exact sat_size) ?_) | (refine wpList_buildOne rfl 36 27 _ rfl SX rfl Try.underlying36 21 info_sat2 HZSX.out (by omega) (by omega) ?_) | (refine wpList_load_st rfl 31 _ rfl g14 0 rfl TX TX.toList (by simp) _ (Blk.range J14a _ rfl) Try.underlying31 rfl (by rw [Array.length_toList, HZTX.out]; exact stn_size_) ?_) | (refine wpList_buildOne rfl 38 31 _ rfl TX rfl Try.underlying38 6 info_stn2 HZTX.out (by omega) (by omega) ?_))
  have JA : Blk ((We.alloc (.cells SX 27)).alloc (.cells TX 31)) We.heap.size 27 SX := (Blk.new _ _ _).alloc _
  have JB : Blk ((We.alloc (.cells SX 27)).alloc (.cells TX 31)) (We.heap.size + 1) 31 TX := Blk.new_at _ _ _ (by simp)
  have hx0 : Ext We ((We.alloc (.cells SX 27)).alloc (.cells TX 31)) := bl_alloc (bl_alloc (Below.refl _ _) _) _
  refine (HPSA.out _ _ _ JA JB).mono ?_
  clear HPSA JA JB J14a p0 p1
  intro e Wf hret
  obtain ⟨vA, erA, rfl, hx, hcA⟩ := passes_form hret
  clear hret
  have hx := Ext.trans hx0 hx
  have HCA := Lib.hid hcA
  clear hcA
  have hB := Ext.trans hB hx
  have J13 := J13.ext hx
  have J14 := J14.ext hx
  have J15 := J15.ext hx
  have J16 := J16.ext hx
  have J17 := J17.ext hx
  clear hx
  clear hx0
  have p0 : ((Wf.alloc (.cells LX 27)).alloc (.cells TX 31)).cell? ⟨g17, 0, none⟩ = some (.int .i64 a) := ((J17.alloc _).alloc _).cell 0
  have p1 : ((Wf.alloc (.cells LX 27)).alloc (.cells TX 31)).cell? ⟨g17, 1, none⟩ = some (.int .i64 b) := ((J17.alloc _).alloc _).cell 1
  have J14a := J14.alloc (.cells LX 27)
  go_wp2_with (first | (refine wpList_load_st rfl 27 _ rfl g16 0 rfl LX LX.toList (by simp) _ (Blk.range J16 _ rfl) Try.underlying27 rfl (by rw [Array.length_toList, HZLX.out]; exact sat_size) ?_) | (refine wpList_buildOne rfl 36 27 _ rfl LX rfl Try.underlying36 21 info_sat2 HZLX.out (by omega) (by omega) ?_) | (refine wpList_load_st rfl 31 _ rfl g14 0 rfl TX TX.toList (by simp) _ (Blk.range J14a _ rfl) Try.underlying31 rfl (by rw [Array.length_toList, HZTX.out]; exact stn_size_) ?_) | (refine wpList_buildOne rfl 38 31 _ rfl TX rfl Try.underlying38 6 info_stn2 HZTX.out (by omega) (by omega) ?_))
  have JA : Blk ((Wf.alloc (.cells LX 27)).alloc (.cells TX 31)) Wf.heap.size 27 LX := (Blk.new _ _ _).alloc _
  have JB : Blk ((Wf.alloc (.cells LX 27)).alloc (.cells TX 31)) (Wf.heap.size + 1) 31 TX := Blk.new_at _ _ _ (by simp)
  have hx0 : Ext Wf ((Wf.alloc (.cells LX 27)).alloc (.cells TX 31)) := bl_alloc (bl_alloc (Below.refl _ _) _) _
  refine (HPSB.out _ _ _ JA JB).mono ?_
  clear HPSB JA JB J14a p0 p1
  intro e Wg hret
  obtain ⟨vB, erB, rfl, hx, hcB⟩ := passes_form hret
  clear hret
  have hx := Ext.trans hx0 hx
  have HCA := Lib.hid (HCA.out.imp (fun h => And.intro h.1 (And.intro h.2.1 (own_ext h.2.2 hx))) id)
  have HCB := Lib.hid hcB
  clear hcB
  have hB := Ext.trans hB hx
  have J13 := J13.ext hx
  have J14 := J14.ext hx
  have J15 := J15.ext hx
  have J16 := J16.ext hx
  have J17 := J17.ext hx
  clear hx
  clear hx0
  rcases HCA.out with ⟨rfl, h64a, hownA⟩ | ⟨rfl, h64a⟩
  · skip
    rcases HCB.out with ⟨rfl, h64b, hownB⟩ | ⟨rfl, h64b⟩
    · skip
      clear HCA HCB
      rw [← HNA.out] at hownA
      obtain ⟨QA, cPA, hvA, _, _⟩ := own_slice hownA
      subst hvA
      have HRA := Lib.hid (RA.of_own (cells := pasCells) hownA HNA.out.symm (by omega))
      clear hownA
      rw [← HNB.out] at hownB
      obtain ⟨QB, cPB, hvB, _, _⟩ := own_slice hownB
      subst hvB
      have HRB := Lib.hid (RA.of_own (cells := pasCells) hownB HNB.out.symm (by omega))
      clear hownB
      have t0 : Wg.cell? ⟨g17, 0, none⟩ = some (.int .i64 a) := J17.cell 0
      obtain ⟨Wb_, hWb⟩ : ∃ W : World, W = Wg := ⟨_, rfl⟩
      rw [← hWb] at hB J13 J14 J15 J16 J17 HRA HRB t0 ⊢
      clear hWb
      go_wp2
      clear t0
      go_loopw [22] (fun x wr => ∃ t : Int, a ≤ t ∧ t ≤ b ∧ x = .int .i64 t ∧ Ext Wb_ wr) (fun x _ => (b - intOf x).toNat)
      case atStart => exact ⟨a, Int.le_refl _, by omega, rfl, Ext.refl _⟩
      case round =>
        obtain ⟨t, ta, tb, rfl, hx⟩ := hrel
        have t1 : wr.cell? ⟨g17, 1, none⟩ = some (.int .i64 b) := (J17.ext hx).cell 1
        have w5_ : IntKind.i64.wrap (t + 1) = t + 1 := IntWalk.i64_in _ (by omega)
        by_cases hlt : t < b
        · skip
          have K13 := J13.ext hx
          have K14 := J14.ext hx
          have hr9 := HR9.out _ _ K13
          have hv1 := fun w => HVA.out t w ta hlt
          have hv2 := fun w => HVB.out t w ta hlt
          have hnw := HNW.out t
          generalize plainP ob st t = r1 at hv1 hnw
          generalize plainP ob fa t = r2 at hv2 hnw
          have HV1 := Lib.hid hv1
          have HV2 := Lib.hid hv2
          have HW := Lib.hid hnw
          clear hv1 hv2 hnw
          go_wp2_with (first | (refine wpList_load_st rfl 25 _ rfl g13 2 rfl OX OX.toList (by simp) _ (hr9) Try.underlying25 rfl (by rw [Array.length_toList, HZOX.out]; exact orb_size) ?_) | (refine wpList_load_st rfl 31 _ rfl g14 0 rfl TX TX.toList (by simp) _ (Blk.range K14 _ rfl) Try.underlying31 rfl (by rw [Array.length_toList, HZTX.out]; exact stn_size_) ?_))
          refine (HV1.out _).mono ?_
          rintro e W12 ⟨rfl, hz⟩
          have hx := Ext.trans hx hz
          clear hz K13 K14 hr9 t1
          have K13 := J13.ext hx
          have K15 := J15.ext hx
          have hr9 := HR9.out _ _ K13
          go_wp2_with (first | (refine wpList_load_st rfl 25 _ rfl g13 2 rfl OX OX.toList (by simp) _ (hr9) Try.underlying25 rfl (by rw [Array.length_toList, HZOX.out]; exact orb_size) ?_) | (refine wpList_load_st rfl 31 _ rfl g15 0 rfl FX FX.toList (by simp) _ (Blk.range K15 _ rfl) Try.underlying31 rfl (by rw [Array.length_toList, HZFX.out]; exact stn_size_) ?_))
          refine (HV2.out _).mono ?_
          rintro e W13 ⟨rfl, hz⟩
          have hx := Ext.trans hx hz
          clear hz K13 K15 hr9 HV1 HV2
          go_upto_region 20 with (fail)
          have hq : (!(r1 && !r2)) = true := by have := HW.out; cases r1 <;> cases r2 <;> simp_all
          clear HW
          obtain ⟨Wh, hWh⟩ : ∃ W : World, W = W13 := ⟨_, rfl⟩
          rw [← hWh] at hx ⊢
          clear hWh
          go_cut [130] from 118 to 130 (fun v wc => v = .bool false ∧ wc = Wh)
          case first =>
            cases r1
            all_goals
              cases r2
              all_goals first
                | (exact absurd hq (by decide))
                | (go_wp2_with fail; go_meet; case rel => exact ⟨rfl, rfl⟩)
          obtain ⟨rfl, rfl⟩ := hcut
          clear hq
          go_upto_region 23 with (fail)
          have J27 : Blk (wc.alloc (.cells #[.bool false, .bool false, .bool false, .bool false] 72)) wc.heap.size 72 #[.bool false, .bool false, .bool false, .bool false] := Blk.new _ _ _
          have hy : Ext wc (wc.alloc (.cells #[.bool false, .bool false, .bool false, .bool false] 72)) := bl_alloc (Below.refl _ _) _
          obtain ⟨g27, hg⟩ : ∃ g, g = wc.heap.size := ⟨_, rfl⟩
          have n27 : wc.heap.size ≤ g27 := by omega
          rw [← hg] at J27 ⊢
          generalize wc.alloc (.cells #[.bool false, .bool false, .bool false, .bool false] 72) = Wj at J27 hy ⊢
          clear hg
          go_wp2
          go_loopw [28] (fun x wr => ∃ k : Nat, k ≤ nA ∧ x = .int .i64 k ∧ Blk wr g27 72 #[.bool ((PA.take k).any fun p => inS p.sure t), .bool ((PA.take k).any fun p => inS p.can t), .bool false, .bool false] ∧ Ext wc wr) (fun x _ => nA - (intOf x).toNat)
          case atStart => exact ⟨0, Nat.zero_le _, rfl, J27, hy⟩
          case round =>
            clear J27 hy
            obtain ⟨k, hk, rfl, J27, hy⟩ := hrel
            by_cases hkn : k < nA
            · skip
              obtain ⟨gp, gpo, hz1, hA1, hgl, hc1⟩ := (HRA.out.below (Ext.trans hx hy)).at_ pas_len hkn
              have ea : (PA.take (k + 1)).any (fun p => inS p.sure t) = ((PA.take k).any (fun p => inS p.sure t) || inS PA[k].sure t) := by rw [List.take_succ_eq_append_getElem hz1, List.any_append]; simp
              have ey : (PA.take (k + 1)).any (fun p => inS p.can t) = ((PA.take k).any (fun p => inS p.can t) || inS PA[k].can t) := by rw [List.take_succ_eq_append_getElem hz1, List.any_append]; simp
              generalize PA[k] = z at hc1 ea ey
              have d2 : wr.cell? ⟨gp, gpo + k * 6 + 2, none⟩ = some (.int .i64 z.sure.fr) := hc1 2 (by omega)
              have d3 : wr.cell? ⟨gp, gpo + k * 6 + 3, none⟩ = some (.int .i64 z.sure.tt) := hc1 3 (by omega)
              have d4 : wr.cell? ⟨gp, gpo + k * 6 + 4, none⟩ = some (.int .i64 z.can.fr) := hc1 4 (by omega)
              have d5 : wr.cell? ⟨gp, gpo + k * 6 + 5, none⟩ = some (.int .i64 z.can.tt) := hc1 5 (by omega)
              have hi1 := fun w => in_any z.sure.fr z.sure.tt t w
              have hi2 := fun w => in_any z.can.fr z.can.tt t w
              rw [show (⟨z.sure.fr, z.sure.tt⟩ : Spl) = z.sure from rfl] at hi1
              rw [show (⟨z.can.fr, z.can.tt⟩ : Spl) = z.can from rfl] at hi2
              generalize inS z.sure t = r1 at hi1 ea
              generalize inS z.can t = r2 at hi2 ey
              generalize z.sure.fr = f1 at d2 hi1
              generalize z.sure.tt = f2 at d3 hi1
              generalize z.can.fr = f3 at d4 hi2
              generalize z.can.tt = f4 at d5 hi2
              have HI1 := Lib.hid hi1
              have HI2 := Lib.hid hi2
              have HEA := Lib.hid ea
              have HEY := Lib.hid ey
              clear hc1 hz1 hi1 hi2 ea ey
              subst hA1
              generalize (PA.take k).any (fun p => inS p.sure t) = q1 at HEA J27
              generalize (PA.take k).any (fun p => inS p.can t) = q2 at HEY J27
              have hgp : gp ≠ g27 := by have := Below.size hx; omega
              clear hgl
              have u0 : wr.cell? ⟨g27, 0, none⟩ = some (.bool q1) := J27.cell 0
              have u1 : wr.frozen? ⟨g27, 0, none⟩ = false := J27.frozen 0
              cases q1
              · skip
                go_wp2_with fail
                refine (HI1.out _).mono ?_
                rintro e W14 ⟨rfl, hz⟩
                have J27 := J27.ext hz
                have hy := Ext.trans hy hz
                have d4 := ext_cell hz d4
                have d5 := ext_cell hz d5
                clear hz d2 d3 u0 u1
                have u0 : W14.cell? ⟨g27, 0, none⟩ = some (.bool false) := J27.cell 0
                have u1 : W14.frozen? ⟨g27, 0, none⟩ = false := J27.frozen 0
                go_upto_region 27 with (fail)
                clear u0 u1
                have d4 : (W14.setCell ⟨g27, 0, none⟩ (.bool r1)).cell? ⟨gp, gpo + k * 6 + 4, none⟩ = some (.int .i64 f3) := (World.cell?_setCell_other W14 ⟨g27, 0, none⟩ _ _ (fun e => by injection e; omega)).trans d4
                have d5 : (W14.setCell ⟨g27, 0, none⟩ (.bool r1)).cell? ⟨gp, gpo + k * 6 + 5, none⟩ = some (.int .i64 f4) := (World.cell?_setCell_other W14 ⟨g27, 0, none⟩ _ _ (fun e => by injection e; omega)).trans d5
                have J27 := J27.set_ 0 (.bool r1)
                have hy := hy.setCell (p := ⟨g27, 0, none⟩) n27 (.bool r1)
                simp only [List.setIfInBounds_toArray, List.set_cons_zero] at J27
                generalize W14.setCell ⟨g27, 0, none⟩ (.bool r1) = W15 at J27 hy d4 d5 ⊢
                have u0 : W15.cell? ⟨g27, 1, none⟩ = some (.bool q2) := J27.cell 1
                have u1 : W15.frozen? ⟨g27, 1, none⟩ = false := J27.frozen 1
                cases q2
                · skip
                  go_wp2_with fail
                  refine (HI2.out _).mono ?_
                  rintro e W16 ⟨rfl, hz⟩
                  have J27 := J27.ext hz
                  have hy := Ext.trans hy hz
                  clear hz d4 d5 u0 u1
                  have u0 : W16.cell? ⟨g27, 1, none⟩ = some (.bool false) := J27.cell 1
                  have u1 : W16.frozen? ⟨g27, 1, none⟩ = false := J27.frozen 1
                  have J28 := J27.set_ 1 (.bool r2)
                  have hy2 := hy.setCell (p := ⟨g27, 1, none⟩) n27 (.bool r2)
                  simp only [List.setIfInBounds_toArray, List.set_cons_zero, List.set_cons_succ] at J28
                  go_wp2
                  clear u0 u1
                  go_roundw
                  case rel => exact ⟨k + 1, by omega, by go_num, by rw [HEA.out, HEY.out]; simpa using J28, hy2⟩
                  case measure => simp [intOf]; omega
                · skip
                  have J28 := J27.set_ 1 (.bool true)
                  have hy2 := hy.setCell (p := ⟨g27, 1, none⟩) n27 (.bool true)
                  simp only [List.setIfInBounds_toArray, List.set_cons_zero, List.set_cons_succ] at J28
                  go_wp2
                  clear u0 u1
                  go_roundw
                  case rel => exact ⟨k + 1, by omega, by go_num, by rw [HEA.out, HEY.out]; simpa using J28, hy2⟩
                  case measure => simp [intOf]; omega
              · skip
                go_upto_region 27 with (fail)
                clear u0 u1 d2 d3
                have d4 : (wr.setCell ⟨g27, 0, none⟩ (.bool true)).cell? ⟨gp, gpo + k * 6 + 4, none⟩ = some (.int .i64 f3) := (World.cell?_setCell_other wr ⟨g27, 0, none⟩ _ _ (fun e => by injection e; omega)).trans d4
                have d5 : (wr.setCell ⟨g27, 0, none⟩ (.bool true)).cell? ⟨gp, gpo + k * 6 + 5, none⟩ = some (.int .i64 f4) := (World.cell?_setCell_other wr ⟨g27, 0, none⟩ _ _ (fun e => by injection e; omega)).trans d5
                have J27 := J27.set_ 0 (.bool true)
                have hy := hy.setCell (p := ⟨g27, 0, none⟩) n27 (.bool true)
                simp only [List.setIfInBounds_toArray, List.set_cons_zero] at J27
                generalize wr.setCell ⟨g27, 0, none⟩ (.bool true) = W15 at J27 hy d4 d5 ⊢
                have u0 : W15.cell? ⟨g27, 1, none⟩ = some (.bool q2) := J27.cell 1
                have u1 : W15.frozen? ⟨g27, 1, none⟩ = false := J27.frozen 1
                cases q2
                · skip
                  go_wp2_with fail
                  refine (HI2.out _).mono ?_
                  rintro e W16 ⟨rfl, hz⟩
                  have J27 := J27.ext hz
                  have hy := Ext.trans hy hz
                  clear hz d4 d5 u0 u1
                  have u0 : W16.cell? ⟨g27, 1, none⟩ = some (.bool false) := J27.cell 1
                  have u1 : W16.frozen? ⟨g27, 1, none⟩ = false := J27.frozen 1
                  have J28 := J27.set_ 1 (.bool r2)
                  have hy2 := hy.setCell (p := ⟨g27, 1, none⟩) n27 (.bool r2)
                  simp only [List.setIfInBounds_toArray, List.set_cons_zero, List.set_cons_succ] at J28
                  go_wp2
                  clear u0 u1
                  go_roundw
                  case rel => exact ⟨k + 1, by omega, by go_num, by rw [HEA.out, HEY.out]; simpa using J28, hy2⟩
                  case measure => simp [intOf]; omega
                · skip
                  have J28 := J27.set_ 1 (.bool true)
                  have hy2 := hy.setCell (p := ⟨g27, 1, none⟩) n27 (.bool true)
                  simp only [List.setIfInBounds_toArray, List.set_cons_zero, List.set_cons_succ] at J28
                  go_wp2
                  clear u0 u1
                  go_roundw
                  case rel => exact ⟨k + 1, by omega, by go_num, by rw [HEA.out, HEY.out]; simpa using J28, hy2⟩
                  case measure => simp [intOf]; omega
            · skip
              have hk2 : k = nA := by omega
              subst hk2
              rw [List.take_of_length_le (by rw [← HNA.out]; exact Nat.le_refl _)] at J27
              obtain ⟨WkA, hWk⟩ : ∃ W : World, W = wr := ⟨_, rfl⟩
              rw [← hWk] at J27 hy ⊢
              clear hWk hk hkn
              have hcan := HCAN.out t ta hlt
              have hsure := HSURE.out t ta hlt
              generalize (PA.any fun p => inS p.sure t) = s0 at J27 hsure
              generalize (PA.any fun p => inS p.can t) = s1 at J27 hcan
              have HC2 := Lib.hid hcan
              have HS2 := Lib.hid hsure
              clear hcan hsure
              go_wp2
              go_loopw [29] (fun x wr => ∃ k : Nat, k ≤ nB ∧ x = .int .i64 k ∧ Blk wr g27 72 #[.bool s0, .bool s1, .bool ((PB.take k).any fun p => inS p.sure t), .bool ((PB.take k).any fun p => inS p.can t)] ∧ Ext wc wr) (fun x _ => nB - (intOf x).toNat)
              case atStart => exact ⟨0, Nat.zero_le _, rfl, J27, hy⟩
              case round =>
                clear J27 hy
                obtain ⟨k, hk, rfl, J27, hy⟩ := hrel
                by_cases hkn : k < nB
                · skip
                  obtain ⟨gp, gpo, hz1, hA1, hgl, hc1⟩ := (HRB.out.below (Ext.trans hx hy)).at_ pas_len hkn
                  have ea : (PB.take (k + 1)).any (fun p => inS p.sure t) = ((PB.take k).any (fun p => inS p.sure t) || inS PB[k].sure t) := by rw [List.take_succ_eq_append_getElem hz1, List.any_append]; simp
                  have ey : (PB.take (k + 1)).any (fun p => inS p.can t) = ((PB.take k).any (fun p => inS p.can t) || inS PB[k].can t) := by rw [List.take_succ_eq_append_getElem hz1, List.any_append]; simp
                  generalize PB[k] = z at hc1 ea ey
                  have d2 : wr.cell? ⟨gp, gpo + k * 6 + 2, none⟩ = some (.int .i64 z.sure.fr) := hc1 2 (by omega)
                  have d3 : wr.cell? ⟨gp, gpo + k * 6 + 3, none⟩ = some (.int .i64 z.sure.tt) := hc1 3 (by omega)
                  have d4 : wr.cell? ⟨gp, gpo + k * 6 + 4, none⟩ = some (.int .i64 z.can.fr) := hc1 4 (by omega)
                  have d5 : wr.cell? ⟨gp, gpo + k * 6 + 5, none⟩ = some (.int .i64 z.can.tt) := hc1 5 (by omega)
                  have hi1 := fun w => in_any z.sure.fr z.sure.tt t w
                  have hi2 := fun w => in_any z.can.fr z.can.tt t w
                  rw [show (⟨z.sure.fr, z.sure.tt⟩ : Spl) = z.sure from rfl] at hi1
                  rw [show (⟨z.can.fr, z.can.tt⟩ : Spl) = z.can from rfl] at hi2
                  generalize inS z.sure t = r1 at hi1 ea
                  generalize inS z.can t = r2 at hi2 ey
                  generalize z.sure.fr = f1 at d2 hi1
                  generalize z.sure.tt = f2 at d3 hi1
                  generalize z.can.fr = f3 at d4 hi2
                  generalize z.can.tt = f4 at d5 hi2
                  have HI1 := Lib.hid hi1
                  have HI2 := Lib.hid hi2
                  have HEA := Lib.hid ea
                  have HEY := Lib.hid ey
                  clear hc1 hz1 hi1 hi2 ea ey
                  subst hA1
                  generalize (PB.take k).any (fun p => inS p.sure t) = q1 at HEA J27
                  generalize (PB.take k).any (fun p => inS p.can t) = q2 at HEY J27
                  have hgp : gp ≠ g27 := by have := Below.size hx; omega
                  clear hgl
                  have u0 : wr.cell? ⟨g27, 2, none⟩ = some (.bool q1) := J27.cell 2
                  have u1 : wr.frozen? ⟨g27, 2, none⟩ = false := J27.frozen 2
                  cases q1
                  · skip
                    go_wp2_with fail
                    refine (HI1.out _).mono ?_
                    rintro e W14 ⟨rfl, hz⟩
                    have J27 := J27.ext hz
                    have hy := Ext.trans hy hz
                    have d4 := ext_cell hz d4
                    have d5 := ext_cell hz d5
                    clear hz d2 d3 u0 u1
                    have u0 : W14.cell? ⟨g27, 2, none⟩ = some (.bool false) := J27.cell 2
                    have u1 : W14.frozen? ⟨g27, 2, none⟩ = false := J27.frozen 2
                    go_upto_region 32 with (fail)
                    clear u0 u1
                    have d4 : (W14.setCell ⟨g27, 2, none⟩ (.bool r1)).cell? ⟨gp, gpo + k * 6 + 4, none⟩ = some (.int .i64 f3) := (World.cell?_setCell_other W14 ⟨g27, 2, none⟩ _ _ (fun e => by injection e; omega)).trans d4
                    have d5 : (W14.setCell ⟨g27, 2, none⟩ (.bool r1)).cell? ⟨gp, gpo + k * 6 + 5, none⟩ = some (.int .i64 f4) := (World.cell?_setCell_other W14 ⟨g27, 2, none⟩ _ _ (fun e => by injection e; omega)).trans d5
                    have J27 := J27.set_ 2 (.bool r1)
                    have hy := hy.setCell (p := ⟨g27, 2, none⟩) n27 (.bool r1)
                    simp only [List.setIfInBounds_toArray, List.set_cons_zero, List.set_cons_succ] at J27
                    generalize W14.setCell ⟨g27, 2, none⟩ (.bool r1) = W15 at J27 hy d4 d5 ⊢
                    have u0 : W15.cell? ⟨g27, 3, none⟩ = some (.bool q2) := J27.cell 3
                    have u1 : W15.frozen? ⟨g27, 3, none⟩ = false := J27.frozen 3
                    cases q2
                    · skip
                      go_wp2_with fail
                      refine (HI2.out _).mono ?_
                      rintro e W16 ⟨rfl, hz⟩
                      have J27 := J27.ext hz
                      have hy := Ext.trans hy hz
                      clear hz d4 d5 u0 u1
                      have u0 : W16.cell? ⟨g27, 3, none⟩ = some (.bool false) := J27.cell 3
                      have u1 : W16.frozen? ⟨g27, 3, none⟩ = false := J27.frozen 3
                      have J28 := J27.set_ 3 (.bool r2)
                      have hy2 := hy.setCell (p := ⟨g27, 3, none⟩) n27 (.bool r2)
                      simp only [List.setIfInBounds_toArray, List.set_cons_zero, List.set_cons_succ] at J28
                      go_wp2
                      clear u0 u1
                      go_roundw
                      case rel => exact ⟨k + 1, by omega, by go_num, by rw [HEA.out, HEY.out]; simpa using J28, hy2⟩
                      case measure => simp [intOf]; omega
                    · skip
                      have J28 := J27.set_ 3 (.bool true)
                      have hy2 := hy.setCell (p := ⟨g27, 3, none⟩) n27 (.bool true)
                      simp only [List.setIfInBounds_toArray, List.set_cons_zero, List.set_cons_succ] at J28
                      go_wp2
                      clear u0 u1
                      go_roundw
                      case rel => exact ⟨k + 1, by omega, by go_num, by rw [HEA.out, HEY.out]; simpa using J28, hy2⟩
                      case measure => simp [intOf]; omega
                  · skip
                    go_upto_region 32 with (fail)
                    clear u0 u1 d2 d3
                    have d4 : (wr.setCell ⟨g27, 2, none⟩ (.bool true)).cell? ⟨gp, gpo + k * 6 + 4, none⟩ = some (.int .i64 f3) := (World.cell?_setCell_other wr ⟨g27, 2, none⟩ _ _ (fun e => by injection e; omega)).trans d4
                    have d5 : (wr.setCell ⟨g27, 2, none⟩ (.bool true)).cell? ⟨gp, gpo + k * 6 + 5, none⟩ = some (.int .i64 f4) := (World.cell?_setCell_other wr ⟨g27, 2, none⟩ _ _ (fun e => by injection e; omega)).trans d5
                    have J27 := J27.set_ 2 (.bool true)
                    have hy := hy.setCell (p := ⟨g27, 2, none⟩) n27 (.bool true)
                    simp only [List.setIfInBounds_toArray, List.set_cons_zero, List.set_cons_succ] at J27
                    generalize wr.setCell ⟨g27, 2, none⟩ (.bool true) = W15 at J27 hy d4 d5 ⊢
                    have u0 : W15.cell? ⟨g27, 3, none⟩ = some (.bool q2) := J27.cell 3
                    have u1 : W15.frozen? ⟨g27, 3, none⟩ = false := J27.frozen 3
                    cases q2
                    · skip
                      go_wp2_with fail
                      refine (HI2.out _).mono ?_
                      rintro e W16 ⟨rfl, hz⟩
                      have J27 := J27.ext hz
                      have hy := Ext.trans hy hz
                      clear hz d4 d5 u0 u1
                      have u0 : W16.cell? ⟨g27, 3, none⟩ = some (.bool false) := J27.cell 3
                      have u1 : W16.frozen? ⟨g27, 3, none⟩ = false := J27.frozen 3
                      have J28 := J27.set_ 3 (.bool r2)
                      have hy2 := hy.setCell (p := ⟨g27, 3, none⟩) n27 (.bool r2)
                      simp only [List.setIfInBounds_toArray, List.set_cons_zero, List.set_cons_succ] at J28
                      go_wp2
                      clear u0 u1
                      go_roundw
                      case rel => exact ⟨k + 1, by omega, by go_num, by rw [HEA.out, HEY.out]; simpa using J28, hy2⟩
                      case measure => simp [intOf]; omega
                    · skip
                      have J28 := J27.set_ 3 (.bool true)
                      have hy2 := hy.setCell (p := ⟨g27, 3, none⟩) n27 (.bool true)
                      simp only [List.setIfInBounds_toArray, List.set_cons_zero, List.set_cons_succ] at J28
                      go_wp2
                      clear u0 u1
                      go_roundw
                      case rel => exact ⟨k + 1, by omega, by go_num, by rw [HEA.out, HEY.out]; simpa using J28, hy2⟩
                      case measure => simp [intOf]; omega
                · skip
                  have hk2 : k = nB := by omega
                  subst hk2
                  rw [List.take_of_length_le (by rw [← HNB.out]; exact Nat.le_refl _)] at J27
                  obtain ⟨WkB, hWk⟩ : ∃ W : World, W = wr := ⟨_, rfl⟩
                  rw [← hWk] at J27 hy ⊢
                  clear hWk hk hkn
                  have hcan := HC2.out
                  have hsure := HS2.out
                  generalize (PB.any fun p => inS p.sure t) = s2 at J27 hsure
                  generalize (PB.any fun p => inS p.can t) = s3 at J27 hcan
                  have hx := Ext.trans hx hy
                  have u0 : WkB.cell? ⟨g27, 0, none⟩ = some (.bool s0) := J27.cell 0
                  have u1 : WkB.cell? ⟨g27, 1, none⟩ = some (.bool s1) := J27.cell 1
                  have u2 : WkB.cell? ⟨g27, 2, none⟩ = some (.bool s2) := J27.cell 2
                  have u3 : WkB.cell? ⟨g27, 3, none⟩ = some (.bool s3) := J27.cell 3
                  clear HC2 HS2 hy J27
                  cases s0
                  all_goals
                    cases s1
                    all_goals
                      cases s2
                      all_goals
                        cases s3
                        all_goals first
                          | (exact absurd (hsure rfl) (by decide))
                          | (exact absurd (hcan rfl) (by decide))
                          | (go_wp2; go_roundw; (case rel => exact ⟨t + 1, by omega, by omega, rfl, hx⟩); (case measure => simp [intOf]; omega))
        · go_wp2
          go_ret
          exact ⟨rfl, Ext.trans hB hx⟩
    · have hm := HMANYB.out h64b
      clear HCA HCB
      have t0 : Wg.cell? ⟨g17, 0, none⟩ = some (.int .i64 a) := J17.cell 0
      have t1 : Wg.cell? ⟨g17, 1, none⟩ = some (.int .i64 b) := J17.cell 1
      have w1_ : IntKind.i64.wrap (b - a) = b - a := IntWalk.i64_in _ (by omega)
      go_wp2
      go_ret
      exact ⟨rfl, hB⟩
  · have hm := HMANYA.out h64a
    rcases HCB.out with ⟨rfl, h64b, hownB⟩ | ⟨rfl, h64b⟩
    · skip
      clear hownB
      clear HCA HCB
      have t0 : Wg.cell? ⟨g17, 0, none⟩ = some (.int .i64 a) := J17.cell 0
      have t1 : Wg.cell? ⟨g17, 1, none⟩ = some (.int .i64 b) := J17.cell 1
      have w1_ : IntKind.i64.wrap (b - a) = b - a := IntWalk.i64_in _ (by omega)
      go_wp2
      go_ret
      exact ⟨rfl, hB⟩
    · skip
      clear HCA HCB
      have t0 : Wg.cell? ⟨g17, 0, none⟩ = some (.int .i64 a) := J17.cell 0
      have t1 : Wg.cell? ⟨g17, 1, none⟩ = some (.int .i64 b) := J17.cell 1
      have w1_ : IntKind.i64.wrap (b - a) = b - a := IntWalk.i64_in _ (by omega)
      go_wp2
      go_ret
      exact ⟨rfl, hB⟩

end Go.Proofs.Ytlmpmhfbjblhnaa
