/- The reference: cells, the distance of cells, orbits (printed by contact_c1.py). -/
import Derived.Test.YtlmpmhfbjblhnaaA22
namespace Go.Proofs.Ytlmpmhfbjblhnaa
open Go.RowKit

set_option maxHeartbeats 1000000 in
theorem rcell_any (x y : Int) (w : World) :
    Calls Try.prog 53 #[.agg #[.int .i64 x, .int .i64 y]] w fun e w' => e = .returned (.bool (celOK ⟨x, y⟩)) ∧ Below w.heap.size w w' := by
  have hb : celOK ⟨x, y⟩ = ((decide (0 ≤ x) && decide (x ≤ 47)) && decide (0 ≤ y) && decide (y ≤ 23)) := by
    simp [celOK, inB, Bool.and_assoc]
  rw [hb]
  clear hb
  go_enter Try.func53, Try.ntmps53
  go_wp2
  all_goals
    go_ret
    exact ⟨by simp [*] <;> (intros; omega), (by repeat (first | exact Below.refl _ _ | assumption | refine Below.drew ?_ | refine below_drewN ?_ _ | refine bl_alloc ?_ _ | refine Below.setCell ?_ (by first | (simp; done) | omega | (simp; omega)) _ | refine bl_then ?_ (by assumption)))⟩

theorem near_in {a b c d : Int} (_k1 : 0 ≤ a ∧ a ≤ 47) (_k2 : 0 ≤ c ∧ c ≤ 47) (e1 : celOK ⟨a, b⟩ = true) (e2 : celOK ⟨c, d⟩ = true) :
    (24 < absI (a - c) → nearP ⟨a, b⟩ ⟨c, d⟩ = max (48 - absI (a - c)) (absI (b - d))) ∧ (absI (a - c) ≤ 24 → nearP ⟨a, b⟩ ⟨c, d⟩ = max (absI (a - c)) (absI (b - d))) := by
  unfold nearP
  rw [e1, e2]
  simp only [Bool.and_self, if_true, absI]
  constructor <;> intro h <;> omega
set_option maxHeartbeats 1000000 in
theorem rnear_any (a b c d : Int) (w : World) :
    Calls Try.prog 57 #[.agg #[.int .i64 a, .int .i64 b], .agg #[.int .i64 c, .int .i64 d]] w fun e w' => e = .returned (.int .i64 (nearP ⟨a, b⟩ ⟨c, d⟩)) ∧ Below w.heap.size w w' := by
  generalize e1 : celOK ⟨a, b⟩ = q
  generalize e2 : celOK ⟨c, d⟩ = r
  have E1 := Lib.hid e1
  have E2 := Lib.hid e2
  cases q
  · have hn : nearP ⟨a, b⟩ ⟨c, d⟩ = -1 := by simp [nearP, e1]
    rw [hn]
    clear hn e1 e2
    go_enter Try.func57, Try.ntmps57
    go_wp2_with fail
    refine (rcell_any a b _).mono ?_
    rintro e w1 ⟨rfl, hb1⟩
    rw [E1.out]
    go_wp2
    go_ret
    exact ⟨rfl, (by repeat (first | exact Below.refl _ _ | assumption | refine Below.drew ?_ | refine below_drewN ?_ _ | refine bl_alloc ?_ _ | refine Below.setCell ?_ (by first | (simp; done) | omega | (simp; omega)) _ | refine bl_then ?_ (by assumption)))⟩
  · cases r
    · have hn : nearP ⟨a, b⟩ ⟨c, d⟩ = -1 := by simp [nearP, e2]
      rw [hn]
      clear hn e1 e2
      go_enter Try.func57, Try.ntmps57
      go_wp2_with fail
      refine (rcell_any a b _).mono ?_
      rintro e w1 ⟨rfl, hb1⟩
      rw [E1.out]
      obtain ⟨hc1, hf1⟩ := bcell hb1
      go_wp2_with fail
      refine (rcell_any c d _).mono ?_
      rintro e w2 ⟨rfl, hb2⟩
      rw [E2.out]
      go_wp2
      go_ret
      exact ⟨rfl, (by repeat (first | exact Below.refl _ _ | assumption | refine Below.drew ?_ | refine below_drewN ?_ _ | refine bl_alloc ?_ _ | refine Below.setCell ?_ (by first | (simp; done) | omega | (simp; omega)) _ | refine bl_then ?_ (by assumption)))⟩
    · have k1 : 0 ≤ a ∧ a ≤ 47 ∧ 0 ≤ b ∧ b ≤ 23 := by simp [celOK, inB] at e1; omega
      have k2 : 0 ≤ c ∧ c ≤ 47 ∧ 0 ≤ d ∧ d ≤ 23 := by simp [celOK, inB] at e2; omega
      have hn := near_in ⟨k1.1, k1.2.1⟩ ⟨k2.1, k2.2.1⟩ e1 e2
      have HN := Lib.hid hn
      clear hn e1 e2
      obtain ⟨a1, a2, b1, b2⟩ := k1
      obtain ⟨c1, c2, d1, d2⟩ := k2
      generalize nearP ⟨a, b⟩ ⟨c, d⟩ = res at HN ⊢
      have hr1 : ∀ n, res = n → Ending.returned (.int .i64 n) = .returned (.int .i64 res) := fun n h => by rw [h]
      have HR1 := Lib.hid hr1
      clear hr1
      go_enter Try.func57, Try.ntmps57
      go_wp2_with fail
      refine (rcell_any a b _).mono ?_
      rintro e w1 ⟨rfl, hb1⟩
      rw [E1.out]
      obtain ⟨hc1, hf1⟩ := bcell hb1
      go_wp2_with fail
      refine (rcell_any c d _).mono ?_
      rintro e w2 ⟨rfl, hb2⟩
      rw [E2.out]
      obtain ⟨hc2, hf2⟩ := bcell hb2
      have hz := hb1.size
      simp at hz
      have k0 : Blk w2 w.heap.size 29 #[.int .i64 a, .int .i64 b] := (((Blk.new w _ _).alloc _).below hb1 (by simp <;> omega)).below hb2 (by omega)
      have k1 : Blk w2 (w.heap.size + 1) 29 #[.int .i64 c, .int .i64 d] := by
        have k := (Blk.new (w.alloc (.cells #[.int .i64 a, .int .i64 b] 29)) 29 #[.int .i64 c, .int .i64 d]).below hb1 (by simp)
        rw [World.size_alloc] at k
        exact k.below hb2 (by omega)
      have f0 : w2.cell? ⟨w.heap.size, 0, none⟩ = some (.int .i64 a) := k0.cell 0
      have f1 : w2.cell? ⟨w.heap.size, 1, none⟩ = some (.int .i64 b) := k0.cell 1
      have f2 : w2.cell? ⟨w.heap.size + 1, 0, none⟩ = some (.int .i64 c) := k1.cell 0
      have f3 : w2.cell? ⟨w.heap.size + 1, 1, none⟩ = some (.int .i64 d) := k1.cell 1
      have hB : Below w.heap.size w w2 := (by repeat (first | exact Below.refl _ _ | assumption | refine Below.drew ?_ | refine below_drewN ?_ _ | refine bl_alloc ?_ _ | refine Below.setCell ?_ (by first | (simp; done) | omega | (simp; omega)) _ | refine bl_then ?_ (by assumption)))
      clear hc1 hc2 hf1 hf2 k0 k1 hb1 hb2 hz
      rcases (show a < c ∨ c ≤ a by omega) with h1 | h1 <;> rcases (show b < d ∨ d ≤ b by omega) with h2 | h2
      all_goals
        go_wp2
      all_goals
        go_ret
        exact ⟨HR1.out _ (by
          obtain ⟨n1, n2⟩ := HN.out
          by_cases hh : 24 < absI (a - c)
          · rw [n1 hh]; simp only [absI] at hh ⊢; omega
          · rw [n2 (by omega)]; simp only [absI] at hh ⊢; omega), hB⟩

set_option maxHeartbeats 2000000 in
theorem rorbit_valid (p f lo hi no tu sl : Int) (w : World) :
    Calls Try.prog 51 #[.agg #[.int .i64 p, .int .i64 f, .int .i64 lo, .int .i64 hi, .int .i64 no, .int .i64 tu, .int .i64 sl]] w fun e w' => e = .returned (.bool (orbOK ⟨p, f, lo, hi, no, tu, sl⟩)) ∧ Below w.heap.size w w' := by
  have hb : orbOK ⟨p, f, lo, hi, no, tu, sl⟩ = (inB p 20 2000 && (p % 2 == 0) && inB f 0 (p - 1) && inB lo 0 23999 && inB hi 0 23999 && decide (lo < hi) && inB no 0 47999 && inB tu (-2000) 2000 && inB sl 0 10) := rfl
  rw [hb]
  clear hb
  generalize e0 : inB p 20 2000 = b0
  generalize e1 : inB f 0 (p - 1) = b1
  generalize e2 : inB lo 0 23999 = b2
  generalize e3 : inB hi 0 23999 = b3
  generalize e4 : inB no 0 47999 = b4
  generalize e5 : inB tu (-2000) 2000 = b5
  generalize e6 : inB sl 0 10 = b6
  have E0 := Lib.hid e0
  have E1 := Lib.hid e1
  have E2 := Lib.hid e2
  have E3 := Lib.hid e3
  have E4 := Lib.hid e4
  have E5 := Lib.hid e5
  have E6 := Lib.hid e6
  clear e0 e1 e2 e3 e4 e5 e6
  generalize hlt : decide (lo < hi) = lt
  cases b0
  · go_enter Try.func51, Try.ntmps51
    go_wp2_with (go_at_call 76; refine (sin_any _ _ _ _).mono ?_; rintro e w' ⟨rfl, rfl⟩; first | rw [E0.out] | rw [E1.out] | rw [E2.out] | rw [E3.out] | rw [E4.out] | rw [E5.out] | rw [E6.out])
    all_goals
      go_ret
      exact ⟨by cases b1 <;> simp_all, (by repeat (first | exact Below.refl _ _ | assumption | refine Below.drew ?_ | refine below_drewN ?_ _ | refine bl_alloc ?_ _ | refine Below.setCell ?_ (by first | (simp; done) | omega | (simp; omega)) _ | refine bl_then ?_ (by assumption)))⟩
  · obtain ⟨p1, p2⟩ := inB_iff.1 E0.out
    have hm : p.tmod 2 = p % 2 := Int.tmod_eq_emod_of_nonneg (by omega)
    generalize hq : p % 2 = q at hm ⊢
    go_enter Try.func51, Try.ntmps51
    go_wp2_with (go_at_call 76; refine (sin_any _ _ _ _).mono ?_; rintro e w' ⟨rfl, rfl⟩; first | rw [E0.out] | rw [E1.out] | rw [E2.out] | rw [E3.out] | rw [E4.out] | rw [E5.out] | rw [E6.out])
    all_goals
      go_ret
      exact ⟨by cases b1 <;> simp_all, (by repeat (first | exact Below.refl _ _ | assumption | refine Below.drew ?_ | refine below_drewN ?_ _ | refine bl_alloc ?_ _ | refine Below.setCell ?_ (by first | (simp; done) | omega | (simp; omega)) _ | refine bl_then ?_ (by assumption)))⟩


theorem asked_any (p f lo hi no tu sl t la : Int) (w : World) :
    Calls Try.prog 89 #[.agg #[.int .i64 p, .int .i64 f, .int .i64 lo, .int .i64 hi, .int .i64 no, .int .i64 tu, .int .i64 sl], .int .i64 t, .int .i64 la] w fun e w' => e = .returned (.bool (inB t 0 1000000 && inB la (-10) 10 && orbOK ⟨p, f, lo, hi, no, tu, sl⟩)) ∧ Below w.heap.size w w' := by
  have V := rorbit_valid p f lo hi no tu sl
  generalize orbOK ⟨p, f, lo, hi, no, tu, sl⟩ = q at V ⊢
  generalize e0 : inB t 0 1000000 = b0
  generalize e1 : inB la (-10) 10 = b1
  have HV := Lib.hid V
  have E0 := Lib.hid e0
  have E1 := Lib.hid e1
  clear V e0 e1
  go_enter Try.func89, Try.ntmps89
  go_wp2_with fail
  refine (HV.out _).mono ?_
  rintro e w1 ⟨rfl, hb1⟩
  cases q
  · go_wp2
    go_ret
    exact ⟨by simp, (by repeat (first | exact Below.refl _ _ | assumption | refine Below.drew ?_ | refine below_drewN ?_ _ | refine bl_alloc ?_ _ | refine Below.setCell ?_ (by first | (simp; done) | omega | (simp; omega)) _ | refine bl_then ?_ (by assumption)))⟩
  · go_wp2_with (go_at_call 76; refine (sin_any _ _ _ _).mono ?_; rintro e w' ⟨rfl, rfl⟩; first | rw [E0.out] | rw [E1.out])
    all_goals
      go_ret
      exact ⟨by simp [*], (by repeat (first | exact Below.refl _ _ | assumption | refine Below.drew ?_ | refine below_drewN ?_ _ | refine bl_alloc ?_ _ | refine Below.setCell ?_ (by first | (simp; done) | omega | (simp; omega)) _ | refine bl_then ?_ (by assumption)))⟩
theorem raround_any (n c : Int) (h1 : 0 < c) (h2 : c ≤ 1000000) (w : World) :
    Calls Try.prog 90 #[.int .i64 n, .int .i64 c] w fun e w' => e = .returned (.int .i64 (n % c)) ∧ w = w' := by
  have b1 := Int.lt_tmod_of_pos n h1
  have b2 := Int.tmod_lt_of_pos n h1
  have e1 := tmod_around n c
  have hr : n.tmod c < 0 → n % c = n.tmod c + c := fun h => by rw [← e1]; exact Int.emod_eq_of_lt (by omega) (by omega)
  have hr2 : ¬ n.tmod c < 0 → n % c = n.tmod c := fun h => by rw [← e1, Int.add_emod_right]; exact Int.emod_eq_of_lt (by omega) (by omega)
  have hk : ∀ z, n % c = z → Ending.returned (.int .i64 z) = .returned (.int .i64 (n % c)) := fun z h => by rw [h]
  generalize n % c = m at hr hr2 hk ⊢
  generalize hT : n.tmod c = T at *
  have HR := Lib.hid hr
  have HR2 := Lib.hid hr2
  have HK := Lib.hid hk
  have cz : c ≠ 0 := by omega
  clear e1 hr hr2 hk
  by_cases h0 : T < 0
  · go_enter Try.func90, Try.ntmps90
    go_wp2
    go_ret
    exact ⟨HK.out _ (HR.out h0), rfl⟩
  · go_enter Try.func90, Try.ntmps90
    go_wp2
    go_ret
    exact ⟨HK.out _ (HR2.out h0), rfl⟩
def rowO (o : Orb) (t la : Int) : Option Int := if (inB t 0 1000000 && inB la (-10) 10 && orbOK o) = true then some (rowP o (t - la)) else none
def colO (o : Orb) (t la : Int) : Option Int := if (inB t 0 1000000 && inB la (-10) 10 && orbOK o) = true then some (colP o (t - la)) else none
def intE : Option Int → Value
  | none => .tuple #[.int .i64 0, .int .i64 70]
  | some n => .tuple #[.int .i64 n, .int .i64 0]
theorem asked_bd {p f lo hi no tu sl t la : Int} (hok : (inB t 0 1000000 && inB la (-10) 10 && orbOK ⟨p, f, lo, hi, no, tu, sl⟩) = true) :
    (0 ≤ t ∧ t ≤ 1000000) ∧ (-10 ≤ la ∧ la ≤ 10) ∧ (20 ≤ p ∧ p ≤ 2000) ∧ (0 ≤ f ∧ f ≤ 1999) ∧ (0 ≤ lo ∧ lo < hi ∧ hi ≤ 23999) ∧ (0 ≤ no ∧ no ≤ 47999) ∧ (-2000 ≤ tu ∧ tu ≤ 2000) := by
  simp only [orbOK, inB, Bool.and_eq_true, decide_eq_true_eq] at hok
  obtain ⟨⟨⟨i1, i2⟩, i3, i4⟩, ⟨⟨⟨⟨⟨⟨⟨⟨o1, o2⟩, o3⟩, o4, o5⟩, o6, o7⟩, o8, o9⟩, o10⟩, o11, o12⟩, o13, o14⟩, o15, o16⟩ := hok
  exact ⟨⟨i1, i2⟩, ⟨i3, i4⟩, ⟨o1, o2⟩, ⟨o4, by omega⟩, ⟨o6, o10, o9⟩, ⟨o11, o12⟩, ⟨o13, o14⟩⟩
theorem turn_bd {tu t : Int} (h1 : -2000 ≤ tu ∧ tu ≤ 2000) (h2 : -10 ≤ t ∧ t ≤ 1000010) : -4000000000 ≤ tu * t ∧ tu * t ≤ 4000000000 := by
  obtain ⟨h12, h13⟩ := h1
  obtain ⟨h8, h9⟩ := h2
  have a1 : tu * t ≤ 2000 * 1000010 := by
    by_cases ht : 0 ≤ t
    · exact Int.mul_le_mul h13 h9 ht (by omega)
    · have := Int.mul_le_mul_of_nonpos_right h12 (show t ≤ 0 by omega)
      omega
  have a2 : -(2000 * 1000010) ≤ tu * t := by
    by_cases ht : 0 ≤ t
    · have := Int.mul_le_mul_of_nonneg_right h12 ht
      omega
    · have := Int.mul_le_mul_of_nonpos_right h13 (show t ≤ 0 by omega)
      omega
  omega
set_option maxHeartbeats 2000000 in
theorem rrow_any (p f lo hi no tu sl t la : Int) (w : World) :
    Calls Try.prog 80 #[.agg #[.int .i64 p, .int .i64 f, .int .i64 lo, .int .i64 hi, .int .i64 no, .int .i64 tu, .int .i64 sl], .int .i64 t, .int .i64 la] w fun e w' => e = .returned (intE (rowO ⟨p, f, lo, hi, no, tu, sl⟩ t la)) ∧ Below w.heap.size w w' := by
  have A1 := asked_any p f lo hi no tu sl t la
  have hbd := @asked_bd p f lo hi no tu sl t la
  unfold rowO
  generalize (inB t 0 1000000 && inB la (-10) 10 && orbOK ⟨p, f, lo, hi, no, tu, sl⟩) = ok at A1 hbd ⊢
  have HA := Lib.hid A1
  clear A1
  cases ok
  · clear hbd
    go_enter Try.func80, Try.ntmps80
    go_wp2_with fail
    refine (HA.out _).mono ?_
    rintro e w1 ⟨rfl, hb1⟩
    go_wp2
    go_ret2
    exact ⟨rfl, (by repeat (first | exact Below.refl _ _ | assumption | refine Below.drew ?_ | refine below_drewN ?_ _ | refine bl_alloc ?_ _ | refine Below.setCell ?_ (by first | (simp; done) | omega | (simp; omega)) _ | refine bl_then ?_ (by assumption)))⟩
  · obtain ⟨⟨t1, t2⟩, ⟨l1, l2⟩, ⟨p1, p2⟩, ⟨f1, f2⟩, ⟨lo1, lo2, hi1⟩, ⟨no1, no2⟩, ⟨tu1, tu2⟩⟩ := hbd rfl
    have hm : rowP ⟨p, f, lo, hi, no, tu, sl⟩ (t - la) = lo + (hi - lo) * 2 * (if p - (t - la + f) % p < (t - la + f) % p then p - (t - la + f) % p else (t - la + f) % p) / p := by
      simp only [rowP]
      congr 3
      split <;> omega
    have hret : ∀ z, rowP ⟨p, f, lo, hi, no, tu, sl⟩ (t - la) = z → Ending.returned (.tuple #[.int .i64 z, .int .i64 0]) = .returned (intE (some (rowP ⟨p, f, lo, hi, no, tu, sl⟩ (t - la)))) := fun z h => by rw [h]; rfl
    simp only [if_true]
    generalize rowP ⟨p, f, lo, hi, no, tu, sl⟩ (t - la) = R at hm hret ⊢
    have u1 := Int.emod_nonneg (t - la + f) (b := p) (by omega)
    have u2 := Int.emod_lt_of_pos (t - la + f) (b := p) (by omega)
    have A1 := fun w => raround_any (t - la + f) p (by omega) (by omega) w
    have xs1 : IntKind.i64.wrap (t - la) = t - la := IntWalk.i64_in _ (by omega)
    have xs2 : IntKind.i64.wrap (t - la + f) = t - la + f := IntWalk.i64_in _ (by omega)
    generalize (t - la + f) % p = u at u1 u2 A1 hm
    have AA := Lib.hid A1
    have HRET := Lib.hid hret
    have pz : p ≠ 0 := by omega
    have hv : ∃ v, v = (if p - u < u then p - u else u) ∧ 0 ≤ v ∧ v ≤ 2000 := ⟨_, rfl, by split <;> omega, by split <;> omega⟩
    obtain ⟨v, hv, v1, v2⟩ := hv
    rw [← hv] at hm
    have HV := Lib.hid hv
    have m1 : 0 ≤ (hi - lo) * 2 * v := Int.mul_nonneg (by omega) v1
    have m2 : (hi - lo) * 2 * v ≤ 96000000 := by
      have := Int.mul_le_mul (a := (hi - lo) * 2) (b := v) (c := 48000) (d := 2000) (by omega) v2 v1 (by omega)
      omega
    have d0 : ((hi - lo) * 2 * v).tdiv p = (hi - lo) * 2 * v / p := Int.tdiv_eq_ediv_of_nonneg m1
    have x1 : IntKind.i64.wrap (hi - lo) = hi - lo := IntWalk.i64_in _ (by omega)
    have x2 : IntKind.i64.wrap ((hi - lo) * 2) = (hi - lo) * 2 := IntWalk.i64_in _ (by omega)
    have x3 : IntKind.i64.wrap (p - u) = p - u := IntWalk.i64_in _ (by omega)
    have x4 : IntKind.i64.wrap ((hi - lo) * 2 * v) = (hi - lo) * 2 * v := IntWalk.i64_in _ (by omega)
    have d1 : 0 ≤ (hi - lo) * 2 * v / p := Int.ediv_nonneg m1 (by omega)
    have d2 : (hi - lo) * 2 * v / p ≤ 96000000 := Int.le_trans (Int.ediv_le_self _ m1) m2
    have x5 : IntKind.i64.wrap ((hi - lo) * 2 * v / p) = (hi - lo) * 2 * v / p := IntWalk.i64_in _ (by omega)
    have x6 : IntKind.i64.wrap (lo + (hi - lo) * 2 * v / p) = lo + (hi - lo) * 2 * v / p := IntWalk.i64_in _ (by omega)
    have HM := Lib.hid hm
    clear A1 hm hret hv hbd
    by_cases hc : p - u < u
    all_goals
      go_enter Try.func80, Try.ntmps80
      go_wp2_with fail
      refine (HA.out _).mono ?_
      rintro e w1 ⟨rfl, hb1⟩
      have K : Blk w1 w.heap.size 25 #[.int .i64 p, .int .i64 f, .int .i64 lo, .int .i64 hi, .int .i64 no, .int .i64 tu, .int .i64 sl] := (Blk.new w _ _).below hb1 (by simp)
      have g0 : w1.cell? ⟨w.heap.size, 0, none⟩ = some (.int .i64 p) := K.cell 0
      have g1 : w1.cell? ⟨w.heap.size, 1, none⟩ = some (.int .i64 f) := K.cell 1
      have g2 : w1.cell? ⟨w.heap.size, 2, none⟩ = some (.int .i64 lo) := K.cell 2
      have g3 : w1.cell? ⟨w.heap.size, 3, none⟩ = some (.int .i64 hi) := K.cell 3
      have hB : Below w.heap.size w w1 := (by repeat (first | exact Below.refl _ _ | assumption | refine Below.drew ?_ | refine below_drewN ?_ _ | refine bl_alloc ?_ _ | refine Below.setCell ?_ (by first | (simp; done) | omega | (simp; omega)) _ | refine bl_then ?_ (by assumption)))
      clear K hb1
      go_upto_region 5 with (go_at_call 90; refine (AA.out _).mono ?_; rintro e w' ⟨rfl, rfl⟩)
    · obtain rfl : v = p - u := by rw [HV.out, if_pos hc]
      go_region_held3 (fun w' => w'.cell? ⟨w.heap.size, 0, none⟩ = some (.int .i64 p) ∧ w'.cell? ⟨w.heap.size, 2, none⟩ = some (.int .i64 lo) ∧ w'.cell? ⟨w.heap.size, 3, none⟩ = some (.int .i64 hi))
        (first | go_keep)
        (fail)
      go_wp2
      go_ret2
      exact ⟨HRET.out _ HM.out, (by repeat (first | exact Below.refl _ _ | assumption | refine Below.drew ?_ | refine below_drewN ?_ _ | refine bl_alloc ?_ _ | refine Below.setCell ?_ (by first | (simp; done) | omega | (simp; omega)) _ | refine bl_then ?_ (by assumption)))⟩
    · obtain rfl : v = u := by rw [HV.out, if_neg (by omega)]
      go_region_held3 (fun w' => w'.cell? ⟨w.heap.size, 0, none⟩ = some (.int .i64 p) ∧ w'.cell? ⟨w.heap.size, 2, none⟩ = some (.int .i64 lo) ∧ w'.cell? ⟨w.heap.size, 3, none⟩ = some (.int .i64 hi))
        (first | go_keep)
        (fail)
      go_wp2
      go_ret2
      exact ⟨HRET.out _ HM.out, (by repeat (first | exact Below.refl _ _ | assumption | refine Below.drew ?_ | refine below_drewN ?_ _ | refine bl_alloc ?_ _ | refine Below.setCell ?_ (by first | (simp; done) | omega | (simp; omega)) _ | refine bl_then ?_ (by assumption)))⟩
set_option maxHeartbeats 2000000 in
theorem rcol_any (p f lo hi no tu sl t la : Int) (w : World) :
    Calls Try.prog 81 #[.agg #[.int .i64 p, .int .i64 f, .int .i64 lo, .int .i64 hi, .int .i64 no, .int .i64 tu, .int .i64 sl], .int .i64 t, .int .i64 la] w fun e w' => e = .returned (intE (colO ⟨p, f, lo, hi, no, tu, sl⟩ t la)) ∧ Below w.heap.size w w' := by
  have A1 := asked_any p f lo hi no tu sl t la
  have hbd := @asked_bd p f lo hi no tu sl t la
  unfold colO
  generalize (inB t 0 1000000 && inB la (-10) 10 && orbOK ⟨p, f, lo, hi, no, tu, sl⟩) = ok at A1 hbd ⊢
  have HA := Lib.hid A1
  clear A1
  cases ok
  · clear hbd
    go_enter Try.func81, Try.ntmps81
    go_wp2_with fail
    refine (HA.out _).mono ?_
    rintro e w1 ⟨rfl, hb1⟩
    go_wp2
    go_ret2
    exact ⟨rfl, (by repeat (first | exact Below.refl _ _ | assumption | refine Below.drew ?_ | refine below_drewN ?_ _ | refine bl_alloc ?_ _ | refine Below.setCell ?_ (by first | (simp; done) | omega | (simp; omega)) _ | refine bl_then ?_ (by assumption)))⟩
  · obtain ⟨⟨t1, t2⟩, ⟨l1, l2⟩, ⟨p1, p2⟩, ⟨f1, f2⟩, ⟨lo1, lo2, hi1⟩, ⟨no1, no2⟩, ⟨tu1, tu2⟩⟩ := hbd rfl
    obtain ⟨q1, q2⟩ := turn_bd (t := t - la) ⟨tu1, tu2⟩ (by omega)
    have A1 := fun w => raround_any (no + tu * (t - la)) 48000 (by omega) (by omega) w
    have hc : colP ⟨p, f, lo, hi, no, tu, sl⟩ (t - la) = (no + tu * (t - la)) % 48000 := rfl
    simp only [if_true]
    rw [hc]
    have xs1 : IntKind.i64.wrap (t - la) = t - la := IntWalk.i64_in _ (by omega)
    have xs2 : IntKind.i64.wrap (tu * (t - la)) = tu * (t - la) := IntWalk.i64_in _ (by omega)
    have xs3 : IntKind.i64.wrap (no + tu * (t - la)) = no + tu * (t - la) := IntWalk.i64_in _ (by omega)
    have AA := Lib.hid A1
    clear A1 hc hbd
    go_enter Try.func81, Try.ntmps81
    go_wp2_with fail
    refine (HA.out _).mono ?_
    rintro e w1 ⟨rfl, hb1⟩
    have K : Blk w1 w.heap.size 25 #[.int .i64 p, .int .i64 f, .int .i64 lo, .int .i64 hi, .int .i64 no, .int .i64 tu, .int .i64 sl] := (Blk.new w _ _).below hb1 (by simp)
    have g4 : w1.cell? ⟨w.heap.size, 4, none⟩ = some (.int .i64 no) := K.cell 4
    have g5 : w1.cell? ⟨w.heap.size, 5, none⟩ = some (.int .i64 tu) := K.cell 5
    have hB : Below w.heap.size w w1 := (by repeat (first | exact Below.refl _ _ | assumption | refine Below.drew ?_ | refine below_drewN ?_ _ | refine bl_alloc ?_ _ | refine Below.setCell ?_ (by first | (simp; done) | omega | (simp; omega)) _ | refine bl_then ?_ (by assumption)))
    clear K hb1
    go_wp2_with (go_at_call 90; refine (AA.out _).mono ?_; rintro e w' ⟨rfl, rfl⟩)
    go_ret2
    exact ⟨rfl, (by repeat (first | exact Below.refl _ _ | assumption | refine Below.drew ?_ | refine below_drewN ?_ _ | refine bl_alloc ?_ _ | refine Below.setCell ?_ (by first | (simp; done) | omega | (simp; omega)) _ | refine bl_then ?_ (by assumption)))⟩
set_option maxHeartbeats 2000000 in
theorem rAt_any (p f lo hi no tu sl t la : Int) (w : World) :
    Calls Try.prog 56 #[.agg #[.int .i64 p, .int .i64 f, .int .i64 lo, .int .i64 hi, .int .i64 no, .int .i64 tu, .int .i64 sl], .int .i64 t, .int .i64 la] w fun e w' => e = .returned (atV (atP ⟨p, f, lo, hi, no, tu, sl⟩ t la)) ∧ Below w.heap.size w w' := by
  have A1 := rrow_any p f lo hi no tu sl t la
  have A2 := rcol_any p f lo hi no tu sl t la
  have hbd := @asked_bd p f lo hi no tu sl t la
  have hp : 0 < p → 0 ≤ lo → lo < hi → 0 ≤ rowP ⟨p, f, lo, hi, no, tu, sl⟩ (t - la) ∧ rowP ⟨p, f, lo, hi, no, tu, sl⟩ (t - la) ≤ lo + (hi - lo) := fun h1 h2 h3 => rowP_bd ⟨p, f, lo, hi, no, tu, sl⟩ (t - la) h1 h2 h3
  have hq1 := Int.emod_nonneg (no + tu * (t - la)) (b := 48000) (by omega)
  have hq2 := Int.emod_lt_of_pos (no + tu * (t - la)) (b := 48000) (by omega)
  have hc : colP ⟨p, f, lo, hi, no, tu, sl⟩ (t - la) = (no + tu * (t - la)) % 48000 := rfl
  rw [← hc] at hq1 hq2
  unfold atP
  unfold rowO at A1
  unfold colO at A2
  clear hc
  generalize rowP ⟨p, f, lo, hi, no, tu, sl⟩ (t - la) = Y at A1 hp ⊢
  generalize colP ⟨p, f, lo, hi, no, tu, sl⟩ (t - la) = X at A2 hq1 hq2 ⊢
  generalize (inB t 0 1000000 && inB la (-10) 10 && orbOK ⟨p, f, lo, hi, no, tu, sl⟩) = ok at A1 A2 hbd ⊢
  cases ok
  · simp only [Bool.false_eq_true, if_false] at A1 A2 ⊢
    have HA := Lib.hid A1
    have HB := Lib.hid A2
    clear A1 A2 hbd hp hq1 hq2
    go_enter Try.func56, Try.ntmps56
    go_wp2_with fail
    refine (HA.out _).mono ?_
    rintro e w1 ⟨rfl, hb1⟩
    obtain ⟨hc1, hf1⟩ := bcell hb1
    have hz := hb1.size
    simp at hz
    simp only [intE]
    go_wp2_with fail
    refine (HB.out _).mono ?_
    rintro e w2 ⟨rfl, hb2⟩
    simp only [intE]
    have K2 : Blk w2 (w.heap.size + 1) 29 #[.int .i64 0, .int .i64 0] := ((Blk.new_at _ _ _ (by simp)).below hb1 (by simp)).below hb2 (by omega)
    have hB : Below w.heap.size w w2 := (by repeat (first | exact Below.refl _ _ | assumption | refine Below.drew ?_ | refine below_drewN ?_ _ | refine bl_alloc ?_ _ | refine Below.setCell ?_ (by first | (simp; done) | omega | (simp; omega)) _ | refine bl_then ?_ (by assumption)))
    have z0 : w2.cell? ⟨w.heap.size + 1, 0, none⟩ = some (.int .i64 0) := K2.cell 0
    have z1 : w2.cell? ⟨w.heap.size + 1, 1, none⟩ = some (.int .i64 0) := K2.cell 1
    have y0 := K2.frozen 0
    have y1 := K2.frozen 1
    clear hc1 hf1 hb1 hb2 hz
    go_wp2
    have K4 := (K2.set_ 0 (.int .i64 0)).set_ 1 (.int .i64 0)
    have hB4 : Below w.heap.size w ((w2.setCell ⟨w.heap.size + 1, 0, none⟩ (.int .i64 0)).setCell ⟨w.heap.size + 1, 1, none⟩ (.int .i64 0)) := (hB.setCell (p := ⟨w.heap.size + 1, 0, none⟩) (Nat.le_succ _) _).setCell (p := ⟨w.heap.size + 1, 1, none⟩) (Nat.le_succ _) _
    generalize (w2.setCell ⟨w.heap.size + 1, 0, none⟩ (.int .i64 0)).setCell ⟨w.heap.size + 1, 1, none⟩ (.int .i64 0) = w4 at K4 hB4 ⊢
    have c0 : w4.cell? ⟨w.heap.size + 1, 0, none⟩ = some (.int .i64 0) := K4.cell 0
    have c1 : w4.cell? ⟨w.heap.size + 1, 1, none⟩ = some (.int .i64 0) := K4.cell 1
    exact bodyPost_ret (v := .tuple #[.agg #[.int .i64 0, .int .i64 0], .int .i64 70]) (by simp [results, Try.results56, go_sem, c0, c1]) rfl ⟨rfl, hB4⟩
  · simp only [if_true] at A1 A2 ⊢
    obtain ⟨⟨t1, t2⟩, ⟨l1, l2⟩, ⟨p1, p2⟩, ⟨f1, f2⟩, ⟨lo1, lo2, hi1⟩, ⟨no1, no2⟩, ⟨tu1, tu2⟩⟩ := hbd rfl
    obtain ⟨y1, y2⟩ := hp (by omega) lo1 lo2
    have HA := Lib.hid A1
    have HB := Lib.hid A2
    clear A1 A2 hbd hp
    go_enter Try.func56, Try.ntmps56
    go_wp2_with fail
    refine (HA.out _).mono ?_
    rintro e w1 ⟨rfl, hb1⟩
    obtain ⟨hc1, hf1⟩ := bcell hb1
    have hz := hb1.size
    simp at hz
    simp only [intE]
    go_wp2_with fail
    refine (HB.out _).mono ?_
    rintro e w2 ⟨rfl, hb2⟩
    simp only [intE]
    have K2 : Blk w2 (w.heap.size + 1) 29 #[.int .i64 0, .int .i64 0] := ((Blk.new_at _ _ _ (by simp)).below hb1 (by simp)).below hb2 (by omega)
    have hB : Below w.heap.size w w2 := (by repeat (first | exact Below.refl _ _ | assumption | refine Below.drew ?_ | refine below_drewN ?_ _ | refine bl_alloc ?_ _ | refine Below.setCell ?_ (by first | (simp; done) | omega | (simp; omega)) _ | refine bl_then ?_ (by assumption)))
    have z0 : w2.cell? ⟨w.heap.size + 1, 0, none⟩ = some (.int .i64 0) := K2.cell 0
    have z1 : w2.cell? ⟨w.heap.size + 1, 1, none⟩ = some (.int .i64 0) := K2.cell 1
    have y0_ := K2.frozen 0
    have y1_ := K2.frozen 1
    clear hc1 hf1 hb1 hb2 hz
    go_wp2
    have K4 := (K2.set_ 0 (.int .i64 (X / 1000))).set_ 1 (.int .i64 (Y / 1000))
    have hB4 : Below w.heap.size w ((w2.setCell ⟨w.heap.size + 1, 0, none⟩ (.int .i64 (X / 1000))).setCell ⟨w.heap.size + 1, 1, none⟩ (.int .i64 (Y / 1000))) := (hB.setCell (p := ⟨w.heap.size + 1, 0, none⟩) (Nat.le_succ _) _).setCell (p := ⟨w.heap.size + 1, 1, none⟩) (Nat.le_succ _) _
    generalize (w2.setCell ⟨w.heap.size + 1, 0, none⟩ (.int .i64 (X / 1000))).setCell ⟨w.heap.size + 1, 1, none⟩ (.int .i64 (Y / 1000)) = w4 at K4 hB4 ⊢
    have c0 : w4.cell? ⟨w.heap.size + 1, 0, none⟩ = some (.int .i64 (X / 1000)) := K4.cell 0
    have c1 : w4.cell? ⟨w.heap.size + 1, 1, none⟩ = some (.int .i64 (Y / 1000)) := K4.cell 1
    exact bodyPost_ret (v := .tuple #[.agg #[.int .i64 (X / 1000), .int .i64 (Y / 1000)], .int .i64 0]) (by simp [results, Try.results56, go_sem, c0, c1]) rfl ⟨rfl, hB4⟩

end Go.Proofs.Ytlmpmhfbjblhnaa
