/- The reference: what can be sent (printed by contact_c10.py). -/
import Derived.Test.YtlmpmhfbjblhnaaC5
import Derived.Test.YtlmpmhfbjblhnaaC10
namespace Go.Proofs.Ytlmpmhfbjblhnaa
open Go.RowKit

theorem properP_one (y : Pas) : properP [y] = pasOK y := by
  rw [properP_eq, properR, properR]
  cases pasOK y <;> rfl
theorem rsat_x (x : St) (w : World) : Calls Try.prog 21 #[.agg (satCells x).toArray] w fun e w' => e = .returned (.bool (satOK x)) ∧ Below w.heap.size w w' := rsat_valid_x x w
set_option maxHeartbeats 2000000 in
set_option maxRecDepth 100000 in
theorem rsend_any (id ow p f lo hi no tu sl wi st ch su idl sh se wa co ho sw ra sa sn a b c d : Int) (w : World) :
    Calls Try.prog 23 #[.agg #[.int .i64 id, .int .i64 ow, .int .i64 p, .int .i64 f, .int .i64 lo, .int .i64 hi, .int .i64 no, .int .i64 tu, .int .i64 sl, .int .i64 wi, .int .i64 st, .int .i64 ch, .int .i64 su, .int .i64 idl, .int .i64 sh, .int .i64 se, .int .i64 wa, .int .i64 co, .int .i64 ho, .int .i64 sw, .int .i64 ra], .agg #[.int .i64 sa, .int .i64 sn, .int .i64 a, .int .i64 b, .int .i64 c, .int .i64 d]] w fun e w' => e = .returned (.int .i64 (sendP ⟨id, ow, ⟨p, f, lo, hi, no, tu, sl⟩, wi, st, ch, su, idl, sh, se, wa, co, ho, sw, ra⟩ ⟨sa, sn, ⟨a, b⟩, ⟨c, d⟩⟩)) ∧ Below w.heap.size w w' := by
  obtain ⟨x, hx⟩ : ∃ x : St, x = ⟨id, ow, ⟨p, f, lo, hi, no, tu, sl⟩, wi, st, ch, su, idl, sh, se, wa, co, ho, sw, ra⟩ := ⟨_, rfl⟩
  obtain ⟨y, hy⟩ : ∃ y : Pas, y = ⟨sa, sn, ⟨a, b⟩, ⟨c, d⟩⟩ := ⟨_, rfl⟩
  have e1 : x.id = id := by rw [hx]
  have e2 : y.sat = sa := by rw [hy]
  have e3 : y.sure.fr = a := by rw [hy]
  have e4 : y.sure.tt = b := by rw [hy]
  have e5 : x.rate = ra := by rw [hx]
  have hp := @pas_bd y
  have hr := @sat_rate x
  have hv := rsat_x x
  have hw := fun A w h => rproper_any [y] A 1 1 w h
  rw [properP_one] at hw
  have hX : (satCells x).toArray = #[.int .i64 id, .int .i64 ow, .int .i64 p, .int .i64 f, .int .i64 lo, .int .i64 hi, .int .i64 no, .int .i64 tu, .int .i64 sl, .int .i64 wi, .int .i64 st, .int .i64 ch, .int .i64 su, .int .i64 idl, .int .i64 sh, .int .i64 se, .int .i64 wa, .int .i64 co, .int .i64 ho, .int .i64 sw, .int .i64 ra] := by rw [hx]; rfl
  have hY : (pasCells y).toArray = #[.int .i64 sa, .int .i64 sn, .int .i64 a, .int .i64 b, .int .i64 c, .int .i64 d] := by rw [hy]; rfl
  have hs : sendP x y = if (satOK x && pasOK y && decide (id = sa)) = true then (b - a) * ra else 0 := by rw [sendP, e1, e2, e3, e4, e5]
  rw [← hx, ← hy]
  generalize sendP x y = res at hs ⊢
  rw [hX] at hv
  rw [e3, e4] at hp
  rw [e5] at hr
  have HX := Lib.hid hX
  have HY := Lib.hid hY
  clear hX hY e1 e2 e3 e4 e5 hx hy
  generalize satOK x = q1 at hv hr hs
  generalize pasOK y = q2 at hw hp hs
  have HRES := Lib.hid hs
  clear hs
  have HV := Lib.hid hv
  have HW := Lib.hid hw
  have hpb : q2 = true → -1000001 ≤ b - a ∧ b - a ≤ 1000001 := fun h => by have := hp h; omega
  have HP := Lib.hid hpb
  have HR := Lib.hid hr
  clear hv hw hp hr hpb
  go_enter Try.func23, Try.ntmps23
  go_upto_region 1 with (fail)
  obtain ⟨g1, hg1⟩ : ∃ g, g = w.heap.size := ⟨_, rfl⟩
  obtain ⟨g2, hg2⟩ : ∃ g, g = w.heap.size + 1 := ⟨_, rfl⟩
  have K1 : Blk ((w.alloc (.cells #[.int .i64 id, .int .i64 ow, .int .i64 p, .int .i64 f, .int .i64 lo, .int .i64 hi, .int .i64 no, .int .i64 tu, .int .i64 sl, .int .i64 wi, .int .i64 st, .int .i64 ch, .int .i64 su, .int .i64 idl, .int .i64 sh, .int .i64 se, .int .i64 wa, .int .i64 co, .int .i64 ho, .int .i64 sw, .int .i64 ra] 27)).alloc (.cells #[.int .i64 sa, .int .i64 sn, .int .i64 a, .int .i64 b, .int .i64 c, .int .i64 d] 47)) g1 27 #[.int .i64 id, .int .i64 ow, .int .i64 p, .int .i64 f, .int .i64 lo, .int .i64 hi, .int .i64 no, .int .i64 tu, .int .i64 sl, .int .i64 wi, .int .i64 st, .int .i64 ch, .int .i64 su, .int .i64 idl, .int .i64 sh, .int .i64 se, .int .i64 wa, .int .i64 co, .int .i64 ho, .int .i64 sw, .int .i64 ra] := (Blk.new_at _ _ _ hg1.symm).alloc _
  have K2 : Blk ((w.alloc (.cells #[.int .i64 id, .int .i64 ow, .int .i64 p, .int .i64 f, .int .i64 lo, .int .i64 hi, .int .i64 no, .int .i64 tu, .int .i64 sl, .int .i64 wi, .int .i64 st, .int .i64 ch, .int .i64 su, .int .i64 idl, .int .i64 sh, .int .i64 se, .int .i64 wa, .int .i64 co, .int .i64 ho, .int .i64 sw, .int .i64 ra] 27)).alloc (.cells #[.int .i64 sa, .int .i64 sn, .int .i64 a, .int .i64 b, .int .i64 c, .int .i64 d] 47)) g2 47 #[.int .i64 sa, .int .i64 sn, .int .i64 a, .int .i64 b, .int .i64 c, .int .i64 d] := Blk.new_at _ _ _ (by simp [hg2])
  have hB : Below w.heap.size w ((w.alloc (.cells #[.int .i64 id, .int .i64 ow, .int .i64 p, .int .i64 f, .int .i64 lo, .int .i64 hi, .int .i64 no, .int .i64 tu, .int .i64 sl, .int .i64 wi, .int .i64 st, .int .i64 ch, .int .i64 su, .int .i64 idl, .int .i64 sh, .int .i64 se, .int .i64 wa, .int .i64 co, .int .i64 ho, .int .i64 sw, .int .i64 ra] 27)).alloc (.cells #[.int .i64 sa, .int .i64 sn, .int .i64 a, .int .i64 b, .int .i64 c, .int .i64 d] 47)) := (by repeat (first | exact Below.refl _ _ | assumption | refine Below.drew ?_ | refine below_drewN ?_ _ | refine bl_alloc ?_ _ | refine Below.setCell ?_ (by first | (simp; done) | omega | (simp; omega)) _ | refine bl_then ?_ (by assumption)))
  rw [← hg2, ← hg1]
  generalize (w.alloc (.cells #[.int .i64 id, .int .i64 ow, .int .i64 p, .int .i64 f, .int .i64 lo, .int .i64 hi, .int .i64 no, .int .i64 tu, .int .i64 sl, .int .i64 wi, .int .i64 st, .int .i64 ch, .int .i64 su, .int .i64 idl, .int .i64 sh, .int .i64 se, .int .i64 wa, .int .i64 co, .int .i64 ho, .int .i64 sw, .int .i64 ra] 27)).alloc (.cells #[.int .i64 sa, .int .i64 sn, .int .i64 a, .int .i64 b, .int .i64 c, .int .i64 d] 47) = W at K1 K2 hB ⊢
  clear hg1 hg2
  go_wp2_with (refine wpList_load_st rfl 27 _ rfl g1 0 rfl _ (satCells x) HX.out _ (Blk.range K1 _ (by rw [← HX.out])) Try.underlying27 rfl sat_size ?_)
  refine (HV.out _).mono ?_
  rintro e W1 ⟨rfl, hx⟩
  have K1 := K1.ext hx
  have K2 := K2.ext hx
  have hB := bl_then hB hx
  clear hx
  cases q1
  · go_wp2
    go_ret
    exact ⟨by rw [show res = 0 by rw [HRES.out]; simp]; rfl, hB⟩
  have k0 : W1.cell? ⟨g2, 0, none⟩ = some (.int .i64 sa) := K2.cell 0
  have k1 : W1.cell? ⟨g2, 1, none⟩ = some (.int .i64 sn) := K2.cell 1
  have k2 : W1.cell? ⟨g2, 2, none⟩ = some (.int .i64 a) := K2.cell 2
  have k3 : W1.cell? ⟨g2, 3, none⟩ = some (.int .i64 b) := K2.cell 3
  have k4 : W1.cell? ⟨g2, 4, none⟩ = some (.int .i64 c) := K2.cell 4
  have k5 : W1.cell? ⟨g2, 5, none⟩ = some (.int .i64 d) := K2.cell 5
  go_wp2_with fail
  have hx6 : Ext W1 (W1.alloc (.cells #[.int .i64 sa, .int .i64 sn, .int .i64 a, .int .i64 b, .int .i64 c, .int .i64 d] 47)) := bl_alloc (Below.refl _ _) _
  have J : Blk (W1.alloc (.cells #[.int .i64 sa, .int .i64 sn, .int .i64 a, .int .i64 b, .int .i64 c, .int .i64 d] 47)) W1.heap.size 47 #[.int .i64 sa, .int .i64 sn, .int .i64 a, .int .i64 b, .int .i64 c, .int .i64 d] := Blk.new _ _ _
  have hra := RA.one (cells := pasCells) (x := y) (s := 6) rfl (by rw [HY.out]; exact J)
  refine (HW.out _ _ hra).mono ?_
  rintro e W2 ⟨rfl, hx⟩
  have hx := Ext.trans hx6 hx
  have K1 := K1.ext hx
  have K2 := K2.ext hx
  have hB := bl_then hB hx
  clear hx hx6 J hra k0 k1 k2 k3 k4 k5
  cases q2
  · go_wp2
    go_ret
    exact ⟨by rw [show res = 0 by rw [HRES.out]; simp]; rfl, hB⟩
  have c0 : W2.cell? ⟨g1, 0, none⟩ = some (.int .i64 id) := K1.cell 0
  have k0 : W2.cell? ⟨g2, 0, none⟩ = some (.int .i64 sa) := K2.cell 0
  by_cases hid : id = sa
  · have hid2 : (id != sa) = false := by simpa using hid
    have h1 : -1000001 ≤ b - a ∧ b - a ≤ 1000001 := by first | exact HP.out rfl | exact HP.out trivial
    have h2 : 1 ≤ ra ∧ ra ≤ 1000 := by first | exact HR.out rfl | exact HR.out trivial
    have h3 := mul_bd h1 h2
    have hw1 : IntKind.i64.wrap (b - a) = b - a := IntWalk.i64_in _ (by omega)
    have hw2 : IntKind.i64.wrap ((b - a) * ra) = (b - a) * ra := IntWalk.i64_in _ (by omega)
    have k2 : W2.cell? ⟨g2, 2, none⟩ = some (.int .i64 a) := K2.cell 2
    have k3 : W2.cell? ⟨g2, 3, none⟩ = some (.int .i64 b) := K2.cell 3
    have g20 : W2.cell? ⟨g1, 20, none⟩ = some (.int .i64 ra) := K1.cell 20
    have HID := Lib.hid hid
    clear hid
    go_wp2
    go_ret
    exact ⟨by rw [show res = (b - a) * ra by rw [HRES.out, decide_eq_true HID.out]; simp]; rfl, hB⟩
  · have hid2 : (id != sa) = true := by simpa using hid
    have HID := Lib.hid hid
    clear hid
    go_wp2
    go_ret
    exact ⟨by rw [show res = 0 by rw [HRES.out, decide_eq_false HID.out]; simp]; rfl, hB⟩

end Go.Proofs.Ytlmpmhfbjblhnaa
