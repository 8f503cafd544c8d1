/- AntennaRows: the walk. -/
import Derived.Test.YtgbfhkildbhhoaaL0
import Derived.Test.YtgbfhkildbhhoaaQ3
import Derived.Test.YtgbfhkildbhhoaaTn2
namespace Go.Proofs.Ytgbfhkildbhhoaa
open Go.RowKit

theorem setStep_len (l : List Use) (s : Int × List (List Nat)) (i : Nat) : (setStep l s i).2.length ≤ s.2.length + 1 := by
  unfold setStep
  split
  · simp
  · omega
theorem rows_len (l : List Use) : (rowsP l).1.length ≤ l.length := by
  have h1 : ∀ (o : List Nat) (s : Int × List (List Nat)), (o.foldl (setStep l) s).2.length ≤ s.2.length + o.length := by
    intro o
    induction o with
    | nil => intro s; simp
    | cons i r ih => intro s; rw [List.foldl_cons]; have := ih (setStep l s i); have := setStep_len l s i; simp only [List.length_cons]; omega
  unfold rowsP
  split
  · refine Nat.le_trans (List.length_filter_le _ _) ?_
    have := h1 (orderP l) (-1, [])
    rw [order_len] at this
    simpa [setsP] using this
  · exact Nat.zero_le _
theorem bit_mod (S k : Nat) : ((S : Int) / 2 ^ k) % 2 = (if bitP S k then 1 else 0) ∧ ((S : Int) / 2 ^ k).tmod 2 = (if bitP S k then 1 else 0) := by
  have hc : ((S : Int) / 2 ^ k) = ((S / 2 ^ k : Nat) : Int) := by simp
  have h1 : (((S / 2 ^ k : Nat) : Int)) % 2 = (if bitP S k then 1 else 0) := by
    unfold bitP
    have h2 : S / 2 ^ k % 2 = 0 ∨ S / 2 ^ k % 2 = 1 := by omega
    rcases h2 with h2 | h2
    · simp [h2]; omega
    · simp [h2]; omega
  rw [hc]
  exact ⟨h1, by rw [Int.tmod_eq_emod_of_nonneg (Int.natCast_nonneg _)]; exact h1⟩
theorem rows_any_succ (rs : List Row) (p : Row → Bool) (k : Nat) (h : k < rs.length) : (rs.take (k + 1)).any p = ((rs.take k).any p || p rs[k]) := by
  rw [List.take_succ_eq_append_getElem h, List.any_append]
  simp
theorem cntb_succ (l : List Nat) (p : Nat → Bool) (k : Nat) (h : k < l.length) : (l.take (k + 1)).countP p = (l.take k).countP p + (if p l[k] then 1 else 0) := by
  rw [List.take_succ_eq_append_getElem h, List.countP_append, List.countP_cons]
  simp

set_option maxRecDepth 100000 in
set_option maxHeartbeats 8000000 in
theorem rows_walk (xa : Option Addr) (xn xc : Nat) (xs : List T3) (antennas set : Int) (w : World) (hr : RA t3Cells 3 w w.heap.size xa xn xc xs) (hok : ∀ t ∈ xs, t.ok) (hw : I64ok antennas) (hw2 : I64ok set) :
    Calls Try.prog 5 #[.slice xa xn xc, .int .i64 antennas, .int .i64 set] w (Tru w) := by
  have HS := Lib.hid (sane_any w)
  have HM := Lib.hid (fun (W : World) (hW : Ext w W) => made_any xs xa xn xc W (ra_ext hr hW) hok)
  obtain ⟨l, hl⟩ : ∃ l, l = madeP xs := ⟨_, rfl⟩
  have hval : validU l = true := by rw [hl]; exact made_valid xs
  have hlen : l.length ≤ 14 := by rw [hl]; exact made_len xs
  rw [← hl] at HM
  obtain ⟨n, hn⟩ : ∃ n, n = l.length := ⟨_, rfl⟩
  have hn14 : n ≤ 14 := by omega
  have hpk := fun W => pickl_any antennas 5 W hw.1 hw.2 (by omega) (by omega)
  obtain ⟨hb1, hb2⟩ := pickI_bd antennas 5 (by omega)
  obtain ⟨m, hm, hm8⟩ : ∃ m : Nat, pickI antennas 5 = m ∧ m ≤ 4 := ⟨(pickI antennas 5).toNat, by omega, by omega⟩
  rw [hm] at hpk
  have hpk2 := fun W => pickl_any set 16384 W hw2.1 hw2.2 (by omega) (by omega)
  obtain ⟨hb3, hb4⟩ := pickI_bd set 16384 (by omega)
  obtain ⟨B, hB, hB8⟩ : ∃ B : Nat, pickI set 16384 = B ∧ B < 16384 := ⟨(pickI set 16384).toNat, by omega, by omega⟩
  rw [hB] at hpk2
  have hmB : inB (m : Int) 0 8 = true := by rw [inB_iff]; omega
  have hlaw := fun S => rows_law l S (m : Int) hval hmB
  have hrl := rows_len l
  have HPK := Lib.hid hpk
  have HPK2 := Lib.hid hpk2
  have HV := Lib.hid hval
  have HNL := Lib.hid hn
  have HMB := Lib.hid hmB
  clear hr hok hl hlen hb1 hb2 hb3 hb4 hm hpk hmB hB hpk2
  go_enter Try.func5, Try.ntmps5
  go_wp2_with fail
  refine HS.out.mono ?_
  rintro e W1 ⟨rfl, hx⟩
  go_wp2_with fail
  refine (HM.out _ hx).mono ?_
  rintro e W2 ⟨v, rfl, hown, hy⟩
  obtain ⟨A, c, rfl, hnc, hcm⟩ := own_slice hown
  have hx := Ext.trans hx hy
  have hra := RA.of_own (cells := useCells) hown rfl (by rw [← HNL.out]; omega)
  rw [← HNL.out] at hra hnc
  rw [← HNL.out]
  have HRA := Lib.hid hra
  clear hown hy HS HM hra hn
  go_wp2_with fail
  refine (HPK.out _).mono ?_
  rintro e w' ⟨rfl, rfl⟩
  clear HPK
  have hrow := rows_any l A n c W2 HRA.out (by unfold mxS; omega)
  unfold RowsRet at hrow
  obtain ⟨he0, _, _, _⟩ := hlaw 0
  rw [he0] at hrow
  generalize (rowsP l).1 = R at hrow hlaw hrl
  have HROW := Lib.hid hrow
  have HLAW := Lib.hid hlaw
  clear hrow hlaw he0 hval
  go_wp2_with fail
  refine HROW.out.mono ?_
  rintro e W3 ⟨v10, rs, rfl, hri, hrm, hy⟩
  have hrs : rs.length ≤ 14 := by rw [← List.length_map (f := Row.l), hrm]; have := HNL.out; omega
  obtain ⟨A10, c10, rfl, _, _⟩ := own_slice hri.out
  have hx := Ext.trans hx hy
  have HRS := Lib.hid (hri.rws (by omega))
  have HRM := Lib.hid hrm
  have HRA := Lib.hid (ra_ext HRA.out hy)
  obtain ⟨rn, hrn⟩ : ∃ n, n = rs.length := ⟨_, rfl⟩
  rw [← hrn] at HRS hrs ⊢
  have HRN := Lib.hid hrn
  clear hri hrm hy HROW hrl hrn
  go_wp2_with fail
  refine (HPK2.out _).mono ?_
  rintro e w' ⟨rfl, rfl⟩
  clear HPK2
  have hya : Ext W3 (W3.alloc (.cells #[.int .i64 16383, .int .i64 B] 3)) := bl_alloc (Below.refl _ _) _
  have J : Blk (W3.alloc (.cells #[.int .i64 16383, .int .i64 B] 3)) W3.heap.size 3 #[.int .i64 16383, .int .i64 B] := Blk.new _ _ _
  go_wp2_with fail
  obtain ⟨gB, hgB⟩ : ∃ g, g = W3.heap.size := ⟨_, rfl⟩
  rw [← hgB] at J ⊢
  clear hgB
  generalize W3.alloc (.cells #[.int .i64 16383, .int .i64 B] 3) = W4 at hya J ⊢
  have hx := Ext.trans hx hya
  have HRA := Lib.hid (ra_ext HRA.out hya)
  have HRS := Lib.hid (rws_ext HRS.out hya)
  have HJ := Lib.hid J
  clear hya J
  go_loopw [42] (fun y wr => ∃ j : Nat, j ≤ 2 ∧ y = .int .i64 j ∧ Ext W4 wr) (fun y _ => 2 - (intOf y).toNat)
  case atStart => exact ⟨0, by omega, rfl, Ext.refl _⟩
  case round =>
    obtain ⟨j, hj, rfl, hy⟩ := hrel
    by_cases hj2 : j < 2
    · obtain ⟨S, hS, cS⟩ : ∃ S : Nat, S < 131072 ∧ wr.cell? ⟨gB, j, none⟩ = some (.int .i64 (S : Int)) := by
        have hjb := HJ.out.ext hy
        have h01 : j = 0 ∨ j = 1 := by omega
        rcases h01 with rfl | rfl
        · exact ⟨16383, by omega, hjb.cell 0⟩
        · exact ⟨B, by omega, hjb.cell 1⟩
      have hj0 : (0 : Int) ≤ (j : Int) := by omega
      have hjj : (j : Int) < 2 := by omega
      obtain ⟨W5, hW5⟩ : ∃ W, W = wr := ⟨_, rfl⟩
      rw [← hW5] at hy cS ⊢
      clear hW5
      have HRA5 := Lib.hid (ra_ext HRA.out hy)
      have HRS5 := Lib.hid (rws_ext HRS.out hy)
      have hx5 := Ext.trans hx hy
      have HY5 := Lib.hid hy
      go_wp2_with fail
      clear cS hy
      go_loopw [14, 15] (fun x y wl => ∃ i : Nat, i ≤ n ∧ y = .int .i64 i ∧ Hid (OwnU wl W5.heap.size x (selU S (l.take i) 0)) ∧ Ext W5 wl) (fun _ y _ => n - (intOf y).toNat)
      case atStart => exact ⟨0, Nat.zero_le _, rfl, Lib.hid (World.ownsRow_nil _ _ _ _), Ext.refl _⟩
      case round =>
        obtain ⟨i, hi, rfl, HO, hy⟩ := hrel
        by_cases hin : i < n
        · obtain ⟨b, o, hz, hA, _, hc⟩ := (HRA5.out.below hy).at_ use_len hin
          have hst := selU_succ S l i hz
          have hll : (selU S (l.take i) 0).length ≤ 14 := Nat.le_trans (selU_sub S _ 0).length_le (by rw [List.length_take]; omega)
          have c0 : wr.cell? ⟨b, o + i * 3, none⟩ = some (.int .i64 l[i].sat) := hc 0 (by omega)
          have c1 : wr.cell? ⟨b, o + i * 3 + 1, none⟩ = some (.int .i64 l[i].fr) := hc 1 (by omega)
          have c2 : wr.cell? ⟨b, o + i * 3 + 2, none⟩ = some (.int .i64 l[i].tt) := hc 2 (by omega)
          generalize l[i] = u at hst c0 c1 c2
          obtain ⟨us, uf, ut⟩ := u
          dsimp only at c0 c1 c2
          generalize selU S (l.take i) 0 = own at HO hst hll
          obtain ⟨A3, c3, hv3, _, _⟩ := own_slice HO.out
          subst hv3
          obtain ⟨hbm1, hbm2⟩ := bit_mod S i
          have hi0 : (0 : Int) ≤ (i : Int) := by omega
          have hii : (i : Int) < (n : Int) := by omega
          subst hA
          clear hc hz
          generalize bitP S i = q at hst hbm1 hbm2
          cases q
          · rw [if_neg (by simp), List.append_nil] at hst
            rw [if_neg (by simp)] at hbm1 hbm2
            have HO9 : Hid (OwnU wr W5.heap.size (.slice A3 own.length c3) (selU S (l.take (i + 1)) 0)) := Lib.hid (by rw [hst]; exact HO.out)
            clear hst HO
            go_wp2_with fail
            go_roundw
            case rel => exact ⟨i + 1, by omega, by go_num, HO9, hy⟩
            case measure => simp [intOf]; omega
          · rw [if_pos rfl] at hst hbm1 hbm2
            have hxa : Ext wr (wr.alloc (.cells #[.int .i64 us, .int .i64 uf, .int .i64 ut] 26)) := bl_alloc (Below.refl _ _) _
            have hya := Ext.trans hy hxa
            obtain ⟨v9, W9, hrun, hg9, h9⟩ := snoc_use 27 own (.slice A3 own.length c3) ⟨us, uf, ut⟩ W5.heap.size wr.heap.size (Blk.new _ _ _) (HO.out.ext hxa) (by omega) (Below.size hya)
            have hy9 : Ext W5 W9 := hya.grown hg9 (Below.size hya) (fun q e => (World.ownsRow.lt HO.out q e).1)
            rw [← hst] at h9
            have HO9 := Lib.hid h9
            have HRUN := Lib.hid hrun
            clear hrun hg9 h9 HO hxa hya hst
            go_wp2_with (refine wpList_append_run_ rfl _ _ _ rfl rfl rfl HRUN.out ?_)
            clear HRUN
            go_roundw
            case rel => exact ⟨i + 1, by omega, by go_num, HO9, hy9⟩
            case measure => simp [intOf]; omega
        · have htk : l.take i = l := List.take_of_length_le (by rw [← HNL.out]; omega)
          rw [htk] at HO
          have hsl : (selU S l 0).length ≤ 14 := Nat.le_trans (selU_sub S _ 0).length_le (by rw [← HNL.out]; omega)
          obtain ⟨A3, c3, hv3, _, _⟩ := own_slice HO.out
          subst hv3
          obtain ⟨_, hz0, hiff, hrr⟩ := HLAW.out S
          have hcl := fun (W : World) (hW : Ext wr W) => clash_any (selU S l 0) (m : Int) A3 _ c3 W (ra_ext (RA.of_own (cells := useCells) HO.out rfl (by omega)) hW) (by unfold mxS; omega)
          unfold ClashRet at hcl
          rw [hz0] at hcl
          generalize (clashP (selU S l 0) (m : Int)).1 = t at hcl hiff
          generalize (selU S l 0).length = sn at hcl hsl
          have HCL := Lib.hid hcl
          have HIFF := Lib.hid hiff
          have HRR := Lib.hid hrr
          obtain ⟨W6, hW6⟩ : ∃ W, W = wr := ⟨_, rfl⟩
          rw [← hW6] at hy HCL ⊢
          clear hW6 hcl hiff hrr hz0 HO htk
          have HRS6 := Lib.hid (rws_ext HRS5.out hy)
          have hx6 := Ext.trans hx5 hy
          have HY6 := Lib.hid (Ext.trans HY5.out hy)
          clear hy
          go_wp2_with fail
          go_loopw [16, 17] (fun x y wl => ∃ r : Nat, r ≤ rn ∧ y = .int .i64 r ∧ x = .bool ((rs.take r).any fun a => decide (m < a.l.countP (bitP S))) ∧ wl = W6) (fun _ y _ => rn - (intOf y).toNat)
          case atStart => exact ⟨0, Nat.zero_le _, rfl, rfl, rfl⟩
          case round =>
            obtain ⟨r, hr, rfl, rfl, rfl⟩ := hrel
            by_cases hrn : r < rn
            · obtain ⟨b6, o6, hz, hA6, _, hc6⟩ := HRS6.out.out.at_ row_len hrn
              obtain ⟨hrow, hrown⟩ := HRS6.out.each rs[r] (List.getElem_mem hz)
              have hrr := HRR.out rs[r].l (by rw [← HRM.out]; exact List.mem_map_of_mem (List.getElem_mem hz))
              have hany := rows_any_succ rs (fun a => decide (m < a.l.countP (bitP S))) r hz
              have c6 : wr.cell? ⟨b6, o6 + r * 1, none⟩ = some (.slice rs[r].a rs[r].n rs[r].c) := hc6 0 (by omega)
              rw [Nat.mul_one] at c6
              generalize rs[r] = row at hrow hrown hrr hany c6
              obtain ⟨ra, rnn, rc, rl⟩ := row
              dsimp only at hrow hrown hrr hany c6
              generalize (rs.take r).any (fun a => decide (m < a.l.countP (bitP S))) = ov at hany
              have hrl := hrow.len
              have hr0 : (0 : Int) ≤ (r : Int) := by omega
              have hrr2 : (r : Int) < (rn : Int) := by omega
              have HROW := Lib.hid hrow
              have HRRL := Lib.hid hrr
              have HANY := Lib.hid hany
              have HRL := Lib.hid hrl
              subst hA6
              clear hc6 hz hrow hrr hany hrl
              go_wp2_with fail
              go_loopw [18, 19] (fun x y wl => ∃ k : Nat, k ≤ rnn ∧ y = .int .i64 k ∧ x = .int .i64 (((rl.take k).countP (bitP S) : Nat) : Int) ∧ wl = wr) (fun _ y _ => rnn - (intOf y).toNat)
              case atStart => exact ⟨0, Nat.zero_le _, rfl, rfl, rfl⟩
              case round =>
                obtain ⟨k, hk, rfl, rfl, rfl⟩ := hrel
                have hcl9 : (rl.take k).countP (bitP S) ≤ k := Nat.le_trans List.countP_le_length (List.length_take_le _ _)
                by_cases hkn : k < rnn
                · obtain ⟨b7, o7, hz7, hA7, _, hc7⟩ := HROW.out.at_ nat_len hkn
                  have hcs := cntb_succ rl (bitP S) k hz7
                  have hlt := HRRL.out.2 rl[k] (List.getElem_mem hz7)
                  have c7 : wr.cell? ⟨b7, o7 + k * 1, none⟩ = some (.int .i64 (rl[k] : Int)) := hc7 0 (by omega)
                  rw [Nat.mul_one] at c7
                  have hasc : k ≠ 0 → ∃ p : Nat, wr.cell? ⟨b7, o7 + (k - 1), none⟩ = some (.int .i64 (p : Int)) ∧ p < rl[k] := fun h0 => by
                    obtain ⟨b8, o8, hz8, hA8, _, hc8⟩ := HROW.out.at_ nat_len (show k - 1 < rnn by omega)
                    rw [hA7] at hA8
                    injection hA8 with hA8
                    injection hA8 with e1 e2 _
                    subst e1 e2
                    have c8 : wr.cell? ⟨b7, o7 + (k - 1) * 1, none⟩ = some (.int .i64 (rl[k - 1] : Int)) := hc8 0 (by omega)
                    rw [Nat.mul_one] at c8
                    exact ⟨_, c8, List.pairwise_iff_getElem.1 HRRL.out.1 (k - 1) k hz8 hz7 (by omega)⟩
                  obtain ⟨hbm1, hbm2⟩ := bit_mod S rl[k]
                  generalize rl[k] = mv at hcs hlt c7 hasc hbm1 hbm2
                  generalize (rl.take k).countP (bitP S) = many at hcs hcl9
                  rw [← HNL.out] at hlt
                  obtain ⟨z, hz1⟩ : ∃ z : Nat, z = (if bitP S mv then 1 else 0) := ⟨_, rfl⟩
                  have hzz : ((if bitP S mv then 1 else 0 : Int)) = (z : Int) := by rw [hz1]; split <;> rfl
                  have hz9 : z ≤ 1 := by rw [hz1]; split <;> omega
                  rw [hzz] at hbm1 hbm2
                  rw [← hz1] at hcs
                  have HCS := Lib.hid hcs
                  have hm0 : ¬ (mv : Int) < 0 := by omega
                  have hmp : (0 : Int) ≤ (mv : Int) := by omega
                  have hm1 : ¬ (n : Int) ≤ (mv : Int) := by omega
                  have hk0 : (0 : Int) ≤ (k : Int) := by omega
                  have hkk : (k : Int) < (rnn : Int) := by omega
                  subst hA7
                  clear hc7 hz7 hcs hzz hz1
                  by_cases hkz : k = 0
                  · have hkz' : ¬ (0 : Int) < (k : Int) := by omega
                    clear hasc hkz
                    go_wp2_with fail
                    go_roundw
                    case rel => exact ⟨k + 1, by omega, by go_num, by rw [HCS.out]; go_num, trivial⟩
                    case measure => simp [intOf]; omega
                  · obtain ⟨p, c8, hpm⟩ := hasc hkz
                    have hkz' : (0 : Int) < (k : Int) := by omega
                    have hki : IntKind.i64.wrap ((k : Int) - 1) = (k : Int) - 1 := IntWalk.i64_in _ (by omega)
                    have hkt : ((k : Int) - 1).toNat = k - 1 := by omega
                    have hk1 : (0 : Int) ≤ (k : Int) - 1 := by omega
                    have hk2 : (k : Int) - 1 < (rnn : Int) := by omega
                    have hpm' : ¬ (mv : Int) ≤ (p : Int) := by omega
                    clear hasc hkz
                    go_wp2_with fail
                    go_roundw
                    case rel => exact ⟨k + 1, by omega, by go_num, by rw [HCS.out]; go_num, trivial⟩
                    case measure => simp [intOf]; omega
                · have htk : rl.take k = rl := List.take_of_length_le (by rw [HRL.out]; omega)
                  rw [htk] at hcl9 ⊢
                  clear htk
                  have hA9 := HANY.out
                  obtain ⟨cv, hcv⟩ : ∃ cv, cv = rl.countP (bitP S) := ⟨_, rfl⟩
                  rw [← hcv] at hA9 hcl9 ⊢
                  have HA9 := Lib.hid hA9
                  clear hA9 hcv
                  by_cases hmc : m < cv
                  · have hmc' : (m : Int) < (cv : Int) := by omega
                    cases ov
                    · go_wp2_with fail
                      go_roundw
                      case rel => exact ⟨r + 1, by omega, by go_num, by rw [HA9.out, decide_eq_true hmc]; rfl, trivial⟩
                      case measure => simp [intOf]; omega
                    · go_wp2_with fail
                      go_roundw
                      case rel => exact ⟨r + 1, by omega, by go_num, by rw [HA9.out]; rfl, trivial⟩
                      case measure => simp [intOf]; omega
                  · have hmc' : ¬ (m : Int) < (cv : Int) := by omega
                    cases ov
                    · go_wp2_with fail
                      go_roundw
                      case rel => exact ⟨r + 1, by omega, by go_num, by rw [HA9.out, decide_eq_false hmc]; rfl, trivial⟩
                      case measure => simp [intOf]; omega
                    · go_wp2_with fail
                      go_roundw
                      case rel => exact ⟨r + 1, by omega, by go_num, by rw [HA9.out]; rfl, trivial⟩
                      case measure => simp [intOf]; omega
            · have htk : rs.take r = rs := List.take_of_length_le (by rw [← HRN.out]; omega)
              have hov : (rs.take r).any (fun a => decide (m < a.l.countP (bitP S))) = decide (0 ≤ t) := by
                rw [htk, Bool.eq_iff_iff, decide_eq_true_eq, HIFF.out, List.any_eq_true, ← HRM.out]
                constructor
                · rintro ⟨a, ha, h⟩
                  rw [decide_eq_true_eq] at h
                  exact ⟨a.l, List.mem_map_of_mem ha, by omega⟩
                · rintro ⟨a, ha, h⟩
                  obtain ⟨a', ha', rfl⟩ := List.mem_map.1 ha
                  exact ⟨a', ha', by rw [decide_eq_true_eq]; omega⟩
              rw [hov]
              clear hov htk
              have hcl := HCL.out _ (Ext.refl _)
              have HCL := Lib.hid hcl
              clear hcl
              by_cases ht : 0 ≤ t
              · rw [decide_eq_true ht]
                go_wp2_with fail
                refine HCL.out.mono ?_
                rintro e W8 ⟨v21, rfl, _, hz⟩
                have hyf := Ext.trans HY6.out hz
                clear HCL hz
                go_wp2_with fail
                go_roundw
                case rel => exact ⟨j + 1, by omega, by go_num, hyf⟩
                case measure => simp [intOf]; omega
              · rw [decide_eq_false ht]
                go_wp2_with fail
                refine HCL.out.mono ?_
                rintro e W8 ⟨v21, rfl, _, hz⟩
                have hyf := Ext.trans HY6.out hz
                clear HCL hz
                go_wp2_with fail
                go_roundw
                case rel => exact ⟨j + 1, by omega, by go_num, hyf⟩
                case measure => simp [intOf]; omega
    · go_wp2_with fail
      go_ret
      exact ⟨rfl, Ext.trans hx hy⟩
end Go.Proofs.Ytgbfhkildbhhoaa
