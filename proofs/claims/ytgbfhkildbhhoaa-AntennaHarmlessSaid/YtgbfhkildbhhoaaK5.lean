/- Fit: the walk. -/
import Derived.Test.YtgbfhkildbhhoaaK4
namespace Go.Proofs.Ytgbfhkildbhhoaa
open Go.RowKit

/-- What Fit hands back. -/
def FitRet (r : List Int × List Nat × Int) (w : World) (e : Ending) (w' : World) : Prop := ∃ v1 v2, e = .returned (.tuple #[v1, v2, .int .i64 r.2.2]) ∧ w'.ownsRow w.heap.size 3 1 v1 r.1.length (r.1.flatMap intCells) ∧ w'.ownsRow w.heap.size 3 1 v2 r.2.1.length (r.2.1.flatMap natCells) ∧ Below w.heap.size w w'

theorem Rqs.at_ {w : World} {B n c : Nat} {A : Option Addr} {rs : List Req} (h : Rqs w B A n c rs) {k : Nat} (hk : k < n) : ∃ (b o : Nat) (hz : k < rs.length), A = some ⟨b, o, none⟩ ∧ w.cell? ⟨b, o + k * 2, none⟩ = some (.int .i64 rs[k].im) ∧ w.cell? ⟨b, o + k * 2 + 1, none⟩ = some (.slice rs[k].a rs[k].n rs[k].c) ∧ RA intCells 1 w B rs[k].a rs[k].n rs[k].c rs[k].l ∧ rs[k].n ≤ 1000 := by
  obtain ⟨b, o, hz, hA, _, hc⟩ := h.out.at_ req_len hk
  obtain ⟨h1, h2⟩ := h.each rs[k] (List.getElem_mem hz)
  exact ⟨b, o, hz, hA, hc 0 (by omega), hc 1 (by omega), h1, h2⟩
theorem pow_fits {n : Nat} (h : n ≤ 16) : 2 ^ n ≤ 65536 := by
  have := Nat.pow_le_pow_right (n := 2) (by decide) h
  simpa using this

theorem pow_lo (n : Nat) : (1 : Int) ≤ (2 : Int) ^ n := by
  have h : ((1 : Nat) : Int) ≤ ((2 ^ n : Nat) : Int) := by have := Nat.two_pow_pos n; omega
  simpa using h
theorem pow_hi {n : Nat} (h : n ≤ 16) : (2 : Int) ^ n ≤ 65536 := by
  have h : ((2 ^ n : Nat) : Int) ≤ ((65536 : Nat) : Int) := by have := pow_fits h; omega
  simpa using h
set_option maxRecDepth 100000 in
set_option maxHeartbeats 8000000 in
theorem fit_any (rs : List Req) (LA : Option Addr) (n lc : Nat) (w : World) (hr : Rqs w w.heap.size LA n lc rs) (hn : n ≤ 1000) :
    Calls Try.prog 27 #[.slice LA n lc] w (FitRet (fitP rs) w) := by
  have hRT := right_any rs LA n lc w hr hn
  have hL := hr.out.len
  have HR := Lib.hid hr
  have HL := Lib.hid hL
  unfold fitP
  rw [hL]
  cases hq : rightP rs
  · rw [hq] at hRT
    rw [if_neg (by simp)]
    have HRT := Lib.hid hRT
    clear hRT hr hL hq
    go_enter Try.func27, Try.ntmps27
    go_wp2_with fail
    refine HRT.out.mono ?_
    rintro e W ⟨rfl, hx⟩
    go_wp2
    refine bodyPost_ret (v := .tuple #[.slice none 0 0, .slice none 0 0, .int .i64 170]) (by simp [results, Try.results27, go_sem]) rfl ⟨_, _, rfl, World.ownsRow_nil _ _ _ _, World.ownsRow_nil _ _ _ _, hx⟩
  · rw [hq] at hRT
    rw [if_pos rfl]
    have hn16 : n ≤ 16 := by have := rightP_len hq; omega
    have hps : ∀ os : List Int, (∀ p ∈ os, 0 ≤ p ∧ p ≤ 63) → ∀ j, j < n → ∀ p ∈ psP rs os j, 0 ≤ p ∧ p ≤ 63 := fun os ho j hj => rightP_ps hq ho j (by omega)
    have hpw := pow_fits hn16
    have hpp : 0 < 2 ^ n := Nat.two_pow_pos n
    obtain ⟨M, hM⟩ : ∃ M, M = 2 ^ n - 1 := ⟨_, rfl⟩
    have hM1 : M < 131072 := by omega
    have hF0 := fun (S : Nat) (hS : S < 131072) (W : World) (hW : Ext w W) => fits_any rs [] S LA n lc none 0 0 W ((hr.below hW).more (Below.size hW)) ⟨⟨rfl, fun h => absurd h (by omega)⟩, rfl, Nat.le_refl _, by unfold maxLen; omega, by omega⟩ hn16 (by omega) hS (hps [] (fun _ h => by cases h))
    have hF1 := fun (os : List Int) (ho : ∀ p ∈ os, 0 ≤ p ∧ p ≤ 63) (A : Option Addr) (m c : Nat) (hm : m ≤ 1000) (W : World) (hW : Ext w W) (hra : RA intCells 1 W W.heap.size A m c os) => fits_any rs os M LA n lc A m c W ((hr.below hW).more (Below.size hW)) hra hn16 hm hM1 (hps os ho)
    have hstep : ∀ (out : List Int) (p : Int) (r : List Int), fitStep rs n out (p :: r) = if fitsP (psP rs (out ++ [p])) n M then out ++ [p] else fitStep rs n out r := fun out p r => by rw [fitStep_cons, hM]
    obtain ⟨R, hR⟩ : ∃ R, R = (if fitsN rs n (2 ^ n - 1) = true then (fitOut rs n, [], 0) else ([], bitsP (lackP rs n) (List.range n), (0 : Int))) := ⟨_, rfl⟩
    rw [← hR]
    rw [← hM] at hR
    have HRT := Lib.hid hRT
    have HF0 : Hid (∀ (S : Nat), S < 131072 → ∀ (W : World), Ext w W → Calls Try.prog 55 #[.slice LA n lc, .int .i64 S, .slice none 0 0] W fun e w' => e = .returned (.bool (fitsN rs n S)) ∧ Ext W w') := Lib.hid hF0
    have HF1 := Lib.hid hF1
    have HSTEP := Lib.hid hstep
    have HRR := Lib.hid hR
    have HPASS : Hid (∀ r ∈ rs, ∀ p ∈ r.l, 0 ≤ p ∧ p ≤ 63) := Lib.hid (fun r hr' => passOK_mem none _ (rightR_mem _ _ (by unfold rightP at hq; rw [Bool.and_eq_true] at hq; exact hq.1) r hr').1)
    have hc1 : (M : Int) = (2 : Int) ^ n - 1 := by rw [hM, Int.natCast_sub (by omega)]; simp
    have HMM := Lib.hid hM
    clear hRT hr hL hq hps hF0 hF1 hM hR hstep
    have HC1 := Lib.hid hc1
    have hf := HF0.out M hM1
    generalize hqf : fitsN rs n M = q at hf HRR
    have HQF := Lib.hid hqf
    clear hqf
    have HF := Lib.hid hf
    have hi1 := pow_lo n
    have hi2 := pow_hi hn16
    clear hc1 hf
    go_enter Try.func27, Try.ntmps27
    go_wp2_with fail
    refine HRT.out.mono ?_
    rintro e W1 ⟨rfl, hx1⟩
    clear HRT
    go_upto_region 4 with (fail)
    rw [← HC1.out]
    clear hi1 hi2
    go_wp2_with fail
    refine (HF.out _ hx1).mono ?_
    rintro e W2 ⟨rfl, hx2⟩
    have hx2 := Ext.trans hx1 hx2
    clear hx1 HF
    cases q
    · obtain ⟨f, hff⟩ : ∃ f, f = fitsN rs n := ⟨_, rfl⟩
      have hn1 : 1 ≤ n := by
        rcases Nat.eq_zero_or_pos n with h0 | h0
        · have := HQF.out
          rw [h0] at this
          cases this
        · exact h0
      have HFM : Hid (f (2 ^ n - 1) = false) := Lib.hid (by rw [hff, ← HMM.out]; exact HQF.out)
      obtain ⟨K, hK⟩ : ∃ K, K = upP f (n - 1) 1 := ⟨_, rfl⟩
      obtain ⟨F, hF⟩ : ∃ F, F = downP f n (2 ^ K - 1) := ⟨_, rfl⟩
      have HRF : Hid (R = ([], bitsP F (List.range n), 0)) := Lib.hid (by rw [HRR.out, hF, hK, hff]; rfl)
      have HF0 : Hid (∀ (S : Nat), S < 131072 → ∀ (W : World), Ext w W → Calls Try.prog 55 #[.slice LA n lc, .int .i64 S, .slice none 0 0] W fun e w' => e = .returned (.bool (f S)) ∧ Ext W w') := Lib.hid (by rw [hff]; exact HF0.out)
      have HK0 := Lib.hid hK.symm
      have HFF := Lib.hid hF.symm
      have HN1 := Lib.hid hn1
      clear hff hK hF HRR HF1 HSTEP HPASS HQF HMM
      have hn17 : n < 17 := by omega
      go_wp2_with fail
      go_loopw [11] (fun y wr => ∃ (k S : Nat), 1 ≤ k ∧ k ≤ n ∧ y = .int .i64 S ∧ Hid (S = 2 ^ k - 1) ∧ S < 131072 ∧ Hid (upP f (n - k) k = K) ∧ Ext w wr) (fun y _ => 2 ^ n - (intOf y).toNat)
      case atStart => exact ⟨1, 1, Nat.le_refl _, hn1, rfl, Lib.hid rfl, by omega, HK0, hx2⟩
      case round =>
        clear HK0 hx2
        obtain ⟨k, S, hk1, hkn, rfl, HS, hS, HU, hx⟩ := hrel
        have hcall := HF0.out S hS wr hx
        generalize hfs : f S = q at hcall
        have HFS := Lib.hid hfs
        have HCALL := Lib.hid hcall
        clear hfs hcall
        go_wp2_with fail
        refine HCALL.out.mono ?_
        rintro e W3 ⟨rfl, hy⟩
        have hx3 := Ext.trans hx hy
        clear HCALL hy
        cases q
        · have hpk := pow_fits (show k ≤ 16 by omega)
          have hFK : Hid (downP f n S = F) := Lib.hid (by
            have hu := HU.out
            have h1 := HFS.out
            rw [HS.out] at h1
            have hK : k = K := by
              cases hnk : n - k with
              | zero => rw [hnk] at hu; exact hu
              | succ m => rw [hnk, upP, h1, if_neg (by simp)] at hu; exact hu
            rw [HS.out, hK]
            exact HFF.out)
          clear HFS HU HFF HFM HS hpk hk1 hkn hx
          go_wp2_with fail
          go_loopw [11, 12] (fun y x wr => ∃ (i S : Nat) (z : Int), i ≤ n ∧ y = .int .i64 S ∧ x = .int .i64 z ∧ Hid (z = (i : Int) - 1) ∧ S < 131072 ∧ Hid (downP f i S = F) ∧ Ext w wr) (fun _ x _ => (intOf x + 1).toNat)
          case atStart => exact ⟨n, S, _, Nat.le_refl _, rfl, rfl, Lib.hid rfl, hS, hFK, hx3⟩
          case round =>
            clear hFK hx3 hS
            obtain ⟨i, S, z, hi, rfl, rfl, HZ, hS, HD, hx⟩ := hrel
            cases i with
            | zero =>
              obtain rfl : z = -1 := HZ.out
              have hd := HD.out
              rw [downP] at hd
              subst hd
              clear HD HZ
              go_wp2_with fail
              go_loopw [14, 87] (fun y x wr => ∃ k : Nat, k ≤ n ∧ x = .int .i64 k ∧ Hid (wr.ownsRow w.heap.size 3 1 y (bitsP S ((List.range n).take k)).length ((bitsP S ((List.range n).take k)).flatMap natCells)) ∧ Ext w wr) (fun _ x _ => n - (intOf x).toNat)
              case atStart => exact ⟨0, Nat.zero_le _, rfl, Lib.hid (World.ownsRow_nil _ _ _ _), hx⟩
              case round =>
                clear hx
                obtain ⟨k, hk, rfl, HO, hx⟩ := hrel
                by_cases hkn : k < n
                · have hb := bit_i64 S k hS
                  have htk : (List.range n).take (k + 1) = (List.range n).take k ++ [k] := by rw [List.take_succ_eq_append_getElem (by simpa using hkn), List.getElem_range]
                  have hst : bitsP S ((List.range n).take (k + 1)) = bitsP S ((List.range n).take k) ++ (if bitP S k then [k] else []) := by rw [htk, bitsP_append]; rfl
                  have hll : (bitsP S ((List.range n).take k)).length ≤ k := Nat.le_trans (bitsP_len _ _) (by rw [List.length_take]; omega)
                  have hm : (bitsP S ((List.range n).take k)).length ≤ 1000 := by omega
                  generalize bitP S k = q at hst hb
                  have HST := Lib.hid hst
                  clear hst htk
                  cases q
                  · have hb2 : ¬ bits BinOp.and IntKind.i64 ((S : Int) / 2 ^ k) 1 = 1 := by rw [hb]; decide
                    have HO2 : Hid (wr.ownsRow w.heap.size 3 1 u14 (bitsP S ((List.range n).take (k + 1))).length ((bitsP S ((List.range n).take (k + 1))).flatMap natCells)) := Lib.hid (by rw [HST.out]; simpa using HO.out)
                    clear hb HO
                    go_wp2_with fail
                    go_roundw
                    case rel => exact ⟨k + 1, by omega, by go_num, HO2, hx⟩
                    case measure => simp [intOf]; omega
                  · have hb2 : bits BinOp.and IntKind.i64 ((S : Int) / 2 ^ k) 1 = 1 := by rw [hb]; rfl
                    clear hb
                    obtain ⟨A3, c3, hv3, _, _⟩ := own_slice HO.out
                    subst hv3
                    have hrow := own_ext HO.out (show Ext wr (wr.alloc (.cells #[.int .i64 (k : Int)] 3)) from bl_alloc (Below.refl _ _) _)
                    have hx5 := Ext.trans hx (show Ext wr (wr.alloc (.cells #[.int .i64 (k : Int)] 3)) from bl_alloc (Below.refl _ _) _)
                    have jx : Blk (wr.alloc (.cells #[.int .i64 (k : Int)] 3)) wr.heap.size 3 #[.int .i64 (k : Int)] := Blk.new _ _ _
                    obtain ⟨w5, hw5⟩ : ∃ w5, w5 = wr.alloc (.cells #[.int .i64 (k : Int)] 3) := ⟨_, rfl⟩
                    obtain ⟨gx, hgx⟩ : ∃ g, g = wr.heap.size := ⟨_, rfl⟩
                    rw [← hw5] at hx5 hrow jx
                    rw [← hgx] at jx
                    have hBs := Below.size hx5
                    obtain ⟨i0, hi0, hz0, hz1, hz2⟩ := info_parts info_int
                    obtain ⟨v2, W7, hr, hrow2, hg2, -⟩ := run_append_own (P := Try.prog) w5 w.heap.size 28 28 3 i0 _ 1 8 Try.underlying28 hi0 hz0 hz1 hz2 rfl (by omega) _ _ _ hrow ⟨gx, 0, none⟩ 1 1 [.int .i64 (k : Int)] rfl (by intro i u hu; rw [Addr.add_lit, Nat.zero_add, jx.cell]; simpa using hu) (by simp [Value.oneCell']) (by unfold maxLen; omega) (by omega) (by omega)
                    have hx7 : Ext w W7 := hx5.grown hg2 hBs (fun q e => (World.ownsRow.lt hrow q e).1)
                    have HO2 : Hid (W7.ownsRow w.heap.size 3 1 v2 (bitsP S ((List.range n).take (k + 1))).length ((bitsP S ((List.range n).take (k + 1))).flatMap natCells)) := Lib.hid (by rw [HST.out, if_pos rfl, List.length_append, List.flatMap_append]; simpa [natCells] using hrow2)
                    rw [hw5, hgx] at hr
                    have HRUN := Lib.hid hr
                    clear hr hrow hrow2 hg2 jx hx5 hBs HO hw5 hgx hi0 hz0 hz1 hz2 HST
                    go_wp2_with (refine wpList_append_run_ rfl _ _ _ rfl rfl rfl HRUN.out ?_)
                    clear HRUN
                    go_roundw
                    case rel => exact ⟨k + 1, by omega, by go_num, HO2, hx7⟩
                    case measure => simp [intOf]; omega
                · have htk : (List.range n).take k = List.range n := List.take_of_length_le (by rw [List.length_range]; omega)
                  rw [htk] at HO
                  obtain ⟨A3, c3, hv3, _, _⟩ := own_slice HO.out
                  subst hv3
                  clear htk
                  go_wp2
                  rw [HRF.out]
                  exact bodyPost_ret (v := .tuple #[.slice none 0 0, .slice A3 _ c3, .int .i64 0]) (by simp [results, Try.results27, go_sem]) rfl ⟨_, _, rfl, World.ownsRow_nil _ _ _ _, HO.out, hx⟩
            | succ m =>
              obtain rfl : z = (m : Int) := by have := HZ.out; omega
              have han := andnot_i64 S m hS (by omega)
              have hne := clrP_ne S m (by omega) (by omega)
              have hle := clrP_le S m
              have hd := HD.out
              rw [downP] at hd
              generalize clrP S m = S2 at han hne hle hd
              have hS2 : S2 < 131072 := by omega
              have h0m : (0 : Int) ≤ (m : Int) := by omega
              have hp1 := pow_lo m
              have hp2 := pow_hi (show m ≤ 16 by omega)
              have hin : m ≤ n := by omega
              generalize bitP S m = q at hne hd
              cases q
              · have hq : (S2 : Int) = (S : Int) := by
                  have : S2 = S := Decidable.not_not.1 (fun h => by have := hne.1 h; cases this)
                  omega
                have HD2 : Hid (downP f m S = F) := Lib.hid hd
                clear hne hle hd HD HZ hi
                go_wp2_with fail
                go_roundw
                case rel => exact ⟨m, S, _, hin, rfl, rfl, Lib.hid rfl, hS, HD2, hx⟩
                case measure => simp [intOf] <;> omega
              · have hq : ¬ (S2 : Int) = (S : Int) := by
                  have := hne.2 rfl
                  omega
                have hcall := HF0.out S2 hS2 wr hx
                generalize f S2 = q at hd hcall
                have HCALL := Lib.hid hcall
                have HD2 := Lib.hid hd
                clear hne hle hd HD HZ hi hcall
                go_wp2_with fail
                refine HCALL.out.mono ?_
                rintro e W4 ⟨rfl, hy⟩
                have hx4 := Ext.trans hx hy
                clear HCALL hy
                cases q
                · have HD3 : Hid (downP f m S2 = F) := Lib.hid HD2.out
                  clear HD2
                  go_wp2_with fail
                  go_roundw
                  case rel => exact ⟨m, S2, _, hin, rfl, rfl, Lib.hid rfl, hS2, HD3, hx4⟩
                  case measure => simp [intOf] <;> omega
                · have HD3 : Hid (downP f m S = F) := Lib.hid HD2.out
                  clear HD2
                  go_wp2_with fail
                  go_roundw
                  case rel => exact ⟨m, S, _, hin, rfl, rfl, Lib.hid rfl, hS, HD3, hx4⟩
                  case measure => simp [intOf] <;> omega
        · have hkn2 : k < n := by
            rcases Nat.lt_or_ge k n with h | h
            · exact h
            · have he : k = n := by omega
              have h1 := HFS.out
              rw [HS.out, he, HFM.out] at h1
              cases h1
          have hor := or_i64 k (by omega)
          rw [← HS.out] at hor
          have hpk := pow_fits (show k + 1 ≤ 16 by omega)
          have hHU : Hid (upP f (n - (k + 1)) (k + 1) = K) := Lib.hid (by
            have hu := HU.out
            have h1 := HFS.out
            rw [HS.out] at h1
            rw [show n - k = n - (k + 1) + 1 by omega, upP, h1, if_pos rfl] at hu
            exact hu)
          have hme : 2 ^ n - (2 ^ (k + 1) - 1) < 2 ^ n - S := by
            have h1 : 2 ^ (k + 1) ≤ 2 ^ n := Nat.pow_le_pow_right (by decide) (by omega)
            have h2 : 2 ^ (k + 1) = 2 * 2 ^ k := by rw [Nat.pow_succ]; omega
            have h3 := Nat.two_pow_pos k
            have h4 := HS.out
            omega
          obtain ⟨S3, hS3⟩ : ∃ S3, S3 = 2 ^ (k + 1) - 1 := ⟨_, rfl⟩
          rw [← hS3] at hor hme
          have hS4 : S3 < 131072 := by omega
          have HS3 := Lib.hid hS3
          clear hS3 hpk HU HFS HS
          go_wp2_with fail
          go_roundw
          case rel => exact ⟨k + 1, S3, by omega, by omega, rfl, HS3, hS4, hHU, hx3⟩
          case measure => simp only [intOf, Int.toNat_natCast]; exact hme
    · have hfin : R = (rs.foldl (fun out r => fitStep rs n out r.l) [], [], 0) := by rw [HRR.out]; rfl
      obtain ⟨fin, hfi⟩ : ∃ f, f = (rs.drop 0).foldl (fun out r => fitStep rs n out r.l) [] := ⟨_, rfl⟩
      have HFIN : Hid (R = (fin, [], 0)) := Lib.hid (by rw [hfi]; exact hfin)
      have HFI := Lib.hid hfi.symm
      have HO0 : Hid (W2.ownsRow w.heap.size 3 1 (.slice none 0 0) ([] : List Int).length (([] : List Int).flatMap intCells)) := Lib.hid (World.ownsRow_nil _ _ _ _)
      clear hfin hfi HRR HF0
      go_wp2_with fail
      go_loopw [6, 28] (fun y x wr => ∃ (k : Nat) (out : List Int), k ≤ n ∧ x = .int .i64 k ∧ Hid ((rs.drop k).foldl (fun out r => fitStep rs n out r.l) out = fin) ∧ Hid (wr.ownsRow w.heap.size 3 1 y out.length (out.flatMap intCells)) ∧ out.length ≤ k ∧ Hid (∀ q ∈ out, 0 ≤ q ∧ q ≤ 63) ∧ Ext w wr) (fun _ x _ => n - (intOf x).toNat)
      case atStart => exact ⟨0, [], Nat.zero_le _, rfl, HFI, HO0, Nat.le_refl _, Lib.hid (fun _ h => by cases h), hx2⟩
      case round =>
        clear HFI HO0 hx2
        obtain ⟨k, out, hk, rfl, HS, HO, hol, HB, hx⟩ := hrel
        by_cases hkn : k < n
        · obtain ⟨b, o, hz, hA, cx, cy, hra, hrn⟩ := HR.out.at_ hkn
          have hs := HS.out
          rw [List.drop_eq_getElem_cons hz, List.foldl_cons] at hs
          have hpl := HPASS.out rs[k] (List.getElem_mem hz)
          have hrl := hra.len
          generalize rs[k] = r at hs cx cy hra hrn hpl hrl
          obtain ⟨im, ra, rn, rc, rl⟩ := r
          dsimp only at hs cx cy hra hrn hpl hrl
          obtain ⟨o2, ho2⟩ : ∃ o2, o2 = fitStep rs n out (rl.drop 0) := ⟨_, rfl⟩
          have HS2 : Hid ((rs.drop (k + 1)).foldl (fun out r => fitStep rs n out r.l) o2 = fin) := Lib.hid (by rw [ho2]; exact hs)
          have HI0 := Lib.hid ho2.symm
          have HPL := Lib.hid hpl
          have HRA := Lib.hid hra
          have HRL := Lib.hid hrl
          have cx := ext_cell hx cx
          have cy := ext_cell hx cy
          clear hs hpl hra hz HS hrl ho2
          subst hA
          obtain ⟨A1, c1, hv, h1c, h1m⟩ := own_slice HO.out
          subst hv
          go_upto_region 9 with (fail)
          clear cx cy
          have hy : Ext wr (wr.alloc (.cells #[.int .i64 im, .slice ra rn rc] 30)) := bl_alloc (Below.refl _ _) _
          have J : Blk (wr.alloc (.cells #[.int .i64 im, .slice ra rn rc] 30)) wr.heap.size 30 #[.int .i64 im, .slice ra rn rc] := Blk.new _ _ _
          obtain ⟨g8, hg8⟩ : ∃ g, g = wr.heap.size := ⟨_, rfl⟩
          rw [← hg8] at J ⊢
          clear hg8
          generalize wr.alloc (.cells #[.int .i64 im, .slice ra rn rc] 30) = W3 at hy J ⊢
          have hx3 := Ext.trans hx hy
          have HO3 := Lib.hid (own_ext HO.out hy)
          have e1 : W3.cell? ⟨g8, 1, none⟩ = some (.slice ra rn rc) := J.cell 1
          clear hy J HO hx
          go_wp2_with fail
          go_loopw [6, 35] (fun y x wi => ∃ j : Nat, j ≤ rn ∧ x = .int .i64 j ∧ y = .slice A1 out.length c1 ∧ Hid (fitStep rs n out (rl.drop j) = o2) ∧ Hid (wi.ownsRow w.heap.size 3 1 (.slice A1 out.length c1) out.length (out.flatMap intCells)) ∧ Ext w wi) (fun _ x _ => rn - (intOf x).toNat)
          case atStart => exact ⟨0, Nat.zero_le _, rfl, rfl, HI0, HO3, hx3⟩
          case round =>
            clear HI0 HO3 hx3 e1
            obtain ⟨j, hj, rfl, rfl, HI, HO, hx⟩ := hrel
            by_cases hjn : j < rn
            · obtain ⟨b6, o6, hz, hA6, _, hc6⟩ := (HRA.out.below hx).at_ int_len hjn
              have hp := HI.out
              rw [List.drop_eq_getElem_cons hz, HSTEP.out] at hp
              have hpb := HPL.out rl[j] (List.getElem_mem hz)
              have c0 : wr.cell? ⟨b6, o6 + j * 1, none⟩ = some (.int .i64 rl[j]) := hc6 0 (by omega)
              rw [Nat.mul_one] at c0
              generalize rl[j] = p at hp hpb c0
              have HP := Lib.hid hp
              have hBB : Hid (∀ q ∈ out ++ [p], 0 ≤ q ∧ q ≤ 63) := Lib.hid (fun q hq => by
                rcases List.mem_append.1 hq with hq | hq
                · exact HB.out q hq
                · rw [List.mem_singleton.1 hq]; exact hpb)
              subst hA6
              clear hp hc6 hz HI hpb
              have hxa : Ext wr (wr.alloc (.cells #[.int .i64 p] 3)) := bl_alloc (Below.refl _ _) _
              obtain ⟨v5, W5, hr5, hx5, hw5⟩ := onto_int 28 out p w.heap.size out.length c1 wr.heap.size A1 (own_ext HO.out hxa) (by omega) (Blk.new _ _ _)
              obtain ⟨A5, c5, hv5, _, _⟩ := own_slice hw5
              subst hv5
              have hra5 := RA.of_own (cells := intCells) (l := out ++ [p]) hw5 (by simp) (by omega)
              have hxw5 := Ext.trans hx (Ext.trans hxa hx5)
              have hcall := HF1.out (out ++ [p]) hBB.out A5 (out.length + 1) c5 (by omega) W5 hxw5 hra5
              have HO5 := Lib.hid (own_ext (own_ext HO.out hxa) hx5)
              generalize fitsP (psP rs (out ++ [p])) n M = q at hcall HP
              have HCALL := Lib.hid hcall
              have HRUN := Lib.hid hr5
              clear hxa hr5 hx5 hw5 hra5 hcall HO hx
              go_wp2_with (refine wpList_append_run_ rfl _ _ _ rfl rfl rfl HRUN.out ?_)
              refine HCALL.out.mono ?_
              rintro e W6 ⟨rfl, hy⟩
              have hx6 := Ext.trans hxw5 hy
              have HO6 := Lib.hid (own_ext HO5.out hy)
              clear hxw5 hy HO5 HCALL HRUN c0
              cases q
              · have HN : Hid (fitStep rs n out (rl.drop (j + 1)) = o2) := Lib.hid (by have := HP.out; simpa using this)
                clear HP
                go_wp2_with fail
                go_roundw
                case rel => exact ⟨j + 1, by omega, by go_num, rfl, HN, HO6, hx6⟩
                case measure => simp [intOf]; omega
              · have HN : Hid (out ++ [p] = o2) := Lib.hid (by have := HP.out; simpa using this)
                clear HP
                have hxa : Ext W6 (W6.alloc (.cells #[.int .i64 p] 3)) := bl_alloc (Below.refl _ _) _
                have hrow := own_ext HO6.out hxa
                have hx7 := Ext.trans hx6 hxa
                have jx : Blk (W6.alloc (.cells #[.int .i64 p] 3)) W6.heap.size 3 #[.int .i64 p] := Blk.new _ _ _
                obtain ⟨w7, hw7⟩ : ∃ w7, w7 = W6.alloc (.cells #[.int .i64 p] 3) := ⟨_, rfl⟩
                obtain ⟨gx, hgx⟩ : ∃ g, g = W6.heap.size := ⟨_, rfl⟩
                rw [← hw7] at hx7 hrow jx
                rw [← hgx] at jx
                have hBs := Below.size hx7
                obtain ⟨i0, hi0, hz0, hz1, hz2⟩ := info_parts info_int
                obtain ⟨v2, W7, hr, hrow2, hg2, -⟩ := run_append_own (P := Try.prog) w7 w.heap.size 28 28 3 i0 _ 1 8 Try.underlying28 hi0 hz0 hz1 hz2 rfl (by omega) _ _ _ hrow ⟨gx, 0, none⟩ 1 1 [.int .i64 p] rfl (by intro i u hu; rw [Addr.add_lit, Nat.zero_add, jx.cell]; simpa using hu) (by simp [Value.oneCell']) (by unfold maxLen; omega) (by omega) (by omega)
                have hx8 : Ext w W7 := hx7.grown hg2 hBs (fun q e => (World.ownsRow.lt hrow q e).1)
                have HO8 : Hid (W7.ownsRow w.heap.size 3 1 v2 o2.length (o2.flatMap intCells)) := Lib.hid (by rw [← HN.out, List.length_append, List.flatMap_append]; simpa [intCells] using hrow2)
                have hol2 : o2.length ≤ k + 1 := by rw [← HN.out, List.length_append]; simp; omega
                have HB2 : Hid (∀ q ∈ o2, 0 ≤ q ∧ q ≤ 63) := Lib.hid (by rw [← HN.out]; exact hBB.out)
                rw [hw7, hgx] at hr
                have HRUN := Lib.hid hr
                clear hr hrow hrow2 hg2 jx hx7 hBs HO6 hw7 hgx hi0 hz0 hz1 hz2 hxa HN hBB
                go_wp2_with (refine wpList_append_run_ rfl _ _ _ rfl rfl rfl HRUN.out ?_)
                clear HRUN
                go_roundw
                case rel => exact ⟨k + 1, o2, by omega, by go_num, HS2, HO8, hol2, HB2, hx8⟩
                case measure => simp [intOf]; omega
            · have hp := HI.out
              rw [List.drop_of_length_le (by rw [HRL.out]; omega), fitStep] at hp
              have HS3 : Hid ((rs.drop (k + 1)).foldl (fun out r => fitStep rs n out r.l) out = fin) := Lib.hid (by rw [hp]; exact HS2.out)
              clear hp HI HS2
              go_wp2
              go_roundw
              case rel => exact ⟨k + 1, out, by omega, by go_num, HS3, HO, by omega, HB, hx⟩
              case measure => simp [intOf]; omega
        · have hs := HS.out
          rw [List.drop_of_length_le (by rw [HL.out]; omega), List.foldl_nil] at hs
          have HRF : Hid (R = (out, [], 0)) := Lib.hid (by rw [hs]; exact HFIN.out)
          obtain ⟨A1, c1, hv, h1c, h1m⟩ := own_slice HO.out
          subst hv
          clear hs HS HFIN
          go_wp2
          rw [HRF.out]
          refine bodyPost_ret (v := .tuple #[.slice A1 out.length c1, .slice none 0 0, .int .i64 0]) (by simp [results, Try.results27, go_sem]) rfl ⟨_, _, rfl, HO.out, World.ownsRow_nil _ _ _ _, hx⟩
end Go.Proofs.Ytgbfhkildbhhoaa
