/- AntennaFits: the walk. -/
import Derived.Test.YtgbfhkildbhhoaaL0
import Derived.Test.YtgbfhkildbhhoaaR5
import Derived.Test.YtgbfhkildbhhoaaD1
import Derived.Test.YtgbfhkildbhhoaaTn2
import Derived.BigQuiet
namespace Go.Proofs.Ytgbfhkildbhhoaa
open Go.RowKit

theorem RA.int_at {w : World} {B n c : Nat} {A : Option Addr} {l : List Int} (h : RA intCells 1 w B A n c l) {k : Nat} (hk : k < n) : ∃ b o, A = some ⟨b, o, none⟩ ∧ w.cell? ⟨b, o + k, none⟩ = some (.int .i64 (l.getD k 0)) := by
  obtain ⟨b, o, hz, hA, _, hc⟩ := h.at_ int_len hk
  refine ⟨b, o, hA, ?_⟩
  have := hc 0 (by omega)
  rw [Nat.mul_one, Nat.add_zero] at this
  rw [this, List.getD_eq_getElem?_getD, List.getElem?_eq_getElem hz]
  rfl
theorem any_succ (l : List Int) (g : Int) (k : Nat) (h : k < l.length) : (l.take (k + 1)).any (fun x => x == g) = ((l.take k).any (fun x => x == g) || (l.getD k 0 == g)) := by
  rw [List.take_succ_eq_append_getElem h, List.any_append, List.getD_eq_getElem?_getD, List.getElem?_eq_getElem h]
  simp
/-- Passes that were seen. -/
structure SeenP (s : List Bool) (L : List Int) (T : List Int) : Prop where
  len : s.length = 64
  nd : L.Nodup
  sub : ∀ p ∈ L, p ∈ T
  bits : ∀ p : Nat, p < 64 → (s.getD p false = true ↔ (p : Int) ∈ L)
theorem SeenP.nil (T : List Int) : SeenP (List.replicate 64 false) [] T := ⟨by simp, List.nodup_nil, fun _ h => (by cases h), fun p hp => by rw [List.getD_eq_getElem?_getD, List.getElem?_replicate, if_pos hp]; simp⟩
theorem SeenP.again {s : List Bool} {L T : List Int} (h : SeenP s L T) (p : Nat) (hp : p < 64) (hs : s.getD p false = true) : SeenP (s.set p true) L T := by
  have e : s.set p true = s := by
    apply List.ext_getElem?
    intro i
    rw [List.getElem?_set]
    split
    · rename_i e
      subst e
      rw [List.getD_eq_getElem?_getD] at hs
      have hl : p < s.length := by rw [h.len]; exact hp
      rw [if_pos hl]
      rw [List.getElem?_eq_getElem hl] at hs ⊢
      exact congrArg some hs.symm
    · rfl
  rw [e]; exact h
theorem SeenP.more {s : List Bool} {L T : List Int} (h : SeenP s L T) (p : Nat) (hp : p < 64) (hs : s.getD p false = false) (hT : (p : Int) ∈ T) : SeenP (s.set p true) (L ++ [(p : Int)]) T := by
  have hn : ¬ (p : Int) ∈ L := fun hm => by
    have := (h.bits p hp).2 hm
    rw [hs] at this; cases this
  refine ⟨by simpa using h.len, ?_, fun q hq => ?_, fun q hq => ?_⟩
  · rw [List.nodup_append]
    refine ⟨h.nd, by simp, fun a ha b hb => ?_⟩
    rw [List.mem_singleton.1 hb]
    exact fun e => hn (by rw [← e]; exact ha)
  · rcases List.mem_append.1 hq with hq | hq
    · exact h.sub q hq
    · rw [List.mem_singleton.1 hq]; exact hT
  · rw [List.getD_eq_getElem?_getD, List.getElem?_set, List.mem_append, List.mem_singleton]
    by_cases e : p = q
    · subst e
      rw [if_pos rfl, if_pos (by rw [h.len]; exact hp)]
      simp
    · rw [if_neg e, ← List.getD_eq_getElem?_getD, h.bits q hq]
      constructor
      · exact fun h => .inl h
      · rintro (h | h)
        · exact h
        · omega
theorem SeenP.le {s : List Bool} {L T : List Int} (h : SeenP s L T) : L.length ≤ T.length := nodup_sub_len L T h.nd h.sub
/-- What Fit says of right requests, for the law. -/
theorem fit_cases (rs : List Req) (hr : rightP rs = true) : (∃ G : List Int, fitP rs = (G, [], 0) ∧ G.length = rs.length ∧ (∀ i (h : i < rs.length), G.getD i 0 ∈ rs[i].l) ∧ ∀ i k, i < rs.length → k < i → G.getD k 0 ≠ G.getD i 0) ∨
    ∃ (L : List Nat) (T : List Int), fitP rs = ([], L, 0) ∧ L.length ≤ rs.length ∧ L.Pairwise (· < ·) ∧ (∀ v ∈ L, v < rs.length) ∧ (∀ v ∈ L, ∀ p ∈ psP rs [] v, p ∈ T) ∧ T.length < L.length := by
  unfold fitP
  rw [if_pos hr]
  cases hf : fitsN rs rs.length (2 ^ rs.length - 1)
  · right
    rw [if_neg (by simp)]
    obtain ⟨h1, h2, T, h3, h4⟩ := lack_good rs hr hf
    refine ⟨_, T, rfl, ?_, h1, h2, h3, h4⟩
    have := bitsP_len (lackP rs rs.length) (List.range rs.length)
    rwa [List.length_range] at this
  · left
    rw [if_pos rfl]
    obtain ⟨hl, h1, h2⟩ := fitOut_good rs hr hf
    exact ⟨_, rfl, hl, h1, h2⟩

set_option maxRecDepth 100000 in
set_option maxHeartbeats 8000000 in
theorem fits_walk (ya : Option Addr) (yn yc : Nat) (ys : List Int) (w : World) (hr : RA intCells 1 w w.heap.size ya yn yc ys) (hok : ∀ t ∈ ys, I64ok t) :
    Calls Try.prog 7 #[.slice ya yn yc] w (Tru w) := by
  have HS := Lib.hid (sane_any w)
  have HM := Lib.hid (fun (W : World) (hW : Ext w W) => asked_any ys ya yn yc W (ra_ext hr hW) hok)
  clear hr hok
  go_enter Try.func7, Try.ntmps7
  go_wp2_with fail
  refine HS.out.mono ?_
  rintro e W1 ⟨rfl, hx⟩
  go_wp2_with fail
  refine (HM.out _ hx).mono ?_
  rintro e W2 ⟨v, rs, rfl, hI, hrt, hlen, h8, hy⟩
  obtain ⟨A, c, rfl, hnc, hcm⟩ := own_slice hI.out
  have hx := Ext.trans hx hy
  have hrq := hI.rqs (by omega)
  obtain ⟨n, hn⟩ : ∃ n, n = rs.length := ⟨_, rfl⟩
  rw [← hn] at hrq hnc hlen ⊢
  have HRQ := Lib.hid hrq
  have hft := fit_any rs A n c W2 hrq (by omega)
  have hps := rightP_ps (os := []) hrt (fun p hp => by cases hp)
  have HNL := Lib.hid hn
  have HPS := Lib.hid hps
  have hcs := fit_cases rs hrt
  clear hI hrt h8 hy HS HM hrq hn hps
  rcases hcs with ⟨G, hG, hgl, hgm, hgd⟩ | ⟨L, T, hL, hll, hasc, hlt, hT, hTl⟩
  · rw [hG] at hft
    have HFT := Lib.hid hft
    have HGL := Lib.hid hgl
    have HGM := Lib.hid hgm
    have HGD := Lib.hid hgd
    clear hft hG hgl hgm hgd
    go_wp2_with fail
    refine HFT.out.mono ?_
    rintro e W3 ⟨v1, v2, rfl, hown1, hown2, hz⟩
    dsimp only at hown1 hown2
    obtain ⟨A1, c1, rfl, _, _⟩ := own_slice hown1
    obtain ⟨A2, c2, rfl, _, _⟩ := own_slice hown2
    have hg4 := RA.of_own (cells := intCells) hown1 rfl (by rw [HGL.out, ← HNL.out]; omega)
    rw [HGL.out, ← HNL.out] at hg4 ⊢
    have hl0 : ([] : List Nat).length = 0 := rfl
    rw [hl0]
    clear hl0
    dsimp only
    have HG := Lib.hid hg4
    have hx3 : Ext w W3 := Ext.trans hx hz
    have HRQ3 := Lib.hid ((HRQ.out.below hz).more (Below.size hz))
    clear hown1 hown2 hg4 hz HFT HRQ hx
    rcases Nat.eq_zero_or_pos n with hn0 | hn0
    · subst hn0
      go_wp2_with fail
      go_loopw [8] (fun y wr => y = .int .i64 0 ∧ wr = W3) (fun y _ => 0)
      case atStart => exact ⟨rfl, rfl⟩
      case round =>
        obtain ⟨rfl, rfl⟩ := hrel
        go_wp2_with fail
        go_ret
        exact ⟨rfl, hx3⟩
    go_wp2_with fail
    go_loopw [8] (fun y wr => ∃ i : Nat, i ≤ n ∧ y = .int .i64 i ∧ Ext W3 wr) (fun y _ => n - (intOf y).toNat)
    case atStart => exact ⟨0, Nat.zero_le _, rfl, Ext.refl _⟩
    case round =>
      obtain ⟨i, hi, rfl, hy⟩ := hrel
      by_cases hin : i < n
      · obtain ⟨b, o, hz, hA, -, c1', hra, hrn⟩ := (HRQ3.out.below hy).at_ hin
        obtain ⟨bg, og, hG, cg⟩ := (HG.out.below hy).int_at hin
        have hgmi := HGM.out i hz
        have hgdi := HGD.out i
        generalize rs[i] = r at c1' hra hrn hgmi
        obtain ⟨im, ra, rn, rc, rl⟩ := r
        dsimp only at c1' hra hrn hgmi
        obtain ⟨gi, hgi⟩ : ∃ gi, gi = G.getD i 0 := ⟨_, rfl⟩
        rw [← hgi] at cg hgmi hgdi
        have hany : rl.any (fun x => x == gi) = true := by rw [List.any_eq_true]; exact ⟨gi, hgmi, by simp⟩
        have HANY := Lib.hid hany
        have HGDI := Lib.hid hgdi
        have HRL := Lib.hid hra.len
        have hi0 : (0 : Int) ≤ (i : Int) := by omega
        have hii : (i : Int) < (n : Int) := by omega
        subst hA hG
        have HC1 := Lib.hid c1'
        have HCG := Lib.hid cg
        have HRR := Lib.hid (hra.more (Below.size hy))
        obtain ⟨W5, hW5⟩ : ∃ W, W = wr := ⟨_, rfl⟩
        rw [← hW5] at hy HC1 HCG HRR ⊢
        clear hW5 hgi hgmi hgdi hany hz c1' cg hra
        go_wp2_with fail
        go_loopw [9, 10] (fun x y wi => ∃ k : Nat, k ≤ rn ∧ x = .bool ((rl.take k).any (fun x => x == gi)) ∧ y = .int .i64 k ∧ Ext W5 wi) (fun _ y _ => rn - (intOf y).toNat)
        case atStart => exact ⟨0, Nat.zero_le _, rfl, rfl, Ext.refl _⟩
        case round =>
          obtain ⟨k, hk, rfl, rfl, hz⟩ := hrel
          have c1 := ext_cell hz HC1.out
          have cg := ext_cell hz HCG.out
          by_cases hki : k < rn
          · obtain ⟨bk, ok, hK, ck⟩ := (HRR.out.below hz).int_at hki
            have hst := any_succ rl gi k (by rw [HRL.out]; exact hki)
            generalize rl.getD k 0 = x at hst ck
            subst hK
            have hk0 : (0 : Int) ≤ (k : Int) := by omega
            have hkn : (k : Int) < (rn : Int) := by omega
            generalize (rl.take k).any (fun x => x == gi) = q at hst ⊢
            have HST := Lib.hid hst
            clear hst
            cases q
            · by_cases e : x = gi
              · have e1 : (x == gi) = true := by simpa using e
                go_wp2_with fail
                go_quiet (fail)
                go_wp2_with fail
                go_roundw
                case rel => exact ⟨k + 1, by omega, by rw [HST.out, e1]; rfl, by go_num, (by repeat (first | exact Below.refl _ _ | assumption | refine Below.drew ?_ | refine below_drewN ?_ _ | refine bl_alloc ?_ _ | refine Below.setCell ?_ (by first | (simp; done) | omega | (simp; omega)) _ | refine bl_then ?_ (by assumption)))⟩
                case measure => simp [intOf]; omega
              · have e1 : (x == gi) = false := by simpa using e
                go_wp2_with fail
                go_quiet (fail)
                go_wp2_with fail
                go_roundw
                case rel => exact ⟨k + 1, by omega, by rw [HST.out, e1]; rfl, by go_num, (by repeat (first | exact Below.refl _ _ | assumption | refine Below.drew ?_ | refine below_drewN ?_ _ | refine bl_alloc ?_ _ | refine Below.setCell ?_ (by first | (simp; done) | omega | (simp; omega)) _ | refine bl_then ?_ (by assumption)))⟩
                case measure => simp [intOf]; omega
            · go_wp2_with fail
              go_quiet (fail)
              go_wp2_with fail
              go_roundw
              case rel => exact ⟨k + 1, by omega, by rw [HST.out]; rfl, by go_num, (by repeat (first | exact Below.refl _ _ | assumption | refine Below.drew ?_ | refine below_drewN ?_ _ | refine bl_alloc ?_ _ | refine Below.setCell ?_ (by first | (simp; done) | omega | (simp; omega)) _ | refine bl_then ?_ (by assumption)))⟩
              case measure => simp [intOf]; omega
          · have htk : rl.take k = rl := List.take_of_length_le (by rw [HRL.out]; omega)
            rw [htk, HANY.out]
            clear htk
            go_wp2_with fail
            clear c1 cg
            go_loopw [9, 11] (fun x y wi => ∃ k : Nat, k ≤ i ∧ x = .bool true ∧ y = .int .i64 k ∧ Ext W5 wi) (fun _ y _ => i - (intOf y).toNat)
            case atStart => exact ⟨0, Nat.zero_le _, rfl, rfl, hz⟩
            case round =>
              clear hz
              obtain ⟨k, hk, rfl, rfl, hz⟩ := hrel
              have cg := ext_cell hz HCG.out
              have hyz := Ext.trans hy hz
              by_cases hki : k < i
              · obtain ⟨bg', og', hG', dg⟩ := (HG.out.below hyz).int_at (show k < n by omega)
                injection hG' with hG'
                injection hG' with e3 e4 _
                subst e3 e4
                have hne := HGDI.out k (by rw [← HNL.out]; exact hin) hki
                generalize G.getD k 0 = gk at hne dg
                have hne1 : (gk == gi) = false := by simpa using hne
                have hne2 : (gk != gi) = true := by simpa using hne
                have hk0 : (0 : Int) ≤ (k : Int) := by omega
                have hkn : (k : Int) < (n : Int) := by omega
                go_wp2_with fail
                go_quiet (fail)
                go_wp2_with fail
                go_roundw
                case rel => exact ⟨k + 1, by omega, rfl, by go_num, (by repeat (first | exact Below.refl _ _ | assumption | refine Below.drew ?_ | refine below_drewN ?_ _ | refine bl_alloc ?_ _ | refine Below.setCell ?_ (by first | (simp; done) | omega | (simp; omega)) _ | refine bl_then ?_ (by assumption)))⟩
                case measure => simp [intOf]; omega
              · go_wp2_with fail
                go_roundw
                case rel => exact ⟨i + 1, by omega, by go_num, hyz⟩
                case measure => simp [intOf]; omega
      · go_wp2_with fail
        go_ret
        exact ⟨rfl, Ext.trans hx3 hy⟩
  · rw [hL] at hft
    have HFT := Lib.hid hft
    have HASC := Lib.hid hasc
    have HLT := Lib.hid hlt
    have HT := Lib.hid hT
    have HTL := Lib.hid hTl
    obtain ⟨m, hm⟩ : ∃ m, m = L.length := ⟨_, rfl⟩
    have hm1 : 1 ≤ m := by omega
    have hmn : m ≤ n := by rw [hm, HNL.out]; exact hll
    have HML := Lib.hid hm
    clear hft hL hasc hlt hT hTl hll hm
    go_wp2_with fail
    refine HFT.out.mono ?_
    rintro e W3 ⟨v1, v2, rfl, hown1, hown2, hz⟩
    dsimp only at hown1 hown2
    obtain ⟨A1, c1, rfl, _, _⟩ := own_slice hown1
    obtain ⟨A2, c2, rfl, _, _⟩ := own_slice hown2
    have hg4 := RA.of_own (cells := natCells) hown2 rfl (by rw [← HML.out]; omega)
    rw [← HML.out] at hg4 ⊢
    have hl0 : ([] : List Int).length = 0 := rfl
    rw [hl0]
    clear hl0
    dsimp only
    have HG := Lib.hid hg4
    have hx3 : Ext w W3 := Ext.trans hx hz
    have HRQ3 := Lib.hid ((HRQ.out.below hz).more (Below.size hz))
    have hm0 : ¬ (m : Int) = 0 := by omega
    have hm0' : (0 : Int) < (m : Int) := by omega
    have hm2 : ¬ m = 0 := by omega
    have hmb : ((m : Int) == 0) = false := by simpa using hm2
    have hmb2 : ((0 : Int) != (n : Int) && (m : Int) == 0) = false := by rw [hmb, Bool.and_false]
    clear hown1 hown2 hg4 hz HFT HRQ hx
    go_upto_region 25 with (fail)
    change Code.wp _ _ _ _ (W3.alloc (.cells (boolArr (List.replicate 64 false)) 66))
    have hx4 : Ext W3 (W3.alloc (.cells (boolArr (List.replicate 64 false)) 66)) := bl_alloc (Below.refl _ _) _
    have J : Blk (W3.alloc (.cells (boolArr (List.replicate 64 false)) 66)) W3.heap.size 66 (boolArr (List.replicate 64 false)) := Blk.new _ _ _
    generalize W3.alloc (.cells (boolArr (List.replicate 64 false)) 66) = W4 at J hx4 ⊢
    obtain ⟨g, hg⟩ : ∃ g, g = W3.heap.size := ⟨_, rfl⟩
    rw [← hg] at J ⊢
    have HGW := Lib.hid (Nat.le_of_eq hg.symm)
    have HJ0 := Lib.hid J
    have HS0 := Lib.hid (SeenP.nil T)
    clear J hg
    go_wp2_with fail
    go_loopw [13, 14] (fun x y wr => ∃ (i : Nat) (s : List Bool) (D : List Int), i ≤ m ∧ y = .int .i64 i ∧ x = .int .i64 (D.length : Int) ∧ Hid (SeenP s D T) ∧ Hid (Blk wr g 66 (boolArr s)) ∧ Ext W3 wr) (fun _ y _ => m - (intOf y).toNat)
    case atStart => exact ⟨0, _, [], Nat.zero_le _, rfl, rfl, HS0, HJ0, hx4⟩
    case round =>
      clear HS0 HJ0 hx4
      obtain ⟨i, s, D, hi, rfl, rfl, HSE, HJ, hy⟩ := hrel
      have hD : D.length < m := by rw [HML.out]; exact Nat.lt_of_le_of_lt HSE.out.le HTL.out
      by_cases him : i < m
      · have HGY := HG.out.below hy
        obtain ⟨bg, og, hzg, hG, -, hcg⟩ := HGY.at_ nat_len him
        obtain ⟨v, cg, hlt, hTm, hpb, hprev⟩ : ∃ v : Nat, wr.cell? ⟨bg, og + i, none⟩ = some (.int .i64 (v : Int)) ∧ ∃ hlt : v < rs.length, (∀ p ∈ rs[v].l, p ∈ T) ∧ (∀ p ∈ rs[v].l, 0 ≤ p ∧ p ≤ 63) ∧ (0 < i → ∃ u : Nat, wr.cell? ⟨bg, og + (i - 1), none⟩ = some (.int .i64 (u : Int)) ∧ u < v) := by
          have hlt := HLT.out L[i] (List.getElem_mem hzg)
          have cg := hcg 0 (by omega)
          rw [Nat.mul_one] at cg
          refine ⟨L[i], cg, hlt, ?_, ?_, fun h0 => ?_⟩
          · have := HT.out L[i] (List.getElem_mem hzg)
            rw [psP_nil rs _ hlt] at this
            exact this
          · have := HPS.out L[i] hlt
            rw [psP_nil rs _ hlt] at this
            exact this
          · obtain ⟨bg', og', hzg', hG', -, hcg'⟩ := HGY.at_ nat_len (show i - 1 < m by omega)
            rw [hG] at hG'
            injection hG' with hG'
            injection hG' with e3 e4 _
            subst e3 e4
            have := hcg' 0 (by omega)
            rw [Nat.mul_one] at this
            exact ⟨L[i - 1], this, (List.pairwise_iff_getElem.1 HASC.out) _ _ _ _ (by omega)⟩
        have hlt' : v < n := by rw [HNL.out]; exact hlt
        obtain ⟨b, o, hz, hA, -, c1', hra, hrn⟩ := HRQ3.out.at_ hlt'
        generalize rs[v] = r at hTm hpb c1' hra hrn
        obtain ⟨im, ra, rn, rc, rl⟩ := r
        dsimp only at c1' hra hrn hTm hpb
        have HRL := Lib.hid hra.len
        have HTM := Lib.hid hTm
        have HPB := Lib.hid hpb
        have hi0 : (0 : Int) ≤ (i : Int) := by omega
        have hii : (i : Int) < (m : Int) := by omega
        have hv0 : (0 : Int) ≤ (v : Int) := by omega
        have hv0' : ¬ (v : Int) < 0 := by omega
        have hvn : (v : Int) < (n : Int) := by omega
        have hvn' : ¬ (n : Int) ≤ (v : Int) := by omega
        subst hA hG
        have HC1 := Lib.hid c1'
        have HRR := Lib.hid hra
        clear hTm hpb hra HGY hlt hcg hzg hz c1'
        go_upto_region 30 with (fail)
        by_cases h0 : 0 < i
        · obtain ⟨pv, cp, hpv⟩ := hprev h0
          clear hprev
          have h0' : (0 : Int) < (i : Int) := by omega
          have hpv' : ¬ (v : Int) ≤ (pv : Int) := by omega
          have hi1 : (0 : Int) ≤ (i : Int) - 1 := by omega
          have hi2 : (i : Int) - 1 < (m : Int) := by omega
          have hi3 : ((i : Int) - 1).toNat = i - 1 := by omega
          have hi4 : IntKind.i64.wrap ((i : Int) - 1) = (i : Int) - 1 := IntWalk.i64_in _ (by omega)
          go_upto_region 32 with (fail)
          clear cg cp
          go_wp2_with fail
          go_loopw [13, 16] (fun x y wi => ∃ (k : Nat) (s : List Bool) (D : List Int), k ≤ rn ∧ y = .int .i64 k ∧ x = .int .i64 (D.length : Int) ∧ Hid (SeenP s D T) ∧ Hid (Blk wi g 66 (boolArr s)) ∧ Ext W3 wi) (fun _ y _ => rn - (intOf y).toNat)
          case atStart => exact ⟨0, s, D, Nat.zero_le _, rfl, rfl, HSE, HJ, hy⟩
          case round =>
            clear hy HSE HJ hD
            obtain ⟨k, s, D, hk, rfl, rfl, HSE, HJ, hy⟩ := hrel
            have hD : D.length < m := by rw [HML.out]; exact Nat.lt_of_le_of_lt HSE.out.le HTL.out
            have c1 := ext_cell hy HC1.out
            by_cases hkr : k < rn
            · obtain ⟨bk, ok, hK, ck⟩ := (HRR.out.below hy).int_at hkr
              have hpm : rl.getD k 0 ∈ rl := by
                rw [List.getD_eq_getElem?_getD, List.getElem?_eq_getElem (by rw [HRL.out]; exact hkr)]
                exact List.getElem_mem _
              have hp1 := HPB.out _ hpm
              have hp2 := HTM.out _ hpm
              obtain ⟨q, hq, hq64⟩ : ∃ q : Nat, rl.getD k 0 = (q : Int) ∧ q < 64 := ⟨(rl.getD k 0).toNat, by omega, by omega⟩
              rw [hq] at ck hp2
              subst hK
              have ds : wr.cell? ⟨g, q, none⟩ = some (.bool (s.getD q false)) := (HJ.out.cell q).trans (boolArr_at s q (by rw [HSE.out.len]; exact hq64))
              have df : wr.frozen? ⟨g, q, none⟩ = false := HJ.out.frozen q
              have hB3 := HJ.out.set_ q (.bool true)
              rw [boolArr_set] at hB3
              have HB3 := Lib.hid hB3
              have hx9 := hy.setCell (p := ⟨g, q, none⟩) HGW.out (.bool true)
              have hk0 : (0 : Int) ≤ (k : Int) := by omega
              have hkn : (k : Int) < (rn : Int) := by omega
              have hq0 : (0 : Int) ≤ (q : Int) := by omega
              have hq1 : (q : Int) < 64 := by omega
              cases hqs : s.getD q false
              · have HS9 := Lib.hid (HSE.out.more q hq64 hqs hp2)
                have hl9 : ((D ++ [(q : Int)]).length : Int) = (D.length : Int) + 1 := by simp
                rw [hqs] at ds
                clear hpm hp1 hp2 hq hqs hB3 HSE HJ hy
                go_wp2_with fail
                go_roundw
                case rel => exact ⟨k + 1, _, D ++ [(q : Int)], by omega, by go_num, by rw [hl9], HS9, HB3, hx9⟩
                case measure => simp [intOf]; omega
              · have HS9 := Lib.hid (HSE.out.again q hq64 hqs)
                rw [hqs] at ds
                clear hpm hp1 hp2 hq hqs hB3 HSE HJ hy
                go_wp2_with fail
                go_roundw
                case rel => exact ⟨k + 1, _, D, by omega, by go_num, rfl, HS9, HB3, hx9⟩
                case measure => simp [intOf]; omega
            · go_wp2_with fail
              go_roundw
              case rel => exact ⟨i + 1, s, D, by omega, by go_num, rfl, HSE, HJ, hy⟩
              case measure => simp [intOf]; omega
        · have h0' : ¬ (0 : Int) < (i : Int) := by omega
          clear hprev
          go_upto_region 32 with (fail)
          clear cg
          go_wp2_with fail
          go_loopw [13, 16] (fun x y wi => ∃ (k : Nat) (s : List Bool) (D : List Int), k ≤ rn ∧ y = .int .i64 k ∧ x = .int .i64 (D.length : Int) ∧ Hid (SeenP s D T) ∧ Hid (Blk wi g 66 (boolArr s)) ∧ Ext W3 wi) (fun _ y _ => rn - (intOf y).toNat)
          case atStart => exact ⟨0, s, D, Nat.zero_le _, rfl, rfl, HSE, HJ, hy⟩
          case round =>
            clear hy HSE HJ hD
            obtain ⟨k, s, D, hk, rfl, rfl, HSE, HJ, hy⟩ := hrel
            have hD : D.length < m := by rw [HML.out]; exact Nat.lt_of_le_of_lt HSE.out.le HTL.out
            have c1 := ext_cell hy HC1.out
            by_cases hkr : k < rn
            · obtain ⟨bk, ok, hK, ck⟩ := (HRR.out.below hy).int_at hkr
              have hpm : rl.getD k 0 ∈ rl := by
                rw [List.getD_eq_getElem?_getD, List.getElem?_eq_getElem (by rw [HRL.out]; exact hkr)]
                exact List.getElem_mem _
              have hp1 := HPB.out _ hpm
              have hp2 := HTM.out _ hpm
              obtain ⟨q, hq, hq64⟩ : ∃ q : Nat, rl.getD k 0 = (q : Int) ∧ q < 64 := ⟨(rl.getD k 0).toNat, by omega, by omega⟩
              rw [hq] at ck hp2
              subst hK
              have ds : wr.cell? ⟨g, q, none⟩ = some (.bool (s.getD q false)) := (HJ.out.cell q).trans (boolArr_at s q (by rw [HSE.out.len]; exact hq64))
              have df : wr.frozen? ⟨g, q, none⟩ = false := HJ.out.frozen q
              have hB3 := HJ.out.set_ q (.bool true)
              rw [boolArr_set] at hB3
              have HB3 := Lib.hid hB3
              have hx9 := hy.setCell (p := ⟨g, q, none⟩) HGW.out (.bool true)
              have hk0 : (0 : Int) ≤ (k : Int) := by omega
              have hkn : (k : Int) < (rn : Int) := by omega
              have hq0 : (0 : Int) ≤ (q : Int) := by omega
              have hq1 : (q : Int) < 64 := by omega
              cases hqs : s.getD q false
              · have HS9 := Lib.hid (HSE.out.more q hq64 hqs hp2)
                have hl9 : ((D ++ [(q : Int)]).length : Int) = (D.length : Int) + 1 := by simp
                rw [hqs] at ds
                clear hpm hp1 hp2 hq hqs hB3 HSE HJ hy
                go_wp2_with fail
                go_roundw
                case rel => exact ⟨k + 1, _, D ++ [(q : Int)], by omega, by go_num, by rw [hl9], HS9, HB3, hx9⟩
                case measure => simp [intOf]; omega
              · have HS9 := Lib.hid (HSE.out.again q hq64 hqs)
                rw [hqs] at ds
                clear hpm hp1 hp2 hq hqs hB3 HSE HJ hy
                go_wp2_with fail
                go_roundw
                case rel => exact ⟨k + 1, _, D, by omega, by go_num, rfl, HS9, HB3, hx9⟩
                case measure => simp [intOf]; omega
            · go_wp2_with fail
              go_roundw
              case rel => exact ⟨i + 1, s, D, by omega, by go_num, rfl, HSE, HJ, hy⟩
              case measure => simp [intOf]; omega
      · have hDm : (D.length : Int) < (m : Int) := by omega
        go_wp2_with fail
        go_ret
        exact ⟨rfl, Ext.trans hx3 hy⟩
end Go.Proofs.Ytgbfhkildbhhoaa
