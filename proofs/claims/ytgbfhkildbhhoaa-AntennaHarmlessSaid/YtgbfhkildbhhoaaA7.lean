/- Fewest. -/
import Derived.Test.YtgbfhkildbhhoaaA6
import Derived.Laws.Cover1
import Derived.Laws.Small
namespace Go.Proofs.Ytgbfhkildbhhoaa
open Go.RowKit

/-- How many are there at most at the starts of the first uses. -/
def mostP (l : List Use) : List Use → Nat
  | [] => 0
  | u :: r => max (atP l u.fr).length (mostP l r)
theorem mostP_append (l a b : List Use) : mostP l (a ++ b) = max (mostP l a) (mostP l b) := by
  induction a with
  | nil => simp [mostP]
  | cons u r ih => rw [List.cons_append, mostP, mostP, ih, Nat.max_assoc]
theorem mostP_succ (l : List Use) (k : Nat) (h : k < l.length) : mostP l (l.take (k + 1)) = max (mostP l (l.take k)) (atP l l[k].fr).length := by
  rw [List.take_succ_eq_append_getElem h, mostP_append]
  simp [mostP]
theorem mostP_le (l a : List Use) : mostP l a ≤ l.length := by
  induction a with
  | nil => exact Nat.zero_le _
  | cons u r ih => rw [mostP]; exact Nat.max_le.2 ⟨idxP_le _ _ _, ih⟩
def fewestP (l : List Use) : Int × Int := if validU l then ((mostP l l : Int), 0) else (0, 170)

set_option maxHeartbeats 2000000 in
theorem fewest_any (l : List Use) (SA : Option Addr) (n c : Nat) (w : World) (hr : RA useCells 3 w w.heap.size SA n c l) (hn : n ≤ 1000) :
    Calls Try.prog 13 #[.slice SA n c] w fun e w' => e = .returned (.tuple #[.int .i64 (fewestP l).1, .int .i64 (fewestP l).2]) ∧ Below w.heap.size w w' := by
  have hV := valid_any l SA n c w hr
  have hT := fun (t : Int) (W : World) (hW : Ext w W) => at_any l t SA n c W ((hr.below hW).more (Below.size hW)) hn
  rw [fewestP]
  have hle := hr.le
  have hL := hr.len
  have HR := Lib.hid hr
  have HL := Lib.hid hL
  have HT := Lib.hid hT
  clear hr hT hL
  generalize validU l = q at hV ⊢
  have HV := Lib.hid hV
  clear hV
  cases q
  · rw [if_neg (by simp)]
    go_enter Try.func13, Try.ntmps13
    go_wp2_with fail
    refine HV.out.mono ?_
    rintro e W1 ⟨rfl, hx⟩
    clear HV HR HT HL
    go_wp2
    refine bodyPost_ret (v := .tuple #[.int .i64 0, .int .i64 170]) (by simp [results, Try.results13, go_sem]) rfl ⟨rfl, hx⟩
  · rw [if_pos rfl]
    obtain ⟨mm, hmm⟩ : ∃ m, m = mostP l l := ⟨_, rfl⟩
    rw [← hmm]
    have HMM := Lib.hid hmm
    clear hmm
    go_enter Try.func13, Try.ntmps13
    go_wp2_with fail
    refine HV.out.mono ?_
    rintro e W1 ⟨rfl, hx⟩
    clear HV
    go_wp2_with fail
    have H0 := Lib.hid (show (0 : Nat) = mostP l (l.take 0) from rfl)
    go_loopw [4, 12] (fun y x wr => ∃ k m : Nat, k ≤ n ∧ m ≤ 1000 ∧ x = .int .i64 k ∧ y = .int .i64 m ∧ Hid (m = mostP l (l.take k)) ∧ Ext w wr) (fun _ x _ => n - (intOf x).toNat)
    case atStart => exact ⟨0, 0, Nat.zero_le _, Nat.zero_le _, rfl, rfl, H0, hx⟩
    case round =>
      clear H0 hx
      obtain ⟨k, m, hk, hm, rfl, rfl, HS, hx⟩ := hrel
      by_cases hkn : k < n
      · obtain ⟨b, o, hz, hA, _, hc⟩ := (HR.out.below hx).at_ use_len hkn
        have hs := mostP_succ l k hz
        rw [← HS.out] at hs
        have hle1 := idxP_le (hasT l[k].fr) l 0
        rw [HL.out] at hle1
        generalize l[k] = u at hs hc hle1
        obtain ⟨us, uf, ut⟩ := u
        dsimp only at hs hle1
        have d0 : wr.cell? ⟨b, o + k * 3, none⟩ = some (.int .i64 us) := hc 0 (by omega)
        have d1 : wr.cell? ⟨b, o + k * 3 + 1, none⟩ = some (.int .i64 uf) := hc 1 (by omega)
        have d2 : wr.cell? ⟨b, o + k * 3 + 2, none⟩ = some (.int .i64 ut) := hc 2 (by omega)
        have hTT := HT.out uf
        have hlen : (atP l uf).length ≤ n := hle1
        generalize atP l uf = th at hs hTT hlen
        obtain ⟨L, hL⟩ : ∃ L, L = th.length := ⟨_, rfl⟩
        rw [← hL] at hs hlen
        have HTL := Lib.hid hL
        have HTT := Lib.hid hTT
        have HS2 := Lib.hid hs
        subst hA
        clear hs hc HS hz hTT hL hle1
        go_upto_region 7 with (fail)
        clear d0 d1 d2
        have hy : Ext wr (wr.alloc (.cells #[.int .i64 us, .int .i64 uf, .int .i64 ut] 26)) := bl_alloc (Below.refl _ _) _
        have J : Blk (wr.alloc (.cells #[.int .i64 us, .int .i64 uf, .int .i64 ut] 26)) wr.heap.size 26 #[.int .i64 us, .int .i64 uf, .int .i64 ut] := Blk.new _ _ _
        obtain ⟨g6, hg6⟩ : ∃ g, g = wr.heap.size := ⟨_, rfl⟩
        rw [← hg6] at J ⊢
        generalize wr.alloc (.cells #[.int .i64 us, .int .i64 uf, .int .i64 ut] 26) = W2 at hy J ⊢
        have hx := Ext.trans hx hy
        clear hy hg6
        have d1 : W2.cell? ⟨g6, 1, none⟩ = some (.int .i64 uf) := J.cell 1
        go_wp2_with fail
        refine (HTT.out _ hx).mono ?_
        rintro e W3 ⟨v3, rfl, hown3, hy3⟩
        obtain ⟨A3, c3, hv3, _, _⟩ := own_slice hown3
        rw [← HTL.out] at hv3
        subst hv3
        have hx3 := Ext.trans hx hy3
        clear hown3 hy3 HTT d1 hx J
        by_cases hlt : m < L
        · have hs := HS2.out
          rw [Nat.max_eq_right (by omega)] at hs
          have HF := Lib.hid hs.symm
          have h1 : (m : Int) < (L : Int) := by omega
          have h2 : max (m : Int) (L : Int) = L := by omega
          clear hs HS2
          go_wp2
          go_roundw
          case rel => exact ⟨k + 1, L, by omega, by omega, by go_num, rfl, HF, hx3⟩
          case measure => simp [intOf]; omega
        · have hs := HS2.out
          rw [Nat.max_eq_left (by omega)] at hs
          have HF := Lib.hid hs.symm
          have h1 : ¬ (m : Int) < (L : Int) := by omega
          have h2 : max (m : Int) (L : Int) = m := by omega
          clear hs HS2
          go_wp2
          go_roundw
          case rel => exact ⟨k + 1, m, by omega, by omega, by go_num, rfl, HF, hx3⟩
          case measure => simp [intOf]; omega
      · have hs := HS.out
        rw [List.take_of_length_le (by rw [HL.out]; omega), ← HMM.out] at hs
        subst hs
        clear HS
        go_wp2
        refine bodyPost_ret (v := .tuple #[.int .i64 (m : Int), .int .i64 0]) (by simp [results, Try.results13, go_sem]) rfl ⟨rfl, hx⟩
end Go.Proofs.Ytgbfhkildbhhoaa
