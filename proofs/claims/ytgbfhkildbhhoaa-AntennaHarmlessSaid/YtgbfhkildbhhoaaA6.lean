/- Clash and Fewest. -/
import Derived.Test.YtgbfhkildbhhoaaA5
import Derived.Test.YtgbfhkildbhhoaaA4
namespace Go.Proofs.Ytgbfhkildbhhoaa
open Go.RowKit

def scanP (l : List Use) (m : Int) : List Nat → Int × List Nat
  | [] => (-1, [])
  | i :: r => if m < ((atP l (frP l i)).length : Int) then (frP l i, atP l (frP l i)) else scanP l m r
def clashP (l : List Use) (m : Int) : Int × List Nat × Int := if validU l && inB m 0 8 then ((scanP l m (orderP l)).1, (scanP l m (orderP l)).2, 0) else (0, [], 170)
/-- What Clash hands back. -/
def ClashRet (r : Int × List Nat × Int) (w : World) (e : Ending) (w' : World) : Prop := ∃ v, e = .returned (.tuple #[.int .i64 r.1, v, .int .i64 r.2.2]) ∧ w'.ownsRow w.heap.size 3 1 v r.2.1.length (r.2.1.flatMap natCells) ∧ Below w.heap.size w w'

set_option maxHeartbeats 2000000 in
theorem clash_any (l : List Use) (m : Int) (SA : Option Addr) (n c : Nat) (w : World) (hr : RA useCells 3 w w.heap.size SA n c l) (hn : n ≤ mxS) :
    Calls Try.prog 20 #[.slice SA n c, .int .i64 m] w (ClashRet (clashP l m) w) := by
  have hV := valid_any l SA n c w hr
  have hnm : n ≤ 1000 := by have : n ≤ 19 := hn; omega
  have hO := fun (W : World) (hW : Ext w W) => order_any l SA n c W ((hr.below hW).more (Below.size hW)) hn
  have hT := fun (t : Int) (W : World) (hW : Ext w W) => at_any l t SA n c W ((hr.below hW).more (Below.size hW)) hnm
  have hcl : clashP l m = if validU l then (if inB m 0 8 then ((scanP l m (orderP l)).1, (scanP l m (orderP l)).2, 0) else (0, [], 170)) else (0, [], 170) := by
    rw [clashP]
    cases validU l <;> rfl
  rw [hcl]
  have hle := hr.le
  have hL := hr.len
  have HR := Lib.hid hr
  have HL := Lib.hid hL
  have HT := Lib.hid hT
  have HO := Lib.hid hO
  clear hcl hr hT hO hL
  generalize validU l = q at hV ⊢
  have HV := Lib.hid hV
  clear hV
  cases q
  · rw [if_neg (by simp)]
    go_enter Try.func20, Try.ntmps20
    go_wp2_with fail
    refine HV.out.mono ?_
    rintro e W1 ⟨rfl, hx⟩
    clear HV HR HT HO HL
    go_wp2
    refine bodyPost_ret (v := .tuple #[.int .i64 0, .slice none 0 0, .int .i64 170]) (by simp [results, Try.results20, go_sem]) rfl ⟨_, rfl, World.ownsRow_nil _ _ _ _, hx⟩
  · rw [if_pos rfl]
    have hI := fun w => isIn_any m 0 8 w
    generalize inB m 0 8 = q2 at hI ⊢
    have HI := Lib.hid hI
    clear hI
    cases q2
    · rw [if_neg (by simp)]
      go_enter Try.func20, Try.ntmps20
      go_wp2_with fail
      refine HV.out.mono ?_
      rintro e W1 ⟨rfl, hx⟩
      clear HV HR HT HO HL
      go_wp2_with (go_at_call 53; refine (HI.out _).mono ?_; rintro e w' ⟨rfl, rfl⟩)
      refine bodyPost_ret (v := .tuple #[.int .i64 0, .slice none 0 0, .int .i64 170]) (by simp [results, Try.results20, go_sem]) rfl ⟨_, rfl, World.ownsRow_nil _ _ _ _, hx⟩
    · rw [if_pos rfl]
      go_enter Try.func20, Try.ntmps20
      go_wp2_with fail
      refine HV.out.mono ?_
      rintro e W1 ⟨rfl, hx⟩
      clear HV
      go_wp2_with (first | (go_at_call 53; refine (HI.out _).mono ?_; rintro e w' ⟨rfl, rfl⟩) | fail)
      refine (HO.out _ hx).mono ?_
      rintro e W2 ⟨v, rfl, hown, hy⟩
      obtain ⟨A2, c2, hv, h2c, h2m⟩ := own_slice hown
      rw [order_len, HL.out] at hv h2c
      have hx2 := Ext.trans hx hy
      have hro := RA.of_own (cells := natCells) (l := orderP l) (by rw [order_len, HL.out, hv] at hown; exact hown) (by rw [order_len, HL.out]) (by omega)
      subst hv
      have HRO := Lib.hid hro
      have H0 := Lib.hid (show scanP l m ((orderP l).drop 0) = scanP l m (orderP l) from rfl)
      clear hro hown hx hy HO HI
      go_wp2_with fail
      go_loopw [22] (fun x wr => ∃ k : Nat, k ≤ n ∧ x = .int .i64 k ∧ Hid (scanP l m ((orderP l).drop k) = scanP l m (orderP l)) ∧ Ext W2 wr) (fun x _ => n - (intOf x).toNat)
      case atStart => exact ⟨0, Nat.zero_le _, rfl, H0, Ext.refl _⟩
      case round =>
        clear H0
        obtain ⟨k, hk, rfl, HS, hx⟩ := hrel
        by_cases hkn : k < n
        · obtain ⟨b2, o2, hz, hA2, _, hc2⟩ := (HRO.out.below hx).at_ nat_len hkn
          have hdk : (orderP l).drop k = (orderP l)[k] :: (orderP l).drop (k + 1) := List.drop_eq_getElem_cons hz
          have hmem := order_mem l _ (List.getElem_mem hz)
          have hs := HS.out
          rw [hdk, scanP] at hs
          have d0 : wr.cell? ⟨b2, o2 + k * 1, none⟩ = some (.int .i64 ((orderP l)[k] : Int)) := hc2 0 (by omega)
          rw [Nat.mul_one] at d0
          generalize (orderP l)[k] = i at hs hmem d0
          rw [HL.out] at hmem
          have hxw := Ext.trans hx2 hx
          obtain ⟨b, o, hA, -, cx, -⟩ := (HR.out.below hxw).use_at hmem
          have hin : (i : Int) < n := by omega
          have hTT := HT.out (frP l i)
          generalize frP l i = t at hs cx hTT
          have HTT := Lib.hid hTT
          have HS2 := Lib.hid hs
          subst hA2 hA
          clear hs hdk hc2 HS hz hTT
          go_wp2_with fail
          refine (HTT.out _ hxw).mono ?_
          rintro e W3 ⟨v3, rfl, hown3, hy3⟩
          obtain ⟨A3, c3, hv3, _, _⟩ := own_slice hown3
          subst hv3
          have hb3 : w.heap.size ≤ wr.heap.size := Below.size hxw
          have HO3 := Lib.hid (own_base hown3 hb3)
          have hx3 := Ext.trans hx hy3
          have hxw3 := Ext.trans hxw hy3
          clear hown3 hy3 HTT d0 cx hxw
          generalize atP l t = th at HS2 HO3
          by_cases hgt : m < (th.length : Int)
          · have hs := HS2.out
            rw [if_pos hgt] at hs
            have HF := Lib.hid hs
            clear hs HS2
            go_wp2
            refine bodyPost_ret (v := .tuple #[.int .i64 t, .slice A3 th.length c3, .int .i64 0]) (by simp [results, Try.results20, go_sem]) rfl ⟨_, by rw [← HF.out], ?_, hxw3⟩
            rw [← HF.out]
            exact HO3.out
          · have hs := HS2.out
            rw [if_neg hgt] at hs
            have HF := Lib.hid hs
            clear hs HS2 HO3
            go_wp2
            go_roundw
            case rel => exact ⟨k + 1, by omega, by go_num, HF, hx3⟩
            case measure => simp [intOf]; omega
        · have hs := HS.out
          rw [List.drop_of_length_le (by rw [order_len, HL.out]; omega), scanP] at hs
          have HF := Lib.hid hs
          clear hs HS
          have hxw := Ext.trans hx2 hx
          go_wp2
          refine bodyPost_ret (v := .tuple #[.int .i64 (-1), .slice none 0 0, .int .i64 0]) (by simp [results, Try.results20, go_sem]) rfl ⟨_, by rw [← HF.out], ?_, hxw⟩
          rw [← HF.out]
          exact World.ownsRow_nil _ _ _ _
end Go.Proofs.Ytgbfhkildbhhoaa
