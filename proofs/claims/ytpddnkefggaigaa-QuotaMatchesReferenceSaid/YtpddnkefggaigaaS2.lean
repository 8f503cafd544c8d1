/- IndexFunc and ContainsFunc at ints with Valid's predicate; Valid's closure 'within'. -/
import Derived.Test.YtpddnkefggaigaaS1
namespace Go.Proofs.Ytpddnkefggaigaa
open Go.RowKit

abbrev I64 (n : Int) : Value := .int .i64 n

def idxI (p : Int → Bool) : List Int → Int → Int
  | [], _ => -1
  | x :: r, k => if p x then k else idxI p r (k + 1)

theorem idxI_any (p : Int → Bool) (l : List Int) (k : Int) (hk : 0 ≤ k) : (0 ≤ idxI p l k) = (l.any p = true) := by
  induction l generalizing k with
  | nil => simp [idxI]
  | cons x r ih =>
    unfold idxI
    cases hx : p x
    · simp [hx, ih (k + 1) (by omega)]
    · simp [hx, hk]

theorem idxI_drop (p : Int → Bool) (l : List Int) (k : Nat) (h : k < l.length) : idxI p (l.drop k) k = if p l[k] then (k : Int) else idxI p (l.drop (k + 1)) (k + 1 : Nat) := by
  rw [List.drop_eq_getElem_cons h, idxI]
  split <;> simp

theorem reads_ints_at {w : World} {B n k : Nat} {A : Option Addr} {zs : List Int} (h : Reads w B 1 A n (zs.map I64)) (hk : k < n) :
    ∃ (b o : Nat) (hz : k < zs.length), A = some ⟨b, o, none⟩ ∧ b < B ∧ w.cell? ⟨b, o + k, none⟩ = some (I64 zs[k]) := by
  have hl : zs.length = n := by have := h.1; simpa using this
  obtain ⟨b, o, u, e, hb, hx, hc⟩ := h.at_ hk
  refine ⟨b, o, by omega, e, hb, ?_⟩
  rw [List.getElem?_map, List.getElem?_eq_getElem (by omega)] at hx
  injection hx with hx
  rw [hc, ← hx]

theorem indexFunc_range (zs : List Int) (lo hi : Int) (A : Option Addr) (n c : Nat) (a4 a5 : Addr) (w : World) (B : Nat) (h4 : w.cell? a4 = some (.int .i64 lo)) (h5 : w.cell? a5 = some (.int .i64 hi))
    (hr : Reads w B 1 A n (zs.map I64)) (hn : n ≤ 9223372036854775807) :
    Calls Try.prog 61 #[.slice A n c, .func (.func 36) #[] #[.pointer (some a4), .pointer (some a5)]] w
      fun e w' => e = .returned (.int .i64 (idxI (fun x => !inB x lo hi) zs 0)) ∧ w = w' := by
  have hlen : zs.length = n := by have := hr.1; simpa using this
  have HL := Lib.hid hlen
  have HR := Lib.hid hr
  clear hlen hr
  go_enter Try.func61, Try.ntmps61
  go_wp2
  go_loop [8] (fun i => ∃ k : Nat, k ≤ n ∧ i = .int .i64 k ∧ Hid (idxI (fun x => !inB x lo hi) zs 0 = idxI (fun x => !inB x lo hi) (zs.drop k) k)) (fun i => n - (intOf i).toNat)
  case atStart => exact ⟨0, Nat.zero_le _, rfl, rfl⟩
  case round =>
    obtain ⟨k, hk, rfl, H⟩ := hrel
    by_cases hlt : k < n
    · obtain ⟨b, o, hz, rfl, hb, hc⟩ := reads_ints_at HR.out hlt
      obtain ⟨x, hx⟩ : ∃ x, x = zs[k] := ⟨_, rfl⟩
      rw [← hx] at hc
      have hst := idxI_drop (fun x => !inB x lo hi) zs k hz
      rw [← hx, ← H.out] at hst
      have HS := Lib.hid hst
      clear hst hx
      cases hp : inB x lo hi
      · have hf := range_fn x lo hi a4 a5 w h4 h5
        rw [hp] at hf HS
        have HF := Lib.hid hf
        clear hf hp
        go_wp2_with (go_at_call 36; refine HF.out.mono ?_; rintro e w' ⟨rfl, rfl⟩)
        go_ret
        exact ⟨by rw [HS.out]; simp, rfl⟩
      · have hf := range_fn x lo hi a4 a5 w h4 h5
        rw [hp] at hf HS
        have HF := Lib.hid hf
        clear hf hp
        go_wp2_with (go_at_call 36; refine HF.out.mono ?_; rintro e w' ⟨rfl, rfl⟩)
        go_round
        case rel => exact ⟨k + 1, by omega, by go_num, HS.out.trans (by simp)⟩
        case measure => simp [intOf]; omega
    · go_wp2
      go_ret
      exact ⟨by rw [H.out, List.drop_of_length_le (by rw [HL.out]; omega)]; rfl, rfl⟩

theorem containsFunc_range (zs : List Int) (lo hi : Int) (A : Option Addr) (n c : Nat) (a4 a5 : Addr) (w : World) (B : Nat) (h4 : w.cell? a4 = some (.int .i64 lo)) (h5 : w.cell? a5 = some (.int .i64 hi))
    (hr : Reads w B 1 A n (zs.map I64)) (hn : n ≤ 9223372036854775807) :
    Calls Try.prog 35 #[.slice A n c, .func (.func 36) #[] #[.pointer (some a4), .pointer (some a5)]] w
      fun e w' => e = .returned (.bool (zs.any (fun x => !inB x lo hi))) ∧ w = w' := by
  have hf := indexFunc_range zs lo hi A n c a4 a5 w B h4 h5 hr hn
  have hb : zs.any (fun x => !inB x lo hi) = decide (0 ≤ idxI (fun x => !inB x lo hi) zs 0) := by
    rw [Bool.eq_iff_iff, ← idxI_any _ _ 0 (by omega), decide_eq_true_iff]
  rw [hb]
  generalize idxI (fun x => !inB x lo hi) zs 0 = r at hf
  have HF := Lib.hid hf
  clear hf hb hr
  go_enter Try.func35, Try.ntmps35
  go_wp2_with (go_at_call 61; refine HF.out.mono ?_; rintro e w' ⟨rfl, rfl⟩)
  go_ret
  exact ⟨rfl, rfl⟩

theorem withinB_eq (zs : List Int) (lo hi : Int) : withinB zs lo hi = (decide (zs.length = 16) && !(zs.any (fun x => !inB x lo hi))) := by
  unfold withinB
  congr 1
  rw [List.any_eq_not_all_not, Bool.not_not]
  simp

theorem within_any (zs : List Int) (lo hi : Int) (A : Option Addr) (n c : Nat) (w : World) (hr : Reads w w.heap.size 1 A n (zs.map I64)) (hn : n ≤ 9223372036854775807) :
    Calls Try.prog 34 #[.slice A n c, .int .i64 lo, .int .i64 hi] w fun e w' => e = .returned (.bool (withinB zs lo hi)) ∧ Below w.heap.size w w' := by
  have hlen : zs.length = n := by have := hr.1; simpa using this
  rw [withinB_eq, hlen]
  have hr2 : Reads ((w.alloc (.cells #[.int .i64 lo] 3)).alloc (.cells #[.int .i64 hi] 3)) w.heap.size 1 A n (zs.map I64) := (hr.alloc (Nat.le_refl _) _).alloc (by simp) _
  have hf := containsFunc_range zs lo hi A n c ⟨w.heap.size, 0, none⟩ ⟨w.heap.size + 1, 0, none⟩ _ w.heap.size (by go_simp) (by go_simp) hr2 hn
  generalize zs.any (fun x => !inB x lo hi) = r at hf
  have HF := Lib.hid hf
  clear hf hr2 hr hlen
  by_cases h : n = 16
  · subst h
    go_enter Try.func34, Try.ntmps34
    go_wp2_with (go_at_call 35; refine HF.out.mono ?_; rintro e w' ⟨rfl, rfl⟩)
    go_ret
    exact ⟨rfl, (by repeat (first | exact Below.refl _ _ | assumption | refine Below.drew ?_ | refine below_drewN ?_ _ | refine bl_alloc ?_ _ | refine Below.setCell ?_ (by first | (simp; done) | omega | (simp; omega)) _ | refine bl_then ?_ (by assumption)))⟩
  · have hd : ((n : Int) == 16) = false := by simp; omega
    go_enter Try.func34, Try.ntmps34
    go_wp2_with (go_at_call 35; refine HF.out.mono ?_; rintro e w' ⟨rfl, rfl⟩)
    go_ret
    exact ⟨by simp [h], (by repeat (first | exact Below.refl _ _ | assumption | refine Below.drew ?_ | refine below_drewN ?_ _ | refine bl_alloc ?_ _ | refine Below.setCell ?_ (by first | (simp; done) | omega | (simp; omega)) _ | refine bl_then ?_ (by assumption)))⟩

end Go.Proofs.Ytpddnkefggaigaa
