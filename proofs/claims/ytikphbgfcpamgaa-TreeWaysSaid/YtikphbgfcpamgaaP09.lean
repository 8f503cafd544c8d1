/- Insertion sort of a row of structs (printed by sort_ins.py). -/
import Derived.Test.YtikphbgfcpamgaaP06
import Derived.Test.YtikphbgfcpamgaaP08
import Derived.Test.YtikphbgfcpamgaaP01
namespace Go.Proofs.Ytikphbgfcpamgaa
open Go.RowKit

theorem insR_stop {α : Type} (lt : α → α → Bool) (S1 S2 : List α) (x : α) (h1 : ∀ y, S1.getLast? = some y → lt x y = false) (h2 : ∀ y ∈ S2, lt x y = true) : insR lt (S1 ++ S2) x = S1 ++ x :: S2 := by
  have hp : posR lt (S1 ++ S2) x = S1.length := by
    have ht : ((S1 ++ S2).reverse.takeWhile (fun y => lt x y)) = S2.reverse := by
      rw [List.reverse_append, List.takeWhile_append_of_pos (by intro y hy; exact h2 y (by simpa using hy))]
      have : S1.reverse.takeWhile (fun y => lt x y) = [] := by
        rcases List.eq_nil_or_concat S1 with rfl | ⟨S, y, rfl⟩
        · rfl
        · have := h1 y (by simp)
          simp [this]
      rw [this, List.append_nil]
    rw [posR, ht]
    simp
  rw [insR, hp]
  simp
theorem sortP_snoc {α : Type} (lt : α → α → Bool) (l : List α) (x : α) : sortP lt (l ++ [x]) = insR lt (sortP lt l) x := by simp [sortP]
theorem length_insR {α : Type} (lt : α → α → Bool) (p : List α) (x : α) : (insR lt p x).length = p.length + 1 := by
  have : posR lt p x ≤ p.length := Nat.sub_le _ _
  simp [insR]; omega
theorem length_sortP {α : Type} (lt : α → α → Bool) (l : List α) : (sortP lt l).length = l.length := by
  suffices h : ∀ B : List α, (l.foldl (insR lt) B).length = B.length + l.length by simpa [sortP] using h []
  induction l with
  | nil => intro B; simp
  | cons x r ih => intro B; rw [List.foldl_cons, ih, length_insR]; simp; omega

def insAt {α : Type} (lt : α → α → Bool) (l : List α) (a k : Nat) : List α := l.take a ++ sortP lt ((l.drop a).take (k - a)) ++ l.drop k
theorem insAt_start {α : Type} (lt : α → α → Bool) (l : List α) (a : Nat) : insAt lt l a (a + 1) = l := by
  have : sortP lt ((l.drop a).take (a + 1 - a)) = (l.drop a).take 1 := by
    rw [show a + 1 - a = 1 by omega]
    cases l.drop a with
    | nil => rfl
    | cons x r => simp [sortP, insR, posR]
  rw [insAt, this, List.append_assoc, show l.drop (a + 1) = (l.drop a).drop 1 by rw [List.drop_drop], List.take_append_drop, List.take_append_drop]
theorem insAt_length {α : Type} (lt : α → α → Bool) (l : List α) (a k : Nat) (h1 : a ≤ k) (h2 : k ≤ l.length) : (insAt lt l a k).length = l.length := by
  simp [insAt, length_sortP]; omega

def CmpC (w0 : World) (g K : Nat) (caps : Array Value) (cv : Plc → Plc → Int) : Prop := ∀ (x y : Plc) (w : World), w0.grownBy w (some g) → Calls Try.prog K (#[.agg (plcCells x).toArray, .agg (plcCells y).toArray] ++ caps) w fun e w' => e = .returned (.int .i64 (cv x y)) ∧ Below w.heap.size w w'
def ltOf {α : Type} (cv : α → α → Int) (x y : α) : Bool := decide (cv x y < 0)
theorem list_mid {α : Type} (P Q : List α) (x : α) (j : Nat) (hj : j = P.length) : ∃ h : j < (P ++ x :: Q).length, (P ++ x :: Q)[j] = x := by
  subst hj
  exact ⟨by simp, by simp⟩
theorem list_set2 {α : Type} (P Q : List α) (x y : α) (j : Nat) (hj : j = P.length + 1) : ((P ++ y :: x :: Q).set j y).set (j - 1) x = P ++ x :: y :: Q := by
  subst hj
  rw [List.set_append_right _ _ (by omega), show P.length + 1 - P.length = 1 by omega, List.set_cons_succ, List.set_cons_zero, Nat.add_sub_cancel, List.set_append_right _ _ (Nat.le_refl _), Nat.sub_self, List.set_cons_zero]

set_option maxHeartbeats 4000000 in
theorem insSort_any (w0 : World) (K : Nat) (caps : Array Value) (cv : Plc → Plc → Int) (eg : ∀ args w, (callFunc K args).run Try.prog w = .ok (.enter K args) w) 
    (base g n c a b : Nat) (hcmp : CmpC w0 g K caps cv) (l : List Plc) (w : World) (hr : RowG w0 plcCells 4 base 83 g n c w l) (hab : a ≤ b) (hbn : b ≤ n) (hn : n ≤ 1000000) :
    Calls Try.prog 72 #[.slice (some ⟨g, 0, none⟩) n c, .int .i64 (a : Int), .int .i64 (b : Int), .func (.func K) #[] caps] w
      fun e w' => e = .returned (.tuple #[]) ∧ RowG w0 plcCells 4 base 83 g n c w' (insAt (ltOf cv) l a b) ∧ w.grownBy w' (some g) := by
  have hc := hr.le
  have hln := hr.1
  have HLN := Lib.hid hln
  have HCMP := Lib.hid hcmp
  by_cases hlt : a < b
  · have h0 : RowG w0 plcCells 4 base 83 g n c w (insAt (ltOf cv) l a (a + 1)) := by rw [insAt_start]; exact hr
    have H0 := Lib.hid h0
    have hg0 : w.grownBy w (some g) := grown_refl _ _
    have HG0 := Lib.hid hg0
    clear hr h0 hln hcmp hg0
    go_enter Try.func72, Try.ntmps72
    go_wp2
    go_loopw [8] (fun i wr => ∃ k : Nat, a < k ∧ k ≤ b ∧ i = .int .i64 k ∧ Hid (RowG w0 plcCells 4 base 83 g n c wr (insAt (ltOf cv) l a k)) ∧ Hid (w.grownBy wr (some g))) (fun i _ => b - (intOf i).toNat)
    case atStart => exact ⟨a + 1, by omega, by omega, by go_num, H0, HG0⟩
    case round =>
      clear H0 HG0
      obtain ⟨k, hak, hkb, rfl, HR, HG⟩ := hrel
      by_cases hkl : k < b
      · have hkz : k < l.length := by rw [HLN.out]; omega
        obtain ⟨x, hx⟩ : ∃ x, x = l[k] := ⟨_, rfl⟩
        have hdk : l.drop k = x :: l.drop (k + 1) := by rw [hx]; exact List.drop_eq_getElem_cons hkz
        obtain ⟨S, hS⟩ : ∃ S, S = sortP (ltOf cv) ((l.drop a).take (k - a)) := ⟨_, rfl⟩
        have hSl : S.length = k - a := by rw [hS, length_sortP]; simp; omega
        have hPl : (l.take a).length = a := by simp; omega
        have hnext : insAt (ltOf cv) l a (k + 1) = l.take a ++ insR (ltOf cv) S x ++ l.drop (k + 1) := by
          have h1 : (l.drop a).take (k + 1 - a) = (l.drop a).take (k - a) ++ [x] := by
            rw [show k + 1 - a = (k - a) + 1 by omega, List.take_succ_eq_append_getElem (by simp; omega), hx]
            congr 2
            rw [List.getElem_drop]
            congr 1
            omega
          rw [insAt, h1, sortP_snoc, hS]
        obtain ⟨Pp, hPp⟩ : ∃ Pp, Pp = l.take a := ⟨_, rfl⟩
        obtain ⟨T, hT⟩ : ∃ T, T = l.drop (k + 1) := ⟨_, rfl⟩
        have hrow0 : RowG w0 plcCells 4 base 83 g n c wr (Pp ++ (S ++ x :: T)) := by
          have := HR.out
          rw [insAt, ← hS, hdk, ← hPp, ← hT] at this
          simpa using this
        rw [← hPp] at hPl hnext
        rw [← hT] at hnext
        have hX : ∃ X, (plcCells x).toArray = X := ⟨_, rfl⟩
        obtain ⟨X, hX⟩ := hX
        have HX := Lib.hid hX
        have HN := Lib.hid hnext
        have HSL := Lib.hid hSl
        have HPL := Lib.hid hPl
        have HR0 := Lib.hid hrow0
        have hall0 : ∀ y ∈ ([] : List Plc), ltOf cv x y = true := fun y hy => by cases hy
        have HA0 := Lib.hid hall0
        have hj0 : (k : Nat) = a + S.length := by omega
        have HJ0 := Lib.hid hj0
        have HS0 := Lib.hid (show S ++ [] = S from List.append_nil S)
        have hgr0 : wr.grownBy wr (some g) := grown_refl _ _
        have HGR := Lib.hid hgr0
        clear hx hdk hS hSl hPl hnext hPp hT hrow0 hX HR hall0 hj0 hgr0
        obtain ⟨wo, hwo⟩ : ∃ wo : World, wo = wr := ⟨_, rfl⟩
        rw [← hwo] at HR0 HG HGR ⊢
        clear hwo
        go_wp2_with fail
        go_loopw [9] (fun jj wi => ∃ (j : Nat) (S1 S2 : List Plc), j ≤ k ∧ a ≤ j ∧ jj = .int .i64 j ∧ Hid (j = a + S1.length) ∧ Hid (S1 ++ S2 = S) ∧ Hid (∀ y ∈ S2, ltOf cv x y = true) ∧ Hid (RowG w0 plcCells 4 base 83 g n c wi (Pp ++ (S1 ++ x :: (S2 ++ T)))) ∧ Hid (wo.grownBy wi (some g))) (fun jj _ => (intOf jj).toNat)
        case atStart => exact ⟨k, S, [], Nat.le_refl _, by omega, rfl, HJ0, HS0, HA0, HR0, HGR⟩
        case round =>
          clear HJ0 HS0 HA0 HR0 HGR
          obtain ⟨j, S1, S2, hjk, haj, rfl, HJ, HSS, HA, HR1, HG1⟩ := hrel
          obtain ⟨wi, hwi⟩ : ∃ wi : World, wi = wr := ⟨_, rfl⟩
          rw [← hwi] at HR1 HG1 ⊢
          clear hwi
          by_cases haj2 : a < j
          · obtain ⟨S1', y, hS1⟩ : ∃ S1' y, S1 = S1' ++ [y] := by
              rcases List.eq_nil_or_concat S1 with h | ⟨S, y, h⟩
              · have := HJ.out; rw [h] at this; simp at this; omega
              · exact ⟨S, y, by simpa using h⟩
            have hrow : RowG w0 plcCells 4 base 83 g n c wi ((Pp ++ S1') ++ y :: x :: (S2 ++ T)) := by
              have := HR1.out
              rw [hS1] at this
              simpa using this
            have hj1 : j - 1 = (Pp ++ S1').length := by have h1 := HJ.out; have h2 := HPL.out; rw [hS1] at h1; simp at h1 ⊢; omega
            obtain ⟨q1, e1⟩ := list_mid (Pp ++ S1') (x :: (S2 ++ T)) y (j - 1) hj1
            obtain ⟨q2, e2⟩ := list_mid ((Pp ++ S1') ++ [y]) (S2 ++ T) x j (by simp at hj1 ⊢; omega)
            have e3 : (Pp ++ S1') ++ [y] ++ x :: (S2 ++ T) = (Pp ++ S1') ++ y :: x :: (S2 ++ T) := by simp
            have q2' : j < ((Pp ++ S1') ++ y :: x :: (S2 ++ T)).length := by rw [← e3]; exact q2
            have hX_ := hrow.range plc_len q2'
            have hY_ := hrow.range plc_len q1
            rw [e1] at hY_
            have e4 : ((Pp ++ S1') ++ y :: x :: (S2 ++ T))[j] = x := by simp only [← e3]; exact e2
            rw [e4] at hX_
            have hcc := fun (W : World) (hW : Ext wi W) => HCMP.out x y W (HR1.out.gb hW)
            obtain ⟨Y, hY⟩ : ∃ Y, (plcCells y).toArray = Y := ⟨_, rfl⟩
            rw [hY, HX.out] at hcc
            have HY := Lib.hid hY
            obtain ⟨v_, hv⟩ : ∃ v, v = cv x y := ⟨_, rfl⟩
            rw [← hv] at hcc
            have HC := Lib.hid hcc
            have HV := Lib.hid hv
            have HROW := Lib.hid hrow
            have HS1 := Lib.hid hS1
            have HJ1 := Lib.hid hj1
            have Q1 := Lib.hid q1
            have Q2 := Lib.hid q2'
            have hjn : j < n := by omega
            clear hcc hv hrow hS1 hj1 e1 e2 e3 e4 q1 q2 q2' hY
            have hki : IntKind.i64.wrap ((j : Int) - 1) = (j : Int) - 1 := IntWalk.i64_in _ (by omega)
            have hkn : ((j : Int) - 1).toNat = j - 1 := by omega
            have hkd : decide (a < j) = true := by simpa using haj2
            have HKI := Lib.hid hki
            go_wp2_with fail
            refine wp_region_obl 17 (fun ix vals v w1 => match ix with | 0 => v = .int .i64 (j : Int) | 1 => v = .int .i64 (a : Int) | 2 => v = .bool true | 3 => v = .bool true | 4 => v = .func (.func K) #[] caps | 5 => v = .slice (some ⟨g, 0, none⟩) n c | 6 => v = .int .i64 (j : Int) | 7 => v = .pointer (some ⟨g, j * 4, none⟩) | 8 => v = .agg X | 9 => v = .slice (some ⟨g, 0, none⟩) n c | 10 => v = .int .i64 (j : Int) | 11 => v = .int .i64 ((j : Int) - 1) | 12 => v = .pointer (some ⟨g, (j - 1) * 4, none⟩) | 13 => v = .agg Y | 14 => v = .int .i64 v_ | 15 => v = .bool (decide (v_ < 0)) | _ => v = .bool (decide (v_ < 0))) (by kernel_rfl) (by kernel_rfl) ?_ ?_ ?_ ?_
            · intro ix vals v w1 w2 hi hr hx
              match ix, hr with
              | 0, hr => exact hr
              | 1, hr => exact hr
              | 2, hr => exact hr
              | 3, hr => exact hr
              | 4, hr => exact hr
              | 5, hr => exact hr
              | 6, hr => exact hr
              | 7, hr => exact hr
              | 8, hr => exact hr
              | 9, hr => exact hr
              | 10, hr => exact hr
              | 11, hr => exact hr
              | 12, hr => exact hr
              | 13, hr => exact hr
              | 14, hr => exact hr
              | 15, hr => exact hr
              | (kx + 16), hr => exact hr
            · intro ix vals vals_ v w1 hi hv hr
              exact hr
            · refine ⟨?_, ?_, ?_, ?_, ?_, ?_, ?_, ?_, ?_, ?_, ?_, ?_, ?_, ?_, ?_, ?_, ?_, trivial⟩
              · intro vals w1 hx hd ha
                clear hd ha
                simp only [Lf]
                go_wp2
                exact ⟨rfl, Ext.refl _, rfl⟩
              · intro vals w1 hx hd ha
                clear hd ha
                simp only [Lf, dstAt, Act.put, List.getElem?_toArray, List.getElem?_cons_zero, Option.bind_some, List.setIfInBounds_toArray, List.set_cons_zero, List.set_cons_succ]
                go_wp2
                exact ⟨rfl, Ext.refl _, rfl⟩
              · intro vals w1 hx hd ha
                have e0 : vals 0 = .int .i64 (j : Int) := hd 0 (by decide)
                have e1 : vals 1 = .int .i64 (a : Int) := hd 1 (by decide)
                clear hd ha
                simp only [Lf, dstAt, Act.put, List.getElem?_toArray, List.getElem?_cons_zero, List.getElem?_cons_succ, Option.bind_some, List.setIfInBounds_toArray, List.set_cons_zero, List.set_cons_succ]
                simp only [e0, e1]
                clear e0 e1
                go_wp2
                exact ⟨rfl, Ext.refl _, rfl⟩
              · intro vals w1 hx hd ha
                have e2 : vals 2 = .bool true := hd 2 (by decide)
                clear hd ha
                simp only [Lf, dstAt, Act.put, List.getElem?_toArray, List.getElem?_cons_zero, List.getElem?_cons_succ, Option.bind_some, List.setIfInBounds_toArray, List.set_cons_zero, List.set_cons_succ]
                simp only [e2]
                clear e2
                go_wp2
                exact ⟨rfl, Ext.refl _, rfl⟩
              · intro vals w1 hx hd ha
                have e3 : vals 3 = .bool true := hd 3 (by decide)
                clear hd ha
                simp only [Lf, dstAt, Act.put, List.getElem?_toArray, List.getElem?_cons_zero, List.getElem?_cons_succ, Option.bind_some, List.setIfInBounds_toArray, List.set_cons_zero, List.set_cons_succ]
                simp only [e3]
                clear e3
                go_wp2
                exact ⟨rfl, Ext.refl _, rfl⟩
              · intro vals w1 hx hd ha
                have e3 : vals 3 = .bool true := hd 3 (by decide)
                clear hd ha
                simp only [Lf, dstAt, Act.put, List.getElem?_toArray, List.getElem?_cons_zero, List.getElem?_cons_succ, Option.bind_some, List.setIfInBounds_toArray, List.set_cons_zero, List.set_cons_succ]
                simp only [e3]
                clear e3
                go_wp2
                exact ⟨rfl, Ext.refl _, rfl⟩
              · intro vals w1 hx hd ha
                have e3 : vals 3 = .bool true := hd 3 (by decide)
                clear hd ha
                simp only [Lf, dstAt, Act.put, List.getElem?_toArray, List.getElem?_cons_zero, List.getElem?_cons_succ, Option.bind_some, List.setIfInBounds_toArray, List.set_cons_zero, List.set_cons_succ]
                simp only [e3]
                clear e3
                go_wp2
                exact ⟨rfl, Ext.refl _, rfl⟩
              · intro vals w1 hx hd ha
                have e3 : vals 3 = .bool true := hd 3 (by decide)
                have e5 : vals 5 = .slice (some ⟨g, 0, none⟩) n c := hd 5 (by decide)
                have e6 : vals 6 = .int .i64 (j : Int) := hd 6 (by decide)
                clear hd ha
                simp only [Lf, dstAt, Act.put, List.getElem?_toArray, List.getElem?_cons_zero, List.getElem?_cons_succ, Option.bind_some, List.setIfInBounds_toArray, List.set_cons_zero, List.set_cons_succ]
                simp only [e3, e5, e6]
                clear e3 e5 e6
                go_wp2
                exact ⟨rfl, Ext.refl _, rfl⟩
              · intro vals w1 hx hd ha
                have e3 : vals 3 = .bool true := hd 3 (by decide)
                have e7 : vals 7 = .pointer (some ⟨g, j * 4, none⟩) := hd 7 (by decide)
                clear hd ha
                simp only [Lf, dstAt, Act.put, List.getElem?_toArray, List.getElem?_cons_zero, List.getElem?_cons_succ, Option.bind_some, List.setIfInBounds_toArray, List.set_cons_zero, List.set_cons_succ]
                simp only [e3]
                simp only [e7]
                clear e3 e7
                refine wpList_load_stg rfl _ _ rfl g (j * 4) rfl X (plcCells x) HX.out _ (RA.range2 hX_ hx.undrew) Try.underlying83 rfl plc_size ?_
                go_wp2
                exact ⟨rfl, Ext.refl _, rfl⟩
              · intro vals w1 hx hd ha
                have e3 : vals 3 = .bool true := hd 3 (by decide)
                clear hd ha
                simp only [Lf, dstAt, Act.put, List.getElem?_toArray, List.getElem?_cons_zero, List.getElem?_cons_succ, Option.bind_some, List.setIfInBounds_toArray, List.set_cons_zero, List.set_cons_succ]
                simp only [e3]
                clear e3
                go_wp2
                exact ⟨rfl, Ext.refl _, rfl⟩
              · intro vals w1 hx hd ha
                have e3 : vals 3 = .bool true := hd 3 (by decide)
                clear hd ha
                simp only [Lf, dstAt, Act.put, List.getElem?_toArray, List.getElem?_cons_zero, List.getElem?_cons_succ, Option.bind_some, List.setIfInBounds_toArray, List.set_cons_zero, List.set_cons_succ]
                simp only [e3]
                clear e3
                go_wp2
                exact ⟨rfl, Ext.refl _, rfl⟩
              · intro vals w1 hx hd ha
                have e3 : vals 3 = .bool true := hd 3 (by decide)
                have e10 : vals 10 = .int .i64 (j : Int) := hd 10 (by decide)
                clear hd ha
                simp only [Lf, dstAt, Act.put, List.getElem?_toArray, List.getElem?_cons_zero, List.getElem?_cons_succ, Option.bind_some, List.setIfInBounds_toArray, List.set_cons_zero, List.set_cons_succ]
                simp only [e3, e10]
                clear e3 e10
                go_wp2
                exact ⟨rfl, Ext.refl _, rfl⟩
              · intro vals w1 hx hd ha
                have e3 : vals 3 = .bool true := hd 3 (by decide)
                have e9 : vals 9 = .slice (some ⟨g, 0, none⟩) n c := hd 9 (by decide)
                have e11 : vals 11 = .int .i64 ((j : Int) - 1) := hd 11 (by decide)
                clear hd ha
                simp only [Lf, dstAt, Act.put, List.getElem?_toArray, List.getElem?_cons_zero, List.getElem?_cons_succ, Option.bind_some, List.setIfInBounds_toArray, List.set_cons_zero, List.set_cons_succ]
                simp only [e3, e9, e11]
                clear e3 e9 e11
                go_wp2
                exact ⟨rfl, Ext.refl _, rfl⟩
              · intro vals w1 hx hd ha
                have e3 : vals 3 = .bool true := hd 3 (by decide)
                have e12 : vals 12 = .pointer (some ⟨g, (j - 1) * 4, none⟩) := hd 12 (by decide)
                clear hd ha
                simp only [Lf, dstAt, Act.put, List.getElem?_toArray, List.getElem?_cons_zero, List.getElem?_cons_succ, Option.bind_some, List.setIfInBounds_toArray, List.set_cons_zero, List.set_cons_succ]
                simp only [e3]
                simp only [e12]
                clear e3 e12
                refine wpList_load_stg rfl _ _ rfl g ((j - 1) * 4) rfl Y (plcCells y) HY.out _ (RA.range2 hY_ hx.undrew) Try.underlying83 rfl plc_size ?_
                go_wp2
                exact ⟨rfl, Ext.refl _, rfl⟩
              · intro vals w1 hx hd ha
                have e3 : vals 3 = .bool true := hd 3 (by decide)
                have e4 : vals 4 = .func (.func K) #[] caps := hd 4 (by decide)
                have e8 : vals 8 = .agg X := hd 8 (by decide)
                have e13 : vals 13 = .agg Y := hd 13 (by decide)
                clear hd ha
                simp only [Lf, dstAt, Act.put, List.getElem?_toArray, List.getElem?_cons_zero, List.getElem?_cons_succ, Option.bind_some, List.setIfInBounds_toArray, List.set_cons_zero, List.set_cons_succ]
                simp only [e3]
                simp only [e4]
                simp only [e8]
                simp only [e13]
                clear e3 e4 e8 e13
                go_wp2_with fail
                refine (HC.out _ hx.undrew).mono ?_
                rintro e w2 ⟨rfl, hb2⟩
                go_wp2
                exact ⟨rfl, hb2, rfl⟩
              · intro vals w1 hx hd ha
                have e3 : vals 3 = .bool true := hd 3 (by decide)
                have e14 : vals 14 = .int .i64 v_ := hd 14 (by decide)
                clear hd ha
                simp only [Lf, dstAt, Act.put, List.getElem?_toArray, List.getElem?_cons_zero, List.getElem?_cons_succ, Option.bind_some, List.setIfInBounds_toArray, List.set_cons_zero, List.set_cons_succ]
                simp only [e3, e14]
                clear e3 e14
                go_wp2
                exact ⟨rfl, Ext.refl _, rfl⟩
              · intro vals w1 hx hd ha
                have e3 : vals 3 = .bool true := hd 3 (by decide)
                have e15 : vals 15 = .bool (decide (v_ < 0)) := hd 15 (by decide)
                clear hd ha
                simp only [Lf, dstAt, Act.put, List.getElem?_toArray, List.getElem?_cons_zero, List.getElem?_cons_succ, Option.bind_some, List.setIfInBounds_toArray, List.set_cons_zero, List.set_cons_succ]
                simp only [e3, e15]
                clear e3 e15
                go_wp2
                exact ⟨rfl, Ext.refl _, rfl⟩
            intro vals w5 hx5 hf
            have e16 : vals 16 = .bool (decide (v_ < 0)) := hf 16 (by omega)
            clear hf
            have hx5 := hx5.undrew
            refine tail0 (by kernel_rfl) ?_
            simp only [Lf, dstAt, Act.put, List.getElem?_toArray, List.getElem?_cons_zero, List.getElem?_cons_succ, Option.bind_some, List.setIfInBounds_toArray, List.set_cons_zero, List.set_cons_succ]
            rw [e16]
            clear e16
            have hX5 := RA.range2 hX_ hx5
            have hY5 := RA.range2 hY_ hx5
            have hR5 := HROW.out.ext hx5
            have hG5 : wo.grownBy w5 (some g) := gb_trans HG1.out (grown_ext hx5)
            have HR5 := Lib.hid hR5
            have HG5 := Lib.hid hG5
            have HX5 := Lib.hid hX5
            have HY5 := Lib.hid hY5
            clear hX_ hY_ hX5 hY5 hR5 hG5 hx5 HROW HG1 HR1
            by_cases hv0 : v_ < 0
            · have hd : decide (v_ < 0) = true := by simpa using hv0
              have hkd2 : (1 : Int) ≤ j := by omega
              go_wp2_with fail
              have hX_ := HX5.out
              have hY_ := HY5.out
              refine wp_region_pre 15 [(2, .slice (some ⟨g, 0, none⟩) n c), (3, .int .i64 (j : Int)), (4, .int .i64 ((j : Int) - 1))] (fun ix vals v w1 => match ix with | 0 => v = .slice (some ⟨g, 0, none⟩) n c | 1 => v = .int .i64 (j : Int) | 2 => v = .slice (some ⟨g, 0, none⟩) n c | 3 => v = .int .i64 (j : Int) | 4 => v = .int .i64 ((j : Int) - 1) | 5 => v = .slice (some ⟨g, 0, none⟩) n c | 6 => v = .int .i64 (j : Int) | 7 => v = .int .i64 ((j : Int) - 1) | 8 => v = .pointer (some ⟨g, (j - 1) * 4, none⟩) | 9 => v = .agg Y | 10 => v = .slice (some ⟨g, 0, none⟩) n c | 11 => v = .int .i64 (j : Int) | 12 => v = .pointer (some ⟨g, j * 4, none⟩) | 13 => v = .agg X | _ => v = .pointer (some ⟨g, j * 4, none⟩)) (by kernel_rfl) (by kernel_rfl) (by kernel_rfl) (by kernel_rfl) (by kernel_rfl) ?_ ?_ ?_ ?_ ?_ ?_
              · refine ⟨⟨_, rfl, by kernel_rfl, by kernel_rfl, yields_move rfl rfl rfl⟩, ⟨_, rfl, by kernel_rfl, by kernel_rfl, yields_move rfl rfl rfl⟩, ⟨_, rfl, by kernel_rfl, by kernel_rfl, yields_sub rfl rfl rfl rfl hki⟩, trivial⟩
              · intro j hj vals w1
                simp only [List.map_cons, List.map_nil, List.mem_cons, List.not_mem_nil, or_false] at hj
                rcases hj with rfl | rfl | rfl <;> rfl
              · intro ix vals v w1 w2 hi hr hx
                match ix, hr with
                | 0, hr => exact hr
                | 1, hr => exact hr
                | 2, hr => exact hr
                | 3, hr => exact hr
                | 4, hr => exact hr
                | 5, hr => exact hr
                | 6, hr => exact hr
                | 7, hr => exact hr
                | 8, hr => exact hr
                | 9, hr => exact hr
                | 10, hr => exact hr
                | 11, hr => exact hr
                | 12, hr => exact hr
                | 13, hr => exact hr
                | (kx + 14), hr => exact hr
              · intro ix vals vals_ v w1 hi hv hr
                exact hr
              · refine ⟨?_, ?_, ?_, ?_, ?_, ?_, ?_, ?_, ?_, ?_, ?_, ?_, ?_, ?_, ?_, trivial⟩
                · intro vals w1 hx hd ha
                  clear hd ha
                  simp only [Lf]
                  go_wp2
                  exact ⟨rfl, Ext.refl _, rfl⟩
                · intro vals w1 hx hd ha
                  clear hd ha
                  simp only [Lf, dstAt, Act.put, List.getElem?_toArray, List.getElem?_cons_zero, Option.bind_some, List.setIfInBounds_toArray, List.set_cons_zero, List.set_cons_succ]
                  go_wp2
                  exact ⟨rfl, Ext.refl _, rfl⟩
                · intro vals w1 hx hd ha
                  clear hd ha
                  simp only [Lf, dstAt, Act.put, List.getElem?_toArray, List.getElem?_cons_zero, List.getElem?_cons_succ, Option.bind_some, List.setIfInBounds_toArray, List.set_cons_zero, List.set_cons_succ]
                  go_wp2
                  exact ⟨rfl, Ext.refl _, rfl⟩
                · intro vals w1 hx hd ha
                  clear hd ha
                  simp only [Lf, dstAt, Act.put, List.getElem?_toArray, List.getElem?_cons_zero, List.getElem?_cons_succ, Option.bind_some, List.setIfInBounds_toArray, List.set_cons_zero, List.set_cons_succ]
                  go_wp2
                  exact ⟨rfl, Ext.refl _, rfl⟩
                · intro vals w1 hx hd ha
                  have e3 : vals 3 = .int .i64 (j : Int) := hd 3 (by decide)
                  clear hd ha
                  simp only [Lf, dstAt, Act.put, List.getElem?_toArray, List.getElem?_cons_zero, List.getElem?_cons_succ, Option.bind_some, List.setIfInBounds_toArray, List.set_cons_zero, List.set_cons_succ]
                  simp only [e3]
                  clear e3
                  go_wp2
                  exact ⟨rfl, Ext.refl _, rfl⟩
                · intro vals w1 hx hd ha
                  clear hd ha
                  simp only [Lf, dstAt, Act.put, List.getElem?_toArray, List.getElem?_cons_zero, List.getElem?_cons_succ, Option.bind_some, List.setIfInBounds_toArray, List.set_cons_zero, List.set_cons_succ]
                  go_wp2
                  exact ⟨rfl, Ext.refl _, rfl⟩
                · intro vals w1 hx hd ha
                  clear hd ha
                  simp only [Lf, dstAt, Act.put, List.getElem?_toArray, List.getElem?_cons_zero, List.getElem?_cons_succ, Option.bind_some, List.setIfInBounds_toArray, List.set_cons_zero, List.set_cons_succ]
                  go_wp2
                  exact ⟨rfl, Ext.refl _, rfl⟩
                · intro vals w1 hx hd ha
                  have e6 : vals 6 = .int .i64 (j : Int) := hd 6 (by decide)
                  clear hd ha
                  simp only [Lf, dstAt, Act.put, List.getElem?_toArray, List.getElem?_cons_zero, List.getElem?_cons_succ, Option.bind_some, List.setIfInBounds_toArray, List.set_cons_zero, List.set_cons_succ]
                  simp only [e6]
                  clear e6
                  go_wp2
                  exact ⟨rfl, Ext.refl _, rfl⟩
                · intro vals w1 hx hd ha
                  have e5 : vals 5 = .slice (some ⟨g, 0, none⟩) n c := hd 5 (by decide)
                  have e7 : vals 7 = .int .i64 ((j : Int) - 1) := hd 7 (by decide)
                  clear hd ha
                  simp only [Lf, dstAt, Act.put, List.getElem?_toArray, List.getElem?_cons_zero, List.getElem?_cons_succ, Option.bind_some, List.setIfInBounds_toArray, List.set_cons_zero, List.set_cons_succ]
                  simp only [e5, e7]
                  clear e5 e7
                  go_wp2
                  exact ⟨rfl, Ext.refl _, rfl⟩
                · intro vals w1 hx hd ha
                  have e8 : vals 8 = .pointer (some ⟨g, (j - 1) * 4, none⟩) := hd 8 (by decide)
                  clear hd ha
                  simp only [Lf, dstAt, Act.put, List.getElem?_toArray, List.getElem?_cons_zero, List.getElem?_cons_succ, Option.bind_some, List.setIfInBounds_toArray, List.set_cons_zero, List.set_cons_succ]
                  simp only [e8]
                  clear e8
                  refine wpList_load_st rfl _ _ rfl g ((j - 1) * 4) rfl Y (plcCells y) HY.out _ (RA.range2 hY_ hx.undrew) Try.underlying83 rfl plc_size ?_
                  go_wp2
                  exact ⟨rfl, Ext.refl _, rfl⟩
                · intro vals w1 hx hd ha
                  clear hd ha
                  simp only [Lf, dstAt, Act.put, List.getElem?_toArray, List.getElem?_cons_zero, List.getElem?_cons_succ, Option.bind_some, List.setIfInBounds_toArray, List.set_cons_zero, List.set_cons_succ]
                  go_wp2
                  exact ⟨rfl, Ext.refl _, rfl⟩
                · intro vals w1 hx hd ha
                  clear hd ha
                  simp only [Lf, dstAt, Act.put, List.getElem?_toArray, List.getElem?_cons_zero, List.getElem?_cons_succ, Option.bind_some, List.setIfInBounds_toArray, List.set_cons_zero, List.set_cons_succ]
                  go_wp2
                  exact ⟨rfl, Ext.refl _, rfl⟩
                · intro vals w1 hx hd ha
                  have e10 : vals 10 = .slice (some ⟨g, 0, none⟩) n c := hd 10 (by decide)
                  have e11 : vals 11 = .int .i64 (j : Int) := hd 11 (by decide)
                  clear hd ha
                  simp only [Lf, dstAt, Act.put, List.getElem?_toArray, List.getElem?_cons_zero, List.getElem?_cons_succ, Option.bind_some, List.setIfInBounds_toArray, List.set_cons_zero, List.set_cons_succ]
                  simp only [e10, e11]
                  clear e10 e11
                  go_wp2
                  exact ⟨rfl, Ext.refl _, rfl⟩
                · intro vals w1 hx hd ha
                  have e12 : vals 12 = .pointer (some ⟨g, j * 4, none⟩) := hd 12 (by decide)
                  clear hd ha
                  simp only [Lf, dstAt, Act.put, List.getElem?_toArray, List.getElem?_cons_zero, List.getElem?_cons_succ, Option.bind_some, List.setIfInBounds_toArray, List.set_cons_zero, List.set_cons_succ]
                  simp only [e12]
                  clear e12
                  refine wpList_load_st rfl _ _ rfl g (j * 4) rfl X (plcCells x) HX.out _ (RA.range2 hX_ hx.undrew) Try.underlying83 rfl plc_size ?_
                  go_wp2
                  exact ⟨rfl, Ext.refl _, rfl⟩
                · intro vals w1 hx hd ha
                  have e0 : vals 0 = .slice (some ⟨g, 0, none⟩) n c := hd 0 (by decide)
                  have e1 : vals 1 = .int .i64 (j : Int) := hd 1 (by decide)
                  have e5 : vals 5 = .slice (some ⟨g, 0, none⟩) n c := hd 5 (by decide)
                  have e6 : vals 6 = .int .i64 (j : Int) := hd 6 (by decide)
                  have e7 : vals 7 = .int .i64 ((j : Int) - 1) := hd 7 (by decide)
                  have e8 : vals 8 = .pointer (some ⟨g, (j - 1) * 4, none⟩) := hd 8 (by decide)
                  have e9 : vals 9 = .agg Y := hd 9 (by decide)
                  have e13 : vals 13 = .agg X := hd 13 (by decide)
                  clear hd ha
                  simp only [Lf, dstAt, Act.put, List.getElem?_toArray, List.getElem?_cons_zero, List.getElem?_cons_succ, Option.bind_some, List.setIfInBounds_toArray, List.set_cons_zero, List.set_cons_succ]
                  simp only [e0, e1, e5, e6, e7, e8, e9, e13]
                  clear e0 e1 e5 e6 e7 e8 e9 e13
                  go_wp2
                  exact ⟨rfl, Ext.refl _, rfl⟩
              intro vals w6 hx6 hf
              have e2 : vals 2 = .slice (some ⟨g, 0, none⟩) n c := hf 2 (by omega)
              have e4 : vals 4 = .int .i64 ((j : Int) - 1) := hf 4 (by omega)
              have e9 : vals 9 = .agg Y := hf 9 (by omega)
              have e13 : vals 13 = .agg X := hf 13 (by omega)
              have e14 : vals 14 = .pointer (some ⟨g, j * 4, none⟩) := hf 14 (by omega)
              clear hf
              have hx6 := hx6.undrew
              have hR6 := HR5.out.ext hx6
              obtain ⟨hs1, hg1⟩ := hR6.store plc_len Q2.out y
              have ht1 := hR6.there plc_len Q2.out
              have hl1 : j - 1 < (((Pp ++ S1') ++ y :: x :: (S2 ++ T)).set j y).length := by simpa using Q1.out
              obtain ⟨hs2, hg2⟩ := hs1.store plc_len hl1 x
              have ht2 := hs1.there plc_len hl1
              rw [list_set2 (Pp ++ S1') (S2 ++ T) x y j (by have := HJ1.out; omega)] at hs2
              have hG6 : wo.grownBy ((w6.setCells g (j * 4) (plcCells y)).setCells g ((j - 1) * 4) (plcCells x)) (some g) := gb_trans (gb_trans HG5.out (grown_ext hx6)) (gb_trans hg1 hg2)
              have HT1 := Lib.hid ht1
              have HT2 := Lib.hid ht2
              have hs2' : RowG w0 plcCells 4 base 83 g n c ((w6.setCells g (j * 4) (plcCells y)).setCells g ((j - 1) * 4) (plcCells x)) (Pp ++ (S1' ++ x :: ((y :: S2) ++ T))) := by simpa using hs2
              have HS2 := Lib.hid hs2'
              have HG6 := Lib.hid hG6
              clear ht1 ht2 hs1 hg1 hs2 hg2 hs2' hG6 hR6 hl1 hX_ hY_ HX5 HY5 HR5 HG5
              refine tailF 15 _ _ 2 (by kernel_rfl) rfl ?_ (fun a w q => tailF 16 _ _ 1 (by kernel_rfl) rfl q (fun a w q => tail1 17 _ (by kernel_rfl) (by kernel_rfl) rfl q))
              simp only [Lf, dstAt, Act.put, List.getElem?_toArray, List.getElem?_cons_zero, List.getElem?_cons_succ, Option.bind_some, List.setIfInBounds_toArray, List.set_cons_zero, List.set_cons_succ]
              rw [e2, e4, e9, e13, e14]
              clear e2 e4 e9 e13 e14
              refine wpList_store_st rfl _ _ _ rfl g (j * 4) Y (plcCells y) HY.out rfl rfl HT1.out plc_size (by simp [plcCells, Value.oneCell']) ?_
              go_wp2_with (refine wpList_store_st rfl _ _ _ rfl g ((j - 1) * 4) X (plcCells x) HX.out rfl rfl HT2.out plc_size (by simp [plcCells, Value.oneCell']) ?_)
              refine Qn_of ?_
              generalize (w6.setCells g (j * 4) (plcCells y)).setCells g ((j - 1) * 4) (plcCells x) = w8 at HS2 HG6 ⊢
              have hA2 : ∀ z ∈ y :: S2, ltOf cv x z = true := by
                intro z hz
                rcases List.mem_cons.1 hz with rfl | hz
                · rw [ltOf, ← HV.out]; exact hd
                · exact HA.out z hz
              have HA2 := Lib.hid hA2
              have hss2 : S1' ++ y :: S2 = S := by rw [← HSS.out, HS1.out]; simp
              have HSS2 := Lib.hid hss2
              have hjj : j - 1 = a + S1'.length := by have h1 := HJ.out; rw [HS1.out] at h1; simp at h1; omega
              have HJJ := Lib.hid hjj
              clear hA2 hss2 hjj
              go_wp2
              go_roundw
              case rel => exact ⟨j - 1, S1', y :: S2, by omega, by omega, by rw [show ((j - 1 : Nat) : Int) = (j : Int) - 1 by omega], HJJ, HSS2, HA2, HS2, HG6⟩
              case measure => simp [intOf]; omega
            · have hd : decide (v_ < 0) = false := by simpa using hv0
              have hfin : RowG w0 plcCells 4 base 83 g n c w5 (insAt (ltOf cv) l a (k + 1)) := by
                have h := HR5.out
                rw [HN.out, ← HSS.out, HS1.out, insR_stop (ltOf cv) (S1' ++ [y]) S2 x (fun z hz => by simp at hz; subst hz; rw [ltOf, ← HV.out]; exact hd) HA.out]
                simpa using h
              have HFIN := Lib.hid hfin
              have HG7 := Lib.hid (gb_trans HG.out HG5.out)
              clear hfin
              go_wp2
              go_roundw
              case rel => exact ⟨k + 1, by omega, by omega, by go_num, HFIN, HG7⟩
              case measure => simp [intOf]; omega
          · have hkd : decide (a < j) = false := by simpa using haj2
            have hS1 : S1 = [] := by
              have h1 := HJ.out
              exact List.eq_nil_of_length_eq_zero (by omega)
            have hfin : RowG w0 plcCells 4 base 83 g n c wi (insAt (ltOf cv) l a (k + 1)) := by
              have h := HR1.out
              rw [HN.out, ← HSS.out, hS1, insR_stop (ltOf cv) [] S2 x (fun z hz => by simp at hz) HA.out]
              rw [hS1] at h
              simpa using h
            have hgf := gb_trans HG.out HG1.out
            have HF0 := Lib.hid hfin
            have HG0 := Lib.hid hgf
            clear hS1 hfin hgf HR1 HG1
            go_wp2_with fail
            refine wp_region_obl 17 (fun ix vals v w1 => match ix with | 0 => v = .int .i64 (j : Int) | 1 => v = .int .i64 (a : Int) | 2 => v = .bool false | 3 => v = .bool false | 4 => v = undef | 5 => v = undef | 6 => v = undef | 7 => v = undef | 8 => v = undef | 9 => v = undef | 10 => v = undef | 11 => v = undef | 12 => v = undef | 13 => v = undef | 14 => v = undef | 15 => v = undef | _ => v = .bool false) (by kernel_rfl) (by kernel_rfl) ?_ ?_ ?_ ?_
            · intro ix vals v w1 w2 hi hr hx
              match ix, hr with
              | 0, hr => exact hr
              | 1, hr => exact hr
              | 2, hr => exact hr
              | 3, hr => exact hr
              | 4, hr => exact hr
              | 5, hr => exact hr
              | 6, hr => exact hr
              | 7, hr => exact hr
              | 8, hr => exact hr
              | 9, hr => exact hr
              | 10, hr => exact hr
              | 11, hr => exact hr
              | 12, hr => exact hr
              | 13, hr => exact hr
              | 14, hr => exact hr
              | 15, hr => exact hr
              | (kx + 16), hr => exact hr
            · intro ix vals vals_ v w1 hi hv hr
              exact hr
            · refine ⟨?_, ?_, ?_, ?_, ?_, ?_, ?_, ?_, ?_, ?_, ?_, ?_, ?_, ?_, ?_, ?_, ?_, trivial⟩
              · intro vals w1 hx hd ha
                clear hd ha
                simp only [Lf]
                go_wp2
                exact ⟨rfl, Ext.refl _, rfl⟩
              · intro vals w1 hx hd ha
                clear hd ha
                simp only [Lf, dstAt, Act.put, List.getElem?_toArray, List.getElem?_cons_zero, Option.bind_some, List.setIfInBounds_toArray, List.set_cons_zero, List.set_cons_succ]
                go_wp2
                exact ⟨rfl, Ext.refl _, rfl⟩
              · intro vals w1 hx hd ha
                have e0 : vals 0 = .int .i64 (j : Int) := hd 0 (by decide)
                have e1 : vals 1 = .int .i64 (a : Int) := hd 1 (by decide)
                clear hd ha
                simp only [Lf, dstAt, Act.put, List.getElem?_toArray, List.getElem?_cons_zero, List.getElem?_cons_succ, Option.bind_some, List.setIfInBounds_toArray, List.set_cons_zero, List.set_cons_succ]
                simp only [e0, e1]
                clear e0 e1
                go_wp2
                exact ⟨rfl, Ext.refl _, rfl⟩
              · intro vals w1 hx hd ha
                have e2 : vals 2 = .bool false := hd 2 (by decide)
                clear hd ha
                simp only [Lf, dstAt, Act.put, List.getElem?_toArray, List.getElem?_cons_zero, List.getElem?_cons_succ, Option.bind_some, List.setIfInBounds_toArray, List.set_cons_zero, List.set_cons_succ]
                simp only [e2]
                clear e2
                go_wp2
                exact ⟨rfl, Ext.refl _, rfl⟩
              · intro vals w1 hx hd ha
                have e3 : vals 3 = .bool false := hd 3 (by decide)
                clear hd ha
                simp only [Lf, dstAt, Act.put, List.getElem?_toArray, List.getElem?_cons_zero, List.getElem?_cons_succ, Option.bind_some, List.setIfInBounds_toArray, List.set_cons_zero, List.set_cons_succ]
                simp only [e3]
                clear e3
                go_wp2
                exact ⟨rfl, Ext.refl _, rfl⟩
              · intro vals w1 hx hd ha
                have e3 : vals 3 = .bool false := hd 3 (by decide)
                clear hd ha
                simp only [Lf, dstAt, Act.put, List.getElem?_toArray, List.getElem?_cons_zero, List.getElem?_cons_succ, Option.bind_some, List.setIfInBounds_toArray, List.set_cons_zero, List.set_cons_succ]
                simp only [e3]
                clear e3
                go_wp2
                exact ⟨rfl, Ext.refl _, rfl⟩
              · intro vals w1 hx hd ha
                have e3 : vals 3 = .bool false := hd 3 (by decide)
                clear hd ha
                simp only [Lf, dstAt, Act.put, List.getElem?_toArray, List.getElem?_cons_zero, List.getElem?_cons_succ, Option.bind_some, List.setIfInBounds_toArray, List.set_cons_zero, List.set_cons_succ]
                simp only [e3]
                clear e3
                go_wp2
                exact ⟨rfl, Ext.refl _, rfl⟩
              · intro vals w1 hx hd ha
                have e3 : vals 3 = .bool false := hd 3 (by decide)
                have e5 : vals 5 = undef := hd 5 (by decide)
                have e6 : vals 6 = undef := hd 6 (by decide)
                clear hd ha
                simp only [Lf, dstAt, Act.put, List.getElem?_toArray, List.getElem?_cons_zero, List.getElem?_cons_succ, Option.bind_some, List.setIfInBounds_toArray, List.set_cons_zero, List.set_cons_succ]
                simp only [e3, e5, e6]
                clear e3 e5 e6
                go_wp2
                exact ⟨rfl, Ext.refl _, rfl⟩
              · intro vals w1 hx hd ha
                have e3 : vals 3 = .bool false := hd 3 (by decide)
                have e7 : vals 7 = undef := hd 7 (by decide)
                clear hd ha
                simp only [Lf, dstAt, Act.put, List.getElem?_toArray, List.getElem?_cons_zero, List.getElem?_cons_succ, Option.bind_some, List.setIfInBounds_toArray, List.set_cons_zero, List.set_cons_succ]
                simp only [e3, e7]
                clear e3 e7
                go_wp2
                exact ⟨rfl, Ext.refl _, rfl⟩
              · intro vals w1 hx hd ha
                have e3 : vals 3 = .bool false := hd 3 (by decide)
                clear hd ha
                simp only [Lf, dstAt, Act.put, List.getElem?_toArray, List.getElem?_cons_zero, List.getElem?_cons_succ, Option.bind_some, List.setIfInBounds_toArray, List.set_cons_zero, List.set_cons_succ]
                simp only [e3]
                clear e3
                go_wp2
                exact ⟨rfl, Ext.refl _, rfl⟩
              · intro vals w1 hx hd ha
                have e3 : vals 3 = .bool false := hd 3 (by decide)
                clear hd ha
                simp only [Lf, dstAt, Act.put, List.getElem?_toArray, List.getElem?_cons_zero, List.getElem?_cons_succ, Option.bind_some, List.setIfInBounds_toArray, List.set_cons_zero, List.set_cons_succ]
                simp only [e3]
                clear e3
                go_wp2
                exact ⟨rfl, Ext.refl _, rfl⟩
              · intro vals w1 hx hd ha
                have e3 : vals 3 = .bool false := hd 3 (by decide)
                have e10 : vals 10 = undef := hd 10 (by decide)
                clear hd ha
                simp only [Lf, dstAt, Act.put, List.getElem?_toArray, List.getElem?_cons_zero, List.getElem?_cons_succ, Option.bind_some, List.setIfInBounds_toArray, List.set_cons_zero, List.set_cons_succ]
                simp only [e3, e10]
                clear e3 e10
                go_wp2
                exact ⟨rfl, Ext.refl _, rfl⟩
              · intro vals w1 hx hd ha
                have e3 : vals 3 = .bool false := hd 3 (by decide)
                have e9 : vals 9 = undef := hd 9 (by decide)
                have e11 : vals 11 = undef := hd 11 (by decide)
                clear hd ha
                simp only [Lf, dstAt, Act.put, List.getElem?_toArray, List.getElem?_cons_zero, List.getElem?_cons_succ, Option.bind_some, List.setIfInBounds_toArray, List.set_cons_zero, List.set_cons_succ]
                simp only [e3, e9, e11]
                clear e3 e9 e11
                go_wp2
                exact ⟨rfl, Ext.refl _, rfl⟩
              · intro vals w1 hx hd ha
                have e3 : vals 3 = .bool false := hd 3 (by decide)
                have e12 : vals 12 = undef := hd 12 (by decide)
                clear hd ha
                simp only [Lf, dstAt, Act.put, List.getElem?_toArray, List.getElem?_cons_zero, List.getElem?_cons_succ, Option.bind_some, List.setIfInBounds_toArray, List.set_cons_zero, List.set_cons_succ]
                simp only [e3, e12]
                clear e3 e12
                go_wp2
                exact ⟨rfl, Ext.refl _, rfl⟩
              · intro vals w1 hx hd ha
                have e3 : vals 3 = .bool false := hd 3 (by decide)
                have e4 : vals 4 = undef := hd 4 (by decide)
                have e8 : vals 8 = undef := hd 8 (by decide)
                have e13 : vals 13 = undef := hd 13 (by decide)
                clear hd ha
                simp only [Lf, dstAt, Act.put, List.getElem?_toArray, List.getElem?_cons_zero, List.getElem?_cons_succ, Option.bind_some, List.setIfInBounds_toArray, List.set_cons_zero, List.set_cons_succ]
                simp only [e3, e4, e8, e13]
                clear e3 e4 e8 e13
                go_wp2
                exact ⟨rfl, Ext.refl _, rfl⟩
              · intro vals w1 hx hd ha
                have e3 : vals 3 = .bool false := hd 3 (by decide)
                have e14 : vals 14 = undef := hd 14 (by decide)
                clear hd ha
                simp only [Lf, dstAt, Act.put, List.getElem?_toArray, List.getElem?_cons_zero, List.getElem?_cons_succ, Option.bind_some, List.setIfInBounds_toArray, List.set_cons_zero, List.set_cons_succ]
                simp only [e3, e14]
                clear e3 e14
                go_wp2
                exact ⟨rfl, Ext.refl _, rfl⟩
              · intro vals w1 hx hd ha
                have e3 : vals 3 = .bool false := hd 3 (by decide)
                have e15 : vals 15 = undef := hd 15 (by decide)
                clear hd ha
                simp only [Lf, dstAt, Act.put, List.getElem?_toArray, List.getElem?_cons_zero, List.getElem?_cons_succ, Option.bind_some, List.setIfInBounds_toArray, List.set_cons_zero, List.set_cons_succ]
                simp only [e3, e15]
                clear e3 e15
                go_wp2
                exact ⟨rfl, Ext.refl _, rfl⟩
            intro vals w5 hx5 hf
            have e16 : vals 16 = .bool false := hf 16 (by omega)
            clear hf
            have hx5 := hx5.undrew
            refine tail0 (by kernel_rfl) ?_
            simp only [Lf, dstAt, Act.put, List.getElem?_toArray, List.getElem?_cons_zero, List.getElem?_cons_succ, Option.bind_some, List.setIfInBounds_toArray, List.set_cons_zero, List.set_cons_succ]
            rw [e16]
            clear e16
            have HFIN := Lib.hid (HF0.out.ext hx5)
            have HG7 := Lib.hid (gb_trans HG0.out (grown_ext hx5))
            clear hx5
            go_wp2
            go_roundw
            case rel => exact ⟨k + 1, by omega, by omega, by go_num, HFIN, HG7⟩
            case measure => simp [intOf]; omega
      · go_wp2
        have hkb2 : k = b := by omega
        have HRB := HR.out
        rw [hkb2] at HRB
        have HRB := Lib.hid HRB
        clear hkb2
        go_end0
        exact ⟨rfl, HRB.out, HG.out⟩
  · obtain rfl : a = b := by omega
    have hr2 : insAt (ltOf cv) l a a = l := by simp [insAt, sortP]
    rw [hr2]
    have HR := Lib.hid hr
    clear hr hln hcmp hr2
    go_enter Try.func72, Try.ntmps72
    go_wp2
    go_loopw [8] (fun i wr => i = .int .i64 ((a : Int) + 1) ∧ wr = w) (fun _ _ => 0)
    case atStart => exact ⟨rfl, rfl⟩
    case round =>
      obtain ⟨rfl, rfl⟩ := hrel
      go_wp2
      go_end0
      exact ⟨rfl, HR.out, grown_refl _ _⟩

end Go.Proofs.Ytikphbgfcpamgaa
