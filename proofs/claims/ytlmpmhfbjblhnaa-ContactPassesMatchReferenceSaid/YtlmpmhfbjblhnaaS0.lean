/- The stable sort (printed by sort_merge.py). -/
import Derived.Test.YtlmpmhfbjblhnaaB1
import Derived.Test.YtlmpmhfbjblhnaaTn2
namespace Go.Proofs.Ytlmpmhfbjblhnaa
open Go.RowKit

section
variable {α : Type} {lt : α → α → Bool}
theorem list_at {α : Type} (Q : List α) (d : Nat) (h : d < Q.length) : ∃ Q1 z Q2, Q = Q1 ++ z :: Q2 ∧ Q1.length = d := by
  refine ⟨Q.take d, Q[d], Q.drop (d + 1), ?_, by simp; omega⟩
  rw [← List.drop_eq_getElem_cons h, List.take_append_drop]
theorem list_cut {α : Type} (Q : List α) (d : Nat) (h : d ≤ Q.length) : ∃ Q1 Q2, Q = Q1 ++ Q2 ∧ Q1.length = d := ⟨Q.take d, Q.drop d, (List.take_append_drop d Q).symm, by simp; omega⟩
theorem merge_one_l (x : α) (R1 R2 : List α) (h1 : ∀ y ∈ R1, lt y x = true) (h2 : ∀ y ∈ R2, lt y x = false) : mergeP lt [x] (R1 ++ R2) = R1 ++ x :: R2 := by
  have e1 := merge_split lt [] [x] R1 R2 (fun _ h => by cases h) (fun y hy z hz => by obtain rfl := List.mem_singleton.1 hz; exact h1 y hy)
  have e2 := merge_split lt [x] [] [] R2 (fun z hz y hy => by obtain rfl := List.mem_singleton.1 hz; exact h2 y hy) (fun _ h => by cases h)
  simp only [List.nil_append, List.append_nil, nil_mergeP, mergeP_nil] at e1 e2
  rw [e1, e2]
  rfl
theorem merge_one_r (y : α) (A1 A2 : List α) (h1 : ∀ x ∈ A1, lt y x = false) (h2 : ∀ x ∈ A2, lt y x = true) : mergeP lt (A1 ++ A2) [y] = A1 ++ y :: A2 := by
  have e1 := merge_split lt A1 A2 [] [y] (fun x hx z hz => by obtain rfl := List.mem_singleton.1 hz; exact h1 x hx) (fun _ h => by cases h)
  have e2 := merge_split lt [] A2 [y] [] (fun _ h => by cases h) (fun z hz x hx => by obtain rfl := List.mem_singleton.1 hz; exact h2 x hx)
  simp only [List.nil_append, List.append_nil, nil_mergeP, mergeP_nil] at e1 e2
  rw [e1, e2]
  rfl
theorem sw_irr (h : SW lt) (a : α) : lt a a = false := by
  cases e : lt a a
  · rfl
  · have h2 := h.asy _ _ e
    rw [e] at h2; exact h2
theorem srtd_mid {R1 Q1 Q2 R2 : List α} {z : α} (hs : Srtd lt (R1 ++ (Q1 ++ z :: Q2) ++ R2)) : (∀ y ∈ Q1, lt z y = false) ∧ (∀ y ∈ Q2, lt y z = false) ∧ (∀ y ∈ R1, lt z y = false) ∧ ∀ y ∈ R2, lt y z = false := by
  obtain ⟨h1, _, h2⟩ := srtd_append.1 hs
  obtain ⟨_, h3, h4⟩ := srtd_append.1 h1
  obtain ⟨_, h5, h6⟩ := srtd_append.1 h3
  exact ⟨fun y hy => h6 y hy z (by simp), fun y hy => h5.1 y hy, fun y hy => h4 y hy z (by simp), fun y hy => h2 z (by simp) y hy⟩
theorem s1_lt (h : SW lt) {R1 Q1 Q2 R2 : List α} {z x : α} (hs : Srtd lt (R1 ++ (Q1 ++ z :: Q2) ++ R2)) (hz : lt z x = true) (hR : ∀ y ∈ R1, lt y x = true) : ∀ y ∈ R1 ++ (Q1 ++ [z]), lt y x = true := by
  intro y hy
  rcases List.mem_append.1 hy with hy | hy
  · exact hR y hy
  rcases List.mem_append.1 hy with hy | hy
  · cases e : lt y x
    · have := h.ntr z y x ((srtd_mid hs).1 y hy) e
      rw [this] at hz; cases hz
    · rfl
  · obtain rfl := List.mem_singleton.1 hy; exact hz
theorem s1_ge (h : SW lt) {R1 Q1 Q2 R2 : List α} {z x : α} (hs : Srtd lt (R1 ++ (Q1 ++ z :: Q2) ++ R2)) (hz : lt z x = false) (hR : ∀ y ∈ R2, lt y x = false) : ∀ y ∈ (z :: Q2) ++ R2, lt y x = false := by
  intro y hy
  rcases List.mem_append.1 hy with hy | hy
  · rcases List.mem_cons.1 hy with rfl | hy
    · exact hz
    · exact h.ntr y z x ((srtd_mid hs).2.1 y hy) hz
  · exact hR y hy
theorem s2_ge (h : SW lt) {R1 Q1 Q2 R2 : List α} {z x : α} (hs : Srtd lt (R1 ++ (Q1 ++ z :: Q2) ++ R2)) (hz : lt x z = false) (hR : ∀ y ∈ R1, lt x y = false) : ∀ y ∈ R1 ++ (Q1 ++ [z]), lt x y = false := by
  intro y hy
  rcases List.mem_append.1 hy with hy | hy
  · exact hR y hy
  rcases List.mem_append.1 hy with hy | hy
  · exact h.ntr x z y hz ((srtd_mid hs).1 y hy)
  · obtain rfl := List.mem_singleton.1 hy; exact hz
theorem s2_lt (h : SW lt) {R1 Q1 Q2 R2 : List α} {z x : α} (hs : Srtd lt (R1 ++ (Q1 ++ z :: Q2) ++ R2)) (hz : lt x z = true) (hR : ∀ y ∈ R2, lt x y = true) : ∀ y ∈ (z :: Q2) ++ R2, lt x y = true := by
  intro y hy
  rcases List.mem_append.1 hy with hy | hy
  · rcases List.mem_cons.1 hy with rfl | hy
    · exact hz
    · cases e : lt x y
      · have := h.ntr x y z e ((srtd_mid hs).2.1 y hy)
        rw [this] at hz; cases hz
      · rfl
  · exact hR y hy
theorem s3_ge (h : SW lt) {A1 Q1 Q2 A2 B1 T1 T2 B2 : List α} {z y : α} (ha : Srtd lt (A1 ++ (Q1 ++ z :: Q2) ++ A2)) (hb : Srtd lt (B1 ++ (T1 ++ y :: T2) ++ B2)) (hz : lt y z = false) : ∀ u ∈ A1 ++ (Q1 ++ [z]), ∀ v ∈ (y :: T2) ++ B2, lt v u = false := by
  intro u hu v hv
  obtain ⟨a1, _, a3, _⟩ := srtd_mid ha
  obtain ⟨_, b2, _, b4⟩ := srtd_mid hb
  have h1 : lt z u = false := by
    rcases List.mem_append.1 hu with hu | hu
    · exact a3 u hu
    rcases List.mem_append.1 hu with hu | hu
    · exact a1 u hu
    · obtain rfl := List.mem_singleton.1 hu; exact sw_irr h _
  have h2 : lt v y = false := by
    rcases List.mem_append.1 hv with hv | hv
    · rcases List.mem_cons.1 hv with rfl | hv
      · exact sw_irr h _
      · exact b2 v hv
    · exact b4 v hv
  exact h.ntr v z u (h.ntr v y z h2 hz) h1
theorem s3_lt (h : SW lt) {A1 Q1 Q2 A2 B1 T1 T2 B2 : List α} {z y : α} (ha : Srtd lt (A1 ++ (Q1 ++ z :: Q2) ++ A2)) (hb : Srtd lt (B1 ++ (T1 ++ y :: T2) ++ B2)) (hz : lt y z = true) : ∀ v ∈ B1 ++ (T1 ++ [y]), ∀ u ∈ (z :: Q2) ++ A2, lt v u = true := by
  intro v hv u hu
  obtain ⟨_, a2, _, a4⟩ := srtd_mid ha
  obtain ⟨b1, _, b3, _⟩ := srtd_mid hb
  have h1 : lt u z = false := by
    rcases List.mem_append.1 hu with hu | hu
    · rcases List.mem_cons.1 hu with rfl | hu
      · exact sw_irr h _
      · exact a2 u hu
    · exact a4 u hu
  have h2 : lt y v = false := by
    rcases List.mem_append.1 hv with hv | hv
    · exact b3 v hv
    rcases List.mem_append.1 hv with hv | hv
    · exact b1 v hv
    · obtain rfl := List.mem_singleton.1 hv; exact sw_irr h _
  cases e : lt v u
  · have := h.ntr y v z h2 (h.ntr v u z e h1)
    rw [this] at hz; cases hz
  · rfl
theorem list_swap {α : Type} (P Q R : List α) (x y : α) (i j : Nat) (hi : i = P.length) (hj : j = P.length + 1 + Q.length) : ((P ++ x :: (Q ++ y :: R)).set i y).set j x = P ++ y :: (Q ++ x :: R) := by
  subst hi hj
  rw [List.set_append_right _ _ (Nat.le_refl _), Nat.sub_self, List.set_cons_zero, List.set_append_right _ _ (by omega), show P.length + 1 + Q.length - P.length = Q.length + 1 by omega, List.set_cons_succ, List.set_append_right _ _ (Nat.le_refl _), Nat.sub_self, List.set_cons_zero]
theorem list_mid2 {α : Type} (P Q R : List α) (x y : α) (j : Nat) (hj : j = P.length + 1 + Q.length) : ∃ h : j < (P ++ x :: (Q ++ y :: R)).length, (P ++ x :: (Q ++ y :: R))[j] = y := by
  have e : P ++ x :: (Q ++ y :: R) = (P ++ x :: Q) ++ y :: R := by simp
  obtain ⟨h1, h2⟩ := list_mid (P ++ x :: Q) R y j (by simp; omega)
  exact ⟨by rw [e]; exact h1, by simp only [e]; exact h2⟩
end
theorem yields_add {P : Program} {ops : Array Oper} {o : Oper} {a : Act} {t : TypeId} {x y : Operand} {p q r : Int} (ho : o.op = .binOp .add t x y t) (hg : o.guard = none) (hx : a.eval x = .int .i64 p) (hy : a.eval y = .int .i64 q) (hr : IntKind.i64.wrap (p + q) = r) : Yields P ops o (.int .i64 r) a :=
  .inl ⟨by simp [Region.wanted, hg], fun w => by
    simp only [execOp, ho, hx, hy]
    simp [go_sem, hr]⟩
end Go.Proofs.Ytlmpmhfbjblhnaa
namespace Go.Proofs.Ytlmpmhfbjblhnaa
open Go.RowKit

set_option maxHeartbeats 4000000 in
theorem swap_any (K : Nat) (caps : Array Value) (base g n c a b d : Nat) (P X M Y S : List Pas) (w : World) (ha : a = P.length) (hb : b = P.length + X.length + M.length) (hd : d = X.length) (hd2 : d = Y.length) (hn : n ≤ 1000000) (hr : RowS pasCells 6 base 47 g n c w (P ++ X ++ M ++ Y ++ S)) :
    Calls Try.prog 95 #[.slice (some ⟨g, 0, none⟩) n c, .int .i64 (a : Int), .int .i64 (b : Int), .int .i64 (d : Int), .func (.func K) #[] caps] w
      fun e w' => e = .returned (.tuple #[]) ∧ RowS pasCells 6 base 47 g n c w' (P ++ Y ++ M ++ X ++ S) ∧ w.grownBy w' (some g) := by
  have hc := hr.le
  have hln := hr.1
  have hbn : b + d ≤ n := by simp at hln; omega
  have HR0 := Lib.hid hr
  have HA := Lib.hid ha
  have HB := Lib.hid hb
  have HD := Lib.hid hd
  have HD2 := Lib.hid hd2
  have hab : a ≤ b := by omega
  have HG0 := Lib.hid (grown_refl w (some g))
  clear hr hln ha hb hd hd2
  go_enter Try.func95, Try.ntmps95
  go_wp2
  go_loopw [10] (fun i wr => ∃ (k : Nat) (X1 X2 Y1 Y2 : List Pas), k ≤ d ∧ i = .int .i64 k ∧ Hid (X = X1 ++ X2 ∧ Y = Y1 ++ Y2 ∧ X1.length = k ∧ Y1.length = k) ∧ Hid (RowS pasCells 6 base 47 g n c wr (P ++ Y1 ++ X2 ++ M ++ X1 ++ Y2 ++ S)) ∧ Hid (w.grownBy wr (some g))) (fun i _ => d - (intOf i).toNat)
  case atStart => exact ⟨0, [], X, [], Y, Nat.zero_le _, rfl, Lib.hid ⟨rfl, rfl, rfl, rfl⟩, Lib.hid (by simpa using HR0.out), HG0⟩
  case round =>
    clear HR0 HG0
    obtain ⟨k, X1, X2, Y1, Y2, hkd, rfl, HS, HR, HG⟩ := hrel
    obtain ⟨wi, hwi⟩ : ∃ wi : World, wi = wr := ⟨_, rfl⟩
    rw [← hwi] at HR HG ⊢
    clear hwi
    by_cases hlt : k < d
    · obtain ⟨x, X3, hX3⟩ : ∃ x X3, X2 = x :: X3 := by
        cases X2 with
        | nil => obtain ⟨h1, _, h3, _⟩ := HS.out; have := HD.out; rw [h1] at this; simp at this; omega
        | cons x X3 => exact ⟨x, X3, rfl⟩
      obtain ⟨y, Y3, hY3⟩ : ∃ y Y3, Y2 = y :: Y3 := by
        cases Y2 with
        | nil => obtain ⟨_, h1, _, h3⟩ := HS.out; have := HD2.out; rw [h1] at this; simp at this; omega
        | cons y Y3 => exact ⟨y, Y3, rfl⟩
      subst hX3 hY3
      have hrow : RowS pasCells 6 base 47 g n c wi ((P ++ Y1) ++ x :: ((X3 ++ M ++ X1) ++ y :: (Y3 ++ S))) := by simpa using HR.out
      have hi1 : a + k = (P ++ Y1).length := by obtain ⟨_, _, _, h4⟩ := HS.out; have := HA.out; simp; omega
      have hi2 : b + k = (P ++ Y1).length + 1 + (X3 ++ M ++ X1).length := by obtain ⟨h1, _, h3, h4⟩ := HS.out; have := HB.out; rw [h1] at this; simp at this ⊢; omega
      obtain ⟨q1, e1⟩ := list_mid (P ++ Y1) ((X3 ++ M ++ X1) ++ y :: (Y3 ++ S)) x (a + k) hi1
      obtain ⟨q2, e2⟩ := list_mid2 (P ++ Y1) (X3 ++ M ++ X1) (Y3 ++ S) x y (b + k) hi2
      have hX_ := hrow.range pas_len q1
      have hY_ := hrow.range pas_len q2
      rw [e1] at hX_
      rw [e2] at hY_
      obtain ⟨VX, hX⟩ : ∃ X, (pasCells x).toArray = X := ⟨_, rfl⟩
      obtain ⟨VY, hY⟩ : ∃ Y, (pasCells y).toArray = Y := ⟨_, rfl⟩
      have HX := Lib.hid hX
      have HY := Lib.hid hY
      have HROW := Lib.hid hrow
      have Q1 := Lib.hid q1
      have Q2 := Lib.hid q2
      have I1 := Lib.hid hi1
      have I2 := Lib.hid hi2
      clear hrow hi1 hi2 e1 e2 q1 q2 hX hY
      have hka : IntKind.i64.wrap ((a : Int) + (k : Int)) = (a : Int) + (k : Int) := IntWalk.i64_in _ (by omega)
      have hkb : IntKind.i64.wrap ((b : Int) + (k : Int)) = (b : Int) + (k : Int) := IntWalk.i64_in _ (by omega)
      have hna : ((a : Int) + (k : Int)).toNat = a + k := by omega
      have hnb : ((b : Int) + (k : Int)).toNat = b + k := by omega
      have hbk : b + k < n := by omega
      have hak : a + k < n := by omega
      go_wp2_with fail
      refine wp_region_pre 21 [(4, .slice (some ⟨g, 0, none⟩) n c), (5, .int .i64 (b : Int)), (6, .int .i64 (k : Int)), (7, .int .i64 ((b : Int) + (k : Int)))] (fun ix vals v w1 => match ix with | 0 => v = .slice (some ⟨g, 0, none⟩) n c | 1 => v = .int .i64 (a : Int) | 2 => v = .int .i64 (k : Int) | 3 => v = .int .i64 ((a : Int) + (k : Int)) | 4 => v = .slice (some ⟨g, 0, none⟩) n c | 5 => v = .int .i64 (b : Int) | 6 => v = .int .i64 (k : Int) | 7 => v = .int .i64 ((b : Int) + (k : Int)) | 8 => v = .slice (some ⟨g, 0, none⟩) n c | 9 => v = .int .i64 (b : Int) | 10 => v = .int .i64 (k : Int) | 11 => v = .int .i64 ((b : Int) + (k : Int)) | 12 => v = .pointer (some ⟨g, (b + k) * 6, none⟩) | 13 => v = .agg VY | 14 => v = .slice (some ⟨g, 0, none⟩) n c | 15 => v = .int .i64 (a : Int) | 16 => v = .int .i64 (k : Int) | 17 => v = .int .i64 ((a : Int) + (k : Int)) | 18 => v = .pointer (some ⟨g, (a + k) * 6, none⟩) | 19 => v = .agg VX | _ => v = .pointer (some ⟨g, (a + k) * 6, none⟩)) (by kernel_rfl) (by kernel_rfl) (by kernel_rfl) (by kernel_rfl) (by kernel_rfl) ?_ ?_ ?_ ?_ ?_ ?_
      · refine ⟨⟨_, rfl, by kernel_rfl, by kernel_rfl, yields_move rfl rfl rfl⟩, ⟨_, rfl, by kernel_rfl, by kernel_rfl, yields_move rfl rfl rfl⟩, ⟨_, rfl, by kernel_rfl, by kernel_rfl, yields_move rfl rfl rfl⟩, ⟨_, rfl, by kernel_rfl, by kernel_rfl, yields_add rfl rfl rfl rfl hkb⟩, trivial⟩
      · intro j hj vals w1
        simp only [List.map_cons, List.map_nil, List.mem_cons, List.not_mem_nil, or_false] at hj
        rcases hj with rfl | rfl | rfl | rfl <;> rfl
      · intro ix vals v w1 w2 hi hr hx
        match ix, hr with
        | 0, hr => exact hr
        | 1, hr => exact hr
        | 2, hr => exact hr
        | 3, hr => exact hr
        | 4, hr => exact hr
        | 5, hr => exact hr
        | 6, hr => exact hr
        | 7, hr => exact hr
        | 8, hr => exact hr
        | 9, hr => exact hr
        | 10, hr => exact hr
        | 11, hr => exact hr
        | 12, hr => exact hr
        | 13, hr => exact hr
        | 14, hr => exact hr
        | 15, hr => exact hr
        | 16, hr => exact hr
        | 17, hr => exact hr
        | 18, hr => exact hr
        | 19, hr => exact hr
        | (kx + 20), hr => exact hr
      · intro ix vals vals_ v w1 hi hv hr
        exact hr
      · refine ⟨?_, ?_, ?_, ?_, ?_, ?_, ?_, ?_, ?_, ?_, ?_, ?_, ?_, ?_, ?_, ?_, ?_, ?_, ?_, ?_, ?_, trivial⟩
        · intro vals w1 hx hd ha
          clear hd ha
          simp only [Lf]
          go_wp2
          exact ⟨rfl, Ext.refl _, rfl⟩
        · intro vals w1 hx hd ha
          clear hd ha
          simp only [Lf, dstAt, Act.put, List.getElem?_toArray, List.getElem?_cons_zero, Option.bind_some, List.setIfInBounds_toArray, List.set_cons_zero, List.set_cons_succ]
          go_wp2
          exact ⟨rfl, Ext.refl _, rfl⟩
        · intro vals w1 hx hd ha
          clear hd ha
          simp only [Lf, dstAt, Act.put, List.getElem?_toArray, List.getElem?_cons_zero, List.getElem?_cons_succ, Option.bind_some, List.setIfInBounds_toArray, List.set_cons_zero, List.set_cons_succ]
          go_wp2
          exact ⟨rfl, Ext.refl _, rfl⟩
        · intro vals w1 hx hd ha
          have e1 : vals 1 = .int .i64 (a : Int) := hd 1 (by decide)
          have e2 : vals 2 = .int .i64 (k : Int) := hd 2 (by decide)
          clear hd ha
          simp only [Lf, dstAt, Act.put, List.getElem?_toArray, List.getElem?_cons_zero, List.getElem?_cons_succ, Option.bind_some, List.setIfInBounds_toArray, List.set_cons_zero, List.set_cons_succ]
          simp only [e1, e2]
          clear e1 e2
          go_wp2
          exact ⟨rfl, Ext.refl _, rfl⟩
        · intro vals w1 hx hd ha
          clear hd ha
          simp only [Lf, dstAt, Act.put, List.getElem?_toArray, List.getElem?_cons_zero, List.getElem?_cons_succ, Option.bind_some, List.setIfInBounds_toArray, List.set_cons_zero, List.set_cons_succ]
          go_wp2
          exact ⟨rfl, Ext.refl _, rfl⟩
        · intro vals w1 hx hd ha
          clear hd ha
          simp only [Lf, dstAt, Act.put, List.getElem?_toArray, List.getElem?_cons_zero, List.getElem?_cons_succ, Option.bind_some, List.setIfInBounds_toArray, List.set_cons_zero, List.set_cons_succ]
          go_wp2
          exact ⟨rfl, Ext.refl _, rfl⟩
        · intro vals w1 hx hd ha
          clear hd ha
          simp only [Lf, dstAt, Act.put, List.getElem?_toArray, List.getElem?_cons_zero, List.getElem?_cons_succ, Option.bind_some, List.setIfInBounds_toArray, List.set_cons_zero, List.set_cons_succ]
          go_wp2
          exact ⟨rfl, Ext.refl _, rfl⟩
        · intro vals w1 hx hd ha
          have e5 : vals 5 = .int .i64 (b : Int) := hd 5 (by decide)
          have e6 : vals 6 = .int .i64 (k : Int) := hd 6 (by decide)
          clear hd ha
          simp only [Lf, dstAt, Act.put, List.getElem?_toArray, List.getElem?_cons_zero, List.getElem?_cons_succ, Option.bind_some, List.setIfInBounds_toArray, List.set_cons_zero, List.set_cons_succ]
          simp only [e5, e6]
          clear e5 e6
          go_wp2
          exact ⟨rfl, Ext.refl _, rfl⟩
        · intro vals w1 hx hd ha
          clear hd ha
          simp only [Lf, dstAt, Act.put, List.getElem?_toArray, List.getElem?_cons_zero, List.getElem?_cons_succ, Option.bind_some, List.setIfInBounds_toArray, List.set_cons_zero, List.set_cons_succ]
          go_wp2
          exact ⟨rfl, Ext.refl _, rfl⟩
        · intro vals w1 hx hd ha
          clear hd ha
          simp only [Lf, dstAt, Act.put, List.getElem?_toArray, List.getElem?_cons_zero, List.getElem?_cons_succ, Option.bind_some, List.setIfInBounds_toArray, List.set_cons_zero, List.set_cons_succ]
          go_wp2
          exact ⟨rfl, Ext.refl _, rfl⟩
        · intro vals w1 hx hd ha
          clear hd ha
          simp only [Lf, dstAt, Act.put, List.getElem?_toArray, List.getElem?_cons_zero, List.getElem?_cons_succ, Option.bind_some, List.setIfInBounds_toArray, List.set_cons_zero, List.set_cons_succ]
          go_wp2
          exact ⟨rfl, Ext.refl _, rfl⟩
        · intro vals w1 hx hd ha
          have e9 : vals 9 = .int .i64 (b : Int) := hd 9 (by decide)
          have e10 : vals 10 = .int .i64 (k : Int) := hd 10 (by decide)
          clear hd ha
          simp only [Lf, dstAt, Act.put, List.getElem?_toArray, List.getElem?_cons_zero, List.getElem?_cons_succ, Option.bind_some, List.setIfInBounds_toArray, List.set_cons_zero, List.set_cons_succ]
          simp only [e9, e10]
          clear e9 e10
          go_wp2
          exact ⟨rfl, Ext.refl _, rfl⟩
        · intro vals w1 hx hd ha
          have e8 : vals 8 = .slice (some ⟨g, 0, none⟩) n c := hd 8 (by decide)
          have e11 : vals 11 = .int .i64 ((b : Int) + (k : Int)) := hd 11 (by decide)
          clear hd ha
          simp only [Lf, dstAt, Act.put, List.getElem?_toArray, List.getElem?_cons_zero, List.getElem?_cons_succ, Option.bind_some, List.setIfInBounds_toArray, List.set_cons_zero, List.set_cons_succ]
          simp only [e8, e11]
          clear e8 e11
          go_wp2
          exact ⟨rfl, Ext.refl _, rfl⟩
        · intro vals w1 hx hd ha
          have e12 : vals 12 = .pointer (some ⟨g, (b + k) * 6, none⟩) := hd 12 (by decide)
          clear hd ha
          simp only [Lf, dstAt, Act.put, List.getElem?_toArray, List.getElem?_cons_zero, List.getElem?_cons_succ, Option.bind_some, List.setIfInBounds_toArray, List.set_cons_zero, List.set_cons_succ]
          simp only [e12]
          clear e12
          refine wpList_load_st rfl _ _ rfl g ((b + k) * 6) rfl VY (pasCells y) HY.out _ (RA.range2 hY_ hx.undrew) Try.underlying47 rfl pas_size ?_
          go_wp2
          exact ⟨rfl, Ext.refl _, rfl⟩
        · intro vals w1 hx hd ha
          clear hd ha
          simp only [Lf, dstAt, Act.put, List.getElem?_toArray, List.getElem?_cons_zero, List.getElem?_cons_succ, Option.bind_some, List.setIfInBounds_toArray, List.set_cons_zero, List.set_cons_succ]
          go_wp2
          exact ⟨rfl, Ext.refl _, rfl⟩
        · intro vals w1 hx hd ha
          clear hd ha
          simp only [Lf, dstAt, Act.put, List.getElem?_toArray, List.getElem?_cons_zero, List.getElem?_cons_succ, Option.bind_some, List.setIfInBounds_toArray, List.set_cons_zero, List.set_cons_succ]
          go_wp2
          exact ⟨rfl, Ext.refl _, rfl⟩
        · intro vals w1 hx hd ha
          clear hd ha
          simp only [Lf, dstAt, Act.put, List.getElem?_toArray, List.getElem?_cons_zero, List.getElem?_cons_succ, Option.bind_some, List.setIfInBounds_toArray, List.set_cons_zero, List.set_cons_succ]
          go_wp2
          exact ⟨rfl, Ext.refl _, rfl⟩
        · intro vals w1 hx hd ha
          have e15 : vals 15 = .int .i64 (a : Int) := hd 15 (by decide)
          have e16 : vals 16 = .int .i64 (k : Int) := hd 16 (by decide)
          clear hd ha
          simp only [Lf, dstAt, Act.put, List.getElem?_toArray, List.getElem?_cons_zero, List.getElem?_cons_succ, Option.bind_some, List.setIfInBounds_toArray, List.set_cons_zero, List.set_cons_succ]
          simp only [e15, e16]
          clear e15 e16
          go_wp2
          exact ⟨rfl, Ext.refl _, rfl⟩
        · intro vals w1 hx hd ha
          have e14 : vals 14 = .slice (some ⟨g, 0, none⟩) n c := hd 14 (by decide)
          have e17 : vals 17 = .int .i64 ((a : Int) + (k : Int)) := hd 17 (by decide)
          clear hd ha
          simp only [Lf, dstAt, Act.put, List.getElem?_toArray, List.getElem?_cons_zero, List.getElem?_cons_succ, Option.bind_some, List.setIfInBounds_toArray, List.set_cons_zero, List.set_cons_succ]
          simp only [e14, e17]
          clear e14 e17
          go_wp2
          exact ⟨rfl, Ext.refl _, rfl⟩
        · intro vals w1 hx hd ha
          have e18 : vals 18 = .pointer (some ⟨g, (a + k) * 6, none⟩) := hd 18 (by decide)
          clear hd ha
          simp only [Lf, dstAt, Act.put, List.getElem?_toArray, List.getElem?_cons_zero, List.getElem?_cons_succ, Option.bind_some, List.setIfInBounds_toArray, List.set_cons_zero, List.set_cons_succ]
          simp only [e18]
          clear e18
          refine wpList_load_st rfl _ _ rfl g ((a + k) * 6) rfl VX (pasCells x) HX.out _ (RA.range2 hX_ hx.undrew) Try.underlying47 rfl pas_size ?_
          go_wp2
          exact ⟨rfl, Ext.refl _, rfl⟩
        · intro vals w1 hx hd ha
          have e0 : vals 0 = .slice (some ⟨g, 0, none⟩) n c := hd 0 (by decide)
          have e1 : vals 1 = .int .i64 (a : Int) := hd 1 (by decide)
          have e2 : vals 2 = .int .i64 (k : Int) := hd 2 (by decide)
          have e3 : vals 3 = .int .i64 ((a : Int) + (k : Int)) := hd 3 (by decide)
          have e8 : vals 8 = .slice (some ⟨g, 0, none⟩) n c := hd 8 (by decide)
          have e9 : vals 9 = .int .i64 (b : Int) := hd 9 (by decide)
          have e10 : vals 10 = .int .i64 (k : Int) := hd 10 (by decide)
          have e11 : vals 11 = .int .i64 ((b : Int) + (k : Int)) := hd 11 (by decide)
          have e12 : vals 12 = .pointer (some ⟨g, (b + k) * 6, none⟩) := hd 12 (by decide)
          have e13 : vals 13 = .agg VY := hd 13 (by decide)
          have e19 : vals 19 = .agg VX := hd 19 (by decide)
          clear hd ha
          simp only [Lf, dstAt, Act.put, List.getElem?_toArray, List.getElem?_cons_zero, List.getElem?_cons_succ, Option.bind_some, List.setIfInBounds_toArray, List.set_cons_zero, List.set_cons_succ]
          simp only [e0, e1, e2, e3, e8, e9, e10, e11, e12, e13, e19]
          clear e0 e1 e2 e3 e8 e9 e10 e11 e12 e13 e19
          go_wp2
          exact ⟨rfl, Ext.refl _, rfl⟩
      intro vals w6 hx6 hf
      have e4 : vals 4 = .slice (some ⟨g, 0, none⟩) n c := hf 4 (by omega)
      have e7 : vals 7 = .int .i64 ((b : Int) + (k : Int)) := hf 7 (by omega)
      have e13 : vals 13 = .agg VY := hf 13 (by omega)
      have e19 : vals 19 = .agg VX := hf 19 (by omega)
      have e20 : vals 20 = .pointer (some ⟨g, (a + k) * 6, none⟩) := hf 20 (by omega)
      clear hf
      have hx6 := hx6.undrew
      have hR6 := HROW.out.ext hx6
      obtain ⟨hs1, hg1⟩ := hR6.store pas_len Q1.out y
      have ht1 := hR6.there pas_len Q1.out
      have hl1 : b + k < (((P ++ Y1) ++ x :: ((X3 ++ M ++ X1) ++ y :: (Y3 ++ S))).set (a + k) y).length := by rw [List.length_set]; exact Q2.out
      obtain ⟨hs2, hg2⟩ := hs1.store pas_len hl1 x
      have ht2 := hs1.there pas_len hl1
      rw [list_swap (P ++ Y1) (X3 ++ M ++ X1) (Y3 ++ S) x y (a + k) (b + k) I1.out I2.out] at hs2
      have hG6 : w.grownBy ((w6.setCells g ((a + k) * 6) (pasCells y)).setCells g ((b + k) * 6) (pasCells x)) (some g) := gb_trans (gb_trans HG.out (grown_ext hx6)) (gb_trans hg1 hg2)
      have HT1 := Lib.hid ht1
      have HT2 := Lib.hid ht2
      have HS2 := Lib.hid hs2
      have HG6 := Lib.hid hG6
      clear ht1 ht2 hs1 hg1 hs2 hg2 hG6 hR6 hl1 hX_ hY_ hx6
      refine tailF 21 _ _ 2 (by kernel_rfl) rfl ?_ (fun a w q => tailF 22 _ _ 1 (by kernel_rfl) rfl q (fun a w q => tail1 23 _ (by kernel_rfl) (by kernel_rfl) rfl q))
      simp only [Lf, dstAt, Act.put, List.getElem?_toArray, List.getElem?_cons_zero, List.getElem?_cons_succ, Option.bind_some, List.setIfInBounds_toArray, List.set_cons_zero, List.set_cons_succ]
      rw [e4, e7, e13, e19, e20]
      clear e4 e7 e13 e19 e20
      refine wpList_store_st rfl _ _ _ rfl g ((a + k) * 6) VY (pasCells y) HY.out rfl rfl HT1.out pas_size (by simp [pasCells, Value.oneCell']) ?_
      go_wp2_with (refine wpList_store_st rfl _ _ _ rfl g ((b + k) * 6) VX (pasCells x) HX.out rfl rfl HT2.out pas_size (by simp [pasCells, Value.oneCell']) ?_)
      refine Qn_of ?_
      generalize (w6.setCells g ((a + k) * 6) (pasCells y)).setCells g ((b + k) * 6) (pasCells x) = w8 at HS2 HG6 ⊢
      have HRN : Hid (RowS pasCells 6 base 47 g n c w8 (P ++ (Y1 ++ [y]) ++ X3 ++ M ++ (X1 ++ [x]) ++ Y3 ++ S)) := Lib.hid (by simpa using HS2.out)
      have HSN := HS.out
      have HSM : Hid (X = (X1 ++ [x]) ++ X3 ∧ Y = (Y1 ++ [y]) ++ Y3 ∧ (X1 ++ [x]).length = k + 1 ∧ (Y1 ++ [y]).length = k + 1) := Lib.hid (by obtain ⟨h1, h2, h3, h4⟩ := HSN; simp [h1, h2, h3, h4])
      clear HS HSN HS2 HROW HT1 HT2
      go_wp2
      go_roundw
      case rel => exact ⟨k + 1, X1 ++ [x], X3, Y1 ++ [y], Y3, by omega, by go_num, HSM, HRN, HG6⟩
      case measure => simp [intOf]; omega
    · have hfin : RowS pasCells 6 base 47 g n c wi (P ++ Y ++ M ++ X ++ S) := by
        obtain ⟨h1, h2, h3, h4⟩ := HS.out
        have hx0 : X2 = [] := List.eq_nil_of_length_eq_zero (by have := HD.out; rw [h1] at this; simp at this; omega)
        have hy0 : Y2 = [] := List.eq_nil_of_length_eq_zero (by have := HD2.out; rw [h2] at this; simp at this; omega)
        have h := HR.out
        rw [hx0, hy0] at h
        rw [h1, h2, hx0, hy0]
        simpa using h
      have HF := Lib.hid hfin
      clear hfin
      go_wp2
      go_end0
      exact ⟨rfl, HF.out, HG.out⟩

end Go.Proofs.Ytlmpmhfbjblhnaa
namespace Go.Proofs.Ytlmpmhfbjblhnaa
open Go.RowKit

set_option maxHeartbeats 4000000 in
theorem rotate_any (K : Nat) (caps : Array Value) (base g n c a m b : Nat) (P X Y S : List Pas) (w : World) (ha : a = P.length) (hm : m = a + X.length) (hb : b = m + Y.length) (hx0 : 0 < X.length) (hy0 : 0 < Y.length) (hn : n ≤ 1000000) (hr : RowS pasCells 6 base 47 g n c w (P ++ X ++ Y ++ S)) :
    Calls Try.prog 94 #[.slice (some ⟨g, 0, none⟩) n c, .int .i64 (a : Int), .int .i64 (m : Int), .int .i64 (b : Int), .func (.func K) #[] caps] w
      fun e w' => e = .returned (.tuple #[]) ∧ RowS pasCells 6 base 47 g n c w' (P ++ Y ++ X ++ S) ∧ w.grownBy w' (some g) := by
  have hln := hr.1
  have hbn : b ≤ n := by simp at hln; omega
  obtain ⟨T, hT⟩ : ∃ T, T = P ++ Y ++ X ++ S := ⟨_, rfl⟩
  rw [← hT]
  have HS0 : Hid (P.length + (m - a) = m ∧ X.length = m - a ∧ Y.length = b - m ∧ P ++ Y ++ X ++ S = T ∧ P.length + (m - a) + (b - m) + S.length = n) := Lib.hid ⟨by omega, by omega, by omega, hT.symm, by simp at hln; omega⟩
  have HR0 := Lib.hid hr
  have HG0 := Lib.hid (grown_refl w (some g))
  have hm2 : a < m := by omega
  have hb2 : m < b := by omega
  clear hr hln hT ha hm hb hx0 hy0
  have hwa : IntKind.i64.wrap ((m : Int) - (a : Int)) = (m : Int) - (a : Int) := IntWalk.i64_in _ (by omega)
  have hwb : IntKind.i64.wrap ((b : Int) - (m : Int)) = (b : Int) - (m : Int) := IntWalk.i64_in _ (by omega)
  go_enter Try.func94, Try.ntmps94
  go_wp2
  go_loopw [10, 11] (fun x y wr => ∃ (i j : Nat) (P' X' Y' S' : List Pas), 0 < i ∧ 0 < j ∧ x = .int .i64 i ∧ y = .int .i64 j ∧ Hid (P'.length + i = m ∧ X'.length = i ∧ Y'.length = j ∧ P' ++ Y' ++ X' ++ S' = T ∧ P'.length + i + j + S'.length = n) ∧ Hid (RowS pasCells 6 base 47 g n c wr (P' ++ X' ++ Y' ++ S')) ∧ Hid (w.grownBy wr (some g))) (fun x y _ => (intOf x).toNat + (intOf y).toNat)
  case atStart => exact ⟨m - a, b - m, P, X, Y, S, by omega, by omega, by rw [show ((m - a : Nat) : Int) = (m : Int) - (a : Int) by omega], by rw [show ((b - m : Nat) : Int) = (b : Int) - (m : Int) by omega], HS0, HR0, HG0⟩
  case round =>
    clear HR0 HG0 HS0 hwa hwb
    obtain ⟨i, j, P', X', Y', S', hi0, hj0, rfl, rfl, HS, HR, HG⟩ := hrel
    obtain ⟨wi, hwi⟩ : ∃ wi : World, wi = wr := ⟨_, rfl⟩
    rw [← hwi] at HR HG ⊢
    clear hwi
    have him : i ≤ m := by have := (HS.out).1; omega
    have hjn : m + j ≤ n := by have h := HS.out; omega
    have hw1 : IntKind.i64.wrap ((m : Int) - (i : Int)) = (m : Int) - (i : Int) := IntWalk.i64_in _ (by omega)
    have hw2 : IntKind.i64.wrap ((m : Int) + (j : Int)) = (m : Int) + (j : Int) := IntWalk.i64_in _ (by omega)
    have hw3 : IntKind.i64.wrap ((m : Int) + (j : Int) - (i : Int)) = (m : Int) + (j : Int) - (i : Int) := IntWalk.i64_in _ (by omega)
    have hw4 : IntKind.i64.wrap ((i : Int) - (j : Int)) = (i : Int) - (j : Int) := IntWalk.i64_in _ (by omega)
    have hw5 : IntKind.i64.wrap ((j : Int) - (i : Int)) = (j : Int) - (i : Int) := IntWalk.i64_in _ (by omega)
    by_cases hgt : j < i
    · skip
      have hlt2 : decide ((j : Int) < (i : Int)) = true := by simp; omega
      have hne : ((i : Int) != (j : Int)) = true := by simp; omega
      obtain ⟨X1, X2, hX, hX1⟩ := list_cut X' j (by have := (HS.out).2.1; omega)
      have hrow : RowS pasCells 6 base 47 g n c wi (P' ++ X1 ++ X2 ++ Y' ++ S') := by have h := HR.out; rw [hX] at h; simpa using h
      have hsw := swap_any K caps base g n c (m - i) m j P' X1 X2 Y' S' wi (by have := (HS.out).1; omega) (by have h1 := HS.out; rw [hX] at h1; simp at h1; omega) hX1.symm (HS.out).2.2.1.symm hn hrow
      rw [show ((m - i : Nat) : Int) = (m : Int) - (i : Int) by omega] at hsw
      have hS2 : (P' ++ Y').length + (i - j) = m ∧ X2.length = i - j ∧ X1.length = j ∧ (P' ++ Y') ++ X1 ++ X2 ++ S' = T ∧ (P' ++ Y').length + (i - j) + j + S'.length = n := by
        obtain ⟨h1, h2, h3, h4, h5⟩ := HS.out
        rw [hX] at h2 h4
        simp at h2 h4 ⊢
        exact ⟨by omega, by omega, hX1, h4, by omega⟩
      have HSW := Lib.hid hsw
      have HS2 := Lib.hid hS2
      clear hsw hrow hS2 HR HS hX hX1
      go_wp2_with fail
      refine HSW.out.mono ?_
      rintro e w2 ⟨rfl, h1, h2⟩
      have HRN : Hid (RowS pasCells 6 base 47 g n c w2 ((P' ++ Y') ++ X2 ++ X1 ++ S')) := Lib.hid (by simpa using h1)
      have HGN := Lib.hid (gb_trans HG.out h2)
      clear h1 h2 HSW HG
      go_wp2
      go_roundw
      case rel => exact ⟨i - j, j, P' ++ Y', X2, X1, S', by omega, by omega, by rw [show ((i - j : Nat) : Int) = (i : Int) - (j : Int) by omega], rfl, HS2, HRN, HGN⟩
      case measure => simp [intOf]; omega
    by_cases hlt : i < j
    · skip
      have hlt2 : decide ((j : Int) < (i : Int)) = false := by simp; omega
      have hne : ((i : Int) != (j : Int)) = true := by simp; omega
      obtain ⟨Y1, Y2, hY, hY1⟩ := list_cut Y' (j - i) (by have := (HS.out).2.2.1; omega)
      have hY2 : i = Y2.length := by have h1 := (HS.out).2.2.1; rw [hY] at h1; simp at h1; omega
      have hrow : RowS pasCells 6 base 47 g n c wi (P' ++ X' ++ Y1 ++ Y2 ++ S') := by have h := HR.out; rw [hY] at h; simpa using h
      have hsw := swap_any K caps base g n c (m - i) (m + j - i) i P' X' Y1 Y2 S' wi (by have := (HS.out).1; omega) (by have h1 := HS.out; omega) (HS.out).2.1.symm hY2 hn hrow
      rw [show ((m - i : Nat) : Int) = (m : Int) - (i : Int) by omega, show ((m + j - i : Nat) : Int) = (m : Int) + (j : Int) - (i : Int) by omega] at hsw
      have hS2 : P'.length + i = m ∧ Y2.length = i ∧ Y1.length = j - i ∧ P' ++ Y1 ++ Y2 ++ (X' ++ S') = T ∧ P'.length + i + (j - i) + (X' ++ S').length = n := by
        obtain ⟨h1, h2, h3, h4, h5⟩ := HS.out
        rw [hY] at h4
        simp at h4 ⊢
        exact ⟨h1, hY2.symm, hY1, h4, by omega⟩
      have HSW := Lib.hid hsw
      have HS2 := Lib.hid hS2
      clear hsw hrow hS2 HR HS hY hY1 hY2
      go_wp2_with fail
      refine HSW.out.mono ?_
      rintro e w2 ⟨rfl, h1, h2⟩
      have HRN : Hid (RowS pasCells 6 base 47 g n c w2 (P' ++ Y2 ++ Y1 ++ (X' ++ S'))) := Lib.hid (by simpa using h1)
      have HGN := Lib.hid (gb_trans HG.out h2)
      clear h1 h2 HSW HG
      go_wp2
      go_roundw
      case rel => exact ⟨i, j - i, P', Y2, Y1, X' ++ S', by omega, by omega, rfl, by rw [show ((j - i : Nat) : Int) = (j : Int) - (i : Int) by omega], HS2, HRN, HGN⟩
      case measure => simp [intOf]; omega
    · obtain rfl : i = j := by omega
      have hne : ((i : Int) != (i : Int)) = false := by simp
      have hrow : RowS pasCells 6 base 47 g n c wi (P' ++ X' ++ [] ++ Y' ++ S') := by simpa using HR.out
      have hsw := swap_any K caps base g n c (m - i) m i P' X' [] Y' S' wi (by have := (HS.out).1; omega) (by have h := HS.out; simp; omega) (HS.out).2.1.symm (HS.out).2.2.1.symm hn hrow
      rw [show ((m - i : Nat) : Int) = (m : Int) - (i : Int) by omega] at hsw
      have HSW := Lib.hid hsw
      clear hsw hrow HR
      go_wp2_with fail
      refine HSW.out.mono ?_
      rintro e w2 ⟨rfl, h1, h2⟩
      have HRN : Hid (RowS pasCells 6 base 47 g n c w2 (T)) := Lib.hid (by rw [← (HS.out).2.2.2.1]; simpa using h1)
      have HGN := Lib.hid (gb_trans HG.out h2)
      clear h1 h2
      go_wp2
      go_end0
      exact ⟨rfl, HRN.out, HGN.out⟩

end Go.Proofs.Ytlmpmhfbjblhnaa
namespace Go.Proofs.Ytlmpmhfbjblhnaa
open Go.RowKit

set_option maxHeartbeats 8000000 in
set_option maxRecDepth 100000 in
theorem sym_l (K : Nat) (caps : Array Value) (cv : Pas → Pas → Int) (eg : ∀ args w, (callFunc K args).run Try.prog w = .ok (.enter K args) w) (hcmp : CmpC K caps cv) (hsw : SW (ltOf cv)) (base g n c : Nat) (hn : n ≤ 1000000) (P Bl S : List Pas) (x : Pas) (a m b : Nat) (w : World) (ha : a = P.length) (hm : m = a + 1) (hb : b = m + Bl.length) (hs : Srtd (ltOf cv) Bl) (hr : RowS pasCells 6 base 47 g n c w (P ++ x :: (Bl ++ S))) :
    Calls Try.prog 92 #[.slice (some ⟨g, 0, none⟩) n c, .int .i64 (a : Int), .int .i64 (m : Int), .int .i64 (b : Int), .func (.func K) #[] caps] w
      fun e w' => e = .returned (.tuple #[]) ∧ RowS pasCells 6 base 47 g n c w' (P ++ mergeP (ltOf cv) [x] Bl ++ S) ∧ w.grownBy w' (some g) := by
  have hc := hr.le
  have hln := hr.1
  have hbn : b ≤ n := by simp at hln; omega
  obtain ⟨LL, hL⟩ : ∃ l, l = P ++ x :: (Bl ++ S) := ⟨_, rfl⟩
  rw [← hL] at hr
  have HRW := Lib.hid hr
  have HCMP := Lib.hid hcmp
  have HSW := Lib.hid hsw
  have HS := Lib.hid hs
  have HA := Lib.hid ha
  have HL0 := Lib.hid hL
  have h0 : Bl = [] ++ Bl ++ [] ∧ m + ([] : List Pas).length = m ∧ m + Bl.length = b := ⟨by simp, rfl, hb.symm⟩
  have H0 := Lib.hid h0
  have HE : Hid (∀ y ∈ ([] : List Pas), ltOf cv y x = true) := Lib.hid (fun _ h => by cases h)
  have HF : Hid (∀ y ∈ ([] : List Pas), ltOf cv y x = false) := Lib.hid (fun _ h => by cases h)
  have hmb : m ≤ b := by omega
  have hw0 : IntKind.i64.wrap ((m : Int) - (a : Int)) = (m : Int) - (a : Int) := IntWalk.i64_in _ (by omega)
  have he0 : ((m : Int) - (a : Int) == 1) = true := by simp; omega
  have HM := Lib.hid hm
  clear hr hcmp hsw hs hL ha hln hb h0 hm
  go_enter Try.func92, Try.ntmps92
  go_wp2
  clear hw0 he0
  go_loopw [10, 11] (fun u v wr => ∃ (i j : Nat) (R1 Q R2 : List Pas), m ≤ i ∧ i ≤ j ∧ j ≤ b ∧ u = .int .i64 i ∧ v = .int .i64 j ∧ Hid (Bl = R1 ++ Q ++ R2 ∧ m + R1.length = i ∧ i + Q.length = j) ∧ Hid (∀ y ∈ R1, ltOf cv y x = true) ∧ Hid (∀ y ∈ R2, ltOf cv y x = false) ∧ Ext w wr) (fun u v _ => (intOf v).toNat - (intOf u).toNat)
  case atStart => exact ⟨m, b, [], Bl, [], Nat.le_refl _, hmb, Nat.le_refl _, rfl, rfl, H0, HE, HF, Ext.refl _⟩
  case round =>
    clear H0 HE HF
    obtain ⟨i, j, R1, Q, R2, him, hij, hjb, rfl, rfl, HQ, HE, HF, hxw⟩ := hrel
    by_cases hlt : i < j
    · obtain ⟨h, hh⟩ : ∃ h, h = (i + j) / 2 := ⟨_, rfl⟩
      have em : ((i : Int) + (j : Int)) / 2 = ((h : Nat) : Int) := by omega
      have hh1 : i ≤ h := by omega
      have hh2 : h < j := by omega
      clear hh
      go_wp2_with fail
      clear em
      obtain ⟨Q1, z, Q2, hQ, hQ1⟩ := list_at Q (h - i) (by have := HQ.out; omega)
      have hq := HQ.out
      rw [hQ] at hq
      have HQ2 := Lib.hid hq
      have HL : Hid (LL = P ++ x :: ((R1 ++ (Q1 ++ z :: Q2) ++ R2) ++ S)) := Lib.hid (by rw [HL0.out, ← hq.1])
      have HQ1 := Lib.hid hQ1
      have eqa : LL = (P ++ x :: (R1 ++ Q1)) ++ z :: (Q2 ++ R2 ++ S) := by simp [HL.out]
      obtain ⟨qa, fqa⟩ := list_mid (P ++ x :: (R1 ++ Q1)) (Q2 ++ R2 ++ S) z h (by have h1 := HQ2.out; have h2 := HA.out; have h3 := HM.out; simp; omega)
      have hX_ : wr.rangeAt g (h * 6) (pasCells z) := by have h := (HRW.out.ext hxw).range pas_len (k := h) (by rw [eqa]; exact qa); simp only [eqa] at h; rw [fqa] at h; exact h
      obtain ⟨X, hhX⟩ : ∃ X, (pasCells z).toArray = X := ⟨_, rfl⟩
      have HX := Lib.hid hhX
      have eqb : LL = (P) ++ x :: ((R1 ++ (Q1 ++ z :: Q2) ++ R2) ++ S) := by simp [HL.out]
      obtain ⟨qb, fqb⟩ := list_mid (P) ((R1 ++ (Q1 ++ z :: Q2) ++ R2) ++ S) x a (HA.out)
      have hY_ : wr.rangeAt g (a * 6) (pasCells x) := by have h := (HRW.out.ext hxw).range pas_len (k := a) (by rw [eqb]; exact qb); simp only [eqb] at h; rw [fqb] at h; exact h
      obtain ⟨Y, hhY⟩ : ∃ X, (pasCells x).toArray = X := ⟨_, rfl⟩
      have HY := Lib.hid hhY
      have hcc := HCMP.out z x
      rw [hhX, hhY] at hcc
      obtain ⟨v_, hv⟩ : ∃ v, v = cv z x := ⟨_, rfl⟩
      rw [← hv] at hcc
      have HC := Lib.hid hcc
      have hlt_ : ltOf cv z x = decide (v_ < 0) := by rw [hv]; rfl
      have HLT := Lib.hid hlt_
      clear hcc hv hlt_ eqa eqb qa qb fqa fqb hhX hhY
      clear hQ hQ1 hq HQ
      have hhn : h < n := by omega
      have han : a < n := by have := HM.out; omega
      refine wp_region_obl 11 (fun ix vals v w1 => match ix with | 0 => v = .func (.func K) #[] caps | 1 => v = .slice (some ⟨g, 0, none⟩) n c | 2 => v = .int .i64 (h : Int) | 3 => v = .pointer (some ⟨g, (h) * 6, none⟩) | 4 => v = .agg X | 5 => v = .slice (some ⟨g, 0, none⟩) n c | 6 => v = .int .i64 (a : Int) | 7 => v = .pointer (some ⟨g, (a) * 6, none⟩) | 8 => v = .agg Y | 9 => v = .int .i64 v_ | _ => v = .bool (decide (v_ < 0))) (by kernel_rfl) (by kernel_rfl) ?_ ?_ ?_ ?_
      · intro ix vals v w1 w2 hi hr hx
        match ix, hr with
        | 0, hr => exact hr
        | 1, hr => exact hr
        | 2, hr => exact hr
        | 3, hr => exact hr
        | 4, hr => exact hr
        | 5, hr => exact hr
        | 6, hr => exact hr
        | 7, hr => exact hr
        | 8, hr => exact hr
        | 9, hr => exact hr
        | (kx + 10), hr => exact hr
      · intro ix vals vals_ v w1 hi hv hr
        exact hr
      · refine obls_ofT [some 40, some 41, some 42, some 43, some 44, some 45, some 46, some 47, some 48, some 49, some 50] [(0, .slice (some ⟨g, 0, none⟩) n c), (1, .int .i64 (a : Int)), (4, .func (.func K) #[] caps), (12, .int .i64 (h : Int))] 220 (by kernel_rfl) (by kernel_rfl) ⟨by kernel_rfl, by kernel_rfl, by kernel_rfl, by kernel_rfl, trivial⟩ ?_
        refine ⟨?_, ?_, ?_, ?_, ?_, ?_, ?_, ?_, ?_, ?_, ?_, trivial⟩
        · intro vals w1 hx hd
          refine .run [(4, .func (.func K) #[] caps)] { dst := some 0, op := Go.Op.move (Go.Operand.const (.func (.func K) #[] caps)), type := 84, pos := "", after := #[], guard := none } 40 ⟨.out (by kernel_rfl) (by kernel_rfl), trivial⟩ (by kernel_rfl) (by kernel_rfl) (by kernel_rfl) rfl rfl rfl ?_
          clear hd
          go_wp2
          exact ⟨rfl, Ext.refl _, rfl⟩
        · intro vals w1 hx hd
          refine .run [(0, .slice (some ⟨g, 0, none⟩) n c)] { dst := some 0, op := Go.Op.move (Go.Operand.const (.slice (some ⟨g, 0, none⟩) n c)), type := 32, pos := "", after := #[], guard := none } 41 ⟨.out (by kernel_rfl) (by kernel_rfl), trivial⟩ (by kernel_rfl) (by kernel_rfl) (by kernel_rfl) rfl rfl rfl ?_
          clear hd
          go_wp2
          exact ⟨rfl, Ext.refl _, rfl⟩
        · intro vals w1 hx hd
          refine .run [(12, .int .i64 (h : Int))] { dst := some 0, op := Go.Op.move (Go.Operand.const (.int .i64 (h : Int))), type := 3, pos := "", after := #[], guard := none } 42 ⟨.out (by kernel_rfl) (by kernel_rfl), trivial⟩ (by kernel_rfl) (by kernel_rfl) (by kernel_rfl) rfl rfl rfl ?_
          clear hd
          go_wp2
          exact ⟨rfl, Ext.refl _, rfl⟩
        · intro vals w1 hx hd
          have e1 : vals 1 = .slice (some ⟨g, 0, none⟩) n c := hd 1 (by decide)
          have e2 : vals 2 = .int .i64 (h : Int) := hd 2 (by decide)
          refine .run [(41, .slice (some ⟨g, 0, none⟩) n c), (42, .int .i64 (h : Int))] { dst := some 0, op := Go.Op.indexAddr 32 (Go.Operand.const (.slice (some ⟨g, 0, none⟩) n c)) (Go.Operand.const (.int .i64 (h : Int))), type := 0, pos := "", after := #[], guard := none } 43 ⟨.inn 1 (by kernel_rfl) e1, .inn 2 (by kernel_rfl) e2, trivial⟩ (by kernel_rfl) (by kernel_rfl) (by kernel_rfl) rfl rfl rfl ?_
          clear hd e1 e2
          go_wp2
          exact ⟨rfl, Ext.refl _, rfl⟩
        · intro vals w1 hx hd
          have e3 : vals 3 = .pointer (some ⟨g, (h) * 6, none⟩) := hd 3 (by decide)
          refine .run [(43, .pointer (some ⟨g, (h) * 6, none⟩))] { dst := some 0, op := Go.Op.load 47 (Go.Operand.const (.pointer (some ⟨g, (h) * 6, none⟩))), type := 47, pos := "", after := #[], guard := none } 44 ⟨.inn 3 (by kernel_rfl) e3, trivial⟩ (by kernel_rfl) (by kernel_rfl) (by kernel_rfl) rfl rfl rfl ?_
          clear hd e3
          refine wpList_load_st rfl _ _ rfl g ((h) * 6) rfl X (pasCells z) HX.out _ (RA.range2 hX_ hx.undrew) Try.underlying47 rfl pas_size ?_
          go_wp2
          exact ⟨rfl, Ext.refl _, rfl⟩
        · intro vals w1 hx hd
          refine .run [(0, .slice (some ⟨g, 0, none⟩) n c)] { dst := some 0, op := Go.Op.move (Go.Operand.const (.slice (some ⟨g, 0, none⟩) n c)), type := 32, pos := "", after := #[], guard := none } 45 ⟨.out (by kernel_rfl) (by kernel_rfl), trivial⟩ (by kernel_rfl) (by kernel_rfl) (by kernel_rfl) rfl rfl rfl ?_
          clear hd
          go_wp2
          exact ⟨rfl, Ext.refl _, rfl⟩
        · intro vals w1 hx hd
          refine .run [(1, .int .i64 (a : Int))] { dst := some 0, op := Go.Op.move (Go.Operand.const (.int .i64 (a : Int))), type := 3, pos := "", after := #[], guard := none } 46 ⟨.out (by kernel_rfl) (by kernel_rfl), trivial⟩ (by kernel_rfl) (by kernel_rfl) (by kernel_rfl) rfl rfl rfl ?_
          clear hd
          go_wp2
          exact ⟨rfl, Ext.refl _, rfl⟩
        · intro vals w1 hx hd
          have e5 : vals 5 = .slice (some ⟨g, 0, none⟩) n c := hd 5 (by decide)
          have e6 : vals 6 = .int .i64 (a : Int) := hd 6 (by decide)
          refine .run [(45, .slice (some ⟨g, 0, none⟩) n c), (46, .int .i64 (a : Int))] { dst := some 0, op := Go.Op.indexAddr 32 (Go.Operand.const (.slice (some ⟨g, 0, none⟩) n c)) (Go.Operand.const (.int .i64 (a : Int))), type := 0, pos := "", after := #[], guard := none } 47 ⟨.inn 5 (by kernel_rfl) e5, .inn 6 (by kernel_rfl) e6, trivial⟩ (by kernel_rfl) (by kernel_rfl) (by kernel_rfl) rfl rfl rfl ?_
          clear hd e5 e6
          go_wp2
          exact ⟨rfl, Ext.refl _, rfl⟩
        · intro vals w1 hx hd
          have e7 : vals 7 = .pointer (some ⟨g, (a) * 6, none⟩) := hd 7 (by decide)
          refine .run [(47, .pointer (some ⟨g, (a) * 6, none⟩))] { dst := some 0, op := Go.Op.load 47 (Go.Operand.const (.pointer (some ⟨g, (a) * 6, none⟩))), type := 47, pos := "", after := #[], guard := none } 48 ⟨.inn 7 (by kernel_rfl) e7, trivial⟩ (by kernel_rfl) (by kernel_rfl) (by kernel_rfl) rfl rfl rfl ?_
          clear hd e7
          refine wpList_load_st rfl _ _ rfl g ((a) * 6) rfl Y (pasCells x) HY.out _ (RA.range2 hY_ hx.undrew) Try.underlying47 rfl pas_size ?_
          go_wp2
          exact ⟨rfl, Ext.refl _, rfl⟩
        · intro vals w1 hx hd
          have e0 : vals 0 = .func (.func K) #[] caps := hd 0 (by decide)
          have e4 : vals 4 = .agg X := hd 4 (by decide)
          have e8 : vals 8 = .agg Y := hd 8 (by decide)
          refine .run [(40, .func (.func K) #[] caps), (44, .agg X), (48, .agg Y)] { dst := some 0, op := Go.Op.call { callee := Go.Callee.value (Go.Operand.const (.func (.func K) #[] caps)), args := #[(Go.Operand.const (.agg X)), (Go.Operand.const (.agg Y))], argTypes := #[47, 47] }, type := 3, pos := "", after := #[], guard := none } 49 ⟨.inn 0 (by kernel_rfl) e0, .inn 4 (by kernel_rfl) e4, .inn 8 (by kernel_rfl) e8, trivial⟩ (by kernel_rfl) (by kernel_rfl) (by kernel_rfl) rfl rfl rfl ?_
          clear hd e0 e4 e8
          go_wp2_with fail
          refine (HC.out _).mono ?_
          rintro e w2 ⟨rfl, hb2⟩
          go_wp2
          exact ⟨rfl, hb2, rfl⟩
        · intro vals w1 hx hd
          have e9 : vals 9 = .int .i64 v_ := hd 9 (by decide)
          refine .run [(49, .int .i64 v_)] { dst := some 0, op := Go.Op.binOp Go.BinOp.lss 3 (Go.Operand.const (.int .i64 v_)) (Go.Operand.const (Go.Value.int Go.IntKind.i64 0)) 3, type := 4, pos := "", after := #[], guard := none } 50 ⟨.inn 9 (by kernel_rfl) e9, trivial⟩ (by kernel_rfl) (by kernel_rfl) (by kernel_rfl) rfl rfl rfl ?_
          clear hd e9
          go_wp2
          exact ⟨rfl, Ext.refl _, rfl⟩
      intro vals w5 hx5 hf
      have e10 : vals 10 = .bool (decide (v_ < 0)) := hf 10 (by omega)
      clear hf hX_ hY_
      have hxw := Ext.trans hxw hx5.undrew
      clear hx5
      refine tail0 (by kernel_rfl) ?_
      simp only [Lf, dstAt, Act.put, List.getElem?_toArray, List.getElem?_cons_zero, List.getElem?_cons_succ, Option.bind_some, List.setIfInBounds_toArray, List.set_cons_zero, List.set_cons_succ]
      rw [e10]
      clear e10
      have hw1 : IntKind.i64.wrap ((h : Int) + 1) = (h : Int) + 1 := IntWalk.i64_in _ (by omega)
      by_cases hv0 : v_ < 0
      · have hlt2 : ltOf cv z x = true := by rw [HLT.out]; simpa using hv0
        have hN : Bl = (R1 ++ (Q1 ++ [z])) ++ Q2 ++ R2 ∧ m + (R1 ++ (Q1 ++ [z])).length = h + 1 ∧ h + 1 + Q2.length = j := by
          have h1 := HQ2.out
          have h2 := HQ1.out
          refine ⟨by rw [h1.1]; simp, ?_, ?_⟩ <;> simp at h1 ⊢ <;> omega
        have HN := Lib.hid hN
        have HE2 : Hid (∀ y ∈ R1 ++ (Q1 ++ [z]), ltOf cv y x = true) := Lib.hid (s1_lt HSW.out (by rw [← HQ2.out.1]; exact HS.out) hlt2 HE.out)
        clear hN hlt2 HE HQ2 HQ1 HL
        go_wp2
        go_roundw
        case rel => exact ⟨h + 1, j, _, _, _, by omega, by omega, hjb, by go_num, rfl, HN, HE2, HF, hxw⟩
        case measure => simp [intOf]; omega
      · have hlt2 : ltOf cv z x = false := by rw [HLT.out]; simpa using hv0
        have hN : Bl = R1 ++ Q1 ++ ((z :: Q2) ++ R2) ∧ m + R1.length = i ∧ i + Q1.length = h := by
          have h1 := HQ2.out
          have h2 := HQ1.out
          refine ⟨by rw [h1.1]; simp, ?_, ?_⟩ <;> simp at h1 ⊢ <;> omega
        have HN := Lib.hid hN
        have HF2 : Hid (∀ y ∈ (z :: Q2) ++ R2, ltOf cv y x = false) := Lib.hid (s1_ge HSW.out (by rw [← HQ2.out.1]; exact HS.out) hlt2 HF.out)
        clear hN hlt2 HF HQ2 HQ1 HL
        go_wp2
        go_roundw
        case rel => exact ⟨i, h, _, _, _, him, hh1, by omega, rfl, rfl, HN, HE, HF2, hxw⟩
        case measure => simp [intOf]; omega
    · have hij2 : i = j := by omega
      have hq0 : Q = [] := List.eq_nil_of_length_eq_zero (by have := HQ.out; omega)
      have hR : Bl = R1 ++ R2 ∧ m + R1.length = i := by have h := HQ.out; rw [hq0] at h; exact ⟨by rw [h.1]; simp, h.2.1⟩
      have HBR := Lib.hid hR
      have HROW0 : Hid (RowS pasCells 6 base 47 g n c wr (P ++ [] ++ x :: (R1 ++ R2 ++ S))) := Lib.hid (by have h := HRW.out.ext hxw; rw [HL0.out, hR.1] at h; simpa using h)
      have HG0 : Hid (w.grownBy wr (some g)) := Lib.hid (grown_ext hxw)
      have HK0 : Hid (R1 = [] ++ R1 ∧ a + ([] : List Pas).length = a) := Lib.hid ⟨rfl, rfl⟩
      have hi1 : a ≤ i - 1 := by have := HM.out; omega
      have HRES : Hid (mergeP (ltOf cv) [x] Bl = R1 ++ x :: R2) := Lib.hid (by rw [hR.1]; exact merge_one_l x R1 R2 HE.out HF.out)
      clear hij2 hq0 hR HQ HE HF
      have hw2 : IntKind.i64.wrap ((i : Int) - 1) = (i : Int) - 1 := IntWalk.i64_in _ (by omega)
      have hi0 : 1 ≤ i := by have := HM.out; omega
      go_wp2
      go_loopw [13] (fun u wr => ∃ (k : Nat) (Y1 Y2 : List Pas), a ≤ k ∧ k ≤ i - 1 ∧ u = .int .i64 k ∧ Hid (R1 = Y1 ++ Y2 ∧ a + Y1.length = k) ∧ Hid (RowS pasCells 6 base 47 g n c wr (P ++ Y1 ++ x :: (Y2 ++ R2 ++ S))) ∧ Hid (w.grownBy wr (some g))) (fun u _ => i - (intOf u).toNat)
      case atStart => exact ⟨a, [], R1, Nat.le_refl _, hi1, rfl, HK0, HROW0, HG0⟩
      case round =>
        clear HROW0 HG0 HK0 hxw
        obtain ⟨k, Y1, Y2, hka, hki, rfl, HK, HR, HG⟩ := hrel
        obtain ⟨wi, hwi⟩ : ∃ wi : World, wi = wr := ⟨_, rfl⟩
        rw [← hwi] at HR HG ⊢
        clear hwi
        by_cases hlk : k < i - 1
        · obtain ⟨y, Y3, hY3⟩ : ∃ y Y3, Y2 = y :: Y3 := by
            cases Y2 with
            | nil => have h1 := HK.out; have h2 := HBR.out; have h3 := HM.out; rw [h1.1] at h2; simp at h2; omega
            | cons y Y3 => exact ⟨y, Y3, rfl⟩
          subst hY3
          have hrow : RowS pasCells 6 base 47 g n c wi ((P ++ Y1) ++ x :: (y :: (Y3 ++ R2 ++ S))) := by simpa using HR.out
          obtain ⟨q1, e1⟩ := list_mid (P ++ Y1) (y :: (Y3 ++ R2 ++ S)) x k (by have h1 := HA.out; have h2 := HK.out; simp; omega)
          obtain ⟨q2, e2⟩ : ∃ h : k + 1 < ((P ++ Y1) ++ x :: (y :: (Y3 ++ R2 ++ S))).length, ((P ++ Y1) ++ x :: (y :: (Y3 ++ R2 ++ S)))[k + 1] = y := list_mid2 (P ++ Y1) [] (Y3 ++ R2 ++ S) x y (k + 1) (by rw [List.length_nil]; have h : k = (P ++ Y1).length := (by have h1 := HA.out; have h2 := HK.out; simp; omega); omega)
          have hVX_ : wi.rangeAt g ((k) * 6) (pasCells x) := by have h := hrow.range pas_len q1; rw [e1] at h; exact h
          have hVY_ : wi.rangeAt g ((k + 1) * 6) (pasCells y) := by have h := hrow.range pas_len q2; rw [e2] at h; exact h
          have hls : (((P ++ Y1) ++ x :: (y :: (Y3 ++ R2 ++ S))).set k y).set (k + 1) x = (P ++ Y1) ++ y :: (x :: (Y3 ++ R2 ++ S)) := list_swap (P ++ Y1) [] (Y3 ++ R2 ++ S) x y k (k + 1) (by have h1 := HA.out; have h2 := HK.out; simp; omega) (by rw [List.length_nil]; have h : k = (P ++ Y1).length := (by have h1 := HA.out; have h2 := HK.out; simp; omega); omega)
          obtain ⟨VX, hX⟩ : ∃ X, (pasCells x).toArray = X := ⟨_, rfl⟩
          obtain ⟨VY, hY⟩ : ∃ X, (pasCells y).toArray = X := ⟨_, rfl⟩
          have HVX := Lib.hid hX
          have HVY := Lib.hid hY
          have HROW := Lib.hid hrow
          have HLS := Lib.hid hls
          have Q1 := Lib.hid q1
          have Q2 := Lib.hid q2
          have hkn1 : k < n := by omega
          have hkn2 : k + 1 < n := by omega
          clear hrow e1 e2 q1 q2 hX hY hls
          have hw3 : IntKind.i64.wrap ((k : Int) + 1) = (k : Int) + 1 := IntWalk.i64_in _ (by omega)
          have htn : ((k : Int) + 1).toNat = k + 1 := by omega
          go_wp2_with fail
          refine wp_region_pre 15 [(2, .slice (some ⟨g, 0, none⟩) n c), (3, .int .i64 (k : Int)), (4, .int .i64 ((k : Int) + 1))] (fun ix vals v w1 => match ix with | 0 => v = .slice (some ⟨g, 0, none⟩) n c | 1 => v = .int .i64 (k : Int) | 2 => v = .slice (some ⟨g, 0, none⟩) n c | 3 => v = .int .i64 (k : Int) | 4 => v = .int .i64 ((k : Int) + 1) | 5 => v = .slice (some ⟨g, 0, none⟩) n c | 6 => v = .int .i64 (k : Int) | 7 => v = .int .i64 ((k : Int) + 1) | 8 => v = .pointer (some ⟨g, (k + 1) * 6, none⟩) | 9 => v = .agg VY | 10 => v = .slice (some ⟨g, 0, none⟩) n c | 11 => v = .int .i64 (k : Int) | 12 => v = .pointer (some ⟨g, (k) * 6, none⟩) | 13 => v = .agg VX | _ => v = .pointer (some ⟨g, (k) * 6, none⟩)) (by kernel_rfl) (by kernel_rfl) (by kernel_rfl) (by kernel_rfl) (by kernel_rfl) ?_ ?_ ?_ ?_ ?_ ?_
          · refine ⟨⟨_, rfl, by kernel_rfl, by kernel_rfl, yields_move rfl rfl rfl⟩, ⟨_, rfl, by kernel_rfl, by kernel_rfl, yields_move rfl rfl rfl⟩, ⟨_, rfl, by kernel_rfl, by kernel_rfl, yields_add rfl rfl rfl rfl hw3⟩, trivial⟩
          · intro j hj vals w1
            simp only [List.map_cons, List.map_nil, List.mem_cons, List.not_mem_nil, or_false] at hj
            rcases hj with rfl | rfl | rfl <;> rfl
          · intro ix vals v w1 w2 hi hr hx
            match ix, hr with
            | 0, hr => exact hr
            | 1, hr => exact hr
            | 2, hr => exact hr
            | 3, hr => exact hr
            | 4, hr => exact hr
            | 5, hr => exact hr
            | 6, hr => exact hr
            | 7, hr => exact hr
            | 8, hr => exact hr
            | 9, hr => exact hr
            | 10, hr => exact hr
            | 11, hr => exact hr
            | 12, hr => exact hr
            | 13, hr => exact hr
            | (kx + 14), hr => exact hr
          · intro ix vals vals_ v w1 hi hv hr
            exact hr
          · refine ⟨?_, ?_, ?_, ?_, ?_, ?_, ?_, ?_, ?_, ?_, ?_, ?_, ?_, ?_, ?_, trivial⟩
            · intro vals w1 hx hd ha
              clear hd ha
              simp only [Lf]
              go_wp2
              exact ⟨rfl, Ext.refl _, rfl⟩
            · intro vals w1 hx hd ha
              clear hd ha
              simp only [Lf, dstAt, Act.put, List.getElem?_toArray, List.getElem?_cons_zero, Option.bind_some, List.setIfInBounds_toArray, List.set_cons_zero, List.set_cons_succ]
              go_wp2
              exact ⟨rfl, Ext.refl _, rfl⟩
            · intro vals w1 hx hd ha
              clear hd ha
              simp only [Lf, dstAt, Act.put, List.getElem?_toArray, List.getElem?_cons_zero, List.getElem?_cons_succ, Option.bind_some, List.setIfInBounds_toArray, List.set_cons_zero, List.set_cons_succ]
              go_wp2
              exact ⟨rfl, Ext.refl _, rfl⟩
            · intro vals w1 hx hd ha
              clear hd ha
              simp only [Lf, dstAt, Act.put, List.getElem?_toArray, List.getElem?_cons_zero, List.getElem?_cons_succ, Option.bind_some, List.setIfInBounds_toArray, List.set_cons_zero, List.set_cons_succ]
              go_wp2
              exact ⟨rfl, Ext.refl _, rfl⟩
            · intro vals w1 hx hd ha
              have e3 : vals 3 = .int .i64 (k : Int) := hd 3 (by decide)
              clear hd ha
              simp only [Lf, dstAt, Act.put, List.getElem?_toArray, List.getElem?_cons_zero, List.getElem?_cons_succ, Option.bind_some, List.setIfInBounds_toArray, List.set_cons_zero, List.set_cons_succ]
              simp only [e3]
              clear e3
              go_wp2
              exact ⟨rfl, Ext.refl _, rfl⟩
            · intro vals w1 hx hd ha
              clear hd ha
              simp only [Lf, dstAt, Act.put, List.getElem?_toArray, List.getElem?_cons_zero, List.getElem?_cons_succ, Option.bind_some, List.setIfInBounds_toArray, List.set_cons_zero, List.set_cons_succ]
              go_wp2
              exact ⟨rfl, Ext.refl _, rfl⟩
            · intro vals w1 hx hd ha
              clear hd ha
              simp only [Lf, dstAt, Act.put, List.getElem?_toArray, List.getElem?_cons_zero, List.getElem?_cons_succ, Option.bind_some, List.setIfInBounds_toArray, List.set_cons_zero, List.set_cons_succ]
              go_wp2
              exact ⟨rfl, Ext.refl _, rfl⟩
            · intro vals w1 hx hd ha
              have e6 : vals 6 = .int .i64 (k : Int) := hd 6 (by decide)
              clear hd ha
              simp only [Lf, dstAt, Act.put, List.getElem?_toArray, List.getElem?_cons_zero, List.getElem?_cons_succ, Option.bind_some, List.setIfInBounds_toArray, List.set_cons_zero, List.set_cons_succ]
              simp only [e6]
              clear e6
              go_wp2
              exact ⟨rfl, Ext.refl _, rfl⟩
            · intro vals w1 hx hd ha
              have e5 : vals 5 = .slice (some ⟨g, 0, none⟩) n c := hd 5 (by decide)
              have e7 : vals 7 = .int .i64 ((k : Int) + 1) := hd 7 (by decide)
              clear hd ha
              simp only [Lf, dstAt, Act.put, List.getElem?_toArray, List.getElem?_cons_zero, List.getElem?_cons_succ, Option.bind_some, List.setIfInBounds_toArray, List.set_cons_zero, List.set_cons_succ]
              simp only [e5, e7]
              clear e5 e7
              go_wp2
              exact ⟨rfl, Ext.refl _, rfl⟩
            · intro vals w1 hx hd ha
              have e8 : vals 8 = .pointer (some ⟨g, (k + 1) * 6, none⟩) := hd 8 (by decide)
              clear hd ha
              simp only [Lf, dstAt, Act.put, List.getElem?_toArray, List.getElem?_cons_zero, List.getElem?_cons_succ, Option.bind_some, List.setIfInBounds_toArray, List.set_cons_zero, List.set_cons_succ]
              simp only [e8]
              clear e8
              refine wpList_load_st rfl _ _ rfl g ((k + 1) * 6) rfl VY (pasCells y) HVY.out _ (RA.range2 hVY_ hx.undrew) Try.underlying47 rfl pas_size ?_
              go_wp2
              exact ⟨rfl, Ext.refl _, rfl⟩
            · intro vals w1 hx hd ha
              clear hd ha
              simp only [Lf, dstAt, Act.put, List.getElem?_toArray, List.getElem?_cons_zero, List.getElem?_cons_succ, Option.bind_some, List.setIfInBounds_toArray, List.set_cons_zero, List.set_cons_succ]
              go_wp2
              exact ⟨rfl, Ext.refl _, rfl⟩
            · intro vals w1 hx hd ha
              clear hd ha
              simp only [Lf, dstAt, Act.put, List.getElem?_toArray, List.getElem?_cons_zero, List.getElem?_cons_succ, Option.bind_some, List.setIfInBounds_toArray, List.set_cons_zero, List.set_cons_succ]
              go_wp2
              exact ⟨rfl, Ext.refl _, rfl⟩
            · intro vals w1 hx hd ha
              have e10 : vals 10 = .slice (some ⟨g, 0, none⟩) n c := hd 10 (by decide)
              have e11 : vals 11 = .int .i64 (k : Int) := hd 11 (by decide)
              clear hd ha
              simp only [Lf, dstAt, Act.put, List.getElem?_toArray, List.getElem?_cons_zero, List.getElem?_cons_succ, Option.bind_some, List.setIfInBounds_toArray, List.set_cons_zero, List.set_cons_succ]
              simp only [e10, e11]
              clear e10 e11
              go_wp2
              exact ⟨rfl, Ext.refl _, rfl⟩
            · intro vals w1 hx hd ha
              have e12 : vals 12 = .pointer (some ⟨g, (k) * 6, none⟩) := hd 12 (by decide)
              clear hd ha
              simp only [Lf, dstAt, Act.put, List.getElem?_toArray, List.getElem?_cons_zero, List.getElem?_cons_succ, Option.bind_some, List.setIfInBounds_toArray, List.set_cons_zero, List.set_cons_succ]
              simp only [e12]
              clear e12
              refine wpList_load_st rfl _ _ rfl g ((k) * 6) rfl VX (pasCells x) HVX.out _ (RA.range2 hVX_ hx.undrew) Try.underlying47 rfl pas_size ?_
              go_wp2
              exact ⟨rfl, Ext.refl _, rfl⟩
            · intro vals w1 hx hd ha
              have e0 : vals 0 = .slice (some ⟨g, 0, none⟩) n c := hd 0 (by decide)
              have e1 : vals 1 = .int .i64 (k : Int) := hd 1 (by decide)
              have e5 : vals 5 = .slice (some ⟨g, 0, none⟩) n c := hd 5 (by decide)
              have e6 : vals 6 = .int .i64 (k : Int) := hd 6 (by decide)
              have e7 : vals 7 = .int .i64 ((k : Int) + 1) := hd 7 (by decide)
              have e8 : vals 8 = .pointer (some ⟨g, (k + 1) * 6, none⟩) := hd 8 (by decide)
              have e9 : vals 9 = .agg VY := hd 9 (by decide)
              have e13 : vals 13 = .agg VX := hd 13 (by decide)
              clear hd ha
              simp only [Lf, dstAt, Act.put, List.getElem?_toArray, List.getElem?_cons_zero, List.getElem?_cons_succ, Option.bind_some, List.setIfInBounds_toArray, List.set_cons_zero, List.set_cons_succ]
              simp only [e0, e1, e5, e6, e7, e8, e9, e13]
              clear e0 e1 e5 e6 e7 e8 e9 e13
              go_wp2
              exact ⟨rfl, Ext.refl _, rfl⟩
          intro vals w6 hx6 hf
          have e2 : vals 2 = .slice (some ⟨g, 0, none⟩) n c := hf 2 (by omega)
          have e4 : vals 4 = .int .i64 ((k : Int) + 1) := hf 4 (by omega)
          have e9 : vals 9 = .agg VY := hf 9 (by omega)
          have e13 : vals 13 = .agg VX := hf 13 (by omega)
          have e14 : vals 14 = .pointer (some ⟨g, (k) * 6, none⟩) := hf 14 (by omega)
          clear hf
          have hx6 := hx6.undrew
          have hR6 := HROW.out.ext hx6
          obtain ⟨hs1, hg1⟩ := hR6.store pas_len Q1.out y
          have ht1 := hR6.there pas_len Q1.out
          have hl1 : k + 1 < (((P ++ Y1) ++ x :: (y :: (Y3 ++ R2 ++ S))).set k y).length := by rw [List.length_set]; exact Q2.out
          obtain ⟨hs2, hg2⟩ := hs1.store pas_len hl1 x
          have ht2 := hs1.there pas_len hl1
          rw [HLS.out] at hs2
          have hG6 : w.grownBy ((w6.setCells g (k * 6) (pasCells y)).setCells g ((k + 1) * 6) (pasCells x)) (some g) := gb_trans (gb_trans HG.out (grown_ext hx6)) (gb_trans hg1 hg2)
          have HT1 := Lib.hid ht1
          have HT2 := Lib.hid ht2
          have HS2 := Lib.hid hs2
          have HG6 := Lib.hid hG6
          clear ht1 ht2 hs1 hg1 hs2 hg2 hG6 hR6 hl1 hVX_ hVY_ hx6 HLS HROW hw3 htn
          refine tailF 15 _ _ 2 (by kernel_rfl) rfl ?_ (fun a w q => tailF 16 _ _ 1 (by kernel_rfl) rfl q (fun a w q => tail1 17 _ (by kernel_rfl) (by kernel_rfl) rfl q))
          simp only [Lf, dstAt, Act.put, List.getElem?_toArray, List.getElem?_cons_zero, List.getElem?_cons_succ, Option.bind_some, List.setIfInBounds_toArray, List.set_cons_zero, List.set_cons_succ]
          rw [e2, e4, e9, e13, e14]
          clear e2 e4 e9 e13 e14
          have hw3 : IntKind.i64.wrap ((k : Int) + 1) = (k : Int) + 1 := IntWalk.i64_in _ (by omega)
          have htn : ((k : Int) + 1).toNat = k + 1 := by omega
          refine wpList_store_st rfl _ _ _ rfl g (k * 6) VY (pasCells y) HVY.out rfl rfl HT1.out pas_size (by simp [pasCells, Value.oneCell']) ?_
          go_wp2_with (refine wpList_store_st rfl _ _ _ rfl g ((k + 1) * 6) VX (pasCells x) HVX.out rfl rfl HT2.out pas_size (by simp [pasCells, Value.oneCell']) ?_)
          refine Qn_of ?_
          generalize (w6.setCells g (k * 6) (pasCells y)).setCells g ((k + 1) * 6) (pasCells x) = w8 at HS2 HG6 ⊢
          clear hw3 htn
          have HRN : Hid (RowS pasCells 6 base 47 g n c w8 (P ++ (Y1 ++ [y]) ++ x :: (Y3 ++ R2 ++ S))) := Lib.hid (by simpa using HS2.out)
          have HKN : Hid (R1 = (Y1 ++ [y]) ++ Y3 ∧ a + (Y1 ++ [y]).length = k + 1) := Lib.hid (by obtain ⟨h1, h2⟩ := HK.out; refine ⟨by rw [h1]; simp, ?_⟩; simp; omega)
          clear HS2 HK HR HG
          have hw4 : IntKind.i64.wrap ((k : Int) + 1) = (k : Int) + 1 := IntWalk.i64_in _ (by omega)
          go_wp2
          go_roundw
          case rel => exact ⟨k + 1, _, _, by omega, by omega, by go_num, HKN, HRN, HG6⟩
          case measure => simp [intOf]; omega
        · have hfin : RowS pasCells 6 base 47 g n c wi (P ++ mergeP (ltOf cv) [x] Bl ++ S) := by
            have h1 := HK.out
            have hY0 : Y2 = [] := List.eq_nil_of_length_eq_zero (by have h2 := HBR.out; have h3 := HM.out; rw [h1.1] at h2; simp at h2; omega)
            have h := HR.out
            rw [hY0] at h h1
            rw [HRES.out, h1.1]
            simpa using h
          have HFIN := Lib.hid hfin
          clear hfin
          have hlk2 : ¬ ((k : Int) < (i : Int) - 1) := by omega
          go_wp2
          (try simp only [Exit.inBlock, Exit.then])
          refine bodyPost_ret (results_none rfl _ _ _) rfl ?_
          exact ⟨rfl, by simpa using HFIN.out, HG.out⟩
set_option maxHeartbeats 8000000 in
set_option maxRecDepth 100000 in
theorem sym_r (K : Nat) (caps : Array Value) (cv : Pas → Pas → Int) (eg : ∀ args w, (callFunc K args).run Try.prog w = .ok (.enter K args) w) (hcmp : CmpC K caps cv) (hsw : SW (ltOf cv)) (base g n c : Nat) (hn : n ≤ 1000000) (P Al S : List Pas) (y0 : Pas) (a m b : Nat) (w : World) (ha : a = P.length) (hm : m = a + Al.length) (hb : b = m + 1) (hA2 : 2 ≤ Al.length) (hs : Srtd (ltOf cv) Al) (hr : RowS pasCells 6 base 47 g n c w (P ++ Al ++ y0 :: S)) :
    Calls Try.prog 92 #[.slice (some ⟨g, 0, none⟩) n c, .int .i64 (a : Int), .int .i64 (m : Int), .int .i64 (b : Int), .func (.func K) #[] caps] w
      fun e w' => e = .returned (.tuple #[]) ∧ RowS pasCells 6 base 47 g n c w' (P ++ mergeP (ltOf cv) Al [y0] ++ S) ∧ w.grownBy w' (some g) := by
  have hc := hr.le
  have hln := hr.1
  have hbn : b ≤ n := by simp at hln; omega
  obtain ⟨LL, hL⟩ : ∃ l, l = P ++ Al ++ y0 :: S := ⟨_, rfl⟩
  rw [← hL] at hr
  have HRW := Lib.hid hr
  have HCMP := Lib.hid hcmp
  have HSW := Lib.hid hsw
  have HS := Lib.hid hs
  have HA := Lib.hid ha
  have HL0 := Lib.hid hL
  have h0 : Al = [] ++ Al ++ [] ∧ a + ([] : List Pas).length = a ∧ a + Al.length = m := ⟨by simp, rfl, hm.symm⟩
  have H0 := Lib.hid h0
  have HE : Hid (∀ u ∈ ([] : List Pas), ltOf cv y0 u = false) := Lib.hid (fun _ h => by cases h)
  have HF : Hid (∀ u ∈ ([] : List Pas), ltOf cv y0 u = true) := Lib.hid (fun _ h => by cases h)
  have hmb : a + 2 ≤ m := by omega
  have hw0 : IntKind.i64.wrap ((m : Int) - (a : Int)) = (m : Int) - (a : Int) := IntWalk.i64_in _ (by omega)
  have he0 : ((m : Int) - (a : Int) == 1) = false := by simp; omega
  have hw9 : IntKind.i64.wrap ((b : Int) - (m : Int)) = (b : Int) - (m : Int) := IntWalk.i64_in _ (by omega)
  have he9 : ((b : Int) - (m : Int) == 1) = true := by simp; omega
  have hbm : m < b := by omega
  have HM := Lib.hid hm
  have HBM := Lib.hid hb
  clear hr hcmp hsw hs hL ha hln hb h0 hm hA2
  go_enter Try.func92, Try.ntmps92
  go_wp2
  clear hw0 he0 hw9 he9
  go_loopw [14, 15] (fun u v wr => ∃ (i j : Nat) (R1 Q R2 : List Pas), a ≤ i ∧ i ≤ j ∧ j ≤ m ∧ u = .int .i64 i ∧ v = .int .i64 j ∧ Hid (Al = R1 ++ Q ++ R2 ∧ a + R1.length = i ∧ i + Q.length = j) ∧ Hid (∀ u ∈ R1, ltOf cv y0 u = false) ∧ Hid (∀ u ∈ R2, ltOf cv y0 u = true) ∧ Ext w wr) (fun u v _ => (intOf v).toNat - (intOf u).toNat)
  case atStart => exact ⟨a, m, [], Al, [], Nat.le_refl _, by omega, Nat.le_refl _, rfl, rfl, H0, HE, HF, Ext.refl _⟩
  case round =>
    clear H0 HE HF
    obtain ⟨i, j, R1, Q, R2, him, hij, hjb, rfl, rfl, HQ, HE, HF, hxw⟩ := hrel
    by_cases hlt : i < j
    · obtain ⟨h, hh⟩ : ∃ h, h = (i + j) / 2 := ⟨_, rfl⟩
      have em : ((i : Int) + (j : Int)) / 2 = ((h : Nat) : Int) := by omega
      have hh1 : i ≤ h := by omega
      have hh2 : h < j := by omega
      clear hh
      go_wp2_with fail
      clear em
      obtain ⟨Q1, z, Q2, hQ, hQ1⟩ := list_at Q (h - i) (by have := HQ.out; omega)
      have hq := HQ.out
      rw [hQ] at hq
      have HQ2 := Lib.hid hq
      have HL : Hid (LL = P ++ (R1 ++ (Q1 ++ z :: Q2) ++ R2) ++ y0 :: S) := Lib.hid (by rw [HL0.out, ← hq.1])
      have HQ1 := Lib.hid hQ1
      have hal : a + (R1 ++ (Q1 ++ z :: Q2) ++ R2).length = m := by rw [← hq.1]; exact HM.out.symm
      have HAL := Lib.hid hal
      clear hal
      have eqa : LL = (P ++ (R1 ++ (Q1 ++ z :: Q2) ++ R2)) ++ y0 :: (S) := by simp [HL.out]
      obtain ⟨qa, fqa⟩ := list_mid (P ++ (R1 ++ (Q1 ++ z :: Q2) ++ R2)) (S) y0 m (by have h1 := HAL.out; have h2 := HA.out; rw [List.length_append]; omega)
      have hX_ : wr.rangeAt g (m * 6) (pasCells y0) := by have h := (HRW.out.ext hxw).range pas_len (k := m) (by rw [eqa]; exact qa); simp only [eqa] at h; rw [fqa] at h; exact h
      obtain ⟨X, hhX⟩ : ∃ X, (pasCells y0).toArray = X := ⟨_, rfl⟩
      have HX := Lib.hid hhX
      have eqb : LL = (P ++ (R1 ++ Q1)) ++ z :: (Q2 ++ R2 ++ y0 :: S) := by simp [HL.out]
      obtain ⟨qb, fqb⟩ := list_mid (P ++ (R1 ++ Q1)) (Q2 ++ R2 ++ y0 :: S) z h (by have h1 := HQ2.out; have h2 := HA.out; have h3 := HQ1.out; simp; omega)
      have hY_ : wr.rangeAt g (h * 6) (pasCells z) := by have h := (HRW.out.ext hxw).range pas_len (k := h) (by rw [eqb]; exact qb); simp only [eqb] at h; rw [fqb] at h; exact h
      obtain ⟨Y, hhY⟩ : ∃ X, (pasCells z).toArray = X := ⟨_, rfl⟩
      have HY := Lib.hid hhY
      have hcc := HCMP.out y0 z
      rw [hhX, hhY] at hcc
      obtain ⟨v_, hv⟩ : ∃ v, v = cv y0 z := ⟨_, rfl⟩
      rw [← hv] at hcc
      have HC := Lib.hid hcc
      have hlt_ : ltOf cv y0 z = decide (v_ < 0) := by rw [hv]; rfl
      have HLT := Lib.hid hlt_
      clear hcc hv hlt_ eqa eqb qa qb fqa fqb hhX hhY
      clear hQ hQ1 hq HQ HAL
      have hhn : h < n := by omega
      have hmn : m < n := by omega
      refine wp_region_obl 12 (fun ix vals v w1 => match ix with | 0 => v = .func (.func K) #[] caps | 1 => v = .slice (some ⟨g, 0, none⟩) n c | 2 => v = .int .i64 (m : Int) | 3 => v = .pointer (some ⟨g, (m) * 6, none⟩) | 4 => v = .agg X | 5 => v = .slice (some ⟨g, 0, none⟩) n c | 6 => v = .int .i64 (h : Int) | 7 => v = .pointer (some ⟨g, (h) * 6, none⟩) | 8 => v = .agg Y | 9 => v = .int .i64 v_ | 10 => v = .bool (decide (v_ < 0)) | _ => v = .bool (!decide (v_ < 0))) (by kernel_rfl) (by kernel_rfl) ?_ ?_ ?_ ?_
      · intro ix vals v w1 w2 hi hr hx
        match ix, hr with
        | 0, hr => exact hr
        | 1, hr => exact hr
        | 2, hr => exact hr
        | 3, hr => exact hr
        | 4, hr => exact hr
        | 5, hr => exact hr
        | 6, hr => exact hr
        | 7, hr => exact hr
        | 8, hr => exact hr
        | 9, hr => exact hr
        | 10, hr => exact hr
        | (kx + 11), hr => exact hr
      · intro ix vals vals_ v w1 hi hv hr
        exact hr
      · refine obls_ofT [some 92, some 93, some 94, some 95, some 96, some 97, some 98, some 99, some 100, some 101, some 102, some 103] [(0, .slice (some ⟨g, 0, none⟩) n c), (2, .int .i64 (m : Int)), (4, .func (.func K) #[] caps), (16, .int .i64 (h : Int))] 220 (by kernel_rfl) (by kernel_rfl) ⟨by kernel_rfl, by kernel_rfl, by kernel_rfl, by kernel_rfl, trivial⟩ ?_
        refine ⟨?_, ?_, ?_, ?_, ?_, ?_, ?_, ?_, ?_, ?_, ?_, ?_, trivial⟩
        · intro vals w1 hx hd
          refine .run [(4, .func (.func K) #[] caps)] { dst := some 0, op := Go.Op.move (Go.Operand.const (.func (.func K) #[] caps)), type := 84, pos := "", after := #[], guard := none } 92 ⟨.out (by kernel_rfl) (by kernel_rfl), trivial⟩ (by kernel_rfl) (by kernel_rfl) (by kernel_rfl) rfl rfl rfl ?_
          clear hd
          go_wp2
          exact ⟨rfl, Ext.refl _, rfl⟩
        · intro vals w1 hx hd
          refine .run [(0, .slice (some ⟨g, 0, none⟩) n c)] { dst := some 0, op := Go.Op.move (Go.Operand.const (.slice (some ⟨g, 0, none⟩) n c)), type := 32, pos := "", after := #[], guard := none } 93 ⟨.out (by kernel_rfl) (by kernel_rfl), trivial⟩ (by kernel_rfl) (by kernel_rfl) (by kernel_rfl) rfl rfl rfl ?_
          clear hd
          go_wp2
          exact ⟨rfl, Ext.refl _, rfl⟩
        · intro vals w1 hx hd
          refine .run [(2, .int .i64 (m : Int))] { dst := some 0, op := Go.Op.move (Go.Operand.const (.int .i64 (m : Int))), type := 3, pos := "", after := #[], guard := none } 94 ⟨.out (by kernel_rfl) (by kernel_rfl), trivial⟩ (by kernel_rfl) (by kernel_rfl) (by kernel_rfl) rfl rfl rfl ?_
          clear hd
          go_wp2
          exact ⟨rfl, Ext.refl _, rfl⟩
        · intro vals w1 hx hd
          have e1 : vals 1 = .slice (some ⟨g, 0, none⟩) n c := hd 1 (by decide)
          have e2 : vals 2 = .int .i64 (m : Int) := hd 2 (by decide)
          refine .run [(93, .slice (some ⟨g, 0, none⟩) n c), (94, .int .i64 (m : Int))] { dst := some 0, op := Go.Op.indexAddr 32 (Go.Operand.const (.slice (some ⟨g, 0, none⟩) n c)) (Go.Operand.const (.int .i64 (m : Int))), type := 0, pos := "", after := #[], guard := none } 95 ⟨.inn 1 (by kernel_rfl) e1, .inn 2 (by kernel_rfl) e2, trivial⟩ (by kernel_rfl) (by kernel_rfl) (by kernel_rfl) rfl rfl rfl ?_
          clear hd e1 e2
          go_wp2
          exact ⟨rfl, Ext.refl _, rfl⟩
        · intro vals w1 hx hd
          have e3 : vals 3 = .pointer (some ⟨g, (m) * 6, none⟩) := hd 3 (by decide)
          refine .run [(95, .pointer (some ⟨g, (m) * 6, none⟩))] { dst := some 0, op := Go.Op.load 47 (Go.Operand.const (.pointer (some ⟨g, (m) * 6, none⟩))), type := 47, pos := "", after := #[], guard := none } 96 ⟨.inn 3 (by kernel_rfl) e3, trivial⟩ (by kernel_rfl) (by kernel_rfl) (by kernel_rfl) rfl rfl rfl ?_
          clear hd e3
          refine wpList_load_st rfl _ _ rfl g ((m) * 6) rfl X (pasCells y0) HX.out _ (RA.range2 hX_ hx.undrew) Try.underlying47 rfl pas_size ?_
          go_wp2
          exact ⟨rfl, Ext.refl _, rfl⟩
        · intro vals w1 hx hd
          refine .run [(0, .slice (some ⟨g, 0, none⟩) n c)] { dst := some 0, op := Go.Op.move (Go.Operand.const (.slice (some ⟨g, 0, none⟩) n c)), type := 32, pos := "", after := #[], guard := none } 97 ⟨.out (by kernel_rfl) (by kernel_rfl), trivial⟩ (by kernel_rfl) (by kernel_rfl) (by kernel_rfl) rfl rfl rfl ?_
          clear hd
          go_wp2
          exact ⟨rfl, Ext.refl _, rfl⟩
        · intro vals w1 hx hd
          refine .run [(16, .int .i64 (h : Int))] { dst := some 0, op := Go.Op.move (Go.Operand.const (.int .i64 (h : Int))), type := 3, pos := "", after := #[], guard := none } 98 ⟨.out (by kernel_rfl) (by kernel_rfl), trivial⟩ (by kernel_rfl) (by kernel_rfl) (by kernel_rfl) rfl rfl rfl ?_
          clear hd
          go_wp2
          exact ⟨rfl, Ext.refl _, rfl⟩
        · intro vals w1 hx hd
          have e5 : vals 5 = .slice (some ⟨g, 0, none⟩) n c := hd 5 (by decide)
          have e6 : vals 6 = .int .i64 (h : Int) := hd 6 (by decide)
          refine .run [(97, .slice (some ⟨g, 0, none⟩) n c), (98, .int .i64 (h : Int))] { dst := some 0, op := Go.Op.indexAddr 32 (Go.Operand.const (.slice (some ⟨g, 0, none⟩) n c)) (Go.Operand.const (.int .i64 (h : Int))), type := 0, pos := "", after := #[], guard := none } 99 ⟨.inn 5 (by kernel_rfl) e5, .inn 6 (by kernel_rfl) e6, trivial⟩ (by kernel_rfl) (by kernel_rfl) (by kernel_rfl) rfl rfl rfl ?_
          clear hd e5 e6
          go_wp2
          exact ⟨rfl, Ext.refl _, rfl⟩
        · intro vals w1 hx hd
          have e7 : vals 7 = .pointer (some ⟨g, (h) * 6, none⟩) := hd 7 (by decide)
          refine .run [(99, .pointer (some ⟨g, (h) * 6, none⟩))] { dst := some 0, op := Go.Op.load 47 (Go.Operand.const (.pointer (some ⟨g, (h) * 6, none⟩))), type := 47, pos := "", after := #[], guard := none } 100 ⟨.inn 7 (by kernel_rfl) e7, trivial⟩ (by kernel_rfl) (by kernel_rfl) (by kernel_rfl) rfl rfl rfl ?_
          clear hd e7
          refine wpList_load_st rfl _ _ rfl g ((h) * 6) rfl Y (pasCells z) HY.out _ (RA.range2 hY_ hx.undrew) Try.underlying47 rfl pas_size ?_
          go_wp2
          exact ⟨rfl, Ext.refl _, rfl⟩
        · intro vals w1 hx hd
          have e0 : vals 0 = .func (.func K) #[] caps := hd 0 (by decide)
          have e4 : vals 4 = .agg X := hd 4 (by decide)
          have e8 : vals 8 = .agg Y := hd 8 (by decide)
          refine .run [(92, .func (.func K) #[] caps), (96, .agg X), (100, .agg Y)] { dst := some 0, op := Go.Op.call { callee := Go.Callee.value (Go.Operand.const (.func (.func K) #[] caps)), args := #[(Go.Operand.const (.agg X)), (Go.Operand.const (.agg Y))], argTypes := #[47, 47] }, type := 3, pos := "", after := #[], guard := none } 101 ⟨.inn 0 (by kernel_rfl) e0, .inn 4 (by kernel_rfl) e4, .inn 8 (by kernel_rfl) e8, trivial⟩ (by kernel_rfl) (by kernel_rfl) (by kernel_rfl) rfl rfl rfl ?_
          clear hd e0 e4 e8
          go_wp2_with fail
          refine (HC.out _).mono ?_
          rintro e w2 ⟨rfl, hb2⟩
          go_wp2
          exact ⟨rfl, hb2, rfl⟩
        · intro vals w1 hx hd
          have e9 : vals 9 = .int .i64 v_ := hd 9 (by decide)
          refine .run [(101, .int .i64 v_)] { dst := some 0, op := Go.Op.binOp Go.BinOp.lss 3 (Go.Operand.const (.int .i64 v_)) (Go.Operand.const (Go.Value.int Go.IntKind.i64 0)) 3, type := 4, pos := "", after := #[], guard := none } 102 ⟨.inn 9 (by kernel_rfl) e9, trivial⟩ (by kernel_rfl) (by kernel_rfl) (by kernel_rfl) rfl rfl rfl ?_
          clear hd e9
          go_wp2
          exact ⟨rfl, Ext.refl _, rfl⟩
        · intro vals w1 hx hd
          have e10 : vals 10 = .bool (decide (v_ < 0)) := hd 10 (by decide)
          refine .run [(102, .bool (decide (v_ < 0)))] { dst := some 0, op := Go.Op.unOp Go.UnOp.not 4 (Go.Operand.const (.bool (decide (v_ < 0)))), type := 4, pos := "", after := #[], guard := none } 103 ⟨.inn 10 (by kernel_rfl) e10, trivial⟩ (by kernel_rfl) (by kernel_rfl) (by kernel_rfl) rfl rfl rfl ?_
          clear hd e10
          go_wp2
          exact ⟨rfl, Ext.refl _, rfl⟩
      intro vals w5 hx5 hf
      have e11 : vals 11 = .bool (!decide (v_ < 0)) := hf 11 (by omega)
      clear hf hX_ hY_
      have hxw := Ext.trans hxw hx5.undrew
      clear hx5
      refine tail0 (by kernel_rfl) ?_
      simp only [Lf, dstAt, Act.put, List.getElem?_toArray, List.getElem?_cons_zero, List.getElem?_cons_succ, Option.bind_some, List.setIfInBounds_toArray, List.set_cons_zero, List.set_cons_succ]
      rw [e11]
      clear e11
      have hw1 : IntKind.i64.wrap ((h : Int) + 1) = (h : Int) + 1 := IntWalk.i64_in _ (by omega)
      by_cases hv0 : v_ < 0
      · have hd : decide (v_ < 0) = true := by simpa using hv0
        have hlt2 : ltOf cv y0 z = true := by rw [HLT.out]; exact hd
        have hN : Al = R1 ++ Q1 ++ ((z :: Q2) ++ R2) ∧ a + R1.length = i ∧ i + Q1.length = h := by
          have h1 := HQ2.out
          have h2 := HQ1.out
          refine ⟨by rw [h1.1]; simp, ?_, ?_⟩ <;> simp at h1 ⊢ <;> omega
        have HN := Lib.hid hN
        have HF2 : Hid (∀ u ∈ (z :: Q2) ++ R2, ltOf cv y0 u = true) := Lib.hid (s2_lt HSW.out (by rw [← HQ2.out.1]; exact HS.out) hlt2 HF.out)
        rw [hd]
        clear hN hlt2 HF HQ2 HQ1 HL hd
        go_wp2
        go_roundw
        case rel => exact ⟨i, h, _, _, _, him, hh1, by omega, rfl, rfl, HN, HE, HF2, hxw⟩
        case measure => simp [intOf]; omega
      · have hd : decide (v_ < 0) = false := by simpa using hv0
        have hlt2 : ltOf cv y0 z = false := by rw [HLT.out]; exact hd
        have hN : Al = (R1 ++ (Q1 ++ [z])) ++ Q2 ++ R2 ∧ a + (R1 ++ (Q1 ++ [z])).length = h + 1 ∧ h + 1 + Q2.length = j := by
          have h1 := HQ2.out
          have h2 := HQ1.out
          refine ⟨by rw [h1.1]; simp, ?_, ?_⟩ <;> simp at h1 ⊢ <;> omega
        have HN := Lib.hid hN
        have HE2 : Hid (∀ u ∈ R1 ++ (Q1 ++ [z]), ltOf cv y0 u = false) := Lib.hid (s2_ge HSW.out (by rw [← HQ2.out.1]; exact HS.out) hlt2 HE.out)
        rw [hd]
        clear hN hlt2 HE HQ2 HQ1 HL hd
        go_wp2
        go_roundw
        case rel => exact ⟨h + 1, j, _, _, _, by omega, by omega, hjb, by go_num, rfl, HN, HE2, HF, hxw⟩
        case measure => simp [intOf]; omega
    · have hij2 : i = j := by omega
      have hq0 : Q = [] := List.eq_nil_of_length_eq_zero (by have := HQ.out; omega)
      have hR : Al = R1 ++ R2 ∧ a + R1.length = i := by have h := HQ.out; rw [hq0] at h; exact ⟨by rw [h.1]; simp, h.2.1⟩
      have HBR := Lib.hid hR
      have HROW0 : Hid (RowS pasCells 6 base 47 g n c wr (P ++ R1 ++ R2 ++ y0 :: ([] ++ S))) := Lib.hid (by have h := HRW.out.ext hxw; rw [HL0.out, hR.1] at h; simpa using h)
      have HG0 : Hid (w.grownBy wr (some g)) := Lib.hid (grown_ext hxw)
      have HK0 : Hid (R2 = R2 ++ [] ∧ i + R2.length = m) := Lib.hid ⟨by simp, by have h := HM.out; rw [hR.1] at h; simp at h; omega⟩
      have HRES : Hid (mergeP (ltOf cv) Al [y0] = R1 ++ y0 :: R2) := Lib.hid (by rw [hR.1]; exact merge_one_r y0 R1 R2 HE.out HF.out)
      clear hij2 hq0 hR HQ HE HF
      have him2 : i ≤ m := by omega
      go_wp2
      go_loopw [17] (fun u wr => ∃ (k : Nat) (Y1 Y2 : List Pas), i ≤ k ∧ k ≤ m ∧ u = .int .i64 k ∧ Hid (R2 = Y1 ++ Y2 ∧ i + Y1.length = k) ∧ Hid (RowS pasCells 6 base 47 g n c wr (P ++ R1 ++ Y1 ++ y0 :: (Y2 ++ S))) ∧ Hid (w.grownBy wr (some g))) (fun u _ => (intOf u).toNat)
      case atStart => exact ⟨m, R2, [], him2, Nat.le_refl _, rfl, HK0, HROW0, HG0⟩
      case round =>
        clear HROW0 HG0 HK0 hxw
        obtain ⟨k, Y1, Y2, hka, hki, rfl, HK, HR, HG⟩ := hrel
        obtain ⟨wi, hwi⟩ : ∃ wi : World, wi = wr := ⟨_, rfl⟩
        rw [← hwi] at HR HG ⊢
        clear hwi
        by_cases hlk : i < k
        · obtain ⟨Y3, y, hY3⟩ : ∃ Y3 y, Y1 = Y3 ++ [y] := by
            rcases List.eq_nil_or_concat Y1 with h | ⟨Y, y, h⟩
            · have h1 := HK.out; rw [h] at h1; simp at h1; omega
            · exact ⟨Y, y, by simpa using h⟩
          subst hY3
          have hrow : RowS pasCells 6 base 47 g n c wi ((P ++ R1 ++ Y3) ++ y :: (y0 :: (Y2 ++ S))) := by simpa using HR.out
          obtain ⟨q1, e1⟩ := list_mid (P ++ R1 ++ Y3) (y0 :: (Y2 ++ S)) y (k - 1) (by have h1 := HA.out; have h2 := HK.out; have h3 := HBR.out; simp at h2 ⊢; omega)
          obtain ⟨q2, e2⟩ : ∃ h : k < ((P ++ R1 ++ Y3) ++ y :: (y0 :: (Y2 ++ S))).length, ((P ++ R1 ++ Y3) ++ y :: (y0 :: (Y2 ++ S)))[k] = y0 := list_mid2 (P ++ R1 ++ Y3) [] (Y2 ++ S) y y0 k (by rw [List.length_nil]; have h : k - 1 = (P ++ R1 ++ Y3).length := (by have h1 := HA.out; have h2 := HK.out; have h3 := HBR.out; simp at h2 ⊢; omega); omega)
          have hVX_ : wi.rangeAt g ((k - 1) * 6) (pasCells y) := by have h := hrow.range pas_len q1; rw [e1] at h; exact h
          have hVY_ : wi.rangeAt g ((k) * 6) (pasCells y0) := by have h := hrow.range pas_len q2; rw [e2] at h; exact h
          have hls : (((P ++ R1 ++ Y3) ++ y :: (y0 :: (Y2 ++ S))).set k y).set (k - 1) y0 = (P ++ R1 ++ Y3) ++ y0 :: (y :: (Y2 ++ S)) := list_set2 (P ++ R1 ++ Y3) (Y2 ++ S) y0 y k (by have h : k - 1 = (P ++ R1 ++ Y3).length := (by have h1 := HA.out; have h2 := HK.out; have h3 := HBR.out; simp at h2 ⊢; omega); omega)
          obtain ⟨VX, hX⟩ : ∃ X, (pasCells y).toArray = X := ⟨_, rfl⟩
          obtain ⟨VY, hY⟩ : ∃ X, (pasCells y0).toArray = X := ⟨_, rfl⟩
          have HVX := Lib.hid hX
          have HVY := Lib.hid hY
          have HROW := Lib.hid hrow
          have HLS := Lib.hid hls
          have Q1 := Lib.hid q1
          have Q2 := Lib.hid q2
          have hkn1 : k < n := by omega
          have hkn2 : k - 1 < n := by omega
          clear hrow e1 e2 q1 q2 hX hY hls
          have hw3 : IntKind.i64.wrap ((k : Int) - 1) = (k : Int) - 1 := IntWalk.i64_in _ (by omega)
          have htn : ((k : Int) - 1).toNat = k - 1 := by omega
          go_wp2_with fail
          refine wp_region_pre 15 [(2, .slice (some ⟨g, 0, none⟩) n c), (3, .int .i64 (k : Int)), (4, .int .i64 ((k : Int) - 1))] (fun ix vals v w1 => match ix with | 0 => v = .slice (some ⟨g, 0, none⟩) n c | 1 => v = .int .i64 (k : Int) | 2 => v = .slice (some ⟨g, 0, none⟩) n c | 3 => v = .int .i64 (k : Int) | 4 => v = .int .i64 ((k : Int) - 1) | 5 => v = .slice (some ⟨g, 0, none⟩) n c | 6 => v = .int .i64 (k : Int) | 7 => v = .int .i64 ((k : Int) - 1) | 8 => v = .pointer (some ⟨g, (k - 1) * 6, none⟩) | 9 => v = .agg VX | 10 => v = .slice (some ⟨g, 0, none⟩) n c | 11 => v = .int .i64 (k : Int) | 12 => v = .pointer (some ⟨g, (k) * 6, none⟩) | 13 => v = .agg VY | _ => v = .pointer (some ⟨g, (k) * 6, none⟩)) (by kernel_rfl) (by kernel_rfl) (by kernel_rfl) (by kernel_rfl) (by kernel_rfl) ?_ ?_ ?_ ?_ ?_ ?_
          · refine ⟨⟨_, rfl, by kernel_rfl, by kernel_rfl, yields_move rfl rfl rfl⟩, ⟨_, rfl, by kernel_rfl, by kernel_rfl, yields_move rfl rfl rfl⟩, ⟨_, rfl, by kernel_rfl, by kernel_rfl, yields_sub rfl rfl rfl rfl hw3⟩, trivial⟩
          · intro j hj vals w1
            simp only [List.map_cons, List.map_nil, List.mem_cons, List.not_mem_nil, or_false] at hj
            rcases hj with rfl | rfl | rfl <;> rfl
          · intro ix vals v w1 w2 hi hr hx
            match ix, hr with
            | 0, hr => exact hr
            | 1, hr => exact hr
            | 2, hr => exact hr
            | 3, hr => exact hr
            | 4, hr => exact hr
            | 5, hr => exact hr
            | 6, hr => exact hr
            | 7, hr => exact hr
            | 8, hr => exact hr
            | 9, hr => exact hr
            | 10, hr => exact hr
            | 11, hr => exact hr
            | 12, hr => exact hr
            | 13, hr => exact hr
            | (kx + 14), hr => exact hr
          · intro ix vals vals_ v w1 hi hv hr
            exact hr
          · refine ⟨?_, ?_, ?_, ?_, ?_, ?_, ?_, ?_, ?_, ?_, ?_, ?_, ?_, ?_, ?_, trivial⟩
            · intro vals w1 hx hd ha
              clear hd ha
              simp only [Lf]
              go_wp2
              exact ⟨rfl, Ext.refl _, rfl⟩
            · intro vals w1 hx hd ha
              clear hd ha
              simp only [Lf, dstAt, Act.put, List.getElem?_toArray, List.getElem?_cons_zero, Option.bind_some, List.setIfInBounds_toArray, List.set_cons_zero, List.set_cons_succ]
              go_wp2
              exact ⟨rfl, Ext.refl _, rfl⟩
            · intro vals w1 hx hd ha
              clear hd ha
              simp only [Lf, dstAt, Act.put, List.getElem?_toArray, List.getElem?_cons_zero, List.getElem?_cons_succ, Option.bind_some, List.setIfInBounds_toArray, List.set_cons_zero, List.set_cons_succ]
              go_wp2
              exact ⟨rfl, Ext.refl _, rfl⟩
            · intro vals w1 hx hd ha
              clear hd ha
              simp only [Lf, dstAt, Act.put, List.getElem?_toArray, List.getElem?_cons_zero, List.getElem?_cons_succ, Option.bind_some, List.setIfInBounds_toArray, List.set_cons_zero, List.set_cons_succ]
              go_wp2
              exact ⟨rfl, Ext.refl _, rfl⟩
            · intro vals w1 hx hd ha
              have e3 : vals 3 = .int .i64 (k : Int) := hd 3 (by decide)
              clear hd ha
              simp only [Lf, dstAt, Act.put, List.getElem?_toArray, List.getElem?_cons_zero, List.getElem?_cons_succ, Option.bind_some, List.setIfInBounds_toArray, List.set_cons_zero, List.set_cons_succ]
              simp only [e3]
              clear e3
              go_wp2
              exact ⟨rfl, Ext.refl _, rfl⟩
            · intro vals w1 hx hd ha
              clear hd ha
              simp only [Lf, dstAt, Act.put, List.getElem?_toArray, List.getElem?_cons_zero, List.getElem?_cons_succ, Option.bind_some, List.setIfInBounds_toArray, List.set_cons_zero, List.set_cons_succ]
              go_wp2
              exact ⟨rfl, Ext.refl _, rfl⟩
            · intro vals w1 hx hd ha
              clear hd ha
              simp only [Lf, dstAt, Act.put, List.getElem?_toArray, List.getElem?_cons_zero, List.getElem?_cons_succ, Option.bind_some, List.setIfInBounds_toArray, List.set_cons_zero, List.set_cons_succ]
              go_wp2
              exact ⟨rfl, Ext.refl _, rfl⟩
            · intro vals w1 hx hd ha
              have e6 : vals 6 = .int .i64 (k : Int) := hd 6 (by decide)
              clear hd ha
              simp only [Lf, dstAt, Act.put, List.getElem?_toArray, List.getElem?_cons_zero, List.getElem?_cons_succ, Option.bind_some, List.setIfInBounds_toArray, List.set_cons_zero, List.set_cons_succ]
              simp only [e6]
              clear e6
              go_wp2
              exact ⟨rfl, Ext.refl _, rfl⟩
            · intro vals w1 hx hd ha
              have e5 : vals 5 = .slice (some ⟨g, 0, none⟩) n c := hd 5 (by decide)
              have e7 : vals 7 = .int .i64 ((k : Int) - 1) := hd 7 (by decide)
              clear hd ha
              simp only [Lf, dstAt, Act.put, List.getElem?_toArray, List.getElem?_cons_zero, List.getElem?_cons_succ, Option.bind_some, List.setIfInBounds_toArray, List.set_cons_zero, List.set_cons_succ]
              simp only [e5, e7]
              clear e5 e7
              go_wp2
              exact ⟨rfl, Ext.refl _, rfl⟩
            · intro vals w1 hx hd ha
              have e8 : vals 8 = .pointer (some ⟨g, (k - 1) * 6, none⟩) := hd 8 (by decide)
              clear hd ha
              simp only [Lf, dstAt, Act.put, List.getElem?_toArray, List.getElem?_cons_zero, List.getElem?_cons_succ, Option.bind_some, List.setIfInBounds_toArray, List.set_cons_zero, List.set_cons_succ]
              simp only [e8]
              clear e8
              refine wpList_load_st rfl _ _ rfl g ((k - 1) * 6) rfl VX (pasCells y) HVX.out _ (RA.range2 hVX_ hx.undrew) Try.underlying47 rfl pas_size ?_
              go_wp2
              exact ⟨rfl, Ext.refl _, rfl⟩
            · intro vals w1 hx hd ha
              clear hd ha
              simp only [Lf, dstAt, Act.put, List.getElem?_toArray, List.getElem?_cons_zero, List.getElem?_cons_succ, Option.bind_some, List.setIfInBounds_toArray, List.set_cons_zero, List.set_cons_succ]
              go_wp2
              exact ⟨rfl, Ext.refl _, rfl⟩
            · intro vals w1 hx hd ha
              clear hd ha
              simp only [Lf, dstAt, Act.put, List.getElem?_toArray, List.getElem?_cons_zero, List.getElem?_cons_succ, Option.bind_some, List.setIfInBounds_toArray, List.set_cons_zero, List.set_cons_succ]
              go_wp2
              exact ⟨rfl, Ext.refl _, rfl⟩
            · intro vals w1 hx hd ha
              have e10 : vals 10 = .slice (some ⟨g, 0, none⟩) n c := hd 10 (by decide)
              have e11 : vals 11 = .int .i64 (k : Int) := hd 11 (by decide)
              clear hd ha
              simp only [Lf, dstAt, Act.put, List.getElem?_toArray, List.getElem?_cons_zero, List.getElem?_cons_succ, Option.bind_some, List.setIfInBounds_toArray, List.set_cons_zero, List.set_cons_succ]
              simp only [e10, e11]
              clear e10 e11
              go_wp2
              exact ⟨rfl, Ext.refl _, rfl⟩
            · intro vals w1 hx hd ha
              have e12 : vals 12 = .pointer (some ⟨g, (k) * 6, none⟩) := hd 12 (by decide)
              clear hd ha
              simp only [Lf, dstAt, Act.put, List.getElem?_toArray, List.getElem?_cons_zero, List.getElem?_cons_succ, Option.bind_some, List.setIfInBounds_toArray, List.set_cons_zero, List.set_cons_succ]
              simp only [e12]
              clear e12
              refine wpList_load_st rfl _ _ rfl g ((k) * 6) rfl VY (pasCells y0) HVY.out _ (RA.range2 hVY_ hx.undrew) Try.underlying47 rfl pas_size ?_
              go_wp2
              exact ⟨rfl, Ext.refl _, rfl⟩
            · intro vals w1 hx hd ha
              have e0 : vals 0 = .slice (some ⟨g, 0, none⟩) n c := hd 0 (by decide)
              have e1 : vals 1 = .int .i64 (k : Int) := hd 1 (by decide)
              have e5 : vals 5 = .slice (some ⟨g, 0, none⟩) n c := hd 5 (by decide)
              have e6 : vals 6 = .int .i64 (k : Int) := hd 6 (by decide)
              have e7 : vals 7 = .int .i64 ((k : Int) - 1) := hd 7 (by decide)
              have e8 : vals 8 = .pointer (some ⟨g, (k - 1) * 6, none⟩) := hd 8 (by decide)
              have e9 : vals 9 = .agg VX := hd 9 (by decide)
              have e13 : vals 13 = .agg VY := hd 13 (by decide)
              clear hd ha
              simp only [Lf, dstAt, Act.put, List.getElem?_toArray, List.getElem?_cons_zero, List.getElem?_cons_succ, Option.bind_some, List.setIfInBounds_toArray, List.set_cons_zero, List.set_cons_succ]
              simp only [e0, e1, e5, e6, e7, e8, e9, e13]
              clear e0 e1 e5 e6 e7 e8 e9 e13
              go_wp2
              exact ⟨rfl, Ext.refl _, rfl⟩
          intro vals w6 hx6 hf
          have e2 : vals 2 = .slice (some ⟨g, 0, none⟩) n c := hf 2 (by omega)
          have e4 : vals 4 = .int .i64 ((k : Int) - 1) := hf 4 (by omega)
          have e9 : vals 9 = .agg VX := hf 9 (by omega)
          have e13 : vals 13 = .agg VY := hf 13 (by omega)
          have e14 : vals 14 = .pointer (some ⟨g, (k) * 6, none⟩) := hf 14 (by omega)
          clear hf
          have hx6 := hx6.undrew
          have hR6 := HROW.out.ext hx6
          obtain ⟨hs1, hg1⟩ := hR6.store pas_len Q2.out y
          have ht1 := hR6.there pas_len Q2.out
          have hl1 : k - 1 < (((P ++ R1 ++ Y3) ++ y :: (y0 :: (Y2 ++ S))).set k y).length := by rw [List.length_set]; exact Q1.out
          obtain ⟨hs2, hg2⟩ := hs1.store pas_len hl1 y0
          have ht2 := hs1.there pas_len hl1
          rw [HLS.out] at hs2
          have hG6 : w.grownBy ((w6.setCells g (k * 6) (pasCells y)).setCells g ((k - 1) * 6) (pasCells y0)) (some g) := gb_trans (gb_trans HG.out (grown_ext hx6)) (gb_trans hg1 hg2)
          have HT1 := Lib.hid ht1
          have HT2 := Lib.hid ht2
          have HS2 := Lib.hid hs2
          have HG6 := Lib.hid hG6
          clear ht1 ht2 hs1 hg1 hs2 hg2 hG6 hR6 hl1 hVX_ hVY_ hx6 HLS HROW hw3 htn
          refine tailF 15 _ _ 2 (by kernel_rfl) rfl ?_ (fun a w q => tailF 16 _ _ 1 (by kernel_rfl) rfl q (fun a w q => tail1 17 _ (by kernel_rfl) (by kernel_rfl) rfl q))
          simp only [Lf, dstAt, Act.put, List.getElem?_toArray, List.getElem?_cons_zero, List.getElem?_cons_succ, Option.bind_some, List.setIfInBounds_toArray, List.set_cons_zero, List.set_cons_succ]
          rw [e2, e4, e9, e13, e14]
          clear e2 e4 e9 e13 e14
          have hw3 : IntKind.i64.wrap ((k : Int) - 1) = (k : Int) - 1 := IntWalk.i64_in _ (by omega)
          have htn : ((k : Int) - 1).toNat = k - 1 := by omega
          refine wpList_store_st rfl _ _ _ rfl g (k * 6) VX (pasCells y) HVX.out rfl rfl HT1.out pas_size (by simp [pasCells, Value.oneCell']) ?_
          go_wp2_with (refine wpList_store_st rfl _ _ _ rfl g ((k - 1) * 6) VY (pasCells y0) HVY.out rfl rfl HT2.out pas_size (by simp [pasCells, Value.oneCell']) ?_)
          refine Qn_of ?_
          generalize (w6.setCells g (k * 6) (pasCells y)).setCells g ((k - 1) * 6) (pasCells y0) = w8 at HS2 HG6 ⊢
          clear hw3 htn
          have HRN : Hid (RowS pasCells 6 base 47 g n c w8 (P ++ R1 ++ Y3 ++ y0 :: ((y :: Y2) ++ S))) := Lib.hid (by simpa using HS2.out)
          have HKN : Hid (R2 = Y3 ++ (y :: Y2) ∧ i + Y3.length = k - 1) := Lib.hid (by obtain ⟨h1, h2⟩ := HK.out; refine ⟨by rw [h1]; simp, ?_⟩; simp at h2; omega)
          clear HS2 HK HR HG
          have hw4 : IntKind.i64.wrap ((k : Int) - 1) = (k : Int) - 1 := IntWalk.i64_in _ (by omega)
          go_wp2
          go_roundw
          case rel => exact ⟨k - 1, _, _, by omega, by omega, by rw [show ((k - 1 : Nat) : Int) = (k : Int) - 1 by omega], HKN, HRN, HG6⟩
          case measure => simp [intOf]; omega
        · have hfin : RowS pasCells 6 base 47 g n c wi (P ++ mergeP (ltOf cv) Al [y0] ++ S) := by
            have h1 := HK.out
            have hY0 : Y1 = [] := List.eq_nil_of_length_eq_zero (by omega)
            have h := HR.out
            rw [hY0] at h h1
            rw [HRES.out, h1.1]
            simpa using h
          have HFIN := Lib.hid hfin
          clear hfin
          have hlk2 : ¬ ((i : Int) < (k : Int)) := by omega
          go_wp2
          (try simp only [Exit.inBlock, Exit.then])
          refine bodyPost_ret (results_none rfl _ _ _) rfl ?_
          exact ⟨rfl, by simpa using HFIN.out, HG.out⟩

end Go.Proofs.Ytlmpmhfbjblhnaa
namespace Go.Proofs.Ytlmpmhfbjblhnaa
open Go.RowKit

/-- What a call of the merge does with shorter parts. -/
def SymIH (K : Nat) (caps : Array Value) (cv : Pas → Pas → Int) (base g n c N : Nat) : Prop := ∀ (P A B S : List Pas) (a m b : Nat) (w : World), a = P.length → m = a + A.length → b = m + B.length → A.length + B.length ≤ N → 0 < A.length → 0 < B.length → Srtd (ltOf cv) A → Srtd (ltOf cv) B → RowS pasCells 6 base 47 g n c w (P ++ A ++ B ++ S) →
    Calls Try.prog 92 #[.slice (some ⟨g, 0, none⟩) n c, .int .i64 (a : Int), .int .i64 (m : Int), .int .i64 (b : Int), .func (.func K) #[] caps] w fun e w' => e = .returned (.tuple #[]) ∧ RowS pasCells 6 base 47 g n c w' (P ++ mergeP (ltOf cv) A B ++ S) ∧ w.grownBy w' (some g)
theorem length_mergeP {α : Type} (lt : α → α → Bool) (A B : List α) : (mergeP lt A B).length = A.length + B.length := by
  match A, B with
  | [], B => simp [nil_mergeP]
  | a :: A, [] => simp [mergeP_nil]
  | a :: A, b :: B =>
    rw [mergeP]
    split
    · have ih := length_mergeP lt (a :: A) B
      rw [List.length_cons, ih]; simp; omega
    · have ih := length_mergeP lt A (b :: B)
      rw [List.length_cons, ih]; simp; omega
termination_by A.length + B.length
set_option maxHeartbeats 16000000 in
set_option maxRecDepth 100000 in
theorem sym_step (K : Nat) (caps : Array Value) (cv : Pas → Pas → Int) (eg : ∀ args w, (callFunc K args).run Try.prog w = .ok (.enter K args) w) (hcmp : CmpC K caps cv) (hsw : SW (ltOf cv)) (base g n c : Nat) (hn : n ≤ 1000000) (N : Nat) (IH : SymIH K caps cv base g n c N) (P Al Bl S : List Pas) (a m b : Nat) (w : World) (ha : a = P.length) (hm : m = a + Al.length) (hb : b = m + Bl.length) (hA2 : 2 ≤ Al.length) (hB2 : 2 ≤ Bl.length) (hN : Al.length + Bl.length ≤ N + 1) (hsa : Srtd (ltOf cv) Al) (hsb : Srtd (ltOf cv) Bl) (hr : RowS pasCells 6 base 47 g n c w (P ++ Al ++ Bl ++ S)) :
    Calls Try.prog 92 #[.slice (some ⟨g, 0, none⟩) n c, .int .i64 (a : Int), .int .i64 (m : Int), .int .i64 (b : Int), .func (.func K) #[] caps] w
      fun e w' => e = .returned (.tuple #[]) ∧ RowS pasCells 6 base 47 g n c w' (P ++ mergeP (ltOf cv) Al Bl ++ S) ∧ w.grownBy w' (some g) := by
  have hc := hr.le
  have hln := hr.1
  have hbn : b ≤ n := by simp at hln; omega
  obtain ⟨LL, hL⟩ : ∃ l, l = P ++ Al ++ Bl ++ S := ⟨_, rfl⟩
  rw [← hL] at hr
  have HRW := Lib.hid hr
  have HCMP := Lib.hid hcmp
  have HSW := Lib.hid hsw
  have HSA := Lib.hid hsa
  have HSB := Lib.hid hsb
  have HA := Lib.hid ha
  have HL0 := Lib.hid hL
  have HIH := Lib.hid IH
  have HN_ := Lib.hid hN
  obtain ⟨mid, hmid⟩ : ∃ mid, mid = (a + b) / 2 := ⟨_, rfl⟩
  have em : ((a : Int) + (b : Int)) / 2 = ((mid : Nat) : Int) := by omega
  have md1 : a + 2 ≤ m := by omega
  have md2 : m + 2 ≤ b := by omega
  have md3 : 2 * mid ≤ a + b := by omega
  have md4 : a + b ≤ 2 * mid + 1 := by omega
  have hpre : ∃ (s0 r0 : Nat) (A1 Q A2 B1 T B2 : List Pas), s0 ≤ r0 ∧ a ≤ s0 ∧ r0 ≤ m ∧ Hid (Al = A1 ++ Q ++ A2 ∧ Bl = B1 ++ T ++ B2 ∧ a + A1.length = s0 ∧ s0 + Q.length = r0 ∧ T.length = Q.length ∧ B1.length + r0 = mid) ∧ Hid (∀ u ∈ A1, ∀ v ∈ B2, ltOf cv v u = false) ∧ Hid (∀ v ∈ B1, ∀ u ∈ A2, ltOf cv v u = true) ∧ ((mid < m ∧ s0 + b = mid + m ∧ r0 = mid) ∨ (m ≤ mid ∧ s0 = a ∧ r0 = m)) := by
    rcases Nat.lt_or_ge mid m with h | h
    · obtain ⟨A1, AQ, e1, e2⟩ := list_cut Al (mid + m - b - a) (by omega)
      obtain ⟨Q, A2, e3, e4⟩ := list_cut AQ (b - m) (by rw [e1] at hm; simp at hm; omega)
      refine ⟨mid + m - b, mid, A1, Q, A2, [], Bl, [], by omega, by omega, by omega, Lib.hid ⟨by rw [e1, e3]; simp, by simp, by omega, by omega, by omega, by simp⟩, Lib.hid (fun _ _ v hv => by cases hv), Lib.hid (fun v hv => by cases hv), .inl ⟨h, by omega, rfl⟩⟩
    · obtain ⟨B1, BQ, e1, e2⟩ := list_cut Bl (mid - m) (by omega)
      obtain ⟨T, B2, e3, e4⟩ := list_cut BQ (m - a) (by rw [e1] at hb; simp at hb; omega)
      refine ⟨a, m, [], Al, [], B1, T, B2, by omega, Nat.le_refl _, Nat.le_refl _, Lib.hid ⟨by simp, by rw [e1, e3]; simp, by simp, by omega, by omega, by omega⟩, Lib.hid (fun u hu => by cases hu), Lib.hid (fun _ _ u hu => by cases hu), .inr ⟨h, rfl, rfl⟩⟩
  obtain ⟨s0, r0, A1, Q, A2, B1, T, B2, hsr, has, hrm, HQ0, HI0, HJ0, hcase⟩ := hpre
  have hw0 : IntKind.i64.wrap ((m : Int) - (a : Int)) = (m : Int) - (a : Int) := IntWalk.i64_in _ (by omega)
  have he0 : ((m : Int) - (a : Int) == 1) = false := by simp; omega
  have hw9 : IntKind.i64.wrap ((b : Int) - (m : Int)) = (b : Int) - (m : Int) := IntWalk.i64_in _ (by omega)
  have he9 : ((b : Int) - (m : Int) == 1) = false := by simp; omega
  have hw1 : IntKind.i64.wrap ((mid : Int) + (m : Int)) = (mid : Int) + (m : Int) := IntWalk.i64_in _ (by omega)
  have hw2 : IntKind.i64.wrap ((mid : Int) + (m : Int) - (b : Int)) = (mid : Int) + (m : Int) - (b : Int) := IntWalk.i64_in _ (by omega)
  have hw3 : IntKind.i64.wrap ((mid : Int) + (m : Int) - 1) = (mid : Int) + (m : Int) - 1 := IntWalk.i64_in _ (by omega)
  have HM := Lib.hid hm
  have HBM := Lib.hid hb
  clear hr hcmp hsw hsa hsb hL ha hln hb hm hA2 hB2 hmid IH hN
  rcases hcase with ⟨hca, hcb, hcc⟩ | ⟨hca, hcb, hcc⟩
  all_goals
    go_enter Try.func92, Try.ntmps92
    go_wp2
    clear hw0 he0 hw9 he9 hw1 hw2 hw3
    go_loopw [20, 21] (fun u v wr => ∃ (s r : Nat) (A1 Q A2 B1 T B2 : List Pas), s ≤ r ∧ a ≤ s ∧ r ≤ m ∧ u = .int .i64 s ∧ v = .int .i64 r ∧ Hid (Al = A1 ++ Q ++ A2 ∧ Bl = B1 ++ T ++ B2 ∧ a + A1.length = s ∧ s + Q.length = r ∧ T.length = Q.length ∧ B1.length + r = mid) ∧ Hid (∀ u ∈ A1, ∀ v ∈ B2, ltOf cv v u = false) ∧ Hid (∀ v ∈ B1, ∀ u ∈ A2, ltOf cv v u = true) ∧ Ext w wr) (fun u v _ => (intOf v).toNat - (intOf u).toNat)
    case atStart => exact ⟨s0, r0, A1, Q, A2, B1, T, B2, hsr, has, hrm, by first | (rw [show ((s0 : Nat) : Int) = (mid : Int) + (m : Int) - (b : Int) by omega]) | (rw [show ((s0 : Nat) : Int) = (a : Int) by omega]), by rw [hcc], HQ0, HI0, HJ0, Ext.refl _⟩
    case round =>
      clear HQ0 HI0 HJ0 hsr has hrm hca hcb hcc
      obtain ⟨s, r, A1, Q, A2, B1, T, B2, hsr, has, hrm, rfl, rfl, HQ, HI, HJ, hxw⟩ := hrel
      by_cases hlt : s < r
      · obtain ⟨h, hh⟩ : ∃ h, h = (s + r) / 2 := ⟨_, rfl⟩
        have em2 : ((s : Int) + (r : Int)) / 2 = ((h : Nat) : Int) := by omega
        have hh1 : s ≤ h := by omega
        have hh2 : h < r := by omega
        clear hh
        go_wp2_with fail
        clear em2
        obtain ⟨Q1, z, Q2, hQ, hQ1⟩ := list_at Q (h - s) (by have := HQ.out; omega)
        obtain ⟨T1, y0, T2, hT, hT1⟩ := list_at T (r - 1 - h) (by have := HQ.out; omega)
        have hq := HQ.out
        rw [hQ, hT] at hq
        have HQ2 := Lib.hid hq
        have HL : Hid (LL = P ++ (A1 ++ (Q1 ++ z :: Q2) ++ A2) ++ (B1 ++ (T1 ++ y0 :: T2) ++ B2) ++ S) := Lib.hid (by rw [HL0.out, ← hq.1, ← hq.2.1])
        have HQ1 := Lib.hid hQ1
        have HT1 := Lib.hid hT1
        have hal : a + (A1 ++ (Q1 ++ z :: Q2) ++ A2).length = m := by rw [← hq.1]; exact HM.out.symm
        have HAL := Lib.hid hal
        obtain ⟨pc, hpc⟩ : ∃ pc, pc = mid + m - 1 - h := ⟨_, rfl⟩
        have hrm2 : r ≤ mid := by have := hq.2.2.2.2.2; omega
        have hpc2 : pc + 1 + h = mid + m := by omega
        clear hal hpc
        have eqa : LL = (P ++ (A1 ++ (Q1 ++ z :: Q2) ++ A2) ++ (B1 ++ T1)) ++ y0 :: (T2 ++ B2 ++ S) := by simp [HL.out]
        obtain ⟨qa, fqa⟩ := list_mid (P ++ (A1 ++ (Q1 ++ z :: Q2) ++ A2) ++ (B1 ++ T1)) (T2 ++ B2 ++ S) y0 pc (by have h1 := HAL.out; have h2 := HA.out; have h3 := HQ2.out.2.2.2.2.2; have h4 := HT1.out; rw [List.length_append, @List.length_append _ P, @List.length_append _ B1]; omega)
        have hX_ : wr.rangeAt g (pc * 6) (pasCells y0) := by have h := (HRW.out.ext hxw).range pas_len (k := pc) (by rw [eqa]; exact qa); simp only [eqa] at h; rw [fqa] at h; exact h
        obtain ⟨X, hhX⟩ : ∃ X, (pasCells y0).toArray = X := ⟨_, rfl⟩
        have HX := Lib.hid hhX
        have eqb : LL = (P ++ (A1 ++ Q1)) ++ z :: (Q2 ++ A2 ++ (B1 ++ (T1 ++ y0 :: T2) ++ B2) ++ S) := by simp [HL.out]
        obtain ⟨qb, fqb⟩ := list_mid (P ++ (A1 ++ Q1)) (Q2 ++ A2 ++ (B1 ++ (T1 ++ y0 :: T2) ++ B2) ++ S) z h (by have h1 := HQ2.out; have h2 := HA.out; have h3 := HQ1.out; simp; omega)
        have hY_ : wr.rangeAt g (h * 6) (pasCells z) := by have h := (HRW.out.ext hxw).range pas_len (k := h) (by rw [eqb]; exact qb); simp only [eqb] at h; rw [fqb] at h; exact h
        obtain ⟨Y, hhY⟩ : ∃ X, (pasCells z).toArray = X := ⟨_, rfl⟩
        have HY := Lib.hid hhY
        have hcc := HCMP.out y0 z
        rw [hhX, hhY] at hcc
        obtain ⟨v_, hv⟩ : ∃ v, v = cv y0 z := ⟨_, rfl⟩
        rw [← hv] at hcc
        have HC := Lib.hid hcc
        have hlt_ : ltOf cv y0 z = decide (v_ < 0) := by rw [hv]; rfl
        have HLT := Lib.hid hlt_
        clear hcc hv hlt_ eqa eqb qa qb fqa fqb hhX hhY
        clear hQ hQ1 hT hT1 hq HQ HAL
        have hhn : h < n := by omega
        have hpcb : pc < b := by have h1 := HBM.out; rw [HQ2.out.2.1] at h1; have h2 := HT1.out; have h3 := HQ2.out.2.2.2.2.2; simp at h1; omega
        have hpn : pc < n := by omega
        have hw5 : IntKind.i64.wrap ((mid : Int) + (m : Int) - 1 - (h : Int)) = (mid : Int) + (m : Int) - 1 - (h : Int) := IntWalk.i64_in _ (by omega)
        have hpt : ((mid : Int) + (m : Int) - 1 - (h : Int)) = (pc : Int) := by omega
        rw [hpt] at hw5
        refine wp_region_obl 14 (fun ix vals v w1 => match ix with | 0 => v = .func (.func K) #[] caps | 1 => v = .slice (some ⟨g, 0, none⟩) n c | 2 => v = .int .i64 ((mid : Int) + (m : Int) - 1) | 3 => v = .int .i64 (h : Int) | 4 => v = .int .i64 (pc : Int) | 5 => v = .pointer (some ⟨g, (pc) * 6, none⟩) | 6 => v = .agg X | 7 => v = .slice (some ⟨g, 0, none⟩) n c | 8 => v = .int .i64 (h : Int) | 9 => v = .pointer (some ⟨g, (h) * 6, none⟩) | 10 => v = .agg Y | 11 => v = .int .i64 v_ | 12 => v = .bool (decide (v_ < 0)) | _ => v = .bool (!decide (v_ < 0))) (by kernel_rfl) (by kernel_rfl) ?_ ?_ ?_ ?_
        · intro ix vals v w1 w2 hi hr hx
          match ix, hr with
          | 0, hr => exact hr
          | 1, hr => exact hr
          | 2, hr => exact hr
          | 3, hr => exact hr
          | 4, hr => exact hr
          | 5, hr => exact hr
          | 6, hr => exact hr
          | 7, hr => exact hr
          | 8, hr => exact hr
          | 9, hr => exact hr
          | 10, hr => exact hr
          | 11, hr => exact hr
          | 12, hr => exact hr
          | (kx + 13), hr => exact hr
        · intro ix vals vals_ v w1 hi hv hr
          exact hr
        · refine obls_ofT [some 158, some 159, some 160, some 161, some 162, some 163, some 164, some 165, some 166, some 167, some 168, some 169, some 170, some 171] [(0, .slice (some ⟨g, 0, none⟩) n c), (4, .func (.func K) #[] caps), (22, .int .i64 ((mid : Int) + (m : Int) - 1)), (23, .int .i64 (h : Int))] 220 (by kernel_rfl) (by kernel_rfl) ⟨by kernel_rfl, by kernel_rfl, by kernel_rfl, by kernel_rfl, trivial⟩ ?_
          refine ⟨?_, ?_, ?_, ?_, ?_, ?_, ?_, ?_, ?_, ?_, ?_, ?_, ?_, ?_, trivial⟩
          · intro vals w1 hx hd
            refine .run [(4, .func (.func K) #[] caps)] { dst := some 0, op := Go.Op.move (Go.Operand.const (.func (.func K) #[] caps)), type := 84, pos := "", after := #[], guard := none } 158 ⟨.out (by kernel_rfl) (by kernel_rfl), trivial⟩ (by kernel_rfl) (by kernel_rfl) (by kernel_rfl) rfl rfl rfl ?_
            clear hd
            go_wp2
            exact ⟨rfl, Ext.refl _, rfl⟩
          · intro vals w1 hx hd
            refine .run [(0, .slice (some ⟨g, 0, none⟩) n c)] { dst := some 0, op := Go.Op.move (Go.Operand.const (.slice (some ⟨g, 0, none⟩) n c)), type := 32, pos := "", after := #[], guard := none } 159 ⟨.out (by kernel_rfl) (by kernel_rfl), trivial⟩ (by kernel_rfl) (by kernel_rfl) (by kernel_rfl) rfl rfl rfl ?_
            clear hd
            go_wp2
            exact ⟨rfl, Ext.refl _, rfl⟩
          · intro vals w1 hx hd
            refine .run [(22, .int .i64 ((mid : Int) + (m : Int) - 1))] { dst := some 0, op := Go.Op.move (Go.Operand.const (.int .i64 ((mid : Int) + (m : Int) - 1))), type := 3, pos := "", after := #[], guard := none } 160 ⟨.out (by kernel_rfl) (by kernel_rfl), trivial⟩ (by kernel_rfl) (by kernel_rfl) (by kernel_rfl) rfl rfl rfl ?_
            clear hd
            go_wp2
            exact ⟨rfl, Ext.refl _, rfl⟩
          · intro vals w1 hx hd
            refine .run [(23, .int .i64 (h : Int))] { dst := some 0, op := Go.Op.move (Go.Operand.const (.int .i64 (h : Int))), type := 3, pos := "", after := #[], guard := none } 161 ⟨.out (by kernel_rfl) (by kernel_rfl), trivial⟩ (by kernel_rfl) (by kernel_rfl) (by kernel_rfl) rfl rfl rfl ?_
            clear hd
            go_wp2
            exact ⟨rfl, Ext.refl _, rfl⟩
          · intro vals w1 hx hd
            have e2 : vals 2 = .int .i64 ((mid : Int) + (m : Int) - 1) := hd 2 (by decide)
            have e3 : vals 3 = .int .i64 (h : Int) := hd 3 (by decide)
            refine .run [(160, .int .i64 ((mid : Int) + (m : Int) - 1)), (161, .int .i64 (h : Int))] { dst := some 0, op := Go.Op.binOp Go.BinOp.sub 3 (Go.Operand.const (.int .i64 ((mid : Int) + (m : Int) - 1))) (Go.Operand.const (.int .i64 (h : Int))) 3, type := 3, pos := "", after := #[], guard := none } 162 ⟨.inn 2 (by kernel_rfl) e2, .inn 3 (by kernel_rfl) e3, trivial⟩ (by kernel_rfl) (by kernel_rfl) (by kernel_rfl) rfl rfl rfl ?_
            clear hd e2 e3
            rw [← hpt]
            rw [← hpt] at hw5
            go_wp2
            exact ⟨rfl, Ext.refl _, rfl⟩
          · intro vals w1 hx hd
            have e1 : vals 1 = .slice (some ⟨g, 0, none⟩) n c := hd 1 (by decide)
            have e4 : vals 4 = .int .i64 (pc : Int) := hd 4 (by decide)
            refine .run [(159, .slice (some ⟨g, 0, none⟩) n c), (162, .int .i64 (pc : Int))] { dst := some 0, op := Go.Op.indexAddr 32 (Go.Operand.const (.slice (some ⟨g, 0, none⟩) n c)) (Go.Operand.const (.int .i64 (pc : Int))), type := 0, pos := "", after := #[], guard := none } 163 ⟨.inn 1 (by kernel_rfl) e1, .inn 4 (by kernel_rfl) e4, trivial⟩ (by kernel_rfl) (by kernel_rfl) (by kernel_rfl) rfl rfl rfl ?_
            clear hd e1 e4
            go_wp2
            exact ⟨rfl, Ext.refl _, rfl⟩
          · intro vals w1 hx hd
            have e5 : vals 5 = .pointer (some ⟨g, (pc) * 6, none⟩) := hd 5 (by decide)
            refine .run [(163, .pointer (some ⟨g, (pc) * 6, none⟩))] { dst := some 0, op := Go.Op.load 47 (Go.Operand.const (.pointer (some ⟨g, (pc) * 6, none⟩))), type := 47, pos := "", after := #[], guard := none } 164 ⟨.inn 5 (by kernel_rfl) e5, trivial⟩ (by kernel_rfl) (by kernel_rfl) (by kernel_rfl) rfl rfl rfl ?_
            clear hd e5
            refine wpList_load_st rfl _ _ rfl g ((pc) * 6) rfl X (pasCells y0) HX.out _ (RA.range2 hX_ hx.undrew) Try.underlying47 rfl pas_size ?_
            go_wp2
            exact ⟨rfl, Ext.refl _, rfl⟩
          · intro vals w1 hx hd
            refine .run [(0, .slice (some ⟨g, 0, none⟩) n c)] { dst := some 0, op := Go.Op.move (Go.Operand.const (.slice (some ⟨g, 0, none⟩) n c)), type := 32, pos := "", after := #[], guard := none } 165 ⟨.out (by kernel_rfl) (by kernel_rfl), trivial⟩ (by kernel_rfl) (by kernel_rfl) (by kernel_rfl) rfl rfl rfl ?_
            clear hd
            go_wp2
            exact ⟨rfl, Ext.refl _, rfl⟩
          · intro vals w1 hx hd
            refine .run [(23, .int .i64 (h : Int))] { dst := some 0, op := Go.Op.move (Go.Operand.const (.int .i64 (h : Int))), type := 3, pos := "", after := #[], guard := none } 166 ⟨.out (by kernel_rfl) (by kernel_rfl), trivial⟩ (by kernel_rfl) (by kernel_rfl) (by kernel_rfl) rfl rfl rfl ?_
            clear hd
            go_wp2
            exact ⟨rfl, Ext.refl _, rfl⟩
          · intro vals w1 hx hd
            have e7 : vals 7 = .slice (some ⟨g, 0, none⟩) n c := hd 7 (by decide)
            have e8 : vals 8 = .int .i64 (h : Int) := hd 8 (by decide)
            refine .run [(165, .slice (some ⟨g, 0, none⟩) n c), (166, .int .i64 (h : Int))] { dst := some 0, op := Go.Op.indexAddr 32 (Go.Operand.const (.slice (some ⟨g, 0, none⟩) n c)) (Go.Operand.const (.int .i64 (h : Int))), type := 0, pos := "", after := #[], guard := none } 167 ⟨.inn 7 (by kernel_rfl) e7, .inn 8 (by kernel_rfl) e8, trivial⟩ (by kernel_rfl) (by kernel_rfl) (by kernel_rfl) rfl rfl rfl ?_
            clear hd e7 e8
            go_wp2
            exact ⟨rfl, Ext.refl _, rfl⟩
          · intro vals w1 hx hd
            have e9 : vals 9 = .pointer (some ⟨g, (h) * 6, none⟩) := hd 9 (by decide)
            refine .run [(167, .pointer (some ⟨g, (h) * 6, none⟩))] { dst := some 0, op := Go.Op.load 47 (Go.Operand.const (.pointer (some ⟨g, (h) * 6, none⟩))), type := 47, pos := "", after := #[], guard := none } 168 ⟨.inn 9 (by kernel_rfl) e9, trivial⟩ (by kernel_rfl) (by kernel_rfl) (by kernel_rfl) rfl rfl rfl ?_
            clear hd e9
            refine wpList_load_st rfl _ _ rfl g ((h) * 6) rfl Y (pasCells z) HY.out _ (RA.range2 hY_ hx.undrew) Try.underlying47 rfl pas_size ?_
            go_wp2
            exact ⟨rfl, Ext.refl _, rfl⟩
          · intro vals w1 hx hd
            have e0 : vals 0 = .func (.func K) #[] caps := hd 0 (by decide)
            have e6 : vals 6 = .agg X := hd 6 (by decide)
            have e10 : vals 10 = .agg Y := hd 10 (by decide)
            refine .run [(158, .func (.func K) #[] caps), (164, .agg X), (168, .agg Y)] { dst := some 0, op := Go.Op.call { callee := Go.Callee.value (Go.Operand.const (.func (.func K) #[] caps)), args := #[(Go.Operand.const (.agg X)), (Go.Operand.const (.agg Y))], argTypes := #[47, 47] }, type := 3, pos := "", after := #[], guard := none } 169 ⟨.inn 0 (by kernel_rfl) e0, .inn 6 (by kernel_rfl) e6, .inn 10 (by kernel_rfl) e10, trivial⟩ (by kernel_rfl) (by kernel_rfl) (by kernel_rfl) rfl rfl rfl ?_
            clear hd e0 e6 e10
            go_wp2_with fail
            refine (HC.out _).mono ?_
            rintro e w2 ⟨rfl, hb2⟩
            go_wp2
            exact ⟨rfl, hb2, rfl⟩
          · intro vals w1 hx hd
            have e11 : vals 11 = .int .i64 v_ := hd 11 (by decide)
            refine .run [(169, .int .i64 v_)] { dst := some 0, op := Go.Op.binOp Go.BinOp.lss 3 (Go.Operand.const (.int .i64 v_)) (Go.Operand.const (Go.Value.int Go.IntKind.i64 0)) 3, type := 4, pos := "", after := #[], guard := none } 170 ⟨.inn 11 (by kernel_rfl) e11, trivial⟩ (by kernel_rfl) (by kernel_rfl) (by kernel_rfl) rfl rfl rfl ?_
            clear hd e11
            go_wp2
            exact ⟨rfl, Ext.refl _, rfl⟩
          · intro vals w1 hx hd
            have e12 : vals 12 = .bool (decide (v_ < 0)) := hd 12 (by decide)
            refine .run [(170, .bool (decide (v_ < 0)))] { dst := some 0, op := Go.Op.unOp Go.UnOp.not 4 (Go.Operand.const (.bool (decide (v_ < 0)))), type := 4, pos := "", after := #[], guard := none } 171 ⟨.inn 12 (by kernel_rfl) e12, trivial⟩ (by kernel_rfl) (by kernel_rfl) (by kernel_rfl) rfl rfl rfl ?_
            clear hd e12
            go_wp2
            exact ⟨rfl, Ext.refl _, rfl⟩
        intro vals w5 hx5 hf
        have e13 : vals 13 = .bool (!decide (v_ < 0)) := hf 13 (by omega)
        clear hf hX_ hY_ hw5 hpt
        have hxw := Ext.trans hxw hx5.undrew
        clear hx5
        refine tail0 (by kernel_rfl) ?_
        simp only [Lf, dstAt, Act.put, List.getElem?_toArray, List.getElem?_cons_zero, List.getElem?_cons_succ, Option.bind_some, List.setIfInBounds_toArray, List.set_cons_zero, List.set_cons_succ]
        rw [e13]
        clear e13
        have hw1 : IntKind.i64.wrap ((h : Int) + 1) = (h : Int) + 1 := IntWalk.i64_in _ (by omega)
        by_cases hv0 : v_ < 0
        · have hd : decide (v_ < 0) = true := by simpa using hv0
          have hlt2 : ltOf cv y0 z = true := by rw [HLT.out]; exact hd
          have hN : Al = A1 ++ Q1 ++ ((z :: Q2) ++ A2) ∧ Bl = (B1 ++ (T1 ++ [y0])) ++ T2 ++ B2 ∧ a + A1.length = s ∧ s + Q1.length = h ∧ T2.length = Q1.length ∧ (B1 ++ (T1 ++ [y0])).length + h = mid := by
            have h1 := HQ2.out
            have h2 := HQ1.out
            have h3 := HT1.out
            refine ⟨by rw [h1.1]; simp, by rw [h1.2.1]; simp, ?_, ?_, ?_, ?_⟩ <;> simp at h1 ⊢ <;> omega
          have HN := Lib.hid hN
          have HJ2 : Hid (∀ v ∈ B1 ++ (T1 ++ [y0]), ∀ u ∈ (z :: Q2) ++ A2, ltOf cv v u = true) := Lib.hid (s3_lt HSW.out (by rw [← HQ2.out.1]; exact HSA.out) (by rw [← HQ2.out.2.1]; exact HSB.out) hlt2)
          have HI2 : Hid (∀ u ∈ A1, ∀ v ∈ B2, ltOf cv v u = false) := HI
          rw [hd]
          clear hN hlt2 HI HJ HQ2 HQ1 HT1 HL hd
          go_wp2
          go_roundw
          case rel => exact ⟨s, h, _, _, _, _, _, _, hh1, has, by omega, rfl, rfl, HN, HI2, HJ2, hxw⟩
          case measure => simp [intOf]; omega
        · have hd : decide (v_ < 0) = false := by simpa using hv0
          have hlt2 : ltOf cv y0 z = false := by rw [HLT.out]; exact hd
          have hN : Al = (A1 ++ (Q1 ++ [z])) ++ Q2 ++ A2 ∧ Bl = B1 ++ T1 ++ ((y0 :: T2) ++ B2) ∧ a + (A1 ++ (Q1 ++ [z])).length = h + 1 ∧ h + 1 + Q2.length = r ∧ T1.length = Q2.length ∧ B1.length + r = mid := by
            have h1 := HQ2.out
            have h2 := HQ1.out
            have h3 := HT1.out
            refine ⟨by rw [h1.1]; simp, by rw [h1.2.1]; simp, ?_, ?_, ?_, ?_⟩ <;> simp at h1 ⊢ <;> omega
          have HN := Lib.hid hN
          have HI2 : Hid (∀ u ∈ A1 ++ (Q1 ++ [z]), ∀ v ∈ (y0 :: T2) ++ B2, ltOf cv v u = false) := Lib.hid (s3_ge HSW.out (by rw [← HQ2.out.1]; exact HSA.out) (by rw [← HQ2.out.2.1]; exact HSB.out) hlt2)
          have HJ2 : Hid (∀ v ∈ B1, ∀ u ∈ A2, ltOf cv v u = true) := HJ
          rw [hd]
          clear hN hlt2 HI HJ HQ2 HQ1 HT1 HL hd
          go_wp2
          go_roundw
          case rel => exact ⟨h + 1, r, _, _, _, _, _, _, by omega, by omega, hrm, by go_num, rfl, HN, HI2, HJ2, hxw⟩
          case measure => simp [intOf]; omega
      · have hsr2 : r = s := by omega
        subst hsr2
        have hq := HQ.out
        have hq0 : Q = [] := List.eq_nil_of_length_eq_zero (by omega)
        have ht0 : T = [] := List.eq_nil_of_length_eq_zero (by omega)
        rw [hq0, ht0] at hq
        simp only [List.append_nil, List.length_nil] at hq
        obtain ⟨hq1, hq2, hq3, _, _, hq6⟩ := hq
        have HRES : Hid (mergeP (ltOf cv) Al Bl = mergeP (ltOf cv) A1 B1 ++ mergeP (ltOf cv) A2 B2) := Lib.hid (by rw [hq1, hq2]; exact merge_split _ A1 A2 B1 B2 HI.out HJ.out)
        have hsA := HSA.out
        rw [hq1] at hsA
        obtain ⟨sA1, sA2, _⟩ := srtd_append.1 hsA
        have hsB := HSB.out
        rw [hq2] at hsB
        obtain ⟨sB1, sB2, _⟩ := srtd_append.1 hsB
        have hlA : A1.length + A2.length = m - a := by have h := HM.out; rw [hq1] at h; simp at h; omega
        have hlB : B1.length + B2.length = b - m := by have h := HBM.out; rw [hq2] at h; simp at h; omega
        have hrow : RowS pasCells 6 base 47 g n c wr ((P ++ A1) ++ A2 ++ B1 ++ (B2 ++ S)) := by have h := HRW.out.ext hxw; rw [HL0.out, hq1, hq2] at h; simpa using h
        have HG0 : Hid (w.grownBy wr (some g)) := Lib.hid (grown_ext hxw)
        have hnn := HN_.out
        have hnn2 : (A1.length + A2.length) + (B1.length + B2.length) ≤ N + 1 := by have h1 := HM.out; have h2 := HBM.out; omega
        have hap := HA.out
        obtain ⟨en, hen⟩ : ∃ en, en = m + B1.length := ⟨_, rfl⟩
        have hw6 : IntKind.i64.wrap ((mid : Int) + (m : Int) - (r : Int)) = (mid : Int) + (m : Int) - (r : Int) := IntWalk.i64_in _ (by omega)
        have hee : (mid : Int) + (m : Int) - (r : Int) = (en : Int) := by omega
        rw [hee] at hw6
        clear HQ HI HJ hq0 ht0 HRW HL0 HSA HSB hsA hsB HN_ hq1 hq2 hnn hxw em
        rcases Nat.eq_zero_or_pos A1.length with z1 | z1
        · skip
          rcases Nat.eq_zero_or_pos B1.length with z2 | z2
          · skip
            rcases Nat.eq_zero_or_pos A2.length with z3 | z3
            · exfalso; omega
            · skip
              rcases Nat.eq_zero_or_pos B2.length with z4 | z4
              · exfalso; omega
              · skip
                have f1 : ((r : Int) < (m : Int)) := by omega
                have f1n : (r < m) := by omega
                have f1d : decide (r < m) = true := by simp; omega
                have f2 : ¬ ((m : Int) < (en : Int)) := by omega
                have f2n : ¬ (m < en) := by omega
                have f2d : decide (m < en) = false := by simp; omega
                have f3 : ¬ ((a : Int) < (r : Int)) := by omega
                have f3n : ¬ (a < r) := by omega
                have f3d : decide (a < r) = false := by simp; omega
                have f4 : ¬ ((r : Int) < (mid : Int)) := by omega
                have f4n : ¬ (r < mid) := by omega
                have f4d : decide (r < mid) = false := by simp; omega
                have f5 : ((mid : Int) < (en : Int)) := by omega
                have f5n : (mid < en) := by omega
                have f5d : decide (mid < en) = true := by simp; omega
                have f6 : ((en : Int) < (b : Int)) := by omega
                have f6n : (en < b) := by omega
                have f6d : decide (en < b) = true := by simp; omega
                have HR1 : Hid (RowS pasCells 6 base 47 g n c wr ((P ++ A1) ++ B1 ++ A2 ++ (B2 ++ S))) := Lib.hid (by first | exact hrow | simpa [List.eq_nil_of_length_eq_zero z2] using hrow)
                have HG1 := HG0
                clear hrow
                have HSA1 := Lib.hid sA1
                have HSA2 := Lib.hid sA2
                have HSB1 := Lib.hid sB1
                have HSB2 := Lib.hid sB2
                have HNN := Lib.hid hnn2
                have HLA := Lib.hid hlA
                have HLB := Lib.hid hlB
                have HQ3 := Lib.hid hq3
                have HQ6 := Lib.hid hq6
                have HEN := Lib.hid hen
                have HZ := Lib.hid (And.intro z1 (And.intro z2 (And.intro z3 z4)))
                have HAP := Lib.hid hap
                clear sA1 sA2 sB1 sB2 hnn2 hlA hlB hq3 hq6 hen z1 z2 z3 z4 hap
                have HR2 : Hid (RowS pasCells 6 base 47 g n c wr (P ++ mergeP (ltOf cv) A1 B1 ++ A2 ++ B2 ++ S)) := Lib.hid (by have h0 : A1 = [] := List.eq_nil_of_length_eq_zero (by have h1 := HLA.out; have h2 := HLB.out; have h3 := HQ3.out; have h4 := HQ6.out; have h5 := HEN.out; have h6 := HZ.out; have h7 := HNN.out; have h8 := HAP.out; omega); have h := HR1.out; rw [h0] at h ⊢; simpa [nil_mergeP, mergeP_nil] using h)
                have HG2 := HG1
                clear HR1
                have hml : (mergeP (ltOf cv) A1 B1).length = A1.length + B1.length := length_mergeP _ _ _
                have hi2 := HIH.out (P ++ mergeP (ltOf cv) A1 B1) A2 B2 S mid en b wr (by rw [List.length_append, hml]; have h1 := HLA.out; have h2 := HLB.out; have h3 := HQ3.out; have h4 := HQ6.out; have h5 := HEN.out; have h6 := HZ.out; have h7 := HNN.out; have h8 := HAP.out; omega) (by have h1 := HLA.out; have h2 := HLB.out; have h3 := HQ3.out; have h4 := HQ6.out; have h5 := HEN.out; have h6 := HZ.out; have h7 := HNN.out; have h8 := HAP.out; omega) (by have h1 := HLA.out; have h2 := HLB.out; have h3 := HQ3.out; have h4 := HQ6.out; have h5 := HEN.out; have h6 := HZ.out; have h7 := HNN.out; have h8 := HAP.out; omega) (by have h1 := HLA.out; have h2 := HLB.out; have h3 := HQ3.out; have h4 := HQ6.out; have h5 := HEN.out; have h6 := HZ.out; have h7 := HNN.out; have h8 := HAP.out; omega) (by have h1 := HLA.out; have h2 := HLB.out; have h3 := HQ3.out; have h4 := HQ6.out; have h5 := HEN.out; have h6 := HZ.out; have h7 := HNN.out; have h8 := HAP.out; omega) (by have h1 := HLA.out; have h2 := HLB.out; have h3 := HQ3.out; have h4 := HQ6.out; have h5 := HEN.out; have h6 := HZ.out; have h7 := HNN.out; have h8 := HAP.out; omega) HSA2.out HSB2.out HR2.out
                have HI2 := Lib.hid hi2
                clear hi2 hml HR2
                go_wp2_with fail
                refine HI2.out.mono ?_
                rintro e wC ⟨rfl, h1, h2⟩
                have HR3 : Hid (RowS pasCells 6 base 47 g n c wC (P ++ mergeP (ltOf cv) Al Bl ++ S)) := Lib.hid (by rw [HRES.out]; simpa using h1)
                have HG3 := Lib.hid (gb_trans HG2.out h2)
                clear h1 h2 HI2
                go_wp2
                go_end0
                exact ⟨rfl, by simpa using HR3.out, HG3.out⟩
          · skip
            rcases Nat.eq_zero_or_pos A2.length with z3 | z3
            · exfalso; omega
            · skip
              rcases Nat.eq_zero_or_pos B2.length with z4 | z4
              · skip
                have f1 : ((r : Int) < (m : Int)) := by omega
                have f1n : (r < m) := by omega
                have f1d : decide (r < m) = true := by simp; omega
                have f2 : ((m : Int) < (en : Int)) := by omega
                have f2n : (m < en) := by omega
                have f2d : decide (m < en) = true := by simp; omega
                have f3 : ¬ ((a : Int) < (r : Int)) := by omega
                have f3n : ¬ (a < r) := by omega
                have f3d : decide (a < r) = false := by simp; omega
                have f4 : ((r : Int) < (mid : Int)) := by omega
                have f4n : (r < mid) := by omega
                have f4d : decide (r < mid) = true := by simp; omega
                have f5 : ((mid : Int) < (en : Int)) := by omega
                have f5n : (mid < en) := by omega
                have f5d : decide (mid < en) = true := by simp; omega
                have f6 : ¬ ((en : Int) < (b : Int)) := by omega
                have f6n : ¬ (en < b) := by omega
                have f6d : decide (en < b) = false := by simp; omega
                have hrot := rotate_any K caps base g n c r m en (P ++ A1) A2 B1 (B2 ++ S) wr (by simp; omega) (by omega) (by omega) z3 z2 hn hrow
                have HROT := Lib.hid hrot
                clear hrot hrow
                have HSA1 := Lib.hid sA1
                have HSA2 := Lib.hid sA2
                have HSB1 := Lib.hid sB1
                have HSB2 := Lib.hid sB2
                have HNN := Lib.hid hnn2
                have HLA := Lib.hid hlA
                have HLB := Lib.hid hlB
                have HQ3 := Lib.hid hq3
                have HQ6 := Lib.hid hq6
                have HEN := Lib.hid hen
                have HZ := Lib.hid (And.intro z1 (And.intro z2 (And.intro z3 z4)))
                have HAP := Lib.hid hap
                clear sA1 sA2 sB1 sB2 hnn2 hlA hlB hq3 hq6 hen z1 z2 z3 z4 hap
                go_wp2_with fail
                refine HROT.out.mono ?_
                rintro e wA ⟨rfl, h1, h2⟩
                have HR1 := Lib.hid h1
                have HG1 := Lib.hid (gb_trans HG0.out h2)
                clear h1 h2 HROT
                have HR2 : Hid (RowS pasCells 6 base 47 g n c wA (P ++ mergeP (ltOf cv) A1 B1 ++ A2 ++ B2 ++ S)) := Lib.hid (by have h0 : A1 = [] := List.eq_nil_of_length_eq_zero (by have h1 := HLA.out; have h2 := HLB.out; have h3 := HQ3.out; have h4 := HQ6.out; have h5 := HEN.out; have h6 := HZ.out; have h7 := HNN.out; have h8 := HAP.out; omega); have h := HR1.out; rw [h0] at h ⊢; simpa [nil_mergeP, mergeP_nil] using h)
                have HG2 := HG1
                clear HR1
                have HR3 : Hid (RowS pasCells 6 base 47 g n c wA (P ++ mergeP (ltOf cv) Al Bl ++ S)) := Lib.hid (by have h0 : B2 = [] := List.eq_nil_of_length_eq_zero (by have h1 := HLA.out; have h2 := HLB.out; have h3 := HQ3.out; have h4 := HQ6.out; have h5 := HEN.out; have h6 := HZ.out; have h7 := HNN.out; have h8 := HAP.out; omega); have h := HR2.out; rw [HRES.out]; rw [h0] at h ⊢; simpa [nil_mergeP, mergeP_nil] using h)
                have HG3 := HG2
                clear HR2
                go_wp2
                go_end0
                exact ⟨rfl, by simpa using HR3.out, HG3.out⟩
              · skip
                have f1 : ((r : Int) < (m : Int)) := by omega
                have f1n : (r < m) := by omega
                have f1d : decide (r < m) = true := by simp; omega
                have f2 : ((m : Int) < (en : Int)) := by omega
                have f2n : (m < en) := by omega
                have f2d : decide (m < en) = true := by simp; omega
                have f3 : ¬ ((a : Int) < (r : Int)) := by omega
                have f3n : ¬ (a < r) := by omega
                have f3d : decide (a < r) = false := by simp; omega
                have f4 : ((r : Int) < (mid : Int)) := by omega
                have f4n : (r < mid) := by omega
                have f4d : decide (r < mid) = true := by simp; omega
                have f5 : ((mid : Int) < (en : Int)) := by omega
                have f5n : (mid < en) := by omega
                have f5d : decide (mid < en) = true := by simp; omega
                have f6 : ((en : Int) < (b : Int)) := by omega
                have f6n : (en < b) := by omega
                have f6d : decide (en < b) = true := by simp; omega
                have hrot := rotate_any K caps base g n c r m en (P ++ A1) A2 B1 (B2 ++ S) wr (by simp; omega) (by omega) (by omega) z3 z2 hn hrow
                have HROT := Lib.hid hrot
                clear hrot hrow
                have HSA1 := Lib.hid sA1
                have HSA2 := Lib.hid sA2
                have HSB1 := Lib.hid sB1
                have HSB2 := Lib.hid sB2
                have HNN := Lib.hid hnn2
                have HLA := Lib.hid hlA
                have HLB := Lib.hid hlB
                have HQ3 := Lib.hid hq3
                have HQ6 := Lib.hid hq6
                have HEN := Lib.hid hen
                have HZ := Lib.hid (And.intro z1 (And.intro z2 (And.intro z3 z4)))
                have HAP := Lib.hid hap
                clear sA1 sA2 sB1 sB2 hnn2 hlA hlB hq3 hq6 hen z1 z2 z3 z4 hap
                go_wp2_with fail
                refine HROT.out.mono ?_
                rintro e wA ⟨rfl, h1, h2⟩
                have HR1 := Lib.hid h1
                have HG1 := Lib.hid (gb_trans HG0.out h2)
                clear h1 h2 HROT
                have HR2 : Hid (RowS pasCells 6 base 47 g n c wA (P ++ mergeP (ltOf cv) A1 B1 ++ A2 ++ B2 ++ S)) := Lib.hid (by have h0 : A1 = [] := List.eq_nil_of_length_eq_zero (by have h1 := HLA.out; have h2 := HLB.out; have h3 := HQ3.out; have h4 := HQ6.out; have h5 := HEN.out; have h6 := HZ.out; have h7 := HNN.out; have h8 := HAP.out; omega); have h := HR1.out; rw [h0] at h ⊢; simpa [nil_mergeP, mergeP_nil] using h)
                have HG2 := HG1
                clear HR1
                have hml : (mergeP (ltOf cv) A1 B1).length = A1.length + B1.length := length_mergeP _ _ _
                have hi2 := HIH.out (P ++ mergeP (ltOf cv) A1 B1) A2 B2 S mid en b wA (by rw [List.length_append, hml]; have h1 := HLA.out; have h2 := HLB.out; have h3 := HQ3.out; have h4 := HQ6.out; have h5 := HEN.out; have h6 := HZ.out; have h7 := HNN.out; have h8 := HAP.out; omega) (by have h1 := HLA.out; have h2 := HLB.out; have h3 := HQ3.out; have h4 := HQ6.out; have h5 := HEN.out; have h6 := HZ.out; have h7 := HNN.out; have h8 := HAP.out; omega) (by have h1 := HLA.out; have h2 := HLB.out; have h3 := HQ3.out; have h4 := HQ6.out; have h5 := HEN.out; have h6 := HZ.out; have h7 := HNN.out; have h8 := HAP.out; omega) (by have h1 := HLA.out; have h2 := HLB.out; have h3 := HQ3.out; have h4 := HQ6.out; have h5 := HEN.out; have h6 := HZ.out; have h7 := HNN.out; have h8 := HAP.out; omega) (by have h1 := HLA.out; have h2 := HLB.out; have h3 := HQ3.out; have h4 := HQ6.out; have h5 := HEN.out; have h6 := HZ.out; have h7 := HNN.out; have h8 := HAP.out; omega) (by have h1 := HLA.out; have h2 := HLB.out; have h3 := HQ3.out; have h4 := HQ6.out; have h5 := HEN.out; have h6 := HZ.out; have h7 := HNN.out; have h8 := HAP.out; omega) HSA2.out HSB2.out HR2.out
                have HI2 := Lib.hid hi2
                clear hi2 hml HR2
                go_wp2_with fail
                refine HI2.out.mono ?_
                rintro e wC ⟨rfl, h1, h2⟩
                have HR3 : Hid (RowS pasCells 6 base 47 g n c wC (P ++ mergeP (ltOf cv) Al Bl ++ S)) := Lib.hid (by rw [HRES.out]; simpa using h1)
                have HG3 := Lib.hid (gb_trans HG2.out h2)
                clear h1 h2 HI2
                go_wp2
                go_end0
                exact ⟨rfl, by simpa using HR3.out, HG3.out⟩
        · skip
          rcases Nat.eq_zero_or_pos B1.length with z2 | z2
          · skip
            rcases Nat.eq_zero_or_pos A2.length with z3 | z3
            · skip
              rcases Nat.eq_zero_or_pos B2.length with z4 | z4
              · exfalso; omega
              · skip
                have f1 : ¬ ((r : Int) < (m : Int)) := by omega
                have f1n : ¬ (r < m) := by omega
                have f1d : decide (r < m) = false := by simp; omega
                have f2 : ¬ ((m : Int) < (en : Int)) := by omega
                have f2n : ¬ (m < en) := by omega
                have f2d : decide (m < en) = false := by simp; omega
                have f3 : ((a : Int) < (r : Int)) := by omega
                have f3n : (a < r) := by omega
                have f3d : decide (a < r) = true := by simp; omega
                have f4 : ¬ ((r : Int) < (mid : Int)) := by omega
                have f4n : ¬ (r < mid) := by omega
                have f4d : decide (r < mid) = false := by simp; omega
                have f5 : ¬ ((mid : Int) < (en : Int)) := by omega
                have f5n : ¬ (mid < en) := by omega
                have f5d : decide (mid < en) = false := by simp; omega
                have f6 : ((en : Int) < (b : Int)) := by omega
                have f6n : (en < b) := by omega
                have f6d : decide (en < b) = true := by simp; omega
                have HR1 : Hid (RowS pasCells 6 base 47 g n c wr ((P ++ A1) ++ B1 ++ A2 ++ (B2 ++ S))) := Lib.hid (by first | exact hrow | simpa [List.eq_nil_of_length_eq_zero z3, List.eq_nil_of_length_eq_zero z2] using hrow)
                have HG1 := HG0
                clear hrow
                have HSA1 := Lib.hid sA1
                have HSA2 := Lib.hid sA2
                have HSB1 := Lib.hid sB1
                have HSB2 := Lib.hid sB2
                have HNN := Lib.hid hnn2
                have HLA := Lib.hid hlA
                have HLB := Lib.hid hlB
                have HQ3 := Lib.hid hq3
                have HQ6 := Lib.hid hq6
                have HEN := Lib.hid hen
                have HZ := Lib.hid (And.intro z1 (And.intro z2 (And.intro z3 z4)))
                have HAP := Lib.hid hap
                clear sA1 sA2 sB1 sB2 hnn2 hlA hlB hq3 hq6 hen z1 z2 z3 z4 hap
                have HR2 : Hid (RowS pasCells 6 base 47 g n c wr (P ++ mergeP (ltOf cv) A1 B1 ++ A2 ++ B2 ++ S)) := Lib.hid (by have h0 : B1 = [] := List.eq_nil_of_length_eq_zero (by have h1 := HLA.out; have h2 := HLB.out; have h3 := HQ3.out; have h4 := HQ6.out; have h5 := HEN.out; have h6 := HZ.out; have h7 := HNN.out; have h8 := HAP.out; omega); have h := HR1.out; rw [h0] at h ⊢; simpa [nil_mergeP, mergeP_nil] using h)
                have HG2 := HG1
                clear HR1
                have HR3 : Hid (RowS pasCells 6 base 47 g n c wr (P ++ mergeP (ltOf cv) Al Bl ++ S)) := Lib.hid (by have h0 : A2 = [] := List.eq_nil_of_length_eq_zero (by have h1 := HLA.out; have h2 := HLB.out; have h3 := HQ3.out; have h4 := HQ6.out; have h5 := HEN.out; have h6 := HZ.out; have h7 := HNN.out; have h8 := HAP.out; omega); have h := HR2.out; rw [HRES.out]; rw [h0] at h ⊢; simpa [nil_mergeP, mergeP_nil] using h)
                have HG3 := HG2
                clear HR2
                go_wp2
                go_end0
                exact ⟨rfl, by simpa using HR3.out, HG3.out⟩
            · skip
              rcases Nat.eq_zero_or_pos B2.length with z4 | z4
              · exfalso; omega
              · skip
                have f1 : ((r : Int) < (m : Int)) := by omega
                have f1n : (r < m) := by omega
                have f1d : decide (r < m) = true := by simp; omega
                have f2 : ¬ ((m : Int) < (en : Int)) := by omega
                have f2n : ¬ (m < en) := by omega
                have f2d : decide (m < en) = false := by simp; omega
                have f3 : ((a : Int) < (r : Int)) := by omega
                have f3n : (a < r) := by omega
                have f3d : decide (a < r) = true := by simp; omega
                have f4 : ¬ ((r : Int) < (mid : Int)) := by omega
                have f4n : ¬ (r < mid) := by omega
                have f4d : decide (r < mid) = false := by simp; omega
                have f5 : ((mid : Int) < (en : Int)) := by omega
                have f5n : (mid < en) := by omega
                have f5d : decide (mid < en) = true := by simp; omega
                have f6 : ((en : Int) < (b : Int)) := by omega
                have f6n : (en < b) := by omega
                have f6d : decide (en < b) = true := by simp; omega
                have HR1 : Hid (RowS pasCells 6 base 47 g n c wr ((P ++ A1) ++ B1 ++ A2 ++ (B2 ++ S))) := Lib.hid (by first | exact hrow | simpa [List.eq_nil_of_length_eq_zero z2] using hrow)
                have HG1 := HG0
                clear hrow
                have HSA1 := Lib.hid sA1
                have HSA2 := Lib.hid sA2
                have HSB1 := Lib.hid sB1
                have HSB2 := Lib.hid sB2
                have HNN := Lib.hid hnn2
                have HLA := Lib.hid hlA
                have HLB := Lib.hid hlB
                have HQ3 := Lib.hid hq3
                have HQ6 := Lib.hid hq6
                have HEN := Lib.hid hen
                have HZ := Lib.hid (And.intro z1 (And.intro z2 (And.intro z3 z4)))
                have HAP := Lib.hid hap
                clear sA1 sA2 sB1 sB2 hnn2 hlA hlB hq3 hq6 hen z1 z2 z3 z4 hap
                have HR2 : Hid (RowS pasCells 6 base 47 g n c wr (P ++ mergeP (ltOf cv) A1 B1 ++ A2 ++ B2 ++ S)) := Lib.hid (by have h0 : B1 = [] := List.eq_nil_of_length_eq_zero (by have h1 := HLA.out; have h2 := HLB.out; have h3 := HQ3.out; have h4 := HQ6.out; have h5 := HEN.out; have h6 := HZ.out; have h7 := HNN.out; have h8 := HAP.out; omega); have h := HR1.out; rw [h0] at h ⊢; simpa [nil_mergeP, mergeP_nil] using h)
                have HG2 := HG1
                clear HR1
                have hml : (mergeP (ltOf cv) A1 B1).length = A1.length + B1.length := length_mergeP _ _ _
                have hi2 := HIH.out (P ++ mergeP (ltOf cv) A1 B1) A2 B2 S mid en b wr (by rw [List.length_append, hml]; have h1 := HLA.out; have h2 := HLB.out; have h3 := HQ3.out; have h4 := HQ6.out; have h5 := HEN.out; have h6 := HZ.out; have h7 := HNN.out; have h8 := HAP.out; omega) (by have h1 := HLA.out; have h2 := HLB.out; have h3 := HQ3.out; have h4 := HQ6.out; have h5 := HEN.out; have h6 := HZ.out; have h7 := HNN.out; have h8 := HAP.out; omega) (by have h1 := HLA.out; have h2 := HLB.out; have h3 := HQ3.out; have h4 := HQ6.out; have h5 := HEN.out; have h6 := HZ.out; have h7 := HNN.out; have h8 := HAP.out; omega) (by have h1 := HLA.out; have h2 := HLB.out; have h3 := HQ3.out; have h4 := HQ6.out; have h5 := HEN.out; have h6 := HZ.out; have h7 := HNN.out; have h8 := HAP.out; omega) (by have h1 := HLA.out; have h2 := HLB.out; have h3 := HQ3.out; have h4 := HQ6.out; have h5 := HEN.out; have h6 := HZ.out; have h7 := HNN.out; have h8 := HAP.out; omega) (by have h1 := HLA.out; have h2 := HLB.out; have h3 := HQ3.out; have h4 := HQ6.out; have h5 := HEN.out; have h6 := HZ.out; have h7 := HNN.out; have h8 := HAP.out; omega) HSA2.out HSB2.out HR2.out
                have HI2 := Lib.hid hi2
                clear hi2 hml HR2
                go_wp2_with fail
                refine HI2.out.mono ?_
                rintro e wC ⟨rfl, h1, h2⟩
                have HR3 : Hid (RowS pasCells 6 base 47 g n c wC (P ++ mergeP (ltOf cv) Al Bl ++ S)) := Lib.hid (by rw [HRES.out]; simpa using h1)
                have HG3 := Lib.hid (gb_trans HG2.out h2)
                clear h1 h2 HI2
                go_wp2
                go_end0
                exact ⟨rfl, by simpa using HR3.out, HG3.out⟩
          · skip
            rcases Nat.eq_zero_or_pos A2.length with z3 | z3
            · skip
              rcases Nat.eq_zero_or_pos B2.length with z4 | z4
              · skip
                have f1 : ¬ ((r : Int) < (m : Int)) := by omega
                have f1n : ¬ (r < m) := by omega
                have f1d : decide (r < m) = false := by simp; omega
                have f2 : ((m : Int) < (en : Int)) := by omega
                have f2n : (m < en) := by omega
                have f2d : decide (m < en) = true := by simp; omega
                have f3 : ((a : Int) < (r : Int)) := by omega
                have f3n : (a < r) := by omega
                have f3d : decide (a < r) = true := by simp; omega
                have f4 : ((r : Int) < (mid : Int)) := by omega
                have f4n : (r < mid) := by omega
                have f4d : decide (r < mid) = true := by simp; omega
                have f5 : ¬ ((mid : Int) < (en : Int)) := by omega
                have f5n : ¬ (mid < en) := by omega
                have f5d : decide (mid < en) = false := by simp; omega
                have f6 : ¬ ((en : Int) < (b : Int)) := by omega
                have f6n : ¬ (en < b) := by omega
                have f6d : decide (en < b) = false := by simp; omega
                have HR1 : Hid (RowS pasCells 6 base 47 g n c wr ((P ++ A1) ++ B1 ++ A2 ++ (B2 ++ S))) := Lib.hid (by first | exact hrow | simpa [List.eq_nil_of_length_eq_zero z3] using hrow)
                have HG1 := HG0
                clear hrow
                have HSA1 := Lib.hid sA1
                have HSA2 := Lib.hid sA2
                have HSB1 := Lib.hid sB1
                have HSB2 := Lib.hid sB2
                have HNN := Lib.hid hnn2
                have HLA := Lib.hid hlA
                have HLB := Lib.hid hlB
                have HQ3 := Lib.hid hq3
                have HQ6 := Lib.hid hq6
                have HEN := Lib.hid hen
                have HZ := Lib.hid (And.intro z1 (And.intro z2 (And.intro z3 z4)))
                have HAP := Lib.hid hap
                clear sA1 sA2 sB1 sB2 hnn2 hlA hlB hq3 hq6 hen z1 z2 z3 z4 hap
                have hi1 := HIH.out P A1 B1 (A2 ++ B2 ++ S) a r mid wr HAP.out (by have h1 := HLA.out; have h2 := HLB.out; have h3 := HQ3.out; have h4 := HQ6.out; have h5 := HEN.out; have h6 := HZ.out; have h7 := HNN.out; have h8 := HAP.out; omega) (by have h1 := HLA.out; have h2 := HLB.out; have h3 := HQ3.out; have h4 := HQ6.out; have h5 := HEN.out; have h6 := HZ.out; have h7 := HNN.out; have h8 := HAP.out; omega) (by have h1 := HLA.out; have h2 := HLB.out; have h3 := HQ3.out; have h4 := HQ6.out; have h5 := HEN.out; have h6 := HZ.out; have h7 := HNN.out; have h8 := HAP.out; omega) (by have h1 := HLA.out; have h2 := HLB.out; have h3 := HQ3.out; have h4 := HQ6.out; have h5 := HEN.out; have h6 := HZ.out; have h7 := HNN.out; have h8 := HAP.out; omega) (by have h1 := HLA.out; have h2 := HLB.out; have h3 := HQ3.out; have h4 := HQ6.out; have h5 := HEN.out; have h6 := HZ.out; have h7 := HNN.out; have h8 := HAP.out; omega) HSA1.out HSB1.out (by simpa using HR1.out)
                have HI1 := Lib.hid hi1
                clear hi1 HR1
                go_wp2_with fail
                refine HI1.out.mono ?_
                rintro e wB ⟨rfl, h1, h2⟩
                have HR2 : Hid (RowS pasCells 6 base 47 g n c wB (P ++ mergeP (ltOf cv) A1 B1 ++ A2 ++ B2 ++ S)) := Lib.hid (by simpa using h1)
                have HG2 := Lib.hid (gb_trans HG1.out h2)
                clear h1 h2 HI1
                have HR3 : Hid (RowS pasCells 6 base 47 g n c wB (P ++ mergeP (ltOf cv) Al Bl ++ S)) := Lib.hid (by have h0 : A2 = [] := List.eq_nil_of_length_eq_zero (by have h1 := HLA.out; have h2 := HLB.out; have h3 := HQ3.out; have h4 := HQ6.out; have h5 := HEN.out; have h6 := HZ.out; have h7 := HNN.out; have h8 := HAP.out; omega); have h := HR2.out; rw [HRES.out]; rw [h0] at h ⊢; simpa [nil_mergeP, mergeP_nil] using h)
                have HG3 := HG2
                clear HR2
                go_wp2
                go_end0
                exact ⟨rfl, by simpa using HR3.out, HG3.out⟩
              · skip
                have f1 : ¬ ((r : Int) < (m : Int)) := by omega
                have f1n : ¬ (r < m) := by omega
                have f1d : decide (r < m) = false := by simp; omega
                have f2 : ((m : Int) < (en : Int)) := by omega
                have f2n : (m < en) := by omega
                have f2d : decide (m < en) = true := by simp; omega
                have f3 : ((a : Int) < (r : Int)) := by omega
                have f3n : (a < r) := by omega
                have f3d : decide (a < r) = true := by simp; omega
                have f4 : ((r : Int) < (mid : Int)) := by omega
                have f4n : (r < mid) := by omega
                have f4d : decide (r < mid) = true := by simp; omega
                have f5 : ¬ ((mid : Int) < (en : Int)) := by omega
                have f5n : ¬ (mid < en) := by omega
                have f5d : decide (mid < en) = false := by simp; omega
                have f6 : ((en : Int) < (b : Int)) := by omega
                have f6n : (en < b) := by omega
                have f6d : decide (en < b) = true := by simp; omega
                have HR1 : Hid (RowS pasCells 6 base 47 g n c wr ((P ++ A1) ++ B1 ++ A2 ++ (B2 ++ S))) := Lib.hid (by first | exact hrow | simpa [List.eq_nil_of_length_eq_zero z3] using hrow)
                have HG1 := HG0
                clear hrow
                have HSA1 := Lib.hid sA1
                have HSA2 := Lib.hid sA2
                have HSB1 := Lib.hid sB1
                have HSB2 := Lib.hid sB2
                have HNN := Lib.hid hnn2
                have HLA := Lib.hid hlA
                have HLB := Lib.hid hlB
                have HQ3 := Lib.hid hq3
                have HQ6 := Lib.hid hq6
                have HEN := Lib.hid hen
                have HZ := Lib.hid (And.intro z1 (And.intro z2 (And.intro z3 z4)))
                have HAP := Lib.hid hap
                clear sA1 sA2 sB1 sB2 hnn2 hlA hlB hq3 hq6 hen z1 z2 z3 z4 hap
                have hi1 := HIH.out P A1 B1 (A2 ++ B2 ++ S) a r mid wr HAP.out (by have h1 := HLA.out; have h2 := HLB.out; have h3 := HQ3.out; have h4 := HQ6.out; have h5 := HEN.out; have h6 := HZ.out; have h7 := HNN.out; have h8 := HAP.out; omega) (by have h1 := HLA.out; have h2 := HLB.out; have h3 := HQ3.out; have h4 := HQ6.out; have h5 := HEN.out; have h6 := HZ.out; have h7 := HNN.out; have h8 := HAP.out; omega) (by have h1 := HLA.out; have h2 := HLB.out; have h3 := HQ3.out; have h4 := HQ6.out; have h5 := HEN.out; have h6 := HZ.out; have h7 := HNN.out; have h8 := HAP.out; omega) (by have h1 := HLA.out; have h2 := HLB.out; have h3 := HQ3.out; have h4 := HQ6.out; have h5 := HEN.out; have h6 := HZ.out; have h7 := HNN.out; have h8 := HAP.out; omega) (by have h1 := HLA.out; have h2 := HLB.out; have h3 := HQ3.out; have h4 := HQ6.out; have h5 := HEN.out; have h6 := HZ.out; have h7 := HNN.out; have h8 := HAP.out; omega) HSA1.out HSB1.out (by simpa using HR1.out)
                have HI1 := Lib.hid hi1
                clear hi1 HR1
                go_wp2_with fail
                refine HI1.out.mono ?_
                rintro e wB ⟨rfl, h1, h2⟩
                have HR2 : Hid (RowS pasCells 6 base 47 g n c wB (P ++ mergeP (ltOf cv) A1 B1 ++ A2 ++ B2 ++ S)) := Lib.hid (by simpa using h1)
                have HG2 := Lib.hid (gb_trans HG1.out h2)
                clear h1 h2 HI1
                have HR3 : Hid (RowS pasCells 6 base 47 g n c wB (P ++ mergeP (ltOf cv) Al Bl ++ S)) := Lib.hid (by have h0 : A2 = [] := List.eq_nil_of_length_eq_zero (by have h1 := HLA.out; have h2 := HLB.out; have h3 := HQ3.out; have h4 := HQ6.out; have h5 := HEN.out; have h6 := HZ.out; have h7 := HNN.out; have h8 := HAP.out; omega); have h := HR2.out; rw [HRES.out]; rw [h0] at h ⊢; simpa [nil_mergeP, mergeP_nil] using h)
                have HG3 := HG2
                clear HR2
                go_wp2
                go_end0
                exact ⟨rfl, by simpa using HR3.out, HG3.out⟩
            · skip
              rcases Nat.eq_zero_or_pos B2.length with z4 | z4
              · skip
                have f1 : ((r : Int) < (m : Int)) := by omega
                have f1n : (r < m) := by omega
                have f1d : decide (r < m) = true := by simp; omega
                have f2 : ((m : Int) < (en : Int)) := by omega
                have f2n : (m < en) := by omega
                have f2d : decide (m < en) = true := by simp; omega
                have f3 : ((a : Int) < (r : Int)) := by omega
                have f3n : (a < r) := by omega
                have f3d : decide (a < r) = true := by simp; omega
                have f4 : ((r : Int) < (mid : Int)) := by omega
                have f4n : (r < mid) := by omega
                have f4d : decide (r < mid) = true := by simp; omega
                have f5 : ((mid : Int) < (en : Int)) := by omega
                have f5n : (mid < en) := by omega
                have f5d : decide (mid < en) = true := by simp; omega
                have f6 : ¬ ((en : Int) < (b : Int)) := by omega
                have f6n : ¬ (en < b) := by omega
                have f6d : decide (en < b) = false := by simp; omega
                have hrot := rotate_any K caps base g n c r m en (P ++ A1) A2 B1 (B2 ++ S) wr (by simp; omega) (by omega) (by omega) z3 z2 hn hrow
                have HROT := Lib.hid hrot
                clear hrot hrow
                have HSA1 := Lib.hid sA1
                have HSA2 := Lib.hid sA2
                have HSB1 := Lib.hid sB1
                have HSB2 := Lib.hid sB2
                have HNN := Lib.hid hnn2
                have HLA := Lib.hid hlA
                have HLB := Lib.hid hlB
                have HQ3 := Lib.hid hq3
                have HQ6 := Lib.hid hq6
                have HEN := Lib.hid hen
                have HZ := Lib.hid (And.intro z1 (And.intro z2 (And.intro z3 z4)))
                have HAP := Lib.hid hap
                clear sA1 sA2 sB1 sB2 hnn2 hlA hlB hq3 hq6 hen z1 z2 z3 z4 hap
                go_wp2_with fail
                refine HROT.out.mono ?_
                rintro e wA ⟨rfl, h1, h2⟩
                have HR1 := Lib.hid h1
                have HG1 := Lib.hid (gb_trans HG0.out h2)
                clear h1 h2 HROT
                have hi1 := HIH.out P A1 B1 (A2 ++ B2 ++ S) a r mid wA HAP.out (by have h1 := HLA.out; have h2 := HLB.out; have h3 := HQ3.out; have h4 := HQ6.out; have h5 := HEN.out; have h6 := HZ.out; have h7 := HNN.out; have h8 := HAP.out; omega) (by have h1 := HLA.out; have h2 := HLB.out; have h3 := HQ3.out; have h4 := HQ6.out; have h5 := HEN.out; have h6 := HZ.out; have h7 := HNN.out; have h8 := HAP.out; omega) (by have h1 := HLA.out; have h2 := HLB.out; have h3 := HQ3.out; have h4 := HQ6.out; have h5 := HEN.out; have h6 := HZ.out; have h7 := HNN.out; have h8 := HAP.out; omega) (by have h1 := HLA.out; have h2 := HLB.out; have h3 := HQ3.out; have h4 := HQ6.out; have h5 := HEN.out; have h6 := HZ.out; have h7 := HNN.out; have h8 := HAP.out; omega) (by have h1 := HLA.out; have h2 := HLB.out; have h3 := HQ3.out; have h4 := HQ6.out; have h5 := HEN.out; have h6 := HZ.out; have h7 := HNN.out; have h8 := HAP.out; omega) HSA1.out HSB1.out (by simpa using HR1.out)
                have HI1 := Lib.hid hi1
                clear hi1 HR1
                go_wp2_with fail
                refine HI1.out.mono ?_
                rintro e wB ⟨rfl, h1, h2⟩
                have HR2 : Hid (RowS pasCells 6 base 47 g n c wB (P ++ mergeP (ltOf cv) A1 B1 ++ A2 ++ B2 ++ S)) := Lib.hid (by simpa using h1)
                have HG2 := Lib.hid (gb_trans HG1.out h2)
                clear h1 h2 HI1
                have HR3 : Hid (RowS pasCells 6 base 47 g n c wB (P ++ mergeP (ltOf cv) Al Bl ++ S)) := Lib.hid (by have h0 : B2 = [] := List.eq_nil_of_length_eq_zero (by have h1 := HLA.out; have h2 := HLB.out; have h3 := HQ3.out; have h4 := HQ6.out; have h5 := HEN.out; have h6 := HZ.out; have h7 := HNN.out; have h8 := HAP.out; omega); have h := HR2.out; rw [HRES.out]; rw [h0] at h ⊢; simpa [nil_mergeP, mergeP_nil] using h)
                have HG3 := HG2
                clear HR2
                go_wp2
                go_end0
                exact ⟨rfl, by simpa using HR3.out, HG3.out⟩
              · skip
                have f1 : ((r : Int) < (m : Int)) := by omega
                have f1n : (r < m) := by omega
                have f1d : decide (r < m) = true := by simp; omega
                have f2 : ((m : Int) < (en : Int)) := by omega
                have f2n : (m < en) := by omega
                have f2d : decide (m < en) = true := by simp; omega
                have f3 : ((a : Int) < (r : Int)) := by omega
                have f3n : (a < r) := by omega
                have f3d : decide (a < r) = true := by simp; omega
                have f4 : ((r : Int) < (mid : Int)) := by omega
                have f4n : (r < mid) := by omega
                have f4d : decide (r < mid) = true := by simp; omega
                have f5 : ((mid : Int) < (en : Int)) := by omega
                have f5n : (mid < en) := by omega
                have f5d : decide (mid < en) = true := by simp; omega
                have f6 : ((en : Int) < (b : Int)) := by omega
                have f6n : (en < b) := by omega
                have f6d : decide (en < b) = true := by simp; omega
                have hrot := rotate_any K caps base g n c r m en (P ++ A1) A2 B1 (B2 ++ S) wr (by simp; omega) (by omega) (by omega) z3 z2 hn hrow
                have HROT := Lib.hid hrot
                clear hrot hrow
                have HSA1 := Lib.hid sA1
                have HSA2 := Lib.hid sA2
                have HSB1 := Lib.hid sB1
                have HSB2 := Lib.hid sB2
                have HNN := Lib.hid hnn2
                have HLA := Lib.hid hlA
                have HLB := Lib.hid hlB
                have HQ3 := Lib.hid hq3
                have HQ6 := Lib.hid hq6
                have HEN := Lib.hid hen
                have HZ := Lib.hid (And.intro z1 (And.intro z2 (And.intro z3 z4)))
                have HAP := Lib.hid hap
                clear sA1 sA2 sB1 sB2 hnn2 hlA hlB hq3 hq6 hen z1 z2 z3 z4 hap
                go_wp2_with fail
                refine HROT.out.mono ?_
                rintro e wA ⟨rfl, h1, h2⟩
                have HR1 := Lib.hid h1
                have HG1 := Lib.hid (gb_trans HG0.out h2)
                clear h1 h2 HROT
                have hi1 := HIH.out P A1 B1 (A2 ++ B2 ++ S) a r mid wA HAP.out (by have h1 := HLA.out; have h2 := HLB.out; have h3 := HQ3.out; have h4 := HQ6.out; have h5 := HEN.out; have h6 := HZ.out; have h7 := HNN.out; have h8 := HAP.out; omega) (by have h1 := HLA.out; have h2 := HLB.out; have h3 := HQ3.out; have h4 := HQ6.out; have h5 := HEN.out; have h6 := HZ.out; have h7 := HNN.out; have h8 := HAP.out; omega) (by have h1 := HLA.out; have h2 := HLB.out; have h3 := HQ3.out; have h4 := HQ6.out; have h5 := HEN.out; have h6 := HZ.out; have h7 := HNN.out; have h8 := HAP.out; omega) (by have h1 := HLA.out; have h2 := HLB.out; have h3 := HQ3.out; have h4 := HQ6.out; have h5 := HEN.out; have h6 := HZ.out; have h7 := HNN.out; have h8 := HAP.out; omega) (by have h1 := HLA.out; have h2 := HLB.out; have h3 := HQ3.out; have h4 := HQ6.out; have h5 := HEN.out; have h6 := HZ.out; have h7 := HNN.out; have h8 := HAP.out; omega) HSA1.out HSB1.out (by simpa using HR1.out)
                have HI1 := Lib.hid hi1
                clear hi1 HR1
                go_wp2_with fail
                refine HI1.out.mono ?_
                rintro e wB ⟨rfl, h1, h2⟩
                have HR2 : Hid (RowS pasCells 6 base 47 g n c wB (P ++ mergeP (ltOf cv) A1 B1 ++ A2 ++ B2 ++ S)) := Lib.hid (by simpa using h1)
                have HG2 := Lib.hid (gb_trans HG1.out h2)
                clear h1 h2 HI1
                have hml : (mergeP (ltOf cv) A1 B1).length = A1.length + B1.length := length_mergeP _ _ _
                have hi2 := HIH.out (P ++ mergeP (ltOf cv) A1 B1) A2 B2 S mid en b wB (by rw [List.length_append, hml]; have h1 := HLA.out; have h2 := HLB.out; have h3 := HQ3.out; have h4 := HQ6.out; have h5 := HEN.out; have h6 := HZ.out; have h7 := HNN.out; have h8 := HAP.out; omega) (by have h1 := HLA.out; have h2 := HLB.out; have h3 := HQ3.out; have h4 := HQ6.out; have h5 := HEN.out; have h6 := HZ.out; have h7 := HNN.out; have h8 := HAP.out; omega) (by have h1 := HLA.out; have h2 := HLB.out; have h3 := HQ3.out; have h4 := HQ6.out; have h5 := HEN.out; have h6 := HZ.out; have h7 := HNN.out; have h8 := HAP.out; omega) (by have h1 := HLA.out; have h2 := HLB.out; have h3 := HQ3.out; have h4 := HQ6.out; have h5 := HEN.out; have h6 := HZ.out; have h7 := HNN.out; have h8 := HAP.out; omega) (by have h1 := HLA.out; have h2 := HLB.out; have h3 := HQ3.out; have h4 := HQ6.out; have h5 := HEN.out; have h6 := HZ.out; have h7 := HNN.out; have h8 := HAP.out; omega) (by have h1 := HLA.out; have h2 := HLB.out; have h3 := HQ3.out; have h4 := HQ6.out; have h5 := HEN.out; have h6 := HZ.out; have h7 := HNN.out; have h8 := HAP.out; omega) HSA2.out HSB2.out HR2.out
                have HI2 := Lib.hid hi2
                clear hi2 hml HR2
                go_wp2_with fail
                refine HI2.out.mono ?_
                rintro e wC ⟨rfl, h1, h2⟩
                have HR3 : Hid (RowS pasCells 6 base 47 g n c wC (P ++ mergeP (ltOf cv) Al Bl ++ S)) := Lib.hid (by rw [HRES.out]; simpa using h1)
                have HG3 := Lib.hid (gb_trans HG2.out h2)
                clear h1 h2 HI2
                go_wp2
                go_end0
                exact ⟨rfl, by simpa using HR3.out, HG3.out⟩

theorem sym_any (K : Nat) (caps : Array Value) (cv : Pas → Pas → Int) (eg : ∀ args w, (callFunc K args).run Try.prog w = .ok (.enter K args) w) (hcmp : CmpC K caps cv) (hsw : SW (ltOf cv)) (base g n c : Nat) (hn : n ≤ 1000000) : ∀ N, SymIH K caps cv base g n c N := by
  intro N
  induction N with
  | zero => intro P A B S a m b w _ _ _ h1 h2 h3; omega
  | succ N ih =>
    intro P A B S a m b w ha hm hb hN hA hB hsa hsb hr
    rcases Nat.lt_or_ge A.length 2 with h | h
    · match A, h, hA with
      | [x], _, _ => exact sym_l K caps cv eg hcmp hsw base g n c hn P B S x a m b w ha (by simpa using hm) hb hsb (by simpa using hr)
    · rcases Nat.lt_or_ge B.length 2 with h2 | h2
      · match B, h2, hB with
        | [y], _, _ => exact sym_r K caps cv eg hcmp hsw base g n c hn P A S y a m b w ha hm (by simpa using hb) h hsa (by simpa using hr)
      · exact sym_step K caps cv eg hcmp hsw base g n c hn N ih P A B S a m b w ha hm hb h h2 (by omega) hsa hsb hr

end Go.Proofs.Ytlmpmhfbjblhnaa
namespace Go.Proofs.Ytlmpmhfbjblhnaa
open Go.RowKit

/-- Blocks of q elements, each sorted. -/
inductive BS {α : Type} (lt : α → α → Bool) (q : Nat) : List α → List α → Prop
  | one (l : List α) : l.length ≤ q → BS lt q l (sortP lt l)
  | cons (x r c : List α) : x.length = q → BS lt q r c → BS lt q (x ++ r) (sortP lt x ++ c)
theorem BS.len {α : Type} {lt : α → α → Bool} {q : Nat} {r c : List α} (h : BS lt q r c) : c.length = r.length := by
  induction h with
  | one l _ => exact length_sortP lt l
  | cons x r c _ _ ih => rw [List.length_append, List.length_append, length_sortP, ih]
theorem BS.nil {α : Type} {lt : α → α → Bool} {q : Nat} : BS lt q [] [] := BS.one [] (Nat.zero_le _)
theorem sortP_nil {α : Type} (lt : α → α → Bool) : sortP lt ([] : List α) = [] := rfl
theorem BS.short {α : Type} {lt : α → α → Bool} {q : Nat} {r c : List α} (h : BS lt q r c) (hl : r.length ≤ q) : c = sortP lt r := by
  cases h with
  | one _ _ => rfl
  | cons x r c hx h2 =>
    rw [List.length_append] at hl
    have h0 : r = [] := List.eq_nil_of_length_eq_zero (by omega)
    have h1 := h2.len
    rw [h0] at h1
    have h3 : c = [] := List.eq_nil_of_length_eq_zero h1
    rw [h0, h3, List.append_nil, List.append_nil]
theorem BS.take {α : Type} {lt : α → α → Bool} {q : Nat} {r c : List α} (h : BS lt q r c) (hl : q ≤ r.length) : ∃ x r2 c2, r = x ++ r2 ∧ c = sortP lt x ++ c2 ∧ x.length = q ∧ BS lt q r2 c2 := by
  cases h with
  | one _ h1 => exact ⟨r, [], [], by simp, by simp, by omega, BS.nil⟩
  | cons x r c hx h2 => exact ⟨x, r, c, rfl, rfl, hx, h2⟩
theorem insAt_mid {α : Type} (lt : α → α → Bool) (D X R : List α) (a b : Nat) (ha : a = D.length) (hb : b = a + X.length) : insAt lt (D ++ X ++ R) a b = D ++ sortP lt X ++ R := by
  subst hb ha
  have e1 : (D ++ X ++ R).take D.length = D := by rw [List.append_assoc, List.take_left]
  have e2 : (D ++ X ++ R).drop D.length = X ++ R := by rw [List.append_assoc, List.drop_left]
  have e3 : (D ++ X ++ R).drop (D.length + X.length) = R := by rw [← List.length_append, List.drop_left]
  rw [insAt, e1, e2, e3, show D.length + X.length - D.length = X.length by omega, List.take_left]
set_option maxHeartbeats 8000000 in
set_option maxRecDepth 100000 in
theorem stable_any (K : Nat) (caps : Array Value) (cv : Pas → Pas → Int) (eg : ∀ args w, (callFunc K args).run Try.prog w = .ok (.enter K args) w) (hcmp : CmpC K caps cv) (hsw : SW (ltOf cv)) (base g n c : Nat) (hn : n ≤ 1000000) (l : List Pas) (w : World) (hr : RowS pasCells 6 base 47 g n c w (l)) :
    Calls Try.prog 83 #[.slice (some ⟨g, 0, none⟩) n c, .int .i64 (n : Int), .func (.func K) #[] caps] w
      fun e w' => e = .returned (.tuple #[]) ∧ RowS pasCells 6 base 47 g n c w' (sortP (ltOf cv) l) ∧ w.grownBy w' (some g) := by
  have hln := hr.1
  have hins := fun a b l w h1 h2 h3 => insSort_any K caps cv eg hcmp base g n c a b l w h1 h2 h3 hn
  have hsym := fun P A B S a m b w h1 h2 h3 h5 h6 h7 h8 h9 => sym_any K caps cv eg hcmp hsw base g n c hn (A.length + B.length) P A B S a m b w h1 h2 h3 (Nat.le_refl _) h5 h6 h7 h8 h9
  have HINS := Lib.hid hins
  have HSYM := Lib.hid hsym
  have HSW := Lib.hid hsw
  have HLN := Lib.hid hln
  have HR0 : Hid (RowS pasCells 6 base 47 g n c w ([] ++ l)) := Lib.hid hr
  have HC0 : Hid (l = [] ++ l ∧ ([] : List Pas).length = 0 ∧ ([] : List Pas).length = 0 ∧ ∀ l2 fin, BS (ltOf cv) 20 l2 fin → BS (ltOf cv) 20 ([] ++ l2) ([] ++ fin)) := Lib.hid ⟨rfl, rfl, rfl, fun _ _ h => h⟩
  have HG0 := Lib.hid (grown_refl w (some g))
  clear hr hcmp hsw hln hins hsym
  go_enter Try.func83, Try.ntmps83
  go_wp2
  go_loopw [7, 8] (fun x y wr => ∃ (a : Nat) (l1 l2 dn : List Pas), a ≤ n ∧ x = .int .i64 a ∧ y = .int .i64 ((a + 20 : Nat) : Int) ∧ Hid (l = l1 ++ l2 ∧ l1.length = a ∧ dn.length = a ∧ ∀ l2 fin, BS (ltOf cv) 20 l2 fin → BS (ltOf cv) 20 (l1 ++ l2) (dn ++ fin)) ∧ Hid (RowS pasCells 6 base 47 g n c wr (dn ++ l2)) ∧ Hid (w.grownBy wr (some g))) (fun x _ _ => n - (intOf x).toNat)
  case atStart => exact ⟨0, [], l, [], Nat.zero_le _, rfl, rfl, HC0, HR0, HG0⟩
  case round =>
    clear HC0 HR0 HG0
    obtain ⟨a, l1, l2, dn, han, rfl, rfl, HC, HR, HG⟩ := hrel
    obtain ⟨wi, hwi⟩ : ∃ wi : World, wi = wr := ⟨_, rfl⟩
    rw [← hwi] at HR HG ⊢
    clear hwi
    have hl2 : l2.length = n - a := by have h1 := HLN.out; have h2 := HC.out; rw [h2.1] at h1; simp at h1; omega
    by_cases hb : a + 20 ≤ n
    · obtain ⟨x, r, hx, hx2⟩ := list_cut l2 20 (by omega)
      have hrow : RowS pasCells 6 base 47 g n c wi (dn ++ x ++ r) := by have h := HR.out; rw [hx] at h; simpa using h
      have hi := HINS.out a (a + 20) _ _ hrow (by omega) hb
      rw [insAt_mid (ltOf cv) dn x r a (a + 20) HC.out.2.2.1.symm (by omega)] at hi
      have HI := Lib.hid hi
      have HC2 : Hid (l = (l1 ++ x) ++ r ∧ (l1 ++ x).length = a + 20 ∧ (dn ++ sortP (ltOf cv) x).length = a + 20 ∧ ∀ l2 fin, BS (ltOf cv) 20 l2 fin → BS (ltOf cv) 20 ((l1 ++ x) ++ l2) ((dn ++ sortP (ltOf cv) x) ++ fin)) := Lib.hid (by
        obtain ⟨h1, h2, h3, h4⟩ := HC.out
        refine ⟨by rw [h1, hx]; simp, by simp; omega, by rw [List.length_append, length_sortP]; omega, fun q fin hq => ?_⟩
        have := h4 _ _ (BS.cons x q fin hx2 hq)
        simpa using this)
      have hw1 : IntKind.i64.wrap (((a + 20 : Nat) : Int) + 20) = ((a + 20 + 20 : Nat) : Int) := by rw [show ((a + 20 : Nat) : Int) + 20 = ((a + 20 + 20 : Nat) : Int) by omega]; exact IntWalk.i64_in _ (by omega)
      have hbi : ((a + 20 : Nat) : Int) ≤ (n : Int) := by omega
      clear hi hrow HC HR hl2 hx hx2
      obtain ⟨a2, ha2⟩ : ∃ a2, a2 = a + 20 := ⟨_, rfl⟩
      rw [← ha2] at HI HC2 hw1 hbi hb ⊢
      have ha3 : a < a2 := by omega
      clear ha2
      go_wp2_with fail
      refine HI.out.mono ?_
      rintro e w2 ⟨rfl, h1, h2⟩
      have HR2 : Hid (RowS pasCells 6 base 47 g n c w2 ((dn ++ sortP (ltOf cv) x) ++ r)) := Lib.hid (by simpa using h1)
      have HG2 := Lib.hid (gb_trans HG.out h2)
      clear h1 h2 HI
      go_wp2
      go_roundw
      case rel => exact ⟨a2, _, _, _, hb, rfl, rfl, HC2, HR2, HG2⟩
      case measure => simp [intOf]; omega
    · have hi := HINS.out a n (dn ++ l2 ++ []) wi (by simpa using HR.out) (by omega) (Nat.le_refl _)
      rw [insAt_mid (ltOf cv) dn l2 [] a n HC.out.2.2.1.symm (by omega)] at hi
      have HI := Lib.hid hi
      have HB : Hid (BS (ltOf cv) 20 l (dn ++ sortP (ltOf cv) l2)) := Lib.hid (by obtain ⟨h1, h2, h3, h4⟩ := HC.out; rw [h1]; exact h4 _ _ (BS.one l2 (by omega)))
      have hbi : ¬ (((a + 20 : Nat) : Int) ≤ (n : Int)) := by omega
      clear hi hl2
      obtain ⟨a2, ha2⟩ : ∃ a2, a2 = a + 20 := ⟨_, rfl⟩
      rw [← ha2] at hbi hb ⊢
      clear ha2
      go_wp2_with fail
      refine HI.out.mono ?_
      rintro e w2 ⟨rfl, h1, h2⟩
      have HR2 : Hid (RowS pasCells 6 base 47 g n c w2 (dn ++ sortP (ltOf cv) l2)) := Lib.hid (by simpa using h1)
      have HG2 := Lib.hid (gb_trans HG.out h2)
      clear h1 h2 HI HR HG HC hbi hb
      generalize dn ++ sortP (ltOf cv) l2 = cur0 at HR2 HB
      go_wp2
      go_loopw [6] (fun x wr => ∃ (q : Nat) (cur : List Pas), 20 ≤ q ∧ q ≤ 2000000 ∧ x = .int .i64 q ∧ Hid (BS (ltOf cv) q l cur) ∧ Hid (RowS pasCells 6 base 47 g n c wr (cur)) ∧ Hid (w.grownBy wr (some g))) (fun x _ => n - (intOf x).toNat)
      case atStart => exact ⟨20, cur0, by omega, by omega, rfl, HB, HR2, HG2⟩
      case round =>
        clear HB HR2 HG2
        obtain ⟨q, cur, hq1, hq2, rfl, HB, HR, HG⟩ := hrel
        obtain ⟨wi, hwi⟩ : ∃ wi : World, wi = wr := ⟨_, rfl⟩
        rw [← hwi] at HR HG ⊢
        clear hwi
        by_cases hqn : q < n
        · skip
          have HC0 : Hid (l = [] ++ l ∧ ([] : List Pas).length = 0 ∧ ([] : List Pas).length = 0 ∧ BS (ltOf cv) q l cur ∧ ∀ l2 fin, BS (ltOf cv) (2 * q) l2 fin → BS (ltOf cv) (2 * q) ([] ++ l2) ([] ++ fin)) := Lib.hid ⟨rfl, rfl, rfl, HB.out, fun _ _ h => h⟩
          have HR0 : Hid (RowS pasCells 6 base 47 g n c wi ([] ++ cur)) := Lib.hid HR.out
          clear HR HB
          obtain ⟨qq, hqq⟩ : ∃ qq, qq = 2 * q := ⟨_, rfl⟩
          rw [← hqq] at HC0
          have hw2 : IntKind.i64.wrap (2 * (q : Int)) = (qq : Int) := by rw [show 2 * (q : Int) = (qq : Int) by omega]; exact IntWalk.i64_in _ (by omega)
          have hw3 : IntKind.i64.wrap ((q : Int) * 2) = (qq : Int) := by rw [show (q : Int) * 2 = (qq : Int) by omega]; exact IntWalk.i64_in _ (by omega)
          have hqq1 : qq ≤ 2 * q := by omega
          have hqq2 : 2 * q ≤ qq := by omega
          clear hqq
          go_wp2
          go_loopw [7, 8] (fun x y wr => ∃ (a : Nat) (l1 l2 dn rs : List Pas), a ≤ n ∧ x = .int .i64 a ∧ y = .int .i64 ((a + qq : Nat) : Int) ∧ Hid (l = l1 ++ l2 ∧ l1.length = a ∧ dn.length = a ∧ BS (ltOf cv) q l2 rs ∧ ∀ l2 fin, BS (ltOf cv) qq l2 fin → BS (ltOf cv) qq (l1 ++ l2) (dn ++ fin)) ∧ Hid (RowS pasCells 6 base 47 g n c wr (dn ++ rs)) ∧ Hid (w.grownBy wr (some g))) (fun x _ _ => n - (intOf x).toNat)
          case atStart => exact ⟨0, [], l, [], cur, Nat.zero_le _, rfl, by simp, HC0, HR0, HG⟩
          case round =>
            clear HC0 HR0 HG
            obtain ⟨a, l1, l2, dn, rs, han, rfl, rfl, HC, HR, HG⟩ := hrel
            obtain ⟨wi, hwi⟩ : ∃ wi : World, wi = wr := ⟨_, rfl⟩
            rw [← hwi] at HR HG ⊢
            clear hwi
            have hl2 : l2.length = n - a := by have h1 := HLN.out; have h2 := HC.out; rw [h2.1] at h1; simp at h1; omega
            have hw4 : IntKind.i64.wrap ((a : Int) + (q : Int)) = ((a + q : Nat) : Int) := by rw [show (a : Int) + (q : Int) = ((a + q : Nat) : Int) by omega]; exact IntWalk.i64_in _ (by omega)
            by_cases hb : a + qq ≤ n
            · obtain ⟨x, r, cr, hx, hcr, hxl, hbr⟩ := HC.out.2.2.2.1.take (by omega)
              have hrl : r.length = n - a - q := by rw [hx] at hl2; simp at hl2; omega
              obtain ⟨y, r2, c2, hy, hc2, hyl, hb2⟩ := hbr.take (by omega)
              have hi := HSYM.out dn (sortP (ltOf cv) x) (sortP (ltOf cv) y) c2 a (a + q) (a + qq) wi HC.out.2.2.1.symm (by rw [length_sortP]; omega) (by rw [length_sortP]; omega) (by rw [length_sortP]; omega) (by rw [length_sortP]; omega) (srtd_sortP HSW.out _) (srtd_sortP HSW.out _) (by have h := HR.out; rw [hcr, hc2] at h; simpa using h)
              rw [sort_append HSW.out] at hi
              have HI := Lib.hid hi
              have HC2 : Hid (l = (l1 ++ (x ++ y)) ++ r2 ∧ (l1 ++ (x ++ y)).length = a + qq ∧ (dn ++ sortP (ltOf cv) (x ++ y)).length = a + qq ∧ BS (ltOf cv) q r2 c2 ∧ ∀ l2 fin, BS (ltOf cv) qq l2 fin → BS (ltOf cv) qq ((l1 ++ (x ++ y)) ++ l2) ((dn ++ sortP (ltOf cv) (x ++ y)) ++ fin)) := Lib.hid (by
                obtain ⟨h1, h2, h3, _, h4⟩ := HC.out
                refine ⟨by rw [h1, hx, hy]; simp, by simp; omega, by rw [List.length_append, length_sortP]; simp; omega, hb2, fun z fin hz => ?_⟩
                have := h4 _ _ (BS.cons (x ++ y) z fin (by simp; omega) hz)
                simpa using this)
              have hbi : ((a + qq : Nat) : Int) ≤ (n : Int) := by omega
              have hw1 : IntKind.i64.wrap (((a + qq : Nat) : Int) + (qq : Int)) = ((a + qq + qq : Nat) : Int) := by rw [show ((a + qq : Nat) : Int) + (qq : Int) = ((a + qq + qq : Nat) : Int) by omega]; exact IntWalk.i64_in _ (by omega)
              clear hi HC HR hl2 hx hxl hcr hbr hrl hy hc2 hyl hb2
              obtain ⟨a2, ha2⟩ : ∃ a2, a2 = a + qq := ⟨_, rfl⟩
              obtain ⟨a3, ha3⟩ : ∃ a3, a3 = a + q := ⟨_, rfl⟩
              rw [← ha2] at HI HC2 hw1 hbi hb ⊢
              rw [← ha3] at HI hw4
              have ha4 : a < a2 := by omega
              clear ha2 ha3
              go_wp2_with fail
              refine HI.out.mono ?_
              rintro e w2 ⟨rfl, h1, h2⟩
              have HR2 : Hid (RowS pasCells 6 base 47 g n c w2 ((dn ++ sortP (ltOf cv) (x ++ y)) ++ c2)) := Lib.hid (by simpa using h1)
              have HG2 := Lib.hid (gb_trans HG.out h2)
              clear h1 h2 HI
              go_wp2
              go_roundw
              case rel => exact ⟨a2, _, _, _, _, hb, rfl, rfl, HC2, HR2, HG2⟩
              case measure => simp [intOf]; omega
            · have hbi : ¬ (((a + qq : Nat) : Int) ≤ (n : Int)) := by omega
              have hqqm : qq ≤ 2000000 := by omega
              by_cases hm : a + q < n
              · obtain ⟨x, r, cr, hx, hcr, hxl, hbr⟩ := HC.out.2.2.2.1.take (by omega)
                have hrl : r.length = n - a - q := by rw [hx] at hl2; simp at hl2; omega
                have hcr2 := hbr.short (by omega)
                have hi := HSYM.out dn (sortP (ltOf cv) x) (sortP (ltOf cv) r) [] a (a + q) n wi HC.out.2.2.1.symm (by rw [length_sortP]; omega) (by rw [length_sortP]; omega) (by rw [length_sortP]; omega) (by rw [length_sortP]; omega) (srtd_sortP HSW.out _) (srtd_sortP HSW.out _) (by have h := HR.out; rw [hcr, hcr2] at h; simpa using h)
                rw [sort_append HSW.out] at hi
                have HI := Lib.hid hi
                have HB2 : Hid (BS (ltOf cv) qq l (dn ++ sortP (ltOf cv) (x ++ r))) := Lib.hid (by obtain ⟨h1, h2, h3, _, h4⟩ := HC.out; rw [h1, hx]; exact h4 _ _ (BS.one (x ++ r) (by simp; omega)))
                have hmi : ((a + q : Nat) : Int) < (n : Int) := by omega
                clear hi HC HR hl2 hx hxl hcr hbr hrl hcr2
                obtain ⟨a2, ha2⟩ : ∃ a2, a2 = a + qq := ⟨_, rfl⟩
                obtain ⟨a3, ha3⟩ : ∃ a3, a3 = a + q := ⟨_, rfl⟩
                rw [← ha2] at hbi hb ⊢
                rw [← ha3] at HI hw4 hmi hm
                clear ha2 ha3
                go_wp2_with fail
                refine HI.out.mono ?_
                rintro e w2 ⟨rfl, h1, h2⟩
                have HR2 : Hid (RowS pasCells 6 base 47 g n c w2 (dn ++ sortP (ltOf cv) (x ++ r))) := Lib.hid (by simpa using h1)
                have HG2 := Lib.hid (gb_trans HG.out h2)
                clear h1 h2 HI
                go_wp2
                go_roundw
                case rel => exact ⟨qq, _, by omega, hqqm, rfl, HB2, HR2, HG2⟩
                case measure => simp [intOf]; omega
              · have hs := HC.out.2.2.2.1.short (by omega)
                have HB2 : Hid (BS (ltOf cv) qq l (dn ++ rs)) := Lib.hid (by obtain ⟨h1, h2, h3, _, h4⟩ := HC.out; rw [h1, hs]; exact h4 _ _ (BS.one l2 (by omega)))
                have hmi : ¬ (((a + q : Nat) : Int) < (n : Int)) := by omega
                clear hs hl2 HC
                obtain ⟨a2, ha2⟩ : ∃ a2, a2 = a + qq := ⟨_, rfl⟩
                obtain ⟨a3, ha3⟩ : ∃ a3, a3 = a + q := ⟨_, rfl⟩
                rw [← ha2] at hbi hb ⊢
                rw [← ha3] at hw4 hmi hm
                clear ha2 ha3
                go_wp2
                go_roundw
                case rel => exact ⟨qq, _, by omega, hqqm, rfl, HB2, HR, HG⟩
                case measure => simp [intOf]; omega
        · have hfin : RowS pasCells 6 base 47 g n c wi (sortP (ltOf cv) l) := by
            have h1 := HB.out.short (by have := HLN.out; omega)
            have h := HR.out
            rw [h1] at h
            exact h
          have HF := Lib.hid hfin
          clear hfin
          go_wp2
          go_end0
          exact ⟨rfl, HF.out, HG.out⟩
theorem sort_any (K : Nat) (caps : Array Value) (cv : Pas → Pas → Int) (eg : ∀ args w, (callFunc K args).run Try.prog w = .ok (.enter K args) w) (hcmp : CmpC K caps cv) (hsw : SW (ltOf cv)) (base g n c : Nat) (hn : n ≤ 1000000) (l : List Pas) (w : World) (hr : RowS pasCells 6 base 47 g n c w (l)) :
    Calls Try.prog 65 #[.slice (some ⟨g, 0, none⟩) n c, .func (.func K) #[] caps] w
      fun e w' => e = .returned (.tuple #[]) ∧ RowS pasCells 6 base 47 g n c w' (sortP (ltOf cv) l) ∧ w.grownBy w' (some g) := by
  have HI := Lib.hid (stable_any K caps cv eg hcmp hsw base g n c hn l w hr)
  clear hr hcmp hsw
  go_enter Try.func65, Try.ntmps65
  go_wp2_with fail
  refine HI.out.mono ?_
  rintro e w2 ⟨rfl, h1, h2⟩
  go_wp2
  go_end0
  exact ⟨rfl, h1, h2⟩

end Go.Proofs.Ytlmpmhfbjblhnaa
