/- Maps whose keys are integers: what a look-up reads, what a store leaves. -/
import Derived.Test.YtikphbgfcpamgaaP13
import Derived.Test.YtikphbgfcpamgaaP07
import Derived.ArgAppend
import Derived.Lib.Hide
import Derived.Shelf.Abstract
import Derived.Test.YtikphbgfcpamgaaP04
import Derived.MapKept
import Derived.ChangeMaps4
namespace Go.Proofs.Ytikphbgfcpamgaa
open Go.RowKit

inductive BS {α : Type} (lt : α → α → Bool) (q : Nat) : List α → List α → Prop
  | one (l : List α) : l.length ≤ q → BS lt q l (sortP lt l)
  | cons (x r c : List α) : x.length = q → BS lt q r c → BS lt q (x ++ r) (sortP lt x ++ c)
theorem BS.len {α : Type} {lt : α → α → Bool} {q : Nat} {r c : List α} (h : BS lt q r c) : c.length = r.length := by
  induction h with
  | one l _ => exact length_sortP lt l
  | cons x r c _ _ ih => rw [List.length_append, List.length_append, length_sortP, ih]
theorem BS.nil {α : Type} {lt : α → α → Bool} {q : Nat} : BS lt q [] [] := BS.one [] (Nat.zero_le _)
theorem sortP_nil {α : Type} (lt : α → α → Bool) : sortP lt ([] : List α) = [] := rfl
theorem BS.short {α : Type} {lt : α → α → Bool} {q : Nat} {r c : List α} (h : BS lt q r c) (hl : r.length ≤ q) : c = sortP lt r := by
  cases h with
  | one _ _ => rfl
  | cons x r c hx h2 =>
    rw [List.length_append] at hl
    have h0 : r = [] := List.eq_nil_of_length_eq_zero (by omega)
    have h1 := h2.len
    rw [h0] at h1
    have h3 : c = [] := List.eq_nil_of_length_eq_zero h1
    rw [h0, h3, List.append_nil, List.append_nil]
theorem BS.take {α : Type} {lt : α → α → Bool} {q : Nat} {r c : List α} (h : BS lt q r c) (hl : q ≤ r.length) : ∃ x r2 c2, r = x ++ r2 ∧ c = sortP lt x ++ c2 ∧ x.length = q ∧ BS lt q r2 c2 := by
  cases h with
  | one _ h1 => exact ⟨r, [], [], by simp, by simp, by omega, BS.nil⟩
  | cons x r c hx h2 => exact ⟨x, r, c, rfl, rfl, hx, h2⟩
theorem insAt_mid {α : Type} (lt : α → α → Bool) (D X R : List α) (a b : Nat) (ha : a = D.length) (hb : b = a + X.length) : insAt lt (D ++ X ++ R) a b = D ++ sortP lt X ++ R := by
  subst hb ha
  have e1 : (D ++ X ++ R).take D.length = D := by rw [List.append_assoc, List.take_left]
  have e2 : (D ++ X ++ R).drop D.length = X ++ R := by rw [List.append_assoc, List.drop_left]
  have e3 : (D ++ X ++ R).drop (D.length + X.length) = R := by rw [← List.length_append, List.drop_left]
  rw [insAt, e1, e2, e3, show D.length + X.length - D.length = X.length by omega, List.take_left]
set_option maxHeartbeats 8000000 in
set_option maxRecDepth 100000 in
theorem stable_any (w0 : World) (K : Nat) (caps : Array Value) (cv : Plc → Plc → Int) (eg : ∀ args w, (callFunc K args).run Try.prog w = .ok (.enter K args) w) (hsw : SW (ltOf cv)) (base g n c : Nat) (hcmp : CmpC w0 g K caps cv) (hn : n ≤ 1000000) (l : List Plc) (w : World) (hr : RowG w0 plcCells 4 base 83 g n c w (l)) :
    Calls Try.prog 68 #[.slice (some ⟨g, 0, none⟩) n c, .int .i64 (n : Int), .func (.func K) #[] caps] w
      fun e w' => e = .returned (.tuple #[]) ∧ RowG w0 plcCells 4 base 83 g n c w' (sortP (ltOf cv) l) ∧ w.grownBy w' (some g) := by
  have hln := hr.1
  have hins := fun a b l w h1 h2 h3 => insSort_any w0 K caps cv eg base g n c a b hcmp l w h1 h2 h3 hn
  have hsym := fun P A B S a m b w h1 h2 h3 h5 h6 h7 h8 h9 => sym_any w0 K caps cv eg hsw base g n c hcmp hn (A.length + B.length) P A B S a m b w h1 h2 h3 (Nat.le_refl _) h5 h6 h7 h8 h9
  have HINS := Lib.hid hins
  have HSYM := Lib.hid hsym
  have HSW := Lib.hid hsw
  have HLN := Lib.hid hln
  have HR0 : Hid (RowG w0 plcCells 4 base 83 g n c w ([] ++ l)) := Lib.hid hr
  have HC0 : Hid (l = [] ++ l ∧ ([] : List Plc).length = 0 ∧ ([] : List Plc).length = 0 ∧ ∀ l2 fin, BS (ltOf cv) 20 l2 fin → BS (ltOf cv) 20 ([] ++ l2) ([] ++ fin)) := Lib.hid ⟨rfl, rfl, rfl, fun _ _ h => h⟩
  have HG0 := Lib.hid (grown_refl w (some g))
  clear hr hcmp hsw hln hins hsym
  go_enter Try.func68, Try.ntmps68
  go_wp2
  go_loopw [7, 8] (fun x y wr => ∃ (a : Nat) (l1 l2 dn : List Plc), a ≤ n ∧ x = .int .i64 a ∧ y = .int .i64 ((a + 20 : Nat) : Int) ∧ Hid (l = l1 ++ l2 ∧ l1.length = a ∧ dn.length = a ∧ ∀ l2 fin, BS (ltOf cv) 20 l2 fin → BS (ltOf cv) 20 (l1 ++ l2) (dn ++ fin)) ∧ Hid (RowG w0 plcCells 4 base 83 g n c wr (dn ++ l2)) ∧ Hid (w.grownBy wr (some g))) (fun x _ _ => n - (intOf x).toNat)
  case atStart => exact ⟨0, [], l, [], Nat.zero_le _, rfl, rfl, HC0, HR0, HG0⟩
  case round =>
    clear HC0 HR0 HG0
    obtain ⟨a, l1, l2, dn, han, rfl, rfl, HC, HR, HG⟩ := hrel
    obtain ⟨wi, hwi⟩ : ∃ wi : World, wi = wr := ⟨_, rfl⟩
    rw [← hwi] at HR HG ⊢
    clear hwi
    have hl2 : l2.length = n - a := by have h1 := HLN.out; have h2 := HC.out; rw [h2.1] at h1; simp at h1; omega
    by_cases hb : a + 20 ≤ n
    · obtain ⟨x, r, hx, hx2⟩ := list_cut l2 20 (by omega)
      have hrow : RowG w0 plcCells 4 base 83 g n c wi (dn ++ x ++ r) := by have h := HR.out; rw [hx] at h; simpa using h
      have hi := HINS.out a (a + 20) _ _ hrow (by omega) hb
      rw [insAt_mid (ltOf cv) dn x r a (a + 20) HC.out.2.2.1.symm (by omega)] at hi
      have HI := Lib.hid hi
      have HC2 : Hid (l = (l1 ++ x) ++ r ∧ (l1 ++ x).length = a + 20 ∧ (dn ++ sortP (ltOf cv) x).length = a + 20 ∧ ∀ l2 fin, BS (ltOf cv) 20 l2 fin → BS (ltOf cv) 20 ((l1 ++ x) ++ l2) ((dn ++ sortP (ltOf cv) x) ++ fin)) := Lib.hid (by
        obtain ⟨h1, h2, h3, h4⟩ := HC.out
        refine ⟨by rw [h1, hx]; simp, by simp; omega, by rw [List.length_append, length_sortP]; omega, fun q fin hq => ?_⟩
        have := h4 _ _ (BS.cons x q fin hx2 hq)
        simpa using this)
      have hw1 : IntKind.i64.wrap (((a + 20 : Nat) : Int) + 20) = ((a + 20 + 20 : Nat) : Int) := by rw [show ((a + 20 : Nat) : Int) + 20 = ((a + 20 + 20 : Nat) : Int) by omega]; exact IntWalk.i64_in _ (by omega)
      have hbi : ((a + 20 : Nat) : Int) ≤ (n : Int) := by omega
      clear hi hrow HC HR hl2 hx hx2
      obtain ⟨a2, ha2⟩ : ∃ a2, a2 = a + 20 := ⟨_, rfl⟩
      rw [← ha2] at HI HC2 hw1 hbi hb ⊢
      have ha3 : a < a2 := by omega
      clear ha2
      go_wp2_with fail
      refine HI.out.mono ?_
      rintro e w2 ⟨rfl, h1, h2⟩
      have HR2 : Hid (RowG w0 plcCells 4 base 83 g n c w2 ((dn ++ sortP (ltOf cv) x) ++ r)) := Lib.hid (by simpa using h1)
      have HG2 := Lib.hid (gb_trans HG.out h2)
      clear h1 h2 HI
      go_wp2
      go_roundw
      case rel => exact ⟨a2, _, _, _, hb, rfl, rfl, HC2, HR2, HG2⟩
      case measure => simp [intOf]; omega
    · have hi := HINS.out a n (dn ++ l2 ++ []) wi (by simpa using HR.out) (by omega) (Nat.le_refl _)
      rw [insAt_mid (ltOf cv) dn l2 [] a n HC.out.2.2.1.symm (by omega)] at hi
      have HI := Lib.hid hi
      have HB : Hid (BS (ltOf cv) 20 l (dn ++ sortP (ltOf cv) l2)) := Lib.hid (by obtain ⟨h1, h2, h3, h4⟩ := HC.out; rw [h1]; exact h4 _ _ (BS.one l2 (by omega)))
      have hbi : ¬ (((a + 20 : Nat) : Int) ≤ (n : Int)) := by omega
      clear hi hl2
      obtain ⟨a2, ha2⟩ : ∃ a2, a2 = a + 20 := ⟨_, rfl⟩
      rw [← ha2] at hbi hb ⊢
      clear ha2
      go_wp2_with fail
      refine HI.out.mono ?_
      rintro e w2 ⟨rfl, h1, h2⟩
      have HR2 : Hid (RowG w0 plcCells 4 base 83 g n c w2 (dn ++ sortP (ltOf cv) l2)) := Lib.hid (by simpa using h1)
      have HG2 := Lib.hid (gb_trans HG.out h2)
      clear h1 h2 HI HR HG HC hbi hb
      generalize dn ++ sortP (ltOf cv) l2 = cur0 at HR2 HB
      go_wp2
      go_loopw [6] (fun x wr => ∃ (q : Nat) (cur : List Plc), 20 ≤ q ∧ q ≤ 2000000 ∧ x = .int .i64 q ∧ Hid (BS (ltOf cv) q l cur) ∧ Hid (RowG w0 plcCells 4 base 83 g n c wr (cur)) ∧ Hid (w.grownBy wr (some g))) (fun x _ => n - (intOf x).toNat)
      case atStart => exact ⟨20, cur0, by omega, by omega, rfl, HB, HR2, HG2⟩
      case round =>
        clear HB HR2 HG2
        obtain ⟨q, cur, hq1, hq2, rfl, HB, HR, HG⟩ := hrel
        obtain ⟨wi, hwi⟩ : ∃ wi : World, wi = wr := ⟨_, rfl⟩
        rw [← hwi] at HR HG ⊢
        clear hwi
        by_cases hqn : q < n
        · skip
          have HC0 : Hid (l = [] ++ l ∧ ([] : List Plc).length = 0 ∧ ([] : List Plc).length = 0 ∧ BS (ltOf cv) q l cur ∧ ∀ l2 fin, BS (ltOf cv) (2 * q) l2 fin → BS (ltOf cv) (2 * q) ([] ++ l2) ([] ++ fin)) := Lib.hid ⟨rfl, rfl, rfl, HB.out, fun _ _ h => h⟩
          have HR0 : Hid (RowG w0 plcCells 4 base 83 g n c wi ([] ++ cur)) := Lib.hid HR.out
          clear HR HB
          obtain ⟨qq, hqq⟩ : ∃ qq, qq = 2 * q := ⟨_, rfl⟩
          rw [← hqq] at HC0
          have hw2 : IntKind.i64.wrap (2 * (q : Int)) = (qq : Int) := by rw [show 2 * (q : Int) = (qq : Int) by omega]; exact IntWalk.i64_in _ (by omega)
          have hw3 : IntKind.i64.wrap ((q : Int) * 2) = (qq : Int) := by rw [show (q : Int) * 2 = (qq : Int) by omega]; exact IntWalk.i64_in _ (by omega)
          have hqq1 : qq ≤ 2 * q := by omega
          have hqq2 : 2 * q ≤ qq := by omega
          clear hqq
          go_wp2
          go_loopw [7, 8] (fun x y wr => ∃ (a : Nat) (l1 l2 dn rs : List Plc), a ≤ n ∧ x = .int .i64 a ∧ y = .int .i64 ((a + qq : Nat) : Int) ∧ Hid (l = l1 ++ l2 ∧ l1.length = a ∧ dn.length = a ∧ BS (ltOf cv) q l2 rs ∧ ∀ l2 fin, BS (ltOf cv) qq l2 fin → BS (ltOf cv) qq (l1 ++ l2) (dn ++ fin)) ∧ Hid (RowG w0 plcCells 4 base 83 g n c wr (dn ++ rs)) ∧ Hid (w.grownBy wr (some g))) (fun x _ _ => n - (intOf x).toNat)
          case atStart => exact ⟨0, [], l, [], cur, Nat.zero_le _, rfl, by simp, HC0, HR0, HG⟩
          case round =>
            clear HC0 HR0 HG
            obtain ⟨a, l1, l2, dn, rs, han, rfl, rfl, HC, HR, HG⟩ := hrel
            obtain ⟨wi, hwi⟩ : ∃ wi : World, wi = wr := ⟨_, rfl⟩
            rw [← hwi] at HR HG ⊢
            clear hwi
            have hl2 : l2.length = n - a := by have h1 := HLN.out; have h2 := HC.out; rw [h2.1] at h1; simp at h1; omega
            have hw4 : IntKind.i64.wrap ((a : Int) + (q : Int)) = ((a + q : Nat) : Int) := by rw [show (a : Int) + (q : Int) = ((a + q : Nat) : Int) by omega]; exact IntWalk.i64_in _ (by omega)
            by_cases hb : a + qq ≤ n
            · obtain ⟨x, r, cr, hx, hcr, hxl, hbr⟩ := HC.out.2.2.2.1.take (by omega)
              have hrl : r.length = n - a - q := by rw [hx] at hl2; simp at hl2; omega
              obtain ⟨y, r2, c2, hy, hc2, hyl, hb2⟩ := hbr.take (by omega)
              have hi := HSYM.out dn (sortP (ltOf cv) x) (sortP (ltOf cv) y) c2 a (a + q) (a + qq) wi HC.out.2.2.1.symm (by rw [length_sortP]; omega) (by rw [length_sortP]; omega) (by rw [length_sortP]; omega) (by rw [length_sortP]; omega) (srtd_sortP HSW.out _) (srtd_sortP HSW.out _) (by have h := HR.out; rw [hcr, hc2] at h; simpa using h)
              rw [sort_append HSW.out] at hi
              have HI := Lib.hid hi
              have HC2 : Hid (l = (l1 ++ (x ++ y)) ++ r2 ∧ (l1 ++ (x ++ y)).length = a + qq ∧ (dn ++ sortP (ltOf cv) (x ++ y)).length = a + qq ∧ BS (ltOf cv) q r2 c2 ∧ ∀ l2 fin, BS (ltOf cv) qq l2 fin → BS (ltOf cv) qq ((l1 ++ (x ++ y)) ++ l2) ((dn ++ sortP (ltOf cv) (x ++ y)) ++ fin)) := Lib.hid (by
                obtain ⟨h1, h2, h3, _, h4⟩ := HC.out
                refine ⟨by rw [h1, hx, hy]; simp, by simp; omega, by rw [List.length_append, length_sortP]; simp; omega, hb2, fun z fin hz => ?_⟩
                have := h4 _ _ (BS.cons (x ++ y) z fin (by simp; omega) hz)
                simpa using this)
              have hbi : ((a + qq : Nat) : Int) ≤ (n : Int) := by omega
              have hw1 : IntKind.i64.wrap (((a + qq : Nat) : Int) + (qq : Int)) = ((a + qq + qq : Nat) : Int) := by rw [show ((a + qq : Nat) : Int) + (qq : Int) = ((a + qq + qq : Nat) : Int) by omega]; exact IntWalk.i64_in _ (by omega)
              clear hi HC HR hl2 hx hxl hcr hbr hrl hy hc2 hyl hb2
              obtain ⟨a2, ha2⟩ : ∃ a2, a2 = a + qq := ⟨_, rfl⟩
              obtain ⟨a3, ha3⟩ : ∃ a3, a3 = a + q := ⟨_, rfl⟩
              rw [← ha2] at HI HC2 hw1 hbi hb ⊢
              rw [← ha3] at HI hw4
              have ha4 : a < a2 := by omega
              clear ha2 ha3
              go_wp2_with fail
              refine HI.out.mono ?_
              rintro e w2 ⟨rfl, h1, h2⟩
              have HR2 : Hid (RowG w0 plcCells 4 base 83 g n c w2 ((dn ++ sortP (ltOf cv) (x ++ y)) ++ c2)) := Lib.hid (by simpa using h1)
              have HG2 := Lib.hid (gb_trans HG.out h2)
              clear h1 h2 HI
              go_wp2
              go_roundw
              case rel => exact ⟨a2, _, _, _, _, hb, rfl, rfl, HC2, HR2, HG2⟩
              case measure => simp [intOf]; omega
            · have hbi : ¬ (((a + qq : Nat) : Int) ≤ (n : Int)) := by omega
              have hqqm : qq ≤ 2000000 := by omega
              by_cases hm : a + q < n
              · obtain ⟨x, r, cr, hx, hcr, hxl, hbr⟩ := HC.out.2.2.2.1.take (by omega)
                have hrl : r.length = n - a - q := by rw [hx] at hl2; simp at hl2; omega
                have hcr2 := hbr.short (by omega)
                have hi := HSYM.out dn (sortP (ltOf cv) x) (sortP (ltOf cv) r) [] a (a + q) n wi HC.out.2.2.1.symm (by rw [length_sortP]; omega) (by rw [length_sortP]; omega) (by rw [length_sortP]; omega) (by rw [length_sortP]; omega) (srtd_sortP HSW.out _) (srtd_sortP HSW.out _) (by have h := HR.out; rw [hcr, hcr2] at h; simpa using h)
                rw [sort_append HSW.out] at hi
                have HI := Lib.hid hi
                have HB2 : Hid (BS (ltOf cv) qq l (dn ++ sortP (ltOf cv) (x ++ r))) := Lib.hid (by obtain ⟨h1, h2, h3, _, h4⟩ := HC.out; rw [h1, hx]; exact h4 _ _ (BS.one (x ++ r) (by simp; omega)))
                have hmi : ((a + q : Nat) : Int) < (n : Int) := by omega
                clear hi HC HR hl2 hx hxl hcr hbr hrl hcr2
                obtain ⟨a2, ha2⟩ : ∃ a2, a2 = a + qq := ⟨_, rfl⟩
                obtain ⟨a3, ha3⟩ : ∃ a3, a3 = a + q := ⟨_, rfl⟩
                rw [← ha2] at hbi hb ⊢
                rw [← ha3] at HI hw4 hmi hm
                clear ha2 ha3
                go_wp2_with fail
                refine HI.out.mono ?_
                rintro e w2 ⟨rfl, h1, h2⟩
                have HR2 : Hid (RowG w0 plcCells 4 base 83 g n c w2 (dn ++ sortP (ltOf cv) (x ++ r))) := Lib.hid (by simpa using h1)
                have HG2 := Lib.hid (gb_trans HG.out h2)
                clear h1 h2 HI
                go_wp2
                go_roundw
                case rel => exact ⟨qq, _, by omega, hqqm, rfl, HB2, HR2, HG2⟩
                case measure => simp [intOf]; omega
              · have hs := HC.out.2.2.2.1.short (by omega)
                have HB2 : Hid (BS (ltOf cv) qq l (dn ++ rs)) := Lib.hid (by obtain ⟨h1, h2, h3, _, h4⟩ := HC.out; rw [h1, hs]; exact h4 _ _ (BS.one l2 (by omega)))
                have hmi : ¬ (((a + q : Nat) : Int) < (n : Int)) := by omega
                clear hs hl2 HC
                obtain ⟨a2, ha2⟩ : ∃ a2, a2 = a + qq := ⟨_, rfl⟩
                obtain ⟨a3, ha3⟩ : ∃ a3, a3 = a + q := ⟨_, rfl⟩
                rw [← ha2] at hbi hb ⊢
                rw [← ha3] at hw4 hmi hm
                clear ha2 ha3
                go_wp2
                go_roundw
                case rel => exact ⟨qq, _, by omega, hqqm, rfl, HB2, HR, HG⟩
                case measure => simp [intOf]; omega
        · have hfin : RowG w0 plcCells 4 base 83 g n c wi (sortP (ltOf cv) l) := by
            have h1 := HB.out.short (by have := HLN.out; omega)
            have h := HR.out
            rw [h1] at h
            exact h
          have HF := Lib.hid hfin
          clear hfin
          go_wp2
          go_end0
          exact ⟨rfl, HF.out, HG.out⟩
theorem sort_any (w0 : World) (K : Nat) (caps : Array Value) (cv : Plc → Plc → Int) (eg : ∀ args w, (callFunc K args).run Try.prog w = .ok (.enter K args) w) (hsw : SW (ltOf cv)) (base g n c : Nat) (hcmp : CmpC w0 g K caps cv) (hn : n ≤ 1000000) (l : List Plc) (w : World) (hr : RowG w0 plcCells 4 base 83 g n c w (l)) :
    Calls Try.prog 62 #[.slice (some ⟨g, 0, none⟩) n c, .func (.func K) #[] caps] w
      fun e w' => e = .returned (.tuple #[]) ∧ RowG w0 plcCells 4 base 83 g n c w' (sortP (ltOf cv) l) ∧ w.grownBy w' (some g) := by
  have HI := Lib.hid (stable_any w0 K caps cv eg hsw base g n c hcmp hn l w hr)
  clear hr hcmp hsw
  go_enter Try.func62, Try.ntmps62
  go_wp2_with fail
  refine HI.out.mono ?_
  rintro e w2 ⟨rfl, h1, h2⟩
  go_wp2
  go_end0
  exact ⟨rfl, h1, h2⟩

end Go.Proofs.Ytikphbgfcpamgaa
namespace Go.Proofs.Ytikphbgfcpamgaa
open Go.RowKit

theorem ins_nil (K : Nat) (caps : Array Value) (w : World) : Calls Try.prog 72 #[.slice none 0 0, .int .i64 0, .int .i64 0, .func (.func K) #[] caps] w fun e w' => e = .returned (.tuple #[]) ∧ w = w' := by
  go_enter Try.func72, Try.ntmps72
  go_wp2
  go_loopw [8] (fun i wr => i = .int .i64 1 ∧ wr = w) (fun _ _ => 0)
  case atStart => exact ⟨rfl, rfl⟩
  case round =>
    obtain ⟨rfl, rfl⟩ := hrel
    go_wp2
    go_end0
    exact ⟨rfl, rfl⟩
theorem stable_nil (K : Nat) (caps : Array Value) (w : World) : Calls Try.prog 68 #[.slice none 0 0, .int .i64 0, .func (.func K) #[] caps] w fun e w' => e = .returned (.tuple #[]) ∧ w = w' := by
  go_enter Try.func68, Try.ntmps68
  go_wp2
  go_loopw [7, 8] (fun x y wr => x = .int .i64 0 ∧ y = .int .i64 20 ∧ wr = w) (fun _ _ _ => 0)
  case atStart => exact ⟨rfl, rfl, rfl⟩
  case round =>
    obtain ⟨rfl, rfl, rfl⟩ := hrel
    go_wp2_with (go_at_call 72; refine (ins_nil K caps _).mono ?_; rintro e w' ⟨rfl, rfl⟩)
    go_loopw [6] (fun x wi => x = .int .i64 20 ∧ wi = wr) (fun _ _ => 0)
    case atStart => exact ⟨rfl, rfl⟩
    case round =>
      obtain ⟨rfl, rfl⟩ := hrel
      go_wp2
      go_end0
      exact ⟨rfl, rfl⟩
theorem sort_nil (K : Nat) (caps : Array Value) (w : World) : Calls Try.prog 62 #[.slice none 0 0, .func (.func K) #[] caps] w fun e w' => e = .returned (.tuple #[]) ∧ w = w' := by
  go_enter Try.func62, Try.ntmps62
  go_wp2_with (go_at_call 68; refine (stable_nil K caps _).mono ?_; rintro e w' ⟨rfl, rfl⟩)
  go_end0
  exact ⟨rfl, rfl⟩


theorem info_plc : (Try.prog.info? 83).map (fun i => (i.zero, i.size, i.bytes)) = some (some (.agg #[.int .i64 0, .int .i64 0, .int .i64 0, .int .i64 0]), 4, 32) := by kernel_rfl
def OwnP (W : World) (b : Nat) (v : Value) (l : List Plc) : Prop := W.ownsRow b 83 4 v l.length (l.flatMap plcCells)
theorem OwnP.ext {W W' : World} {b : Nat} {v : Value} {l : List Plc} (h : OwnP W b v l) (hx : Ext W W') : OwnP W' b v l := own_ext h hx
theorem plc_one (x : Plc) : ∀ u ∈ plcCells x, u.oneCell' = true := by simp [plcCells, Value.oneCell']
theorem plc_ones (l : List Plc) : ∀ u ∈ l.flatMap plcCells, u.oneCell' = true := by
  intro u hu
  obtain ⟨x, _, hx⟩ := List.mem_flatMap.1 hu
  exact plc_one x u hx
theorem plc_snoc {w : World} (ty : TypeId) (xs : List Plc) (v : Value) (x : Plc) (base gx : Nat) (jx : Blk w gx 83 (plcCells x).toArray) (hx : OwnP w base v xs) (hn : xs.length ≤ 900) (hb : base ≤ w.heap.size) :
    ∃ v' w', (Builtin.append_ #[73, 73] ty #[v, .slice (some ⟨gx, 0, none⟩) 1 1]).run Try.prog w = .ok v' w' ∧ w.grownBy w' v.ownBlock ∧ OwnP w' base v' (xs ++ [x]) := by
  obtain ⟨i0, hi0, hz0, hz1, hz2⟩ := info_parts info_plc
  obtain ⟨v2, W7, hr, hrow2, hg2, -⟩ := run_append_own (P := Try.prog) w base 73 ty 83 i0 _ 4 32 Try.underlying73 hi0 hz0 hz1 hz2 rfl (by omega) _ _ _ hx ⟨gx, 0, none⟩ 1 1 (plcCells x) rfl (by intro i u hu; rw [Addr.add_lit, Nat.zero_add, jx.cell]; simpa using hu) (plc_one x) (by unfold maxLen; omega) (by omega) hb
  refine ⟨v2, W7, hr, hg2, ?_⟩
  unfold OwnP
  rw [List.length_append, List.flatMap_append]
  simpa using hrow2
def PlcRet (l : List Plc) (w : World) (e : Ending) (w' : World) : Prop := ∃ v, e = .returned v ∧ OwnP w' w.heap.size v l ∧ Ext w w'
set_option maxHeartbeats 1000000 in
theorem clone_plc (l : List Plc) (A : Option Addr) (n c : Nat) (w : World) (h : RA plcCells 4 w w.heap.size A n c l) (hn : n ≤ 1000) :
    Calls Try.prog 61 #[.slice A n c] w (PlcRet l w) := by
  have hr := h.rd
  have hlen := h.len
  have heq := fun (w : World) (a : Option Addr) (n c n' c' : Nat) => Lib.run_eql_slice_nil (P := Try.prog) w 73 83 a n c n' c' Try.underlying73
  cases A with
  | none =>
    have h0 : n = 0 := by
      rcases Nat.eq_zero_or_pos n with h0 | h0
      · exact h0
      · obtain ⟨_, _, h, _⟩ := hr.2 h0
        cases h
    subst h0
    have hz : l = [] := List.eq_nil_of_length_eq_zero hlen
    subst hz
    clear hr h hlen
    go_enter Try.func61, Try.ntmps61
    go_wp2
    go_ret
    exact ⟨_, rfl, World.ownsRow_nil _ _ _ _, (by repeat (first | exact Below.refl _ _ | assumption | refine Below.drew ?_ | refine below_drewN ?_ _ | refine bl_alloc ?_ _ | refine Below.setCell ?_ (by first | (simp; done) | omega | (simp; omega)) _ | refine bl_then ?_ (by assumption)))⟩
  | some ad =>
    obtain ⟨i0, hi, hz0, hz1, hz2⟩ := info_parts info_plc
    have H1 := Lib.hid (plc_ones l)
    have HLEN := Lib.hid hlen
    generalize hxs : l.flatMap plcCells = xs at hr H1
    have HXS := Lib.hid hxs
    have HR := Lib.hid (hr.alloc (Nat.le_refl _) (.cells #[] 83))
    clear hr h hlen hxs
    go_enter Try.func61, Try.ntmps61
    go_wp2_with (at_builtin; refine wpList_append_any _ rfl _ _ 73 rfl w.heap.size 83 i0 (.agg #[.int .i64 0, .int .i64 0, .int .i64 0, .int .i64 0]) 4 32 Try.underlying73 hi hz0 hz1 hz2 rfl (by decide) _ 0 [] rfl (World.ownsRow_made w #[] 0 (Nat.le_refl _) (by unfold maxLen; omega) rfl) w.heap.size (some ad) n c xs rfl HR.out H1.out (by unfold maxLen; omega) (by omega) (by simp) ?_)
    intro v' w' hown hg hat
    go_wp2
    go_ret
    refine ⟨_, rfl, by unfold OwnP; rw [HXS.out, HLEN.out]; simpa using hown, ?_⟩
    exact (bl_alloc (Below.refl _ _) _).grown hg (by simp) (fun k hk => by simp [Value.ownBlock] at hk; omega)
theorem swC : SW (ltOf cmpPlc) := (show ltOf cmpPlc = ltP from ltP_cmp) ▸ swP
theorem sort_own (gb : Nat) (w : World) (base : Nat) (l : List Plc) (A : Option Addr) (c : Nat) (K : Blk w gb 106 #[.func (.func 53) #[] #[]]) (h : OwnP w base (.slice A l.length c) l) (hn : l.length ≤ 1000) (hb : base ≤ w.heap.size) :
    Calls Try.prog 62 #[.slice A l.length c, .func (.func 63) #[] #[.pointer (some ⟨gb, 0, none⟩)]] w fun e w' => e = .returned (.tuple #[]) ∧ OwnP w' base (.slice A l.length c) (sortP ltP l) ∧ Below base w w' := by
  rcases h.2 with ⟨hv, h0⟩ | ⟨g, cap, cur, hv, hbg, hgg, r⟩
  · injection hv with e1 e2 e3
    subst e1 e3
    obtain rfl : l = [] := List.eq_nil_of_length_eq_zero h0
    exact (sort_nil 63 #[.pointer (some ⟨gb, 0, none⟩)] w).mono (fun e w' ⟨h1, h2⟩ => ⟨h1, by rw [← h2]; exact h, by rw [← h2]; exact Below.refl _ _⟩)
  · injection hv with e1 e2 e3
    subst e1 e3
    have hne : some gb ≠ some g := fun e => by
      injection e with e
      subst e
      have K2 : w.heap[gb]? = some (.cells #[.func (.func 53) #[] #[]] 106 (0, 0)) := K
      rw [K2] at hgg
      injection hgg with hgg
      injection hgg with _ hgg
      revert hgg
      decide
    refine (sort_any w 63 #[.pointer (some ⟨gb, 0, none⟩)] cmpPlc (enters_of Try.func63 (by kernel_rfl) rfl) swC base g l.length c (fun x y W hW => cmpPlc_any gb x y W (K.grown hW hne)) (by omega) l w ⟨rfl, ⟨rfl, h⟩, grown_refl _ _⟩).mono ?_
    rintro e w' ⟨h1, h2, h3⟩
    refine ⟨h1, ?_, (Below.refl _ _).grown h3 hb (fun q e => by injection e with e; omega)⟩
    have h4 := h2.2.1.2
    rw [show ltOf cmpPlc = ltP from ltP_cmp] at h4
    unfold OwnP
    rw [length_sortP]
    exact h4
set_option maxHeartbeats 1000000 in
theorem sorted_any (l : List Plc) (A : Option Addr) (n c : Nat) (w : World) (h : RA plcCells 4 w w.heap.size A n c l) (hn : n ≤ 1000) :
    Calls Try.prog 52 #[.slice A n c, .func (.func 53) #[] #[]] w (PlcRet (sortP ltP l) w) := by
  have HCL := Lib.hid (fun (W : World) (hx : Ext w W) => clone_plc l A n c W (ra_ext h hx) hn)
  have HLN := Lib.hid h.len
  have HN := Lib.hid hn
  clear h hn
  go_enter Try.func52, Try.ntmps52
  go_wp2_with fail
  have K := Blk.new w 106 #[.func (.func 53) #[] #[]]
  have hx1 : Ext w (w.alloc (.cells #[.func (.func 53) #[] #[]] 106)) := (by repeat (first | exact Below.refl _ _ | assumption | refine Below.drew ?_ | refine below_drewN ?_ _ | refine bl_alloc ?_ _ | refine Below.setCell ?_ (by first | (simp; done) | omega | (simp; omega)) _ | refine bl_then ?_ (by assumption)))
  obtain ⟨gb, hgb⟩ : ∃ g, g = w.heap.size := ⟨_, rfl⟩
  rw [← hgb] at K ⊢
  clear hgb
  generalize w.alloc (.cells #[.func (.func 53) #[] #[]] 106) = W1 at K hx1 ⊢
  have hc := HCL.out _ hx1
  clear HCL
  refine hc.mono ?_
  clear hc
  rintro e w2 ⟨v, rfl, ho, hy⟩
  have hx2 := Ext.trans hx1 hy
  have K := K.ext hy
  obtain ⟨A2, c2, hv2, _, _⟩ := own_slice ho
  subst hv2
  have hs := sort_own gb w2 w.heap.size l A2 c2 K (own_base ho (Below.size hx1)) (by rw [HLN.out]; exact HN.out) (Below.size hx2)
  have HS := Lib.hid hs
  generalize l.length = m at HS
  clear hs ho hy K
  go_wp2_with fail
  have hs := HS.out
  clear HS
  refine hs.mono ?_
  clear hs
  rintro e w3 ⟨rfl, ho, hy⟩
  have hx3 : Ext w w3 := Below.trans hx2 hy
  go_wp2
  go_ret
  exact ⟨_, rfl, ho, hx3⟩
end Go.Proofs.Ytikphbgfcpamgaa
namespace Go.Proofs.Ytikphbgfcpamgaa
open Go.RowKit Go.MapKept

def mkE (p : Int × Value × Nat) : MapEntry := { key := .int .i64 p.1, val := p.2.1, born := p.2.2 }
def lookL (k : Int) : List (Int × Value × Nat) → Option Value
  | [] => none
  | p :: r => if p.1 = k then some p.2.1 else lookL k r
def updL (k : Int) (v : Value) (c : Nat) : List (Int × Value × Nat) → List (Int × Value × Nat)
  | [] => [(k, v, c)]
  | p :: r => if p.1 = k then (k, v, p.2.2) :: r else p :: updL k v c r
theorem look_upd (k j : Int) (v : Value) (c : Nat) : ∀ L, lookL j (updL k v c L) = if j = k then some v else lookL j L
  | [] => by
    simp only [updL, lookL]
    by_cases h : k = j
    · subst h; simp
    · rw [if_neg h, if_neg (fun e => h e.symm)]
  | p :: r => by
    simp only [updL]
    by_cases h : p.1 = k
    · rw [if_pos h]
      simp only [lookL]
      by_cases hj : j = k
      · subst hj; simp
      · rw [if_neg (fun e => hj e.symm), if_neg hj, if_neg (fun e => hj (e.symm.trans h))]
    · rw [if_neg h]
      simp only [lookL]
      rw [look_upd k j v c r]
      by_cases hp : p.1 = j
      · rw [if_pos hp, if_pos hp, if_neg (fun e => h (hp.trans e))]
      · rw [if_neg hp, if_neg hp]
theorem find_none {k : Int} : ∀ {L : List (Int × Value × Nat)} (i : Nat), lookL k L = none → Instr.findNow (.int .i64) (.int .i64 k) (L.map mkE) i = some none ∧ ∀ v c, updL k v c L = L ++ [(k, v, c)]
  | [], _, _ => ⟨rfl, fun _ _ => rfl⟩
  | p :: r, i, h => by
    simp only [lookL] at h
    by_cases hp : p.1 = k
    · rw [if_pos hp] at h; cases h
    · rw [if_neg hp] at h
      obtain ⟨h1, h2⟩ := find_none (i + 1) h
      refine ⟨?_, fun v c => by simp only [updL]; rw [if_neg hp, h2]; rfl⟩
      have hs : (k == p.1) = false := by simp; exact fun e => hp e.symm
      simp only [List.map_cons, Instr.findNow, Instr.sameNow, mkE, if_true, hs]
      exact h1
theorem find_some {k : Int} {v : Value} : ∀ {L : List (Int × Value × Nat)} (i : Nat), lookL k L = some v → ∃ j p, L[j]? = some p ∧ p.1 = k ∧ p.2.1 = v ∧ Instr.findNow (.int .i64) (.int .i64 k) (L.map mkE) i = some (some (i + j, v)) ∧ ∀ u c, updL k u c L = L.set j (k, u, p.2.2)
  | [], _, h => by cases h
  | p :: r, i, h => by
    simp only [lookL] at h
    by_cases hp : p.1 = k
    · rw [if_pos hp] at h
      have hv : p.2.1 = v := by simpa using h
      refine ⟨0, p, rfl, hp, hv, ?_, fun u c => by simp only [updL]; rw [if_pos hp]; rfl⟩
      have hs : (k == p.1) = true := by simp [hp]
      simp only [List.map_cons, Instr.findNow, Instr.sameNow, mkE, if_true, hs, hv, Nat.add_zero]
    · rw [if_neg hp] at h
      obtain ⟨j, q, h1, h2, h3, h4, h5⟩ := find_some (i + 1) h
      refine ⟨j + 1, q, by simpa using h1, h2, h3, ?_, fun u c => by simp only [updL]; rw [if_neg hp, h5]; rfl⟩
      have hs : (k == p.1) = false := by simp; exact fun e => hp e.symm
      simp only [List.map_cons, Instr.findNow, Instr.sameNow, mkE, if_true, hs]
      rw [show i + (j + 1) = i + 1 + j by omega]
      exact h4

def MapI (w : World) (g : Nat) (f : Int → Option Value) : Prop := ∃ L clock, w.heap[g]? = some (.map (L.map mkE).toArray clock) ∧ ∀ k, lookL k L = f k
theorem MapI.lt {w : World} {g : Nat} {f : Int → Option Value} (h : MapI w g f) : g < w.heap.size := by
  obtain ⟨L, c, h, _⟩ := h
  exact (Array.getElem?_eq_some_iff.1 h).1
theorem MapI.ext {w w' : World} {g : Nat} {f : Int → Option Value} (h : MapI w g f) (hx : Ext w w') : MapI w' g f := by
  have hl := h.lt
  obtain ⟨L, c, h1, h2⟩ := h
  exact ⟨L, c, (hx.block g hl).trans h1, h2⟩
theorem MapI.grown {w w' : World} {g : Nat} {f : Int → Option Value} {row : Option Nat} (h : MapI w g f) (hx : w.grownBy w' row) (hne : some g ≠ row) : MapI w' g f := by
  have hl := h.lt
  obtain ⟨L, c, h1, h2⟩ := h
  exact ⟨L, c, (hx.block g hl hne).trans h1, h2⟩
theorem MapI.far {w : World} {g : Nat} {f : Int → Option Value} (h : MapI w g f) {p : Addr} (hp : g ≠ p.block) (u : Value) : MapI (w.setCell p u) g f := by
  obtain ⟨L, c, h1, h2⟩ := h
  exact ⟨L, c, (Below.heap_setCell w p u g hp).trans h1, h2⟩
theorem MapI.new (w : World) : MapI (w.alloc (.map #[] 0)) w.heap.size (fun _ => none) := ⟨[], 0, heap_alloc_new w _, fun _ => rfl⟩
theorem MapI.congr {w : World} {g : Nat} {f f' : Int → Option Value} (h : MapI w g f) (hf : ∀ k, f k = f' k) : MapI w g f' := by
  obtain ⟨L, c, h1, h2⟩ := h
  exact ⟨L, c, h1, fun k => (h2 k).trans (hf k)⟩
def putMap (w : World) (g : Nat) (L : List (Int × Value × Nat)) (c : Nat) : World := { w with heap := w.heap.setIfInBounds g (.map (L.map mkE).toArray c) }
theorem putMap_grown (w : World) (g : Nat) (L : List (Int × Value × Nat)) (c : Nat) : w.grownBy (putMap w g L c) (some g) :=
  ⟨rfl, rfl, rfl, by simp [putMap], fun k _ hne => by
    have : k ≠ g := fun e => hne (by rw [e])
    simp [putMap, Ne.symm this]⟩
section
variable {P : Program} {w : World} {g : Nat} {f : Int → Option Value} {t kt et : TypeId}
theorem MapI.look (h : MapI w g f) (ht : P.underlying t = some (.map kt et)) (hk : P.underlying kt = some (.int .i64)) {z : Value} (hz : (zeroValue et).run P w = .ok z w) (k : Int) :
    (Instr.lookup t (.map (some g)) (.int .i64 k) false).run P w = .ok ((f k).getD z) w := by
  obtain ⟨L, c, hb, hf⟩ := h
  have hc : ∀ e, (Instr.checkKey e 10000 kt (.int .i64 k)).run P w = .ok () w := fun e => MapKept.run_checkKey (k := .int .i64 k) hk (by simp [IsKey]) e 9999
  have hfk := hf k
  cases hl : lookL k L with
  | none =>
    obtain ⟨h1, _⟩ := find_none (k := k) 0 hl
    rw [hl] at hfk
    rw [← hfk]
    simp [Instr.lookup, run_underlying ht, MapKept.run_getObj_map hb, hc, MapKept.run_findKey hk h1, Result.andThen, hz]
  | some v =>
    obtain ⟨j, p, _, _, _, h1, _⟩ := find_some (k := k) 0 hl
    rw [hl] at hfk
    rw [← hfk]
    simp [Instr.lookup, run_underlying ht, MapKept.run_getObj_map hb, hc, MapKept.run_findKey hk h1, Result.andThen]
theorem MapI.look_ok (h : MapI w g f) (ht : P.underlying t = some (.map kt et)) (hk : P.underlying kt = some (.int .i64)) {z : Value} (hz : (zeroValue et).run P w = .ok z w) (k : Int) :
    (Instr.lookup t (.map (some g)) (.int .i64 k) true).run P w = .ok (.tuple #[(f k).getD z, .bool (f k).isSome]) w := by
  obtain ⟨L, c, hb, hf⟩ := h
  have hc : ∀ e, (Instr.checkKey e 10000 kt (.int .i64 k)).run P w = .ok () w := fun e => MapKept.run_checkKey (k := .int .i64 k) hk (by simp [IsKey]) e 9999
  have hfk := hf k
  cases hl : lookL k L with
  | none =>
    obtain ⟨h1, _⟩ := find_none (k := k) 0 hl
    rw [hl] at hfk
    rw [← hfk]
    simp [Instr.lookup, run_underlying ht, MapKept.run_getObj_map hb, hc, MapKept.run_findKey hk h1, Result.andThen, hz]
  | some v =>
    obtain ⟨j, p, _, _, _, h1, _⟩ := find_some (k := k) 0 hl
    rw [hl] at hfk
    rw [← hfk]
    simp [Instr.lookup, run_underlying ht, MapKept.run_getObj_map hb, hc, MapKept.run_findKey hk h1, Result.andThen]
theorem MapI.update (h : MapI w g f) (ht : P.underlying t = some (.map kt et)) (hk : P.underlying kt = some (.int .i64)) (k : Int) (v : Value) :
    ∃ w', (Instr.mapUpdate t (.map (some g)) (.int .i64 k) v).run P w = .ok () w' ∧ MapI w' g (fun j => if j = k then some v else f j) ∧ w.grownBy w' (some g) := by
  have hlt := h.lt
  obtain ⟨L, c, hb, hf⟩ := h
  have hc : ∀ e, (Instr.checkKey e 10000 kt (.int .i64 k)).run P w = .ok () w := fun e => MapKept.run_checkKey (k := .int .i64 k) hk (by simp [IsKey]) e 9999
  have hnew : ∀ c c', MapI (putMap w g (updL k v c L) c') g (fun j => if j = k then some v else f j) := fun c c' => ⟨updL k v c L, c', by simp [putMap, hlt], fun j => by rw [look_upd, hf]⟩
  cases hl : lookL k L with
  | none =>
    obtain ⟨h1, h2⟩ := find_none (k := k) 0 hl
    refine ⟨putMap w g (updL k v c L) (c + 1), ?_, hnew _ _, putMap_grown _ _ _ _⟩
    rw [h2]
    simp [Instr.mapUpdate, run_underlying ht, MapKept.run_getObj_map hb, hc, MapKept.run_findKey hk h1, MapKept.run_setObj_map _ hb, Result.andThen, putMap, mkE]
  | some u =>
    obtain ⟨j, p, hj, hpk, _, h1, h2⟩ := find_some (k := k) 0 hl
    refine ⟨putMap w g (updL k v c L) c, ?_, hnew _ _, putMap_grown _ _ _ _⟩
    rw [h2]
    have hjl : j < L.length := (List.getElem?_eq_some_iff.1 hj).1
    have hjp : L[j] = p := (List.getElem?_eq_some_iff.1 hj).2
    have hst : (Instr.keyThatStays (.int .i64 p.1) (.int .i64 k)).run P w = .ok (.int .i64 k) w := by simp [Instr.keyThatStays, Instr.sameBits, hpk]
    have hmod : (L.map mkE).toArray.modify j (fun e => { e with key := .int .i64 k, val := v }) = ((L.set j (k, v, p.2.2)).map mkE).toArray := by
      refine Array.ext_getElem? fun i => ?_
      rw [Array.getElem?_modify]
      simp only [List.getElem?_toArray, List.getElem?_map, List.getElem?_set]
      by_cases hji : j = i
      · subst hji
        simp [hjl, hjp, mkE]
      · simp [hji]
    have hkey : ((((L.map mkE).toArray[j]?).map (·.key)).getD (.int .i64 k)) = .int .i64 p.1 := by simp [hj, mkE]
    simp only [Nat.zero_add] at h1
    have hkey2 : (Option.map (fun x => x.key) (L.map mkE).toArray[j]?).getD (.int .i64 k) = .int .i64 p.1 := hkey
    simp only [Instr.mapUpdate, Sem.run_bind, run_underlying ht, Result.andThen_ok, MapKept.run_getObj_map hb, hc, MapKept.run_findKey hk h1, hkey2, hst, MapKept.run_setObj_map _ hb, hmod]
    rfl
end
end Go.Proofs.Ytikphbgfcpamgaa
