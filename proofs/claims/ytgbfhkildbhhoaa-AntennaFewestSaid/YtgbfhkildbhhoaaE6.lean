/- AntennaFewest: the walk. -/
import Derived.Test.YtgbfhkildbhhoaaL0
import Derived.Test.YtgbfhkildbhhoaaTn2
namespace Go.Proofs.Ytgbfhkildbhhoaa
open Go.RowKit

theorem take_drop_at (l : List Use) (i : Nat) (hi : i < l.length) : l = l.take i ++ l[i] :: l.drop (i + 1) := by
  rw [← List.drop_eq_getElem_cons hi, List.take_append_drop]
/-- With one use less. -/
theorem most_cut (l : List Use) (i : Nat) (hi : i < l.length) : mostP (l.take i ++ l.drop (i + 1)) (l.take i ++ l.drop (i + 1)) ≤ mostP l l ∧ mostP l l ≤ mostP (l.take i ++ l.drop (i + 1)) (l.take i ++ l.drop (i + 1)) + 1 := by
  have h := most_less (l.take i) (l.drop (i + 1)) l[i]
  rw [← take_drop_at l i hi] at h
  exact h
theorem cut_sub (l : List Use) (i : Nat) (hi : i < l.length) : (l.take i ++ l.drop (i + 1)).Sublist l := by
  have h : (l.take i ++ l.drop (i + 1)).Sublist (l.take i ++ l[i] :: l.drop (i + 1)) := List.Sublist.append (List.Sublist.refl _) (List.sublist_cons_self _ _)
  rwa [← take_drop_at l i hi] at h

set_option maxRecDepth 100000 in
set_option maxHeartbeats 8000000 in
theorem fewest_walk (xa : Option Addr) (xn xc : Nat) (xs : List T3) (which : Int) (w : World) (hr : RA t3Cells 3 w w.heap.size xa xn xc xs) (hok : ∀ t ∈ xs, t.ok) (hw : I64ok which) :
    Calls Try.prog 6 #[.slice xa xn xc, .int .i64 which] w (Tru w) := by
  have HS := Lib.hid (sane_any w)
  have HM := Lib.hid (fun (W : World) (hW : Ext w W) => made_any xs xa xn xc W (ra_ext hr hW) hok)
  obtain ⟨l, hl⟩ : ∃ l, l = madeP xs := ⟨_, rfl⟩
  have hval : validU l = true := by rw [hl]; exact made_valid xs
  have hlen : l.length ≤ 14 := by rw [hl]; exact made_len xs
  rw [← hl] at HM
  obtain ⟨n, hn⟩ : ∃ n, n = l.length := ⟨_, rfl⟩
  obtain ⟨m, hm⟩ : ∃ m, m = mostP l l := ⟨_, rfl⟩
  have hmn : m ≤ n := by rw [hm, hn]; exact mostP_le _ _
  have hm0 : m = 0 ↔ n = 0 := by rw [hm, hn]; exact most_zero l hval
  have hn14 : n ≤ 14 := by omega
  have HV := Lib.hid hval
  have HNL := Lib.hid hn
  have HML := Lib.hid hm
  clear hr hok hl hval hlen hn hm
  go_enter Try.func6, Try.ntmps6
  go_wp2_with fail
  refine HS.out.mono ?_
  rintro e W1 ⟨rfl, hx⟩
  go_wp2_with fail
  refine (HM.out _ hx).mono ?_
  rintro e W2 ⟨v, rfl, hown, hy⟩
  obtain ⟨A, c, rfl, hnc, hcm⟩ := own_slice hown
  have hx := Ext.trans hx hy
  have hra := RA.of_own (cells := useCells) hown rfl (by rw [← HNL.out]; omega)
  rw [← HNL.out] at hra hnc
  rw [← HNL.out]
  have HRA := Lib.hid hra
  clear hown hy HS HM hra
  have hfw := fun (W : World) (hW : Ext W2 W) => fewest_any l A n c W (ra_ext HRA.out hW) (by omega)
  rw [fewest_ok l HV.out, ← HML.out] at hfw
  have hcl := fun (k : Nat) (hk : k ≤ 8) (W : World) (hW : Ext W2 W) => clash_any l (k : Int) A n c W (ra_ext HRA.out hW) (by unfold mxS; omega)
  have hcl2 : ∀ (k : Nat), k ≤ 8 → ∀ (W : World), Ext W2 W → Calls Try.prog 20 #[.slice A n c, .int .i64 (k : Int)] W fun e w' => ∃ t v, e = .returned (.tuple #[.int .i64 t, v, .int .i64 0]) ∧ (t = -1 ↔ m ≤ k) ∧ Ext W w' := fun k hk W hW => by
    obtain ⟨h1, _, h2⟩ := clash_iff l (k : Int) HV.out (by rw [inB_iff]; omega)
    have h3 := hcl k hk W hW
    unfold ClashRet at h3
    rw [h1] at h3
    refine h3.mono fun e w' ⟨v, h4, _, h5⟩ => ⟨(clashP l (k : Int)).1, v, h4, ?_, h5⟩
    rw [h2, HML.out, most_iff]
    constructor
    · intro h u hu; have := h u hu; omega
    · intro h u hu; have := h u hu; omega
  have HFW := Lib.hid hfw
  have HCL := Lib.hid hcl2
  clear hfw hcl hcl2
  have hm1 : ¬ ((m : Int) < 0) := by omega
  have hm2 : ¬ ((n : Int) < (m : Int)) := by omega
  have hm2' : ¬ (n < m) := by omega
  have hm3 : (((m : Int) == 0) == ((n : Int) == 0)) = true := by rw [beq_iff_eq, Bool.eq_iff_iff, beq_iff_eq, beq_iff_eq]; omega
  go_wp2_with fail
  refine (HFW.out _ (Ext.refl _)).mono ?_
  rintro e W3 ⟨rfl, hy⟩
  have hy23 : Ext W2 W3 := hy
  clear HFW hy
  go_wp2_with fail
  go_loopw [9] (fun y wr => ∃ k : Nat, k ≤ 9 ∧ y = .int .i64 k ∧ Ext W2 wr) (fun y _ => 9 - (intOf y).toNat)
  case atStart => exact ⟨0, by omega, rfl, hy23⟩
  case round =>
    clear hy23
    obtain ⟨k, hk, rfl, hy⟩ := hrel
    by_cases hk8 : k ≤ 8
    · have hk8' : (k : Int) ≤ 8 := by omega
      go_wp2_with fail
      refine (HCL.out k hk8 _ hy).mono ?_
      rintro e W4 ⟨t, v, rfl, ht, hz⟩
      have hy4 := Ext.trans hy hz
      clear hz hy
      by_cases hmk : m ≤ k
      · obtain rfl : t = -1 := ht.2 hmk
        have hmk' : (m : Int) ≤ (k : Int) := by omega
        clear ht
        go_wp2_with fail
        go_roundw
        case rel => exact ⟨k + 1, by omega, by go_num, hy4⟩
        case measure => simp [intOf]; omega
      · have ht' : ¬ t = -1 := fun h => hmk (ht.1 h)
        have hmk' : ¬ (m : Int) ≤ (k : Int) := by omega
        clear ht
        go_wp2_with fail
        go_roundw
        case rel => exact ⟨k + 1, by omega, by go_num, hy4⟩
        case measure => simp [intOf]; omega
    · have hk8' : ¬ (k : Int) ≤ 8 := by omega
      clear HCL
      by_cases hn0 : n = 0
      · have hn0' : (n : Int) = 0 := by omega
        have hxf := Ext.trans hx hy
        go_wp2_with fail
        go_ret
        exact ⟨rfl, hxf⟩
      · have hn0' : ¬ (n : Int) = 0 := by omega
        have hpk := fun W => pickl_any which (n : Int) W hw.1 hw.2 (by omega) (by omega)
        obtain ⟨hb1, hb2⟩ := pickI_bd which (n : Int) (by omega)
        obtain ⟨i, hi, hin⟩ : ∃ i : Nat, pickI which (n : Int) = i ∧ i < n := ⟨(pickI which (n : Int)).toNat, by omega, by omega⟩
        rw [hi] at hpk
        have HPK := Lib.hid hpk
        clear hpk hb1 hb2 hi
        go_upto_region 17 with (refine (HPK.out _).mono ?_; rintro e w' ⟨rfl, rfl⟩)
        have hRA9 := ra_ext HRA.out hy
        obtain ⟨b, o, hA, hb9, _⟩ := hRA9.rd.2 (by omega)
        have hcap := hRA9.cap
        have hcm9 := hRA9.capM
        subst hA
        have HRA9 := Lib.hid hRA9
        clear hRA9
        have hii : (i : Int) ≤ (n : Int) := by omega
        have hi0 : (0 : Int) ≤ (i : Int) := by omega
        have hi1 : (i : Int) + 1 ≤ (n : Int) := by omega
        have hi2 : ((i : Int) + 1).toNat = i + 1 := by omega
        have hi3 : (0 : Int) ≤ (i : Int) + 1 := by omega
        have hnci : (n : Int) ≤ (c : Int) := by omega
        refine wp_region_obl 9 (fun ix vals v w1 => match ix with | 0 => ∃ g, v = .slice (some ⟨g, 0, none⟩) 0 0 ∧ wr.heap.size ≤ g ∧ Blk w1 g 26 #[] | 1 => v = .slice (some ⟨b, o, none⟩) n c | 2 => v = .int .i64 i | 3 => v = .slice (some ⟨b, o, none⟩) i c | 4 => OwnU w1 wr.heap.size v (l.take i) | 5 => v = .slice (some ⟨b, o, none⟩) n c | 6 => v = .int .i64 i | 7 => v = .int .i64 (i + 1) | _ => ∃ T, v = .slice T (n - (i + 1)) (c - (i + 1)) ∧ wr.heap.size ≤ w1.heap.size ∧ RA useCells 3 w1 wr.heap.size T (n - (i + 1)) (c - (i + 1)) (l.drop (i + 1))) (by kernel_rfl) (by kernel_rfl) ?_ ?_ ?_ ?_
        · intro ix vals v w1 w2 hi hr hx
          match ix, hr with
          | 0, hr => obtain ⟨g, h1, h2, h3⟩ := hr; exact ⟨g, h1, h2, h3.ext hx⟩
          | 1, hr => exact hr
          | 2, hr => exact hr
          | 3, hr => exact hr
          | 4, hr => exact hr.ext hx
          | 5, hr => exact hr
          | 6, hr => exact hr
          | 7, hr => exact hr
          | (kx + 8), hr => obtain ⟨T, h1, h2, h3⟩ := hr; exact ⟨T, h1, Nat.le_trans h2 (Below.size hx), h3.below (hx.mono h2)⟩
        · intro ix vals vals_ v w1 hi hv hr
          exact hr
        · refine obls_ofT [some 76, some 77, some 78, some 79, some 80, some 81, some 82, some 83, some 84, some 85, some 14] [(6, .slice (some ⟨b, o, none⟩) n c), (13, .int .i64 i)] 107 (by kernel_rfl) (by kernel_rfl) ⟨by kernel_rfl, by kernel_rfl, trivial⟩ ?_
          refine ⟨?_, ?_, ?_, ?_, ?_, ?_, ?_, ?_, ?_, trivial⟩
          · intro vals w1 hx hd
            refine .run [] { dst := some 0, op := Go.Op.buildSlice 27 0 #[], type := 27, pos := "", after := #[], guard := none } 76 trivial (by kernel_rfl) (by kernel_rfl) (by kernel_rfl) rfl rfl rfl ?_
            clear hd
            have hz9 := Below.size hx.undrew
            go_wp2
            exact ⟨rfl, (by repeat (first | exact Below.refl _ _ | assumption | refine Below.drew ?_ | refine below_drewN ?_ _ | refine bl_alloc ?_ _ | refine Below.setCell ?_ (by first | (simp; done) | omega | (simp; omega)) _ | refine bl_then ?_ (by assumption))), _, rfl, by omega, Blk.new _ _ _⟩
          · intro vals w1 hx hd
            refine .run [(6, .slice (some ⟨b, o, none⟩) n c)] { dst := some 0, op := Go.Op.move (Go.Operand.const (.slice (some ⟨b, o, none⟩) n c)), type := 27, pos := "", after := #[], guard := none } 77 ⟨.out (by kernel_rfl) (by kernel_rfl), trivial⟩ (by kernel_rfl) (by kernel_rfl) (by kernel_rfl) rfl rfl rfl ?_
            clear hd
            go_wp2
            exact ⟨rfl, Ext.refl _, rfl⟩
          · intro vals w1 hx hd
            refine .run [(13, .int .i64 i)] { dst := some 0, op := Go.Op.move (Go.Operand.const (.int .i64 i)), type := 3, pos := "", after := #[], guard := none } 78 ⟨.out (by kernel_rfl) (by kernel_rfl), trivial⟩ (by kernel_rfl) (by kernel_rfl) (by kernel_rfl) rfl rfl rfl ?_
            clear hd
            go_wp2
            exact ⟨rfl, Ext.refl _, rfl⟩
          · intro vals w1 hx hd
            have e1 : vals 1 = .slice (some ⟨b, o, none⟩) n c := hd 1 (by decide)
            have e2 : vals 2 = .int .i64 i := hd 2 (by decide)
            refine .run [(77, .slice (some ⟨b, o, none⟩) n c), (78, .int .i64 i)] { dst := some 0, op := Go.Op.slice 27 (Go.Operand.const (.slice (some ⟨b, o, none⟩) n c)) none (some (Go.Operand.const (.int .i64 i))) none, type := 27, pos := "", after := #[], guard := none } 79 ⟨.inn 1 (by kernel_rfl) e1, .inn 2 (by kernel_rfl) e2, trivial⟩ (by kernel_rfl) (by kernel_rfl) (by kernel_rfl) rfl rfl rfl ?_
            clear hd e1 e2
            go_wp2
            exact ⟨rfl, Ext.refl _, rfl⟩
          · intro vals w1 hx hd
            have r0 : (fun v w1 => ∃ g, v = .slice (some ⟨g, 0, none⟩) 0 0 ∧ wr.heap.size ≤ g ∧ Blk w1 g 26 #[]) (vals 0) w1 := hd 0 (by decide)
            dsimp only at r0
            obtain ⟨g0, e_0, hg0, j0⟩ := r0
            have e3 : vals 3 = .slice (some ⟨b, o, none⟩) i c := hd 3 (by decide)
            refine .run [(76, .slice (some ⟨g0, 0, none⟩) 0 0), (79, .slice (some ⟨b, o, none⟩) i c)] { dst := some 0, op := Go.Op.call { callee := Go.Callee.builtin Go.Builtin.append, args := #[(Go.Operand.const (.slice (some ⟨g0, 0, none⟩) 0 0)), (Go.Operand.const (.slice (some ⟨b, o, none⟩) i c))], argTypes := #[27, 27] }, type := 27, pos := "", after := #[], guard := none } 80 ⟨.inn 0 (by kernel_rfl) e_0, .inn 3 (by kernel_rfl) e3, trivial⟩ (by kernel_rfl) (by kernel_rfl) (by kernel_rfl) rfl rfl rfl ?_
            clear hd e_0 e3
            obtain ⟨v9, w9, hrun, hx9, ho9⟩ := copy_use 27 (l.take i) w1.heap.size g0 i c (some ⟨b, o, none⟩) wr.heap.size j0 hg0 (by omega) ((ra_ext HRA9.out hx.undrew).cut use_len i (by omega))
            refine wpList_append_run_ rfl _ _ _ rfl rfl rfl hrun ?_
            clear hrun
            go_wp2
            exact ⟨rfl, hx9, ho9⟩
          · intro vals w1 hx hd
            refine .run [(6, .slice (some ⟨b, o, none⟩) n c)] { dst := some 0, op := Go.Op.move (Go.Operand.const (.slice (some ⟨b, o, none⟩) n c)), type := 27, pos := "", after := #[], guard := none } 81 ⟨.out (by kernel_rfl) (by kernel_rfl), trivial⟩ (by kernel_rfl) (by kernel_rfl) (by kernel_rfl) rfl rfl rfl ?_
            clear hd
            go_wp2
            exact ⟨rfl, Ext.refl _, rfl⟩
          · intro vals w1 hx hd
            refine .run [(13, .int .i64 i)] { dst := some 0, op := Go.Op.move (Go.Operand.const (.int .i64 i)), type := 3, pos := "", after := #[], guard := none } 82 ⟨.out (by kernel_rfl) (by kernel_rfl), trivial⟩ (by kernel_rfl) (by kernel_rfl) (by kernel_rfl) rfl rfl rfl ?_
            clear hd
            go_wp2
            exact ⟨rfl, Ext.refl _, rfl⟩
          · intro vals w1 hx hd
            have e6 : vals 6 = .int .i64 i := hd 6 (by decide)
            refine .run [(82, .int .i64 i)] { dst := some 0, op := Go.Op.binOp Go.BinOp.add 3 (Go.Operand.const (.int .i64 i)) (Go.Operand.const (Go.Value.int Go.IntKind.i64 1)) 3, type := 3, pos := "", after := #[], guard := none } 83 ⟨.inn 6 (by kernel_rfl) e6, trivial⟩ (by kernel_rfl) (by kernel_rfl) (by kernel_rfl) rfl rfl rfl ?_
            clear hd e6
            go_wp2
            exact ⟨rfl, Ext.refl _, rfl⟩
          · intro vals w1 hx hd
            have e5 : vals 5 = .slice (some ⟨b, o, none⟩) n c := hd 5 (by decide)
            have e7 : vals 7 = .int .i64 (i + 1) := hd 7 (by decide)
            refine .run [(81, .slice (some ⟨b, o, none⟩) n c), (83, .int .i64 (i + 1))] { dst := some 0, op := Go.Op.slice 27 (Go.Operand.const (.slice (some ⟨b, o, none⟩) n c)) (some (Go.Operand.const (.int .i64 (i + 1)))) none none, type := 27, pos := "", after := #[], guard := none } 84 ⟨.inn 5 (by kernel_rfl) e5, .inn 7 (by kernel_rfl) e7, trivial⟩ (by kernel_rfl) (by kernel_rfl) (by kernel_rfl) rfl rfl rfl ?_
            clear hd e5 e7
            have hz9 := Below.size hx.undrew
            have hta := (HRA9.out.below hx.undrew).tail use_len (i + 1) (by omega)
            by_cases hce : c = i + 1
            · have hce2 : c - (i + 1) = 0 := (by omega); rw [if_pos hce, hce2] at hta; go_wp2; exact ⟨rfl, Ext.refl _, _, rfl, hz9, hta⟩
            · rw [if_neg hce] at hta; go_wp2; exact ⟨rfl, Ext.refl _, _, rfl, hz9, hta⟩
        intro vals W6 hz hf
        have h4 : OwnU W6 wr.heap.size (vals 4) (l.take i) := hf 4 (by omega)
        obtain ⟨T, e8, hsz, hT⟩ : ∃ T, vals 8 = .slice T (n - (i + 1)) (c - (i + 1)) ∧ wr.heap.size ≤ W6.heap.size ∧ RA useCells 3 W6 wr.heap.size T (n - (i + 1)) (c - (i + 1)) (l.drop (i + 1)) := hf 8 (by omega)
        have hz := hz.undrew
        have hb65 := Below.size hz
        clear hf
        have hl1 : (l.take i).length + (n - (i + 1)) ≤ 900 := by rw [List.length_take]; omega
        obtain ⟨v7, W7, hrun, hg7, h7⟩ := join_use 27 (l.take i) (l.drop (i + 1)) (vals 4) wr.heap.size wr.heap.size (n - (i + 1)) (c - (i + 1)) T h4 hT hl1 hb65
        have hx7 : Ext wr W7 := hz.grown hg7 (Below.size hz) (fun q e => (World.ownsRow.lt h4 q e).1)
        obtain ⟨A7, c7, hv7, _, _⟩ := own_slice h7
        subst hv7
        have hil : i < l.length := by rw [← HNL.out]; exact hin
        have hm7 := most_cut l i hil
        have hv7 := valid_sub (cut_sub l i hil) HV.out
        have hlen7 := (cut_sub l i hil).length_le
        rw [← HML.out] at hm7
        rw [← HNL.out] at hlen7
        have hra7 := RA.of_own (cells := useCells) h7 rfl (by omega)
        have hfw := fewest_any _ A7 _ c7 W7 hra7 (by omega)
        rw [fewest_ok _ hv7] at hfw
        generalize mostP (l.take i ++ l.drop (i + 1)) (l.take i ++ l.drop (i + 1)) = m7 at hm7 hfw
        obtain ⟨hm8, hm9⟩ := hm7
        generalize (l.take i ++ l.drop (i + 1)).length = n7 at hfw hrun
        have HFW := Lib.hid hfw
        have HRUN := Lib.hid hrun
        have hxf := Ext.trans hx (Ext.trans hy hx7)
        clear hfw hrun hx7 hra7 h7 hg7 hv7 hlen7 hz h4 hT hsz hx hy hb65
        refine tailF 9 _ _ 1 (by kernel_rfl) rfl ?_ (fun a w q => tail1 10 _ (by kernel_rfl) (by kernel_rfl) rfl q)
        simp only [Lf, dstAt, Act.put, List.getElem?_toArray, List.getElem?_cons_zero, List.getElem?_cons_succ, Option.bind_some, List.setIfInBounds_toArray, List.set_cons_zero, List.set_cons_succ]
        rw [e8]
        clear e8
        refine wpList_append_run_ rfl _ _ _ rfl rfl rfl HRUN.out ?_
        clear HRUN
        have hm8' : (m7 : Int) ≤ (m : Int) := by omega
        have hm9' : (m : Int) - 1 ≤ (m7 : Int) := by omega
        go_wp2_with fail
        refine HFW.out.mono ?_
        rintro e W8 ⟨rfl, hz⟩
        have hxf := Ext.trans hxf hz
        clear hz HFW
        go_wp2_with fail
        go_ret
        exact ⟨rfl, hxf⟩
end Go.Proofs.Ytgbfhkildbhhoaa
