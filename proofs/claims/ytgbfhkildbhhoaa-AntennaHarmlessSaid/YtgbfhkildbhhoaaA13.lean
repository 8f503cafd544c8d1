/- Rows: the walk. -/
import Derived.Test.YtgbfhkildbhhoaaA12
namespace Go.Proofs.Ytgbfhkildbhhoaa
open Go.RowKit

theorem setStep_pos (l : List Use) (s : Int × List (List Nat)) (i : Nat) (h : s.1 < frP l i) : setStep l s i = (frP l i, s.2 ++ [atP l (frP l i)]) := by rw [setStep, if_pos h]
theorem setStep_neg (l : List Use) (s : Int × List (List Nat)) (i : Nat) (h : ¬ s.1 < frP l i) : setStep l s i = s := by rw [setStep, if_neg h]
theorem RowsI.len1 {w : World} {b : Nat} {v : Value} {rs : List Row} (h : RowsI w b v rs) : ∃ A c, v = .slice A rs.length c ∧ rs.length ≤ c ∧ c ≤ maxLen := own_slice h.out
theorem filter_map (L : List (List Nat)) (rs : List Row) (h : rs.map Row.l = L) : (rs.filter (fun u => !(rs.any fun b => insideP u.l b.l))).map Row.l = L.filter (fun a => !(L.any fun b => insideP a b)) := by
  subst h
  rw [List.filter_map]
  congr 1
  apply List.filter_congr
  intro x _
  simp [List.any_map, Function.comp_def]
theorem Rws.grown {w w' : World} {B n c : Nat} {A : Option Addr} {rs : List Row} (h : Rws w B A n c rs) {row : Option Nat} (hg : w.grownBy w' row) (hB : B ≤ w.heap.size) (hr : ∀ g, row = some g → B ≤ g) : Rws w' B A n c rs := ⟨h.out.grown hg hB hr, fun r h' => ⟨(h.each r h').1.grown hg hB hr, (h.each r h').2⟩⟩
set_option maxRecDepth 100000 in
set_option maxHeartbeats 4000000 in
theorem rows_any (l : List Use) (SA : Option Addr) (n c : Nat) (w : World) (hr : RA useCells 3 w w.heap.size SA n c l) (hn : n ≤ mxS) :
    Calls Try.prog 15 #[.slice SA n c] w (RowsRet (rowsP l) w) := by
  have hV := valid_any l SA n c w hr
  have hnm : n ≤ 1000 := by have : n ≤ 19 := hn; omega
  have hnm2 : n ≤ 999 := by have : n ≤ 19 := hn; omega
  have hO := fun (W : World) (hW : Ext w W) => order_any l SA n c W ((hr.below hW).more (Below.size hW)) hn
  have hT := fun (t : Int) (W : World) (hW : Ext w W) => at_any l t SA n c W ((hr.below hW).more (Below.size hW)) hnm
  have hle := hr.le
  have hL := hr.len
  have HR := Lib.hid hr
  have HL := Lib.hid hL
  have HT := Lib.hid hT
  have HO := Lib.hid hO
  clear hr hT hO hL
  rw [rowsP]
  generalize validU l = q at hV ⊢
  have HV := Lib.hid hV
  clear hV
  cases q
  · rw [if_neg (by simp)]
    go_enter Try.func15, Try.ntmps15
    go_wp2_with fail
    refine HV.out.mono ?_
    rintro e W1 ⟨rfl, hx⟩
    clear HV HR HT HO HL
    go_wp2
    refine bodyPost_ret (v := .tuple #[.slice none 0 0, .int .i64 170]) (by simp [results, Try.results15, go_sem]) rfl ⟨_, [], rfl, RowsI.nil _ _, rfl, hx⟩
  · rw [if_pos rfl]
    obtain ⟨fin, hfin⟩ : ∃ f, f = setsP l := ⟨_, rfl⟩
    rw [← hfin]
    have HFIN := Lib.hid hfin
    clear hfin
    go_enter Try.func15, Try.ntmps15
    go_wp2_with fail
    refine HV.out.mono ?_
    rintro e W1 ⟨rfl, hx1⟩
    clear HV
    go_upto_region 4 with (fail)
    have hx3 : Ext w (W1.alloc (.cells #[.slice none 0 0] 42)) := Ext.trans hx1 (bl_alloc (Below.refl _ _) _)
    have JS : Blk (W1.alloc (.cells #[.slice none 0 0] 42)) W1.heap.size 42 #[.slice none 0 0] := Blk.new _ _ _
    have hgs : w.heap.size ≤ W1.heap.size := Below.size hx1
    generalize W1.heap.size = gs at JS hgs ⊢
    generalize W1.alloc (.cells #[.slice none 0 0] 42) = W3 at JS hx3 ⊢
    clear hx1
    have HJS := Lib.hid JS
    clear JS
    go_wp2_with fail
    refine (HO.out _ hx3).mono ?_
    rintro e W4 ⟨v, rfl, hown, hy⟩
    obtain ⟨A2, c2, hv, h2c, h2m⟩ := own_slice hown
    rw [order_len, HL.out] at hv h2c
    have hx4 := Ext.trans hx3 hy
    subst hv
    have hgs3 := HJS.out.lt
    have HO4 : Hid (W4.ownsRow W3.heap.size 3 1 (.slice A2 n c2) n ((orderP l).flatMap natCells)) := Lib.hid (by rw [order_len, HL.out] at hown; exact hown)
    have HS4 := Lib.hid (HJS.out.ext hy)
    have hbase : w.heap.size ≤ W3.heap.size := Below.size hx3
    have hb34 : W3.heap.size ≤ W4.heap.size := Below.size hy
    obtain ⟨b3, hb3⟩ : ∃ b, b = W3.heap.size := ⟨_, rfl⟩
    rw [← hb3] at HO4 hgs3 hbase hb34
    have H0 : Hid ((((orderP l).drop 0).foldl (setStep l) (-1, [])).2 = fin) := Lib.hid (by rw [HFIN.out, setsP]; rfl)
    have HI0 : Hid (RowsI W4 b3 (.slice none 0 0) []) := Lib.hid (RowsI.nil _ _)
    have HM0 : Hid (([] : List Row).map Row.l = []) := Lib.hid rfl
    clear hown hx3 hy HO HJS hb3 HFIN
    go_wp2_with fail
    go_loopw [5, 15] (fun y x wr => ∃ (k : Nat) (la : Int) (L : List (List Nat)) (rs : List Row) (v : Value), k ≤ n ∧ x = .int .i64 k ∧ y = .int .i64 la ∧ rs.length ≤ k ∧ Hid ((((orderP l).drop k).foldl (setStep l) (la, L)).2 = fin) ∧ Hid (rs.map Row.l = L) ∧ Hid (RowsI wr b3 v rs) ∧ Hid (Blk wr gs 42 #[v]) ∧ Hid (wr.ownsRow b3 3 1 (.slice A2 n c2) n ((orderP l).flatMap natCells)) ∧ b3 ≤ wr.heap.size ∧ Ext w wr) (fun _ x _ => n - (intOf x).toNat)
    case atStart => exact ⟨0, -1, [], [], _, Nat.zero_le _, rfl, rfl, Nat.le_refl _, H0, HM0, HI0, HS4, HO4, hb34, hx4⟩
    case round =>
      clear H0 HM0 HI0 HS4 HO4 hx4 hb34
      obtain ⟨k, la, L, rs, sv, hk, rfl, rfl, hrl, HS, HM, HI, HB, HW, hbw, hx⟩ := hrel
      by_cases hkn : k < n
      · have hro := RA.of_own (cells := natCells) (l := orderP l) HW.out (by rw [order_len, HL.out]) (by omega)
        obtain ⟨b2, o2, hz, hA2, _, hc2⟩ := hro.at_ nat_len hkn
        have hdk : (orderP l).drop k = (orderP l)[k] :: (orderP l).drop (k + 1) := List.drop_eq_getElem_cons hz
        have hmem := order_mem l _ (List.getElem_mem hz)
        have hs := HS.out
        rw [hdk, List.foldl_cons] at hs
        have d0 : wr.cell? ⟨b2, o2 + k * 1, none⟩ = some (.int .i64 ((orderP l)[k] : Int)) := hc2 0 (by omega)
        rw [Nat.mul_one] at d0
        generalize (orderP l)[k] = i at hs hmem d0
        rw [HL.out] at hmem
        obtain ⟨b, o, hA, -, cx, cy⟩ := (HR.out.below hx).use_at hmem
        have hin : (i : Int) < n := by omega
        have hsp := setStep_pos l (la, L) i
        have hsn := setStep_neg l (la, L) i
        dsimp only at hsp hsn
        have hTT := HT.out (frP l i)
        have hal : (atP l (frP l i)).length ≤ 1000 := Nat.le_trans (idxP_le _ _ _) (by rw [HL.out]; omega)
        generalize atP l (frP l i) = th at hsp hTT hal
        generalize frP l i = t at hsp hsn cx hTT
        have HTT := Lib.hid hTT
        have HS2 := Lib.hid hs
        have HSP := Lib.hid hsp
        have HSN := Lib.hid hsn
        subst hA2 hA
        clear hs hdk hc2 HS hz hro cy hsp hsn hTT
        obtain ⟨wo, hwo⟩ : ∃ wo, wo = wr := ⟨_, rfl⟩
        rw [← hwo] at HI HB HW hx cx d0 hbw ⊢
        clear hwo
        by_cases hlt : la < t
        · have hs := HS2.out
          rw [HSP.out hlt] at hs
          have HF := Lib.hid hs
          clear hs HS2 HSP HSN
          go_wp2_with fail
          clear d0 cx
          have db := HB.out.cell 0
          rw [show (#[sv])[0]? = some sv from rfl] at db
          have HX := Lib.hid hx
          refine wp_region_obl 5 (fun ix vals v w1 => match ix with | 0 => v = sv | 1 => v = .slice (some ⟨b, o, none⟩) n c | 2 => v = .int .i64 t | 3 => OwnN w1 b3 v th | _ => ∃ gx, v = .slice (some ⟨gx, 0, none⟩) 1 1 ∧ Blk w1 gx 28 #[vals 3]) (by kernel_rfl) (by kernel_rfl) ?_ ?_ ?_ ?_
          · intro ix vals v w1 w2 hi hr hx
            match ix, hr with
            | 0, hr => exact hr
            | 1, hr => exact hr
            | 2, hr => exact hr
            | 3, hr => exact hr.ext hx
            | (kx + 4), hr => obtain ⟨gx, h1, h2⟩ := hr; exact ⟨gx, h1, h2.ext hx⟩
          · intro ix vals vals_ v w1 hi hv hr
            match ix, hi, hv, hr with
            | 0, _, _, hr => exact hr
            | 1, _, _, hr => exact hr
            | 2, _, _, hr => exact hr
            | 3, _, _, hr => exact hr
            | (kx + 4), hi, hv, hr => obtain rfl : kx = 0 := (by omega); have e3 := hv 3 (by kernel_rfl); rw [← e3]; exact hr
          · refine ⟨?_, ?_, ?_, ?_, ?_, trivial⟩
            · intro vals w1 hx hd ha
              clear hd ha
              simp only [Lf]
              have db := ext_cell hx db
              go_wp2
              exact ⟨rfl, Ext.refl _, rfl⟩
            · intro vals w1 hx hd ha
              clear hd ha
              simp only [Lf, dstAt, Act.put, List.getElem?_toArray, List.getElem?_cons_zero, Option.bind_some, List.setIfInBounds_toArray, List.set_cons_zero, List.set_cons_succ]
              go_wp2
              exact ⟨rfl, Ext.refl _, rfl⟩
            · intro vals w1 hx hd ha
              clear hd ha
              simp only [Lf, dstAt, Act.put, List.getElem?_toArray, List.getElem?_cons_zero, List.getElem?_cons_succ, Option.bind_some, List.setIfInBounds_toArray, List.set_cons_zero, List.set_cons_succ]
              go_wp2
              exact ⟨rfl, Ext.refl _, rfl⟩
            · intro vals w1 hx hd ha
              have e1 : vals 1 = .slice (some ⟨b, o, none⟩) n c := hd 1 (by decide)
              have e2 : vals 2 = .int .i64 t := hd 2 (by decide)
              clear hd ha
              simp only [Lf, dstAt, Act.put, List.getElem?_toArray, List.getElem?_cons_zero, List.getElem?_cons_succ, Option.bind_some, List.setIfInBounds_toArray, List.set_cons_zero, List.set_cons_succ]
              simp only [e1]
              simp only [e2]
              clear e1 e2
              have hz9 := Below.size hx.undrew
              have hxx := Ext.trans HX.out hx.undrew
              go_wp2_with fail
              refine (HTT.out _ hxx).mono ?_
              rintro e w2 ⟨v2, rfl, hown, hb2⟩
              have hown := Lib.hid (own_base hown (Nat.le_trans hbw hz9))
              go_wp2
              exact ⟨rfl, hb2, hown.out⟩
            · intro vals w1 hx hd ha
              have r3 : (fun v w1 => OwnN w1 b3 v th) (vals 3) w1 := hd 3 (by decide)
              dsimp only at r3
              clear hd ha
              simp only [Lf, dstAt, Act.put, List.getElem?_toArray, List.getElem?_cons_zero, List.getElem?_cons_succ, Option.bind_some, List.setIfInBounds_toArray, List.set_cons_zero, List.set_cons_succ]
              obtain ⟨A3, c3, h3, -, -⟩ := own_slice r3
              rw [h3]
              go_wp2
              exact ⟨rfl, (by repeat (first | exact Below.refl _ _ | assumption | refine Below.drew ?_ | refine below_drewN ?_ _ | refine bl_alloc ?_ _ | refine Below.setCell ?_ (by first | (simp; done) | omega | (simp; omega)) _ | refine bl_then ?_ (by assumption))), _, rfl, Blk.new _ _ _⟩
          intro vals w5 hx5 hf
          have e0 : vals 0 = sv := hf 0 (by omega)
          have h3 : OwnN w5 b3 (vals 3) th := hf 3 (by omega)
          obtain ⟨gx, e4, jx⟩ : ∃ gx, vals 4 = .slice (some ⟨gx, 0, none⟩) 1 1 ∧ Blk w5 gx 28 #[vals 3] := hf 4 (by omega)
          clear hf db HX HTT
          obtain ⟨A3, c3, hv3, h3c, h3m⟩ := own_slice h3
          rw [hv3] at h3 jx
          have hx5 := hx5.undrew
          have hxw := Ext.trans hx hx5
          have hI5 := HI.out.ext hx5
          have hb5 : b3 ≤ w5.heap.size := Nat.le_trans hbw (Below.size hx5)
          obtain ⟨v7, w7, hrun, hI7, hg7⟩ := rows_snoc hI5 (by omega) 42 gx ⟨A3, th.length, c3, th⟩ jx h3 hal hb5
          have hown : ∀ q, sv.ownBlock = some q → b3 ≤ q := fun q e => (World.ownsRow.lt hI5.out q e).1
          have hx7 : Ext w w7 := hxw.grown hg7 (Below.size hxw) (fun q e => Nat.le_trans hbase (hown q e))
          have hB7 := (HB.out.ext hx5).grown hg7 (fun e => by have := hown gs e.symm; omega)
          have hW7 := own_other (own_ext HW.out hx5) hI5.out (by decide) hg7
          have hb7 : b3 ≤ w7.heap.size := Nat.le_trans hb5 hg7.size
          obtain ⟨A7, c7, hv7, _, _⟩ := hI7.len1
          rw [hv7] at hI7 hrun
          have d7 : w7.cell? ⟨gs, 0, none⟩ = some sv := hB7.cell 0
          have f7 : w7.frozen? ⟨gs, 0, none⟩ = false := hB7.frozen 0
          obtain ⟨rs7, hrs7⟩ : ∃ r, r = rs ++ [⟨A3, th.length, c3, th⟩] := ⟨_, rfl⟩
          have HM7 : Hid (rs7.map Row.l = L ++ [th]) := Lib.hid (by rw [hrs7, List.map_append, HM.out]; rfl)
          have hrl7 : rs7.length ≤ k + 1 := by rw [hrs7, List.length_append]; simp; omega
          rw [← hrs7] at hI7 hrun
          have HRUN := Lib.hid hrun
          have HI8 := Lib.hid (hI7.far (p := ⟨gs, 0, none⟩) hgs3 (.slice A7 rs7.length c7))
          have hB8 := hB7.set_ 0 (.slice A7 rs7.length c7)
          rw [show (#[sv]).setIfInBounds 0 (.slice A7 rs7.length c7) = #[.slice A7 rs7.length c7] from rfl] at hB8
          have HB8 := Lib.hid hB8
          have HW8 := Lib.hid (own_far hW7 (p := ⟨gs, 0, none⟩) hgs3 (.slice A7 rs7.length c7))
          have hx8 := hx7.setCell (p := ⟨gs, 0, none⟩) hgs (.slice A7 rs7.length c7)
          have hb8 : b3 ≤ (w7.setCell ⟨gs, 0, none⟩ (.slice A7 rs7.length c7)).heap.size := by simpa [World.setCell] using hb7
          clear hrun hI7 hB7 hB8 hW7 hx7 hb7 hI5 hown hg7 jx h3 hx5 hxw hb5 HI HB HW hx HM hv7 hrs7 hv3
          refine tailF 5 _ _ 1 (by kernel_rfl) rfl ?_ (fun a w q => tail1 6 _ (by kernel_rfl) (by kernel_rfl) rfl q)
          simp only [Lf, dstAt, Act.put, List.getElem?_toArray, List.getElem?_cons_zero, List.getElem?_cons_succ, Option.bind_some, List.setIfInBounds_toArray, List.set_cons_zero, List.set_cons_succ]
          rw [e0, e4]
          clear e0 e4
          refine wpList_append_run_ rfl _ _ _ rfl rfl rfl HRUN.out ?_
          clear HRUN
          go_wp2
          go_roundw
          case rel => exact ⟨k + 1, t, L ++ [th], rs7, _, by omega, by go_num, rfl, hrl7, HF, HM7, HI8, HB8, HW8, hb8, hx8⟩
          case measure => simp [intOf]; omega
        · have hs := HS2.out
          rw [HSN.out hlt] at hs
          have HF := Lib.hid hs
          clear hs HS2 HSP HSN HTT
          go_wp2
          go_roundw
          case rel => exact ⟨k + 1, la, L, rs, sv, by omega, by go_num, rfl, by omega, HF, HM, HI, HB, HW, hbw, hx⟩
          case measure => simp [intOf]; omega
      · have hs := HS.out
        rw [List.drop_of_length_le (by rw [order_len, HL.out]; omega), List.foldl_nil] at hs
        dsimp only at hs
        subst hs
        obtain ⟨A5, c5, hv5, _, _⟩ := HI.out.len1
        have hi := HI.out
        rw [hv5] at hi
        have db := HB.out.cell 0
        rw [show (#[sv])[0]? = some sv from rfl, hv5] at db
        have hJ := HB.out
        rw [hv5] at hJ
        have HJ := Lib.hid hJ
        have hrs := hi.rws (by omega)
        have HC := Lib.hid (clone_row rs A5 rs.length c5 wr hrs.out (by omega))
        have HRS := Lib.hid hrs
        have HI5 := Lib.hid hi
        clear HI HB hi hJ hrs HS hv5 HW
        go_wp2_with fail
        clear db
        refine HC.out.mono ?_
        rintro e W5 ⟨v5, rfl, hown5, hy⟩
        have hx5 := Ext.trans hx hy
        have hwr5 := Below.size hy
        have hwwr := Below.size hx
        clear HC
        rcases hown5.2 with ⟨hv, hn0⟩ | ⟨g5, cap, cur, hv, hb, hg, h1, h2, h3, h4⟩
        · subst hv
          have hrs0 : rs = [] := List.eq_nil_of_length_eq_zero hn0
          have hfin : L = [] := by rw [← HM.out, hrs0]; rfl
          have HD := Lib.hid (del_nil 40 #[.pointer (some ⟨gs, 0, none⟩)] W5 (enters_fn Try.func40 (by kernel_rfl) rfl))
          have HFN := Lib.hid hfin
          clear hfin hrs0 hn0 HJ HRS HI5 hown5 HM
          go_wp2_with fail
          refine HD.out.mono ?_
          rintro e W6 ⟨rfl, hy6⟩
          have hx6 := Ext.trans hx5 hy6
          clear HD hy6
          go_wp2
          refine bodyPost_ret (v := .tuple #[.slice none 0 0, .int .i64 0]) (by simp [results, Try.results15, go_sem]) rfl ⟨_, [], rfl, RowsI.nil _ _, ?_, hx6⟩
          rw [HFN.out]
          rfl
        · subst hv
          have hrow : RowS rowCells 1 wr.heap.size 28 g5 rs.length cap W5 rs := ⟨rfl, hown5⟩
          have hdel := del_any 40 #[.pointer (some ⟨gs, 0, none⟩)] (fun u => rs.any fun b => insideP u.l b.l) wr.heap.size g5 rs.length cap rs W5 hrow (by omega) (enters_fn Try.func40 (by kernel_rfl) rfl) (fun u hu W hW => by
            have hr5 := (HRS.out.below hy).grown hW hwr5 (fun g e => by injection e with e; omega)
            have hr6 := hr5.more (show wr.heap.size ≤ W.heap.size from Nat.le_trans hwr5 hW.size)
            exact rows1_any u rs A5 rs.length c5 gs W ((HJ.out.ext hy).grown hW (fun e => by injection e with e; omega)) (hr6.each u hu).1 (hr6.each u hu).2 hr6 (by omega))
          have HD := Lib.hid hdel
          have HO5 := Lib.hid hown5
          have HI6 := Lib.hid (HI5.out.ext hy)
          have HFM := Lib.hid (filter_map L rs HM.out)
          obtain ⟨rf, hrf⟩ : ∃ f, f = rs.filter (fun u => !(rs.any fun b => insideP u.l b.l)) := ⟨_, rfl⟩
          have hsub : ∀ x ∈ rf, x ∈ rs := fun x hx_ => by rw [hrf] at hx_; exact (List.mem_filter.1 hx_).1
          rw [← hrf] at HD HFM
          have HSUB := Lib.hid hsub
          clear hdel hown5 HI5 hrow HJ HRS hy hb hg h1 h2 h3 h4 hrf hsub HM
          go_wp2_with fail
          refine HD.out.mono ?_
          rintro e W6 ⟨rfl, hrow6, hg6⟩
          have hx6 : Ext w W6 := hx5.grown hg6 (Below.size hx5) (fun q e => by injection e with e; have := (World.ownsRow.lt HO5.out q (by rw [← e]; rfl)).1; omega)
          have hI6 : RowsI W6 w.heap.size (.slice (some ⟨g5, 0, none⟩) rf.length cap) rf := ⟨own_base hrow6.2 hwwr, fun x hx_ => ⟨own_base (own_other (HI6.out.each x (HSUB.out x hx_)).1 HO5.out (by decide) hg6) hbase, (HI6.out.each x (HSUB.out x hx_)).2⟩⟩
          have HI7 := Lib.hid hI6
          clear hrow6 hg6 hI6 HD HO5 HI6
          go_wp2
          exact bodyPost_ret (v := .tuple #[.slice (some ⟨g5, 0, none⟩) rf.length cap, .int .i64 0]) (by simp [results, Try.results15, go_sem]) rfl ⟨_, rf, rfl, HI7.out, HFM.out, hx6⟩
end Go.Proofs.Ytgbfhkildbhhoaa
