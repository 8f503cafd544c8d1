/- DeleteFunc at [][]int. -/
import Derived.Test.YtgbfhkildbhhoaaA10
namespace Go.Proofs.Ytgbfhkildbhhoaa
open Go.RowKit

theorem del_nil (K : Nat) (caps : Array Value) (w : World) (hent : ∀ args w, (callFunc K args).run Try.prog w = .ok (.enter K args) w) :
    Calls Try.prog 38 #[.slice none 0 0, .func (.func K) #[] caps] w fun e w' => e = .returned (.slice none 0 0) ∧ Ext w w' := by
  have HI := Lib.hid (idxRow K caps (fun _ => true) [] none 0 0 w (RA.of_own (World.ownsRow_nil w w.heap.size 28 1) rfl (by omega)) (by omega) hent (fun u hu => by cases hu))
  go_enter Try.func38, Try.ntmps38
  go_wp2_with fail
  refine HI.out.mono ?_
  rintro e W ⟨rfl, hx⟩
  have h1 : idxA (fun _ : Row => true) [] 0 = -1 := rfl
  rw [h1]
  clear h1
  go_wp2
  go_ret
  exact ⟨rfl, hx⟩
/-- What DeleteFunc hands back. -/
def DelRet (base g c : Nat) (rs : List Row) (w : World) (e : Ending) (w' : World) : Prop := e = .returned (.slice (some ⟨g, 0, none⟩) rs.length c) ∧ RowS rowCells 1 base 28 g rs.length c w' rs ∧ w.grownBy w' (some g)
theorem filter_take_succ (q : Row → Bool) (rs : List Row) (j : Nat) (h : j < rs.length) : (rs.take (j + 1)).filter (fun x => !q x) = (rs.take j).filter (fun x => !q x) ++ (if q rs[j] then [] else [rs[j]]) := by
  rw [List.take_succ_eq_append_getElem h, List.filter_append]
  cases hq : q rs[j] <;> simp [hq]
theorem filter_take_le (q : Row → Bool) (rs : List Row) (j : Nat) : ((rs.take j).filter (fun x => !q x)).length ≤ j := Nat.le_trans (List.length_filter_le _ _) (List.length_take_le _ _)
set_option maxHeartbeats 4000000 in
set_option maxRecDepth 100000 in
theorem del_any (K : Nat) (caps : Array Value) (q : Row → Bool) (base g n c : Nat) (rs : List Row) (w : World) (hr : RowS rowCells 1 base 28 g n c w rs) (hn : n ≤ 1000) (hent : ∀ args w, (callFunc K args).run Try.prog w = .ok (.enter K args) w)
    (hk : ∀ u ∈ rs, ∀ W : World, w.grownBy W (some g) → Calls Try.prog K (#[.slice u.a u.n u.c] ++ caps) W fun e w' => e = .returned (.bool (q u)) ∧ Ext W w') :
    Calls Try.prog 38 #[.slice (some ⟨g, 0, none⟩) n c, .func (.func K) #[] caps] w (DelRet base g c (rs.filter fun x => !q x) w) := by
  have HI := Lib.hid (idxRow K caps q rs (some ⟨g, 0, none⟩) n c w (RA.of_own hr.2 hr.1 (by omega)) hn hent (fun u hu W h => hk u hu W (grown_ext h)))
  have hln := hr.1
  have hle := hr.le
  have hc63 : c ≤ 9223372036854775807 := hle.2
  have HK := Lib.hid hk
  have HR := Lib.hid hr
  have HLN := Lib.hid hln
  obtain ⟨fs, hfs⟩ : ∃ f, f = rs.filter fun x => !q x := ⟨_, rfl⟩
  rw [← hfs]
  have HFS := Lib.hid hfs
  clear hk hr hfs hln
  rcases idxA_spec q rs 0 with ⟨h1, h2⟩ | ⟨i, hi, h1, h2⟩
  · rw [h1] at HI
    have HF : Hid (fs = rs) := Lib.hid (HFS.out.trans h2)
    clear h1 h2 HFS
    go_enter Try.func38, Try.ntmps38
    go_wp2_with fail
    refine HI.out.mono ?_
    rintro e W ⟨rfl, hx⟩
    have HR2 := Lib.hid (HR.out.ext hx)
    clear HI HR
    go_wp2
    go_ret
    refine ⟨by rw [HF.out, HLN.out]; rfl, ?_, grown_ext hx⟩
    rw [HF.out, HLN.out]
    exact HR2.out
  · rw [h1] at HI
    rw [HLN.out] at hi
    have H2 := Lib.hid h2
    have hii : (0 : Int) + (i : Int) = (i : Int) := by omega
    rw [hii] at HI
    clear h1 h2 hii
    have hin : (i : Int) < (n : Int) := by omega
    go_enter Try.func38, Try.ntmps38
    go_wp2_with fail
    refine HI.out.mono ?_
    rintro e W ⟨rfl, hx⟩
    have HR2 := Lib.hid (HR.out.ext hx)
    have HG2 : Hid (w.grownBy W (some g)) := Lib.hid (grown_ext hx)
    have hneg : ((i : Int) == -1) = false := by simp
    have hneg2 : ¬ (i : Int) = -1 := by omega
    clear HI HR hx
    have hl0 : ((rs.take (i + 1)).filter fun x => !q x).length = i := by rw [H2.out, List.length_take, HLN.out]; omega
    have HT0 : Hid (rs.take i = (rs.take (i + 1)).filter fun x => !q x) := Lib.hid H2.out.symm
    have HL0 := Lib.hid hl0
    clear hl0 H2
    go_wp2_with fail
    clear hneg hneg2
    go_loopw [5, 6] (fun x y wr => ∃ (ii jj : Nat) (cur : List Row), ii < jj ∧ jj ≤ n ∧ x = .int .i64 ii ∧ y = .int .i64 jj ∧ Hid (((rs.take jj).filter fun x => !q x).length = ii) ∧ Hid (cur.take ii = (rs.take jj).filter fun x => !q x) ∧ Hid (cur.drop jj = rs.drop jj) ∧ Hid (RowS rowCells 1 base 28 g n c wr cur) ∧ Hid (w.grownBy wr (some g))) (fun _ y _ => n - (intOf y).toNat)
    case atStart => exact ⟨i, i + 1, rs, by omega, by omega, by go_num, by go_num, HL0, HT0, Lib.hid rfl, HR2, HG2⟩
    case round =>
      clear HL0 HT0 HR2 HG2 hi hin
      obtain ⟨ii, jj, cur, hij, hjn, rfl, rfl, HL, HT, HD, HC, HG⟩ := hrel
      have hcl := HC.out.1
      by_cases hjl : jj < n
      · have hz : jj < rs.length := by rw [HLN.out]; omega
        have hzc : jj < cur.length := by omega
        have hcj : cur[jj] = rs[jj] := by
          have h1 := List.drop_eq_getElem_cons hzc
          have h2 := List.drop_eq_getElem_cons hz
          have h3 := HD.out
          rw [h1, h2] at h3
          exact (List.cons.inj h3).1
        have hdn : cur.drop (jj + 1) = rs.drop (jj + 1) := by
          have h3 := congrArg (List.drop 1) HD.out
          rwa [List.drop_drop, List.drop_drop] at h3
        have d0 := HC.out.cellR hzc
        rw [hcj] at d0
        have hfl := filter_take_succ q rs jj hz
        have hcall := HK.out rs[jj] (List.getElem_mem hz) wr HG.out
        generalize rs[jj] = u at d0 hfl hcall hcj
        obtain ⟨ua, un, uc, ul⟩ := u
        dsimp only at d0 hcall
        have HDN := Lib.hid hdn
        have HFL := Lib.hid hfl
        have HCALL := Lib.hid hcall
        clear hdn hfl hcall hcj hz
        generalize q ⟨ua, un, uc, ul⟩ = b at HFL HCALL
        have hii : (ii : Int) < n := by omega
        go_wp2_with fail
        refine HCALL.out.mono ?_
        rintro e W2 ⟨rfl, hy⟩
        have HC2 := HC.out.ext hy
        have HG2 := gb_trans HG.out (grown_ext hy)
        clear HCALL hy HC HG d0
        cases b
        · have hfl := HFL.out
          rw [if_neg (by simp)] at hfl
          obtain ⟨h3, h4⟩ := HC2.putR (k := ii) (by omega) ⟨ua, un, uc, ul⟩
          dsimp only at h3 h4
          have hG3 := Lib.hid (gb_trans HG2 h4)
          obtain ⟨o1, ht1⟩ : ∃ o, W2.cell? ⟨g, ii, none⟩ = some o := ⟨_, HC2.cellR (k := ii) (by omega)⟩
          have hf1 := HC2.2.frozenAt ii
          have HC3 := Lib.hid h3
          have HL3 : Hid (((rs.take (jj + 1)).filter fun x => !q x).length = ii + 1) := Lib.hid (by rw [hfl, List.length_append, HL.out]; rfl)
          have HT3 : Hid ((cur.set ii ⟨ua, un, uc, ul⟩).take (ii + 1) = (rs.take (jj + 1)).filter fun x => !q x) := Lib.hid (by
            rw [hfl, ← HT.out, List.take_succ_eq_append_getElem (by rw [List.length_set]; omega), List.take_set_of_le (Nat.le_refl _), List.getElem_set_self])
          have HD3 : Hid ((cur.set ii ⟨ua, un, uc, ul⟩).drop (jj + 1) = rs.drop (jj + 1)) := Lib.hid (by rw [List.drop_set_of_lt (by omega)]; exact HDN.out)
          clear h3 h4 HC2 HG2 HFL HDN HT HL HD hfl hzc
          go_wp2
          go_roundw
          case rel => exact ⟨ii + 1, jj + 1, _, by omega, by omega, by go_num, by go_num, HL3, HT3, HD3, HC3, hG3⟩
          case measure => simp [intOf]; omega
        · have hfl := HFL.out
          rw [if_pos rfl, List.append_nil] at hfl
          have HC3 := Lib.hid HC2
          have hG3 := Lib.hid HG2
          have HL3 : Hid (((rs.take (jj + 1)).filter fun x => !q x).length = ii) := Lib.hid (by rw [hfl, HL.out])
          have HT3 : Hid (cur.take ii = (rs.take (jj + 1)).filter fun x => !q x) := Lib.hid (by rw [hfl, HT.out])
          clear HC2 HG2 HFL HT HL HD hfl hzc
          go_wp2
          go_roundw
          case rel => exact ⟨ii, jj + 1, cur, by omega, by omega, rfl, by go_num, HL3, HT3, HDN, HC3, hG3⟩
          case measure => simp [intOf]; omega
      · have hjj : jj = n := by omega
        have hii : ii < n := by omega
        have htk : rs.take jj = rs := List.take_of_length_le (by rw [HLN.out]; omega)
        have hl := HL.out
        have ht := HT.out
        rw [htk, ← HFS.out] at hl ht
        subst hl
        have htt : List.take fs.length cur = fs := ht
        have hrun := fun ty => clear_tail HC.out hii ty
        rw [htt] at hrun
        obtain ⟨W5, hrun, hrow, hgr⟩ := hrun 0
        have hG5 := Lib.hid (gb_trans HG.out hgr)
        have HRUN := Lib.hid hrun
        have HROW := Lib.hid hrow
        have hsn : (fs.length : Int) ≤ n := by omega
        have hsc : (fs.length : Int) ≤ c := by omega
        have hne : ¬ c = fs.length := by omega
        have hnc : fs.length ≤ c := by omega
        clear ht htt htk hrun hrow hgr HC HG HL HT HD hjj hcl
        obtain ⟨m, hfm⟩ : ∃ m, m = fs.length := ⟨_, rfl⟩
        rw [← hfm] at HRUN HROW hsn hsc hne hnc hii hij ⊢
        have HFM := Lib.hid hfm
        clear hfm
        go_upto_region 12 with (refine wpList_clearK _ rfl (.tmp 38) 42 rfl (.slice (some ⟨g, m, none⟩) (n - m) (c - m)) rfl HRUN.out ?_)
        clear HRUN hne
        go_wp2
        go_ret
        exact ⟨by rw [← HFM.out]; rfl, by rw [← HFM.out]; exact HROW.out, hG5.out⟩
end Go.Proofs.Ytgbfhkildbhhoaa
