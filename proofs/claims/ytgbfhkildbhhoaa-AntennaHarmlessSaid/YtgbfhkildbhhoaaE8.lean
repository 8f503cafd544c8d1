/- AntennaHarmless: the walk (printed by mk_e8.py). -/
import Derived.Test.YtgbfhkildbhhoaaR6
import Derived.Test.YtgbfhkildbhhoaaD1
import Derived.Test.YtgbfhkildbhhoaaTn2
namespace Go.Proofs.Ytgbfhkildbhhoaa
open Go.RowKit

theorem RA.int_at2 {w : World} {B n c : Nat} {A : Option Addr} {l : List Int} (h : RA intCells 1 w B A n c l) {k : Nat} (hk : k < n) : ∃ (b o : Nat) (hz : k < l.length), A = some ⟨b, o, none⟩ ∧ w.cell? ⟨b, o + k, none⟩ = some (.int .i64 l[k]) := by
  obtain ⟨b, o, hz, hA, _, hc⟩ := h.at_ int_len hk
  have := hc 0 (by omega)
  rw [Nat.mul_one, Nat.add_zero] at this
  exact ⟨b, o, hz, hA, this⟩
theorem own_unfrozen {w : World} {b g n c s k : Nat} {t : TypeId} {xs : List Value} (h : w.ownsRow b t s (.slice (some ⟨g, 0, none⟩) n c) k xs) (i : Nat) : w.frozen? ⟨g, i, none⟩ = false := by
  rcases h.2 with ⟨hn, _⟩ | ⟨g', cap, cur, hv, hb, hgg, r⟩
  · cases hn
  · injection hv with e1 e2 e3
    injection e1 with e1
    injection e1 with e1 _ _
    subst e1
    exact Blk.frozen (t := t) (cs := cur) hgg i
theorem harm_plain (rs : List Req) (hr : rightP rs = true) (h8 : ∀ r ∈ rs, r.l.length ≤ 8) (i : Nat) (hi : i < rs.length) (p : Int) (hp : 0 ≤ p ∧ p ≤ 63) :
    (∀ r : Req, r.l = insQ p false rs[i].l → r.im = rs[i].im → rightP (rs.set i r) = true ∧ ((fitP rs).2.1 = [] → (fitP (rs.set i r)).2.1 = [])) ∧
    rightP (rs.take i ++ rs.drop (i + 1)) = true ∧ ((fitP rs).2.1 = [] → (fitP (rs.take i ++ rs.drop (i + 1))).2.1 = []) := by
  have h0 := (fit_lack rs hr).2
  refine ⟨fun r hl him => ?_, right_less rs i hr, fun h => ?_⟩
  · have hm := right_more rs i r p hi hr hl him hp (by have := h8 _ (List.getElem_mem hi); omega)
    exact ⟨hm, fun h => (fit_lack _ hm).2.2 (fit_more rs _ (by simp) (psP_set rs i r p hi hr hl) (h0.1 h))⟩
  · exact (fit_lack _ (right_less rs i hr)).2.2 (fit_less rs i hi (h0.1 h))

set_option maxRecDepth 100000 in
set_option maxHeartbeats 6000000 in
theorem harmless_walk (ya : Option Addr) (yn yc : Nat) (ys : List Int) (which pass : Int) (w : World) (hr : RA intCells 1 w w.heap.size ya yn yc ys) (hok : ∀ t ∈ ys, I64ok t) (hw : I64ok which) (hw2 : I64ok pass) :
    Calls Try.prog 8 #[.slice ya yn yc, .int .i64 which, .int .i64 pass] w (Tru w) := by
  have HS := Lib.hid (sane_any w)
  have HM := Lib.hid (fun (W : World) (hW : Ext w W) => asked_any ys ya yn yc W (ra_ext hr hW) hok)
  have hpk2 := fun W => pickl_any pass 64 W hw2.1 hw2.2 (by omega) (by omega)
  obtain ⟨hp1, hp2⟩ := pickI_bd pass 64 (by omega)
  generalize pickI pass 64 = p at hpk2 hp1 hp2
  have HPK2 := Lib.hid hpk2
  clear hr hok hpk2
  go_enter Try.func8, Try.ntmps8
  go_wp2_with fail
  refine HS.out.mono ?_
  rintro e W1 ⟨rfl, hx⟩
  go_wp2_with fail
  refine (HM.out _ hx).mono ?_
  rintro e W2 ⟨v, rs, rfl, hI, hrt, hlen, h8, hy⟩
  obtain ⟨A, c, rfl, hnc, hcm⟩ := own_slice hI.out
  have hx := Ext.trans hx hy
  have hrq := hI.rqs (by omega)
  obtain ⟨n, hn⟩ : ∃ n, n = rs.length := ⟨_, rfl⟩
  rw [← hn] at hrq hnc hlen ⊢
  have HRQ := Lib.hid hrq
  have hft := fit_any rs A n c W2 hrq (by omega)
  have hHP := harm_plain rs hrt h8
  obtain ⟨he0, -⟩ := fit_lack rs hrt
  unfold FitRet at hft
  rw [he0] at hft
  obtain ⟨q0, hq0⟩ : ∃ q, q = (fitP rs).2.1.length := ⟨_, rfl⟩
  have HQ00 : Hid (q0 = 0 → (fitP rs).2.1 = []) := Lib.hid (fun h => List.eq_nil_of_length_eq_zero (by omega))
  generalize (fitP rs).1 = G0 at hft
  generalize (fitP rs).2.1 = L0 at hft hHP hq0 HQ00
  have HHP := Lib.hid hHP
  have HNL := Lib.hid hn
  have HQ0 := HQ00
  have HRT := Lib.hid hrt
  have H8 := Lib.hid h8
  have HFT := Lib.hid hft
  have HXW := Lib.hid hx
  have HQL := Lib.hid hq0
  clear hI hrt h8 hy HS HM hrq hn hHP he0 hft hx HQ00 hq0
  go_wp2_with fail
  refine HFT.out.mono ?_
  rintro e W3 ⟨v1, v2, rfl, hown1, hown2, hz⟩
  obtain ⟨A1, c1, rfl, _, _⟩ := own_slice hown1
  obtain ⟨A2, c2, rfl, _, _⟩ := own_slice hown2
  rw [← HQL.out]
  have HX23 : Hid (Ext W2 W3) := Lib.hid hz
  generalize G0.length = m0
  clear hown1 hown2 HFT hz HQL
  by_cases hn0 : n = 0
  · subst hn0
    have hxf := Ext.trans HXW.out HX23.out
    go_wp2_with fail
    go_ret
    exact ⟨rfl, hxf⟩
  · have hn0b : ((n : Int) == 0) = false := by simpa using hn0
    have hnp : (0 : Int) < (n : Int) := by omega
    have hpk := fun W => pickl_any which (n : Int) W hw.1 hw.2 (by omega) (by omega)
    obtain ⟨hb1, hb2⟩ := pickI_bd which (n : Int) hnp
    obtain ⟨i, hi, hin⟩ : ∃ i : Nat, pickI which (n : Int) = i ∧ i < n := ⟨(pickI which (n : Int)).toNat, by omega, by omega⟩
    rw [hi] at hpk
    have HPK := Lib.hid hpk
    have hil : i < rs.length := by rw [← HNL.out]; exact hin
    obtain ⟨hmore, hless⟩ := HHP.out i hil p ⟨hp1, by omega⟩
    have HLESS := Lib.hid hless
    clear hpk hb1 hb2 hi HHP HRT hless
    go_wp2_with fail
    refine (HPK.out _).mono ?_
    rintro e w' ⟨rfl, rfl⟩
    go_wp2_with fail
    refine (HPK2.out _).mono ?_
    rintro e w' ⟨rfl, rfl⟩
    go_upto_region 10 with (fail)
    clear HPK HPK2
    have hxa : Ext W3 (W3.alloc (.cells #[] 30)) := bl_alloc (Below.refl _ _) _
    have hrq3 := HRQ.out.below (Ext.trans HX23.out hxa)
    obtain ⟨v14, W5, hrun, hx5, ho14⟩ := copy_req 31 rs W2.heap.size W3.heap.size n c A W3.heap.size (Blk.new _ _ _) (Nat.le_refl _) (by omega) hrq3.out
    have hx35 := Ext.trans hxa hx5
    obtain ⟨A14, c14, hv14, hc14, hc14m⟩ := own_slice ho14
    obtain ⟨g14, rfl⟩ : ∃ g14, A14 = some ⟨g14, 0, none⟩ := by
      rw [hv14] at ho14
      rcases ho14.2 with ⟨hn9, hz9⟩ | ⟨g', cap, cur, hv', hb', hgg', r'⟩
      · injection hn9 with _ e2 _
        omega
      · injection hv' with e1 _ _
        exact ⟨g', e1⟩
    subst hv14
    rw [← HNL.out] at hrun hc14
    have ho14' : OwnR W5 W3.heap.size (.slice (some ⟨g14, 0, none⟩) n c14) rs := by
      have := ho14
      rw [← HNL.out] at this
      exact this
    have HO14 := Lib.hid ho14'
    have HRUN := Lib.hid hrun
    have HX35 := Lib.hid hx35
    clear hrun ho14 ho14' hrq3 hxa hx5
    go_upto_region 11 with (refine wpList_append_run_ rfl _ _ _ rfl rfl rfl HRUN.out ?_)
    clear HRUN
    have hrq5 := HRQ.out.below (Ext.trans HX23.out hx35)
    obtain ⟨b, o, hz, hA, c0, c1', hra, hrn⟩ := hrq5.at_ hin
    have hbw : b < W2.heap.size := by
      obtain ⟨b', o', hA', hb', _⟩ := hrq5.out.rd.2 (by omega)
      rw [hA] at hA'
      injection hA' with hA'
      injection hA' with e1 _ _
      omega
    have h8i := H8.out rs[i] (List.getElem_mem hz)
    have hmore' : ∀ r : Req, r.l = insQ p false rs[i].l → r.im = rs[i].im → rightP (rs.set i r) = true ∧ (L0 = [] → (fitP (rs.set i r)).2.1 = []) := hmore
    clear hmore
    obtain ⟨ri, hri⟩ : ∃ r, r = rs[i] := ⟨_, rfl⟩
    rw [← hri] at c0 c1' hra hrn h8i hmore'
    obtain ⟨im, ra, rn, rc, rl⟩ := ri
    dsimp only at c0 c1' hra hrn h8i hmore'
    have HRL := Lib.hid hra.len
    have hrn8 : rn ≤ 8 := by have := hra.len; omega
    have HMORE := Lib.hid hmore'
    subst hA
    have HC1 := Lib.hid c1'
    have HRR := Lib.hid (hra.more (Nat.le_trans (Below.size HX23.out) (Below.size hx35)))
    have hi0 : (0 : Int) ≤ (i : Int) := by omega
    have hii : (i : Int) < (n : Int) := by omega
    have hw5 := Below.size hx35
    clear hri hmore' hra c1' hrq5 hz hx35 H8
    go_upto_region 12 with (fail)
    obtain ⟨g, hg⟩ : ∃ g, g = W5.heap.size := ⟨_, rfl⟩
    have J0 : Blk (W5.alloc (.cells #[.int .i64 im, .slice none 0 0] 30)) g 30 #[.int .i64 im, .slice none 0 0] := by rw [hg]; exact Blk.new _ _ _
    have hy0 : Ext W5 (W5.alloc (.cells #[.int .i64 im, .slice none 0 0] 30)) := bl_alloc (Below.refl _ _) _
    rw [← hg]
    generalize W5.alloc (.cells #[.int .i64 im, .slice none 0 0] 30) = W6 at J0 hy0 ⊢
    obtain ⟨fin, hfin⟩ : ∃ f, f = insQ p false rl := ⟨_, rfl⟩
    have HFIN : Hid (fin = insQ p false rl) := Lib.hid hfin
    have HFL : Hid (fin.length ≤ 100) := Lib.hid (by have := insQ_len p false rl; have := HRL.out; rw [hfin]; omega)
    have HF0 : Hid (fin = [] ++ insQ p false (rl.drop 0)) := Lib.hid hfin
    have HGW := Lib.hid hg
    have HJ0 := Lib.hid J0
    have HO0 : Hid (OwnI W6 g (.slice none 0 0) []) := Lib.hid (World.ownsRow_nil _ _ _ _)
    clear hfin hg J0 c0
    go_wp2_with fail
    go_loopw [16, 17] (fun x y wr => ∃ (k : Nat) (d : Bool) (out : List Int) (A3 : Option Addr) (c3 : Nat), k ≤ rn ∧ x = .bool d ∧ y = .int .i64 k ∧ Hid (fin = out ++ insQ p d (rl.drop k)) ∧ out.length ≤ 2 * k ∧ Hid (Blk wr g 30 #[.int .i64 im, .slice A3 out.length c3]) ∧ Hid (OwnI wr g (.slice A3 out.length c3) out) ∧ Ext W5 wr) (fun _ y _ => rn - (intOf y).toNat)
    case atStart => exact ⟨0, false, [], none, 0, Nat.zero_le _, rfl, rfl, HF0, Nat.zero_le _, HJ0, HO0, hy0⟩
    case round =>
      clear HF0 HJ0 HO0 hy0
      obtain ⟨k, d, out, A3, c3, hk, rfl, rfl, HF, hol, HJ, HO, hy⟩ := hrel
      by_cases hkr : k < rn
      · obtain ⟨bk, ok, hz, hK, ck0⟩ := HRR.out.int_at2 hkr
        have c1 := ext_cell hy HC1.out
        have hst := HF.out
        rw [List.drop_eq_getElem_cons hz, insQ_cons] at hst
        generalize rl[k] = x at hst ck0
        have CK := Lib.hid ck0
        have ck := ext_cell hy ck0
        have hk0 : (0 : Int) ≤ (k : Int) := by omega
        have hkn : (k : Int) < (rn : Int) := by omega
        have HFI := Lib.hid hst
        subst hK
        clear hst HF hz ck0
        by_cases hpx : p ≤ x
        · cases d
          · have hst := HFI.out
            rw [decide_eq_true hpx, Bool.not_false, Bool.and_self, if_pos rfl, Bool.false_or] at hst
            have hxa : Ext wr (wr.alloc (.cells #[.int .i64 p] 3)) := bl_alloc (Below.refl _ _) _
            have d1 : wr.cell? ⟨g, 1, none⟩ = some (.slice A3 out.length c3) := HJ.out.cell 1
            have hgr := HJ.out.lt
            obtain ⟨A8, c8, W8, hrun, e8, f8, hj8, ho8, hx8⟩ := box_app p _ (Blk.new wr 3 #[.int .i64 p]) (HJ.out.ext hxa) (HO.out.ext hxa) (by omega)
            have hy8 := hx8 _ (Ext.trans hy hxa) (Nat.le_of_eq HGW.out.symm)
            have HRUN := Lib.hid hrun
            have HJ8 := Lib.hid hj8
            have HO8 := Lib.hid ho8
            clear hrun hj8 ho8 hx8 hxa
            rw [show out.length + 1 = (out ++ [p]).length by rw [List.length_append]; rfl] at hy8 HRUN HJ8 HO8
            rw [← List.append_assoc] at hst
            have hol8 : (out ++ [p]).length ≤ 2 * k + 1 := by rw [List.length_append]; simp; omega
            have hpx' : decide (p ≤ x) = true := decide_eq_true hpx
            generalize out ++ [p] = out8 at hy8 HRUN HJ8 HO8 hst hol8
            have HST := Lib.hid hst
            clear hst HFI HJ HO hy h8i
            go_upto_region 17 with (fail)
            clear ck c1
            go_upto_region 19 with (refine wpList_append_run_ rfl _ _ _ rfl rfl rfl HRUN.out ?_)
            clear HRUN d1 e8 f8 hol hgr
            generalize W8.setCell ⟨g, 1, none⟩ (.slice A8 out8.length c8) = wr at hy8 HJ8 HO8 ⊢
            obtain ⟨A3, hA3⟩ : ∃ a, a = A8 := ⟨_, rfl⟩
            obtain ⟨c3, hc3⟩ : ∃ a, a = c8 := ⟨_, rfl⟩
            obtain ⟨out, ho8⟩ : ∃ a, a = out8 := ⟨_, rfl⟩
            rw [← hA3, ← hc3, ← ho8] at HJ8 HO8
            rw [← ho8] at HST hol8
            clear hA3 hc3 ho8
            have HJ := HJ8
            have HO := HO8
            have hy := hy8
            have hst := HST.out
            have hol : out.length ≤ 2 * k + 1 := hol8
            have c1 := ext_cell hy HC1.out
            have ck := ext_cell hy CK.out
            have HFI := Lib.hid trivial
            clear HJ8 HO8 hy8 hol8
            by_cases hxp : x = p
            · rw [if_pos hxp, List.nil_append] at hst
              have hxp' : (x == p) = true := by simpa using hxp
              have HFN : Hid (fin = out ++ insQ p true (rl.drop (k + 1))) := Lib.hid hst
              clear hst HFI
              go_wp2_with fail
              go_roundw
              case rel => exact ⟨k + 1, true, out, A3, c3, by omega, rfl, by go_num, HFN, by omega, HJ, HO, hy⟩
              case measure => simp [intOf]; omega
            · rw [if_neg hxp] at hst
              have hxp' : (x == p) = false := by simpa using hxp
              have hfn : fin = (out ++ [x]) ++ insQ p true (rl.drop (k + 1)) := by rw [hst, List.append_assoc]
              have HFN := Lib.hid hfn
              have hol1 : (out ++ [x]).length ≤ 2 * (k + 1) := by rw [List.length_append]; simp; omega
              have hol2 : (out ++ [x]).length = out.length + 1 := by rw [List.length_append]; rfl
              clear hst hfn HFI
              go_wp2_with fail
              have c1 := ext_cell hy HC1.out
              have hk0 : (0 : Int) ≤ (k : Int) := by omega
              have hii : (i : Int) < (n : Int) := by omega
              have hi0 : (0 : Int) ≤ (i : Int) := by omega
              have d1 : wr.cell? ⟨g, 1, none⟩ = some (.slice A3 out.length c3) := HJ.out.cell 1
              refine wp_region_obl 11 (fun ix vals v w1 => match ix with | 0 => v = .pointer (some ⟨g, 1, none⟩) | 1 => v = .slice A3 out.length c3 | 2 => v = .slice (some ⟨b, o, none⟩) n c | 3 => v = .int .i64 i | 4 => v = .pointer (some ⟨b, o + i * 2, none⟩) | 5 => v = .pointer (some ⟨b, o + i * 2 + 1, none⟩) | 6 => v = .slice (some ⟨bk, ok, none⟩) rn rc | 7 => v = .int .i64 k | 8 => v = .pointer (some ⟨bk, ok + k, none⟩) | 9 => v = .int .i64 x | _ => ∃ gx, v = .slice (some ⟨gx, 0, none⟩) 1 1 ∧ Blk w1 gx 3 #[.int .i64 x]) (by kernel_rfl) (by kernel_rfl) ?_ ?_ ?_ ?_
              · intro ix vals v w1 w2 hi hr hx
                match ix, hr with
                | 0, hr => exact hr
                | 1, hr => exact hr
                | 2, hr => exact hr
                | 3, hr => exact hr
                | 4, hr => exact hr
                | 5, hr => exact hr
                | 6, hr => exact hr
                | 7, hr => exact hr
                | 8, hr => exact hr
                | 9, hr => exact hr
                | (kx + 10), hr => obtain ⟨gx, h1, h2⟩ := hr; exact ⟨gx, h1, h2.ext hx⟩
              · intro ix vals vals_ v w1 hi hv hr
                exact hr
              · refine obls_ofT [some 103, some 104, some 105, some 106, some 107, some 108, some 109, some 110, some 111, some 112, some 113, some 114, some 115, none] [(15, .pointer (some ⟨g, 0, none⟩)), (8, .slice (some ⟨b, o, none⟩) n c), (12, .int .i64 i), (17, .int .i64 k)] 172 (by kernel_rfl) (by kernel_rfl) ⟨by kernel_rfl, by kernel_rfl, by kernel_rfl, by kernel_rfl, trivial⟩ ?_
                refine ⟨?_, ?_, ?_, ?_, ?_, ?_, ?_, ?_, ?_, ?_, ?_, trivial⟩
                · intro vals w1 hx hd
                  refine .run [(15, .pointer (some ⟨g, 0, none⟩))] { dst := some 0, op := Go.Op.fieldAddr 30 (Go.Operand.const (.pointer (some ⟨g, 0, none⟩))) 1, type := 0, pos := "", after := #[], guard := none } 103 ⟨.out (by kernel_rfl) (by kernel_rfl), trivial⟩ (by kernel_rfl) (by kernel_rfl) (by kernel_rfl) rfl rfl rfl ?_
                  clear hd
                  go_wp2
                  exact ⟨rfl, Ext.refl _, rfl⟩
                · intro vals w1 hx hd
                  have e0 : vals 0 = .pointer (some ⟨g, 1, none⟩) := hd 0 (by decide)
                  refine .run [(103, .pointer (some ⟨g, 1, none⟩))] { dst := some 0, op := Go.Op.load 28 (Go.Operand.const (.pointer (some ⟨g, 1, none⟩))), type := 28, pos := "", after := #[], guard := none } 104 ⟨.inn 0 (by kernel_rfl) e0, trivial⟩ (by kernel_rfl) (by kernel_rfl) (by kernel_rfl) rfl rfl rfl ?_
                  clear hd e0
                  have d1 := ext_cell hx d1
                  go_wp2
                  exact ⟨rfl, Ext.refl _, rfl⟩
                · intro vals w1 hx hd
                  refine .run [(8, .slice (some ⟨b, o, none⟩) n c)] { dst := some 0, op := Go.Op.move (Go.Operand.const (.slice (some ⟨b, o, none⟩) n c)), type := 31, pos := "", after := #[], guard := none } 105 ⟨.out (by kernel_rfl) (by kernel_rfl), trivial⟩ (by kernel_rfl) (by kernel_rfl) (by kernel_rfl) rfl rfl rfl ?_
                  clear hd
                  go_wp2
                  exact ⟨rfl, Ext.refl _, rfl⟩
                · intro vals w1 hx hd
                  refine .run [(12, .int .i64 i)] { dst := some 0, op := Go.Op.move (Go.Operand.const (.int .i64 i)), type := 3, pos := "", after := #[], guard := none } 106 ⟨.out (by kernel_rfl) (by kernel_rfl), trivial⟩ (by kernel_rfl) (by kernel_rfl) (by kernel_rfl) rfl rfl rfl ?_
                  clear hd
                  go_wp2
                  exact ⟨rfl, Ext.refl _, rfl⟩
                · intro vals w1 hx hd
                  have e2 : vals 2 = .slice (some ⟨b, o, none⟩) n c := hd 2 (by decide)
                  have e3 : vals 3 = .int .i64 i := hd 3 (by decide)
                  refine .run [(105, .slice (some ⟨b, o, none⟩) n c), (106, .int .i64 i)] { dst := some 0, op := Go.Op.indexAddr 31 (Go.Operand.const (.slice (some ⟨b, o, none⟩) n c)) (Go.Operand.const (.int .i64 i)), type := 0, pos := "", after := #[], guard := none } 107 ⟨.inn 2 (by kernel_rfl) e2, .inn 3 (by kernel_rfl) e3, trivial⟩ (by kernel_rfl) (by kernel_rfl) (by kernel_rfl) rfl rfl rfl ?_
                  clear hd e2 e3
                  go_wp2
                  exact ⟨rfl, Ext.refl _, rfl⟩
                · intro vals w1 hx hd
                  have e4 : vals 4 = .pointer (some ⟨b, o + i * 2, none⟩) := hd 4 (by decide)
                  refine .run [(107, .pointer (some ⟨b, o + i * 2, none⟩))] { dst := some 0, op := Go.Op.fieldAddr 30 (Go.Operand.const (.pointer (some ⟨b, o + i * 2, none⟩))) 1, type := 0, pos := "", after := #[], guard := none } 108 ⟨.inn 4 (by kernel_rfl) e4, trivial⟩ (by kernel_rfl) (by kernel_rfl) (by kernel_rfl) rfl rfl rfl ?_
                  clear hd e4
                  go_wp2
                  exact ⟨rfl, Ext.refl _, rfl⟩
                · intro vals w1 hx hd
                  have e5 : vals 5 = .pointer (some ⟨b, o + i * 2 + 1, none⟩) := hd 5 (by decide)
                  refine .run [(108, .pointer (some ⟨b, o + i * 2 + 1, none⟩))] { dst := some 0, op := Go.Op.load 28 (Go.Operand.const (.pointer (some ⟨b, o + i * 2 + 1, none⟩))), type := 28, pos := "", after := #[], guard := none } 109 ⟨.inn 5 (by kernel_rfl) e5, trivial⟩ (by kernel_rfl) (by kernel_rfl) (by kernel_rfl) rfl rfl rfl ?_
                  clear hd e5
                  have c1 := ext_cell hx c1
                  go_wp2
                  exact ⟨rfl, Ext.refl _, rfl⟩
                · intro vals w1 hx hd
                  refine .run [(17, .int .i64 k)] { dst := some 0, op := Go.Op.move (Go.Operand.const (.int .i64 k)), type := 3, pos := "", after := #[], guard := none } 110 ⟨.out (by kernel_rfl) (by kernel_rfl), trivial⟩ (by kernel_rfl) (by kernel_rfl) (by kernel_rfl) rfl rfl rfl ?_
                  clear hd
                  go_wp2
                  exact ⟨rfl, Ext.refl _, rfl⟩
                · intro vals w1 hx hd
                  have e6 : vals 6 = .slice (some ⟨bk, ok, none⟩) rn rc := hd 6 (by decide)
                  have e7 : vals 7 = .int .i64 k := hd 7 (by decide)
                  refine .run [(109, .slice (some ⟨bk, ok, none⟩) rn rc), (110, .int .i64 k)] { dst := some 0, op := Go.Op.indexAddr 28 (Go.Operand.const (.slice (some ⟨bk, ok, none⟩) rn rc)) (Go.Operand.const (.int .i64 k)), type := 0, pos := "", after := #[], guard := none } 111 ⟨.inn 6 (by kernel_rfl) e6, .inn 7 (by kernel_rfl) e7, trivial⟩ (by kernel_rfl) (by kernel_rfl) (by kernel_rfl) rfl rfl rfl ?_
                  clear hd e6 e7
                  go_wp2
                  exact ⟨rfl, Ext.refl _, rfl⟩
                · intro vals w1 hx hd
                  have e8 : vals 8 = .pointer (some ⟨bk, ok + k, none⟩) := hd 8 (by decide)
                  refine .run [(111, .pointer (some ⟨bk, ok + k, none⟩))] { dst := some 0, op := Go.Op.load 3 (Go.Operand.const (.pointer (some ⟨bk, ok + k, none⟩))), type := 3, pos := "", after := #[], guard := none } 112 ⟨.inn 8 (by kernel_rfl) e8, trivial⟩ (by kernel_rfl) (by kernel_rfl) (by kernel_rfl) rfl rfl rfl ?_
                  clear hd e8
                  have ck := ext_cell hx ck
                  go_wp2
                  exact ⟨rfl, Ext.refl _, rfl⟩
                · intro vals w1 hx hd
                  have e9 : vals 9 = .int .i64 x := hd 9 (by decide)
                  refine .run [(112, .int .i64 x)] { dst := some 0, op := Go.Op.buildSlice 28 1 #[(0, (Go.Operand.const (.int .i64 x)))], type := 28, pos := "", after := #[], guard := none } 113 ⟨.inn 9 (by kernel_rfl) e9, trivial⟩ (by kernel_rfl) (by kernel_rfl) (by kernel_rfl) rfl rfl rfl ?_
                  clear hd e9
                  go_wp2
                  exact ⟨rfl, (by repeat (first | exact Below.refl _ _ | assumption | refine Below.drew ?_ | refine below_drewN ?_ _ | refine bl_alloc ?_ _ | refine Below.setCell ?_ (by first | (simp; done) | omega | (simp; omega)) _ | refine bl_then ?_ (by assumption))), _, rfl, Blk.new _ _ _⟩
              intro vals W6 hz hf
              have e1 : vals 1 = .slice A3 out.length c3 := hf 1 (by omega)
              obtain ⟨gx, e10, jx⟩ : ∃ gx, vals 10 = .slice (some ⟨gx, 0, none⟩) 1 1 ∧ Blk W6 gx 3 #[.int .i64 x] := hf 10 (by omega)
              have hz := hz.undrew
              clear hf
              obtain ⟨A8, c8, W8, hrun, e8, f8, hj8, ho8, hx8⟩ := box_app x gx jx (HJ.out.ext hz) (HO.out.ext hz) (by omega)
              have hy8 := hx8 _ (Ext.trans hy hz) (Nat.le_of_eq HGW.out.symm)
              rw [← hol2] at hrun hj8 ho8 hy8
              generalize out ++ [x] = out9 at hrun hj8 ho8 hy8 HFN hol1 hol2
              have HRUN := Lib.hid hrun
              have HJ8 := Lib.hid hj8
              have HO8 := Lib.hid ho8
              clear hrun hj8 ho8 hx8 hz jx HJ HO hy c1 d1 ck hol2
              refine tailF 11 _ _ 2 (by kernel_rfl) rfl ?_ (fun a w q => tailF 12 _ _ 1 (by kernel_rfl) rfl q (fun a w q => tail1 13 _ (by kernel_rfl) (by kernel_rfl) rfl q))
              simp only [Lf, dstAt, Act.put, List.getElem?_toArray, List.getElem?_cons_zero, List.getElem?_cons_succ, Option.bind_some, List.setIfInBounds_toArray, List.set_cons_zero, List.set_cons_succ]
              rw [e1, e10]
              clear e1 e10
              refine wpList_append_run_ rfl _ _ _ rfl rfl rfl HRUN.out ?_
              clear HRUN
              go_wp2_with fail
              go_roundw
              case rel => exact ⟨k + 1, true, out9, A8, c8, by omega, rfl, by go_num, HFN, hol1, HJ8, HO8, hy8⟩
              case measure => simp [intOf]; omega
          · have hst := HFI.out
            rw [Bool.not_true, Bool.and_false, if_neg (by simp), List.nil_append, Bool.true_or] at hst
            have hpx' : decide (p ≤ x) = true := decide_eq_true hpx
            by_cases hxp : x = p
            · rw [if_pos hxp, List.nil_append] at hst
              have hxp' : (x == p) = true := by simpa using hxp
              have HFN : Hid (fin = out ++ insQ p true (rl.drop (k + 1))) := Lib.hid hst
              clear hst HFI
              go_wp2_with fail
              go_roundw
              case rel => exact ⟨k + 1, true, out, A3, c3, by omega, rfl, by go_num, HFN, by omega, HJ, HO, hy⟩
              case measure => simp [intOf]; omega
            · rw [if_neg hxp] at hst
              have hxp' : (x == p) = false := by simpa using hxp
              have hfn : fin = (out ++ [x]) ++ insQ p true (rl.drop (k + 1)) := by rw [hst, List.append_assoc]
              have HFN := Lib.hid hfn
              have hol1 : (out ++ [x]).length ≤ 2 * (k + 1) := by rw [List.length_append]; simp; omega
              have hol2 : (out ++ [x]).length = out.length + 1 := by rw [List.length_append]; rfl
              clear hst hfn HFI
              go_wp2_with fail
              have c1 := ext_cell hy HC1.out
              have hk0 : (0 : Int) ≤ (k : Int) := by omega
              have hii : (i : Int) < (n : Int) := by omega
              have hi0 : (0 : Int) ≤ (i : Int) := by omega
              have d1 : wr.cell? ⟨g, 1, none⟩ = some (.slice A3 out.length c3) := HJ.out.cell 1
              refine wp_region_obl 11 (fun ix vals v w1 => match ix with | 0 => v = .pointer (some ⟨g, 1, none⟩) | 1 => v = .slice A3 out.length c3 | 2 => v = .slice (some ⟨b, o, none⟩) n c | 3 => v = .int .i64 i | 4 => v = .pointer (some ⟨b, o + i * 2, none⟩) | 5 => v = .pointer (some ⟨b, o + i * 2 + 1, none⟩) | 6 => v = .slice (some ⟨bk, ok, none⟩) rn rc | 7 => v = .int .i64 k | 8 => v = .pointer (some ⟨bk, ok + k, none⟩) | 9 => v = .int .i64 x | _ => ∃ gx, v = .slice (some ⟨gx, 0, none⟩) 1 1 ∧ Blk w1 gx 3 #[.int .i64 x]) (by kernel_rfl) (by kernel_rfl) ?_ ?_ ?_ ?_
              · intro ix vals v w1 w2 hi hr hx
                match ix, hr with
                | 0, hr => exact hr
                | 1, hr => exact hr
                | 2, hr => exact hr
                | 3, hr => exact hr
                | 4, hr => exact hr
                | 5, hr => exact hr
                | 6, hr => exact hr
                | 7, hr => exact hr
                | 8, hr => exact hr
                | 9, hr => exact hr
                | (kx + 10), hr => obtain ⟨gx, h1, h2⟩ := hr; exact ⟨gx, h1, h2.ext hx⟩
              · intro ix vals vals_ v w1 hi hv hr
                exact hr
              · refine obls_ofT [some 103, some 104, some 105, some 106, some 107, some 108, some 109, some 110, some 111, some 112, some 113, some 114, some 115, none] [(15, .pointer (some ⟨g, 0, none⟩)), (8, .slice (some ⟨b, o, none⟩) n c), (12, .int .i64 i), (17, .int .i64 k)] 172 (by kernel_rfl) (by kernel_rfl) ⟨by kernel_rfl, by kernel_rfl, by kernel_rfl, by kernel_rfl, trivial⟩ ?_
                refine ⟨?_, ?_, ?_, ?_, ?_, ?_, ?_, ?_, ?_, ?_, ?_, trivial⟩
                · intro vals w1 hx hd
                  refine .run [(15, .pointer (some ⟨g, 0, none⟩))] { dst := some 0, op := Go.Op.fieldAddr 30 (Go.Operand.const (.pointer (some ⟨g, 0, none⟩))) 1, type := 0, pos := "", after := #[], guard := none } 103 ⟨.out (by kernel_rfl) (by kernel_rfl), trivial⟩ (by kernel_rfl) (by kernel_rfl) (by kernel_rfl) rfl rfl rfl ?_
                  clear hd
                  go_wp2
                  exact ⟨rfl, Ext.refl _, rfl⟩
                · intro vals w1 hx hd
                  have e0 : vals 0 = .pointer (some ⟨g, 1, none⟩) := hd 0 (by decide)
                  refine .run [(103, .pointer (some ⟨g, 1, none⟩))] { dst := some 0, op := Go.Op.load 28 (Go.Operand.const (.pointer (some ⟨g, 1, none⟩))), type := 28, pos := "", after := #[], guard := none } 104 ⟨.inn 0 (by kernel_rfl) e0, trivial⟩ (by kernel_rfl) (by kernel_rfl) (by kernel_rfl) rfl rfl rfl ?_
                  clear hd e0
                  have d1 := ext_cell hx d1
                  go_wp2
                  exact ⟨rfl, Ext.refl _, rfl⟩
                · intro vals w1 hx hd
                  refine .run [(8, .slice (some ⟨b, o, none⟩) n c)] { dst := some 0, op := Go.Op.move (Go.Operand.const (.slice (some ⟨b, o, none⟩) n c)), type := 31, pos := "", after := #[], guard := none } 105 ⟨.out (by kernel_rfl) (by kernel_rfl), trivial⟩ (by kernel_rfl) (by kernel_rfl) (by kernel_rfl) rfl rfl rfl ?_
                  clear hd
                  go_wp2
                  exact ⟨rfl, Ext.refl _, rfl⟩
                · intro vals w1 hx hd
                  refine .run [(12, .int .i64 i)] { dst := some 0, op := Go.Op.move (Go.Operand.const (.int .i64 i)), type := 3, pos := "", after := #[], guard := none } 106 ⟨.out (by kernel_rfl) (by kernel_rfl), trivial⟩ (by kernel_rfl) (by kernel_rfl) (by kernel_rfl) rfl rfl rfl ?_
                  clear hd
                  go_wp2
                  exact ⟨rfl, Ext.refl _, rfl⟩
                · intro vals w1 hx hd
                  have e2 : vals 2 = .slice (some ⟨b, o, none⟩) n c := hd 2 (by decide)
                  have e3 : vals 3 = .int .i64 i := hd 3 (by decide)
                  refine .run [(105, .slice (some ⟨b, o, none⟩) n c), (106, .int .i64 i)] { dst := some 0, op := Go.Op.indexAddr 31 (Go.Operand.const (.slice (some ⟨b, o, none⟩) n c)) (Go.Operand.const (.int .i64 i)), type := 0, pos := "", after := #[], guard := none } 107 ⟨.inn 2 (by kernel_rfl) e2, .inn 3 (by kernel_rfl) e3, trivial⟩ (by kernel_rfl) (by kernel_rfl) (by kernel_rfl) rfl rfl rfl ?_
                  clear hd e2 e3
                  go_wp2
                  exact ⟨rfl, Ext.refl _, rfl⟩
                · intro vals w1 hx hd
                  have e4 : vals 4 = .pointer (some ⟨b, o + i * 2, none⟩) := hd 4 (by decide)
                  refine .run [(107, .pointer (some ⟨b, o + i * 2, none⟩))] { dst := some 0, op := Go.Op.fieldAddr 30 (Go.Operand.const (.pointer (some ⟨b, o + i * 2, none⟩))) 1, type := 0, pos := "", after := #[], guard := none } 108 ⟨.inn 4 (by kernel_rfl) e4, trivial⟩ (by kernel_rfl) (by kernel_rfl) (by kernel_rfl) rfl rfl rfl ?_
                  clear hd e4
                  go_wp2
                  exact ⟨rfl, Ext.refl _, rfl⟩
                · intro vals w1 hx hd
                  have e5 : vals 5 = .pointer (some ⟨b, o + i * 2 + 1, none⟩) := hd 5 (by decide)
                  refine .run [(108, .pointer (some ⟨b, o + i * 2 + 1, none⟩))] { dst := some 0, op := Go.Op.load 28 (Go.Operand.const (.pointer (some ⟨b, o + i * 2 + 1, none⟩))), type := 28, pos := "", after := #[], guard := none } 109 ⟨.inn 5 (by kernel_rfl) e5, trivial⟩ (by kernel_rfl) (by kernel_rfl) (by kernel_rfl) rfl rfl rfl ?_
                  clear hd e5
                  have c1 := ext_cell hx c1
                  go_wp2
                  exact ⟨rfl, Ext.refl _, rfl⟩
                · intro vals w1 hx hd
                  refine .run [(17, .int .i64 k)] { dst := some 0, op := Go.Op.move (Go.Operand.const (.int .i64 k)), type := 3, pos := "", after := #[], guard := none } 110 ⟨.out (by kernel_rfl) (by kernel_rfl), trivial⟩ (by kernel_rfl) (by kernel_rfl) (by kernel_rfl) rfl rfl rfl ?_
                  clear hd
                  go_wp2
                  exact ⟨rfl, Ext.refl _, rfl⟩
                · intro vals w1 hx hd
                  have e6 : vals 6 = .slice (some ⟨bk, ok, none⟩) rn rc := hd 6 (by decide)
                  have e7 : vals 7 = .int .i64 k := hd 7 (by decide)
                  refine .run [(109, .slice (some ⟨bk, ok, none⟩) rn rc), (110, .int .i64 k)] { dst := some 0, op := Go.Op.indexAddr 28 (Go.Operand.const (.slice (some ⟨bk, ok, none⟩) rn rc)) (Go.Operand.const (.int .i64 k)), type := 0, pos := "", after := #[], guard := none } 111 ⟨.inn 6 (by kernel_rfl) e6, .inn 7 (by kernel_rfl) e7, trivial⟩ (by kernel_rfl) (by kernel_rfl) (by kernel_rfl) rfl rfl rfl ?_
                  clear hd e6 e7
                  go_wp2
                  exact ⟨rfl, Ext.refl _, rfl⟩
                · intro vals w1 hx hd
                  have e8 : vals 8 = .pointer (some ⟨bk, ok + k, none⟩) := hd 8 (by decide)
                  refine .run [(111, .pointer (some ⟨bk, ok + k, none⟩))] { dst := some 0, op := Go.Op.load 3 (Go.Operand.const (.pointer (some ⟨bk, ok + k, none⟩))), type := 3, pos := "", after := #[], guard := none } 112 ⟨.inn 8 (by kernel_rfl) e8, trivial⟩ (by kernel_rfl) (by kernel_rfl) (by kernel_rfl) rfl rfl rfl ?_
                  clear hd e8
                  have ck := ext_cell hx ck
                  go_wp2
                  exact ⟨rfl, Ext.refl _, rfl⟩
                · intro vals w1 hx hd
                  have e9 : vals 9 = .int .i64 x := hd 9 (by decide)
                  refine .run [(112, .int .i64 x)] { dst := some 0, op := Go.Op.buildSlice 28 1 #[(0, (Go.Operand.const (.int .i64 x)))], type := 28, pos := "", after := #[], guard := none } 113 ⟨.inn 9 (by kernel_rfl) e9, trivial⟩ (by kernel_rfl) (by kernel_rfl) (by kernel_rfl) rfl rfl rfl ?_
                  clear hd e9
                  go_wp2
                  exact ⟨rfl, (by repeat (first | exact Below.refl _ _ | assumption | refine Below.drew ?_ | refine below_drewN ?_ _ | refine bl_alloc ?_ _ | refine Below.setCell ?_ (by first | (simp; done) | omega | (simp; omega)) _ | refine bl_then ?_ (by assumption))), _, rfl, Blk.new _ _ _⟩
              intro vals W6 hz hf
              have e1 : vals 1 = .slice A3 out.length c3 := hf 1 (by omega)
              obtain ⟨gx, e10, jx⟩ : ∃ gx, vals 10 = .slice (some ⟨gx, 0, none⟩) 1 1 ∧ Blk W6 gx 3 #[.int .i64 x] := hf 10 (by omega)
              have hz := hz.undrew
              clear hf
              obtain ⟨A8, c8, W8, hrun, e8, f8, hj8, ho8, hx8⟩ := box_app x gx jx (HJ.out.ext hz) (HO.out.ext hz) (by omega)
              have hy8 := hx8 _ (Ext.trans hy hz) (Nat.le_of_eq HGW.out.symm)
              rw [← hol2] at hrun hj8 ho8 hy8
              generalize out ++ [x] = out9 at hrun hj8 ho8 hy8 HFN hol1 hol2
              have HRUN := Lib.hid hrun
              have HJ8 := Lib.hid hj8
              have HO8 := Lib.hid ho8
              clear hrun hj8 ho8 hx8 hz jx HJ HO hy c1 d1 ck hol2
              refine tailF 11 _ _ 2 (by kernel_rfl) rfl ?_ (fun a w q => tailF 12 _ _ 1 (by kernel_rfl) rfl q (fun a w q => tail1 13 _ (by kernel_rfl) (by kernel_rfl) rfl q))
              simp only [Lf, dstAt, Act.put, List.getElem?_toArray, List.getElem?_cons_zero, List.getElem?_cons_succ, Option.bind_some, List.setIfInBounds_toArray, List.set_cons_zero, List.set_cons_succ]
              rw [e1, e10]
              clear e1 e10
              refine wpList_append_run_ rfl _ _ _ rfl rfl rfl HRUN.out ?_
              clear HRUN
              go_wp2_with fail
              go_roundw
              case rel => exact ⟨k + 1, true, out9, A8, c8, by omega, rfl, by go_num, HFN, hol1, HJ8, HO8, hy8⟩
              case measure => simp [intOf]; omega
        · have hst := HFI.out
          rw [decide_eq_false hpx, Bool.false_and, if_neg (by simp), List.nil_append, Bool.or_false] at hst
          have hpx' : decide (p ≤ x) = false := decide_eq_false hpx
          by_cases hxp : x = p
          · exact absurd hpx (by omega)
          · rw [if_neg hxp] at hst
            have hxp' : (x == p) = false := by simpa using hxp
            have hfn : fin = (out ++ [x]) ++ insQ p d (rl.drop (k + 1)) := by rw [hst, List.append_assoc]
            have HFN := Lib.hid hfn
            have hol1 : (out ++ [x]).length ≤ 2 * (k + 1) := by rw [List.length_append]; simp; omega
            have hol2 : (out ++ [x]).length = out.length + 1 := by rw [List.length_append]; rfl
            clear hst hfn HFI
            go_wp2_with fail
            have c1 := ext_cell hy HC1.out
            have hk0 : (0 : Int) ≤ (k : Int) := by omega
            have hii : (i : Int) < (n : Int) := by omega
            have hi0 : (0 : Int) ≤ (i : Int) := by omega
            have d1 : wr.cell? ⟨g, 1, none⟩ = some (.slice A3 out.length c3) := HJ.out.cell 1
            refine wp_region_obl 11 (fun ix vals v w1 => match ix with | 0 => v = .pointer (some ⟨g, 1, none⟩) | 1 => v = .slice A3 out.length c3 | 2 => v = .slice (some ⟨b, o, none⟩) n c | 3 => v = .int .i64 i | 4 => v = .pointer (some ⟨b, o + i * 2, none⟩) | 5 => v = .pointer (some ⟨b, o + i * 2 + 1, none⟩) | 6 => v = .slice (some ⟨bk, ok, none⟩) rn rc | 7 => v = .int .i64 k | 8 => v = .pointer (some ⟨bk, ok + k, none⟩) | 9 => v = .int .i64 x | _ => ∃ gx, v = .slice (some ⟨gx, 0, none⟩) 1 1 ∧ Blk w1 gx 3 #[.int .i64 x]) (by kernel_rfl) (by kernel_rfl) ?_ ?_ ?_ ?_
            · intro ix vals v w1 w2 hi hr hx
              match ix, hr with
              | 0, hr => exact hr
              | 1, hr => exact hr
              | 2, hr => exact hr
              | 3, hr => exact hr
              | 4, hr => exact hr
              | 5, hr => exact hr
              | 6, hr => exact hr
              | 7, hr => exact hr
              | 8, hr => exact hr
              | 9, hr => exact hr
              | (kx + 10), hr => obtain ⟨gx, h1, h2⟩ := hr; exact ⟨gx, h1, h2.ext hx⟩
            · intro ix vals vals_ v w1 hi hv hr
              exact hr
            · refine obls_ofT [some 103, some 104, some 105, some 106, some 107, some 108, some 109, some 110, some 111, some 112, some 113, some 114, some 115, none] [(15, .pointer (some ⟨g, 0, none⟩)), (8, .slice (some ⟨b, o, none⟩) n c), (12, .int .i64 i), (17, .int .i64 k)] 172 (by kernel_rfl) (by kernel_rfl) ⟨by kernel_rfl, by kernel_rfl, by kernel_rfl, by kernel_rfl, trivial⟩ ?_
              refine ⟨?_, ?_, ?_, ?_, ?_, ?_, ?_, ?_, ?_, ?_, ?_, trivial⟩
              · intro vals w1 hx hd
                refine .run [(15, .pointer (some ⟨g, 0, none⟩))] { dst := some 0, op := Go.Op.fieldAddr 30 (Go.Operand.const (.pointer (some ⟨g, 0, none⟩))) 1, type := 0, pos := "", after := #[], guard := none } 103 ⟨.out (by kernel_rfl) (by kernel_rfl), trivial⟩ (by kernel_rfl) (by kernel_rfl) (by kernel_rfl) rfl rfl rfl ?_
                clear hd
                go_wp2
                exact ⟨rfl, Ext.refl _, rfl⟩
              · intro vals w1 hx hd
                have e0 : vals 0 = .pointer (some ⟨g, 1, none⟩) := hd 0 (by decide)
                refine .run [(103, .pointer (some ⟨g, 1, none⟩))] { dst := some 0, op := Go.Op.load 28 (Go.Operand.const (.pointer (some ⟨g, 1, none⟩))), type := 28, pos := "", after := #[], guard := none } 104 ⟨.inn 0 (by kernel_rfl) e0, trivial⟩ (by kernel_rfl) (by kernel_rfl) (by kernel_rfl) rfl rfl rfl ?_
                clear hd e0
                have d1 := ext_cell hx d1
                go_wp2
                exact ⟨rfl, Ext.refl _, rfl⟩
              · intro vals w1 hx hd
                refine .run [(8, .slice (some ⟨b, o, none⟩) n c)] { dst := some 0, op := Go.Op.move (Go.Operand.const (.slice (some ⟨b, o, none⟩) n c)), type := 31, pos := "", after := #[], guard := none } 105 ⟨.out (by kernel_rfl) (by kernel_rfl), trivial⟩ (by kernel_rfl) (by kernel_rfl) (by kernel_rfl) rfl rfl rfl ?_
                clear hd
                go_wp2
                exact ⟨rfl, Ext.refl _, rfl⟩
              · intro vals w1 hx hd
                refine .run [(12, .int .i64 i)] { dst := some 0, op := Go.Op.move (Go.Operand.const (.int .i64 i)), type := 3, pos := "", after := #[], guard := none } 106 ⟨.out (by kernel_rfl) (by kernel_rfl), trivial⟩ (by kernel_rfl) (by kernel_rfl) (by kernel_rfl) rfl rfl rfl ?_
                clear hd
                go_wp2
                exact ⟨rfl, Ext.refl _, rfl⟩
              · intro vals w1 hx hd
                have e2 : vals 2 = .slice (some ⟨b, o, none⟩) n c := hd 2 (by decide)
                have e3 : vals 3 = .int .i64 i := hd 3 (by decide)
                refine .run [(105, .slice (some ⟨b, o, none⟩) n c), (106, .int .i64 i)] { dst := some 0, op := Go.Op.indexAddr 31 (Go.Operand.const (.slice (some ⟨b, o, none⟩) n c)) (Go.Operand.const (.int .i64 i)), type := 0, pos := "", after := #[], guard := none } 107 ⟨.inn 2 (by kernel_rfl) e2, .inn 3 (by kernel_rfl) e3, trivial⟩ (by kernel_rfl) (by kernel_rfl) (by kernel_rfl) rfl rfl rfl ?_
                clear hd e2 e3
                go_wp2
                exact ⟨rfl, Ext.refl _, rfl⟩
              · intro vals w1 hx hd
                have e4 : vals 4 = .pointer (some ⟨b, o + i * 2, none⟩) := hd 4 (by decide)
                refine .run [(107, .pointer (some ⟨b, o + i * 2, none⟩))] { dst := some 0, op := Go.Op.fieldAddr 30 (Go.Operand.const (.pointer (some ⟨b, o + i * 2, none⟩))) 1, type := 0, pos := "", after := #[], guard := none } 108 ⟨.inn 4 (by kernel_rfl) e4, trivial⟩ (by kernel_rfl) (by kernel_rfl) (by kernel_rfl) rfl rfl rfl ?_
                clear hd e4
                go_wp2
                exact ⟨rfl, Ext.refl _, rfl⟩
              · intro vals w1 hx hd
                have e5 : vals 5 = .pointer (some ⟨b, o + i * 2 + 1, none⟩) := hd 5 (by decide)
                refine .run [(108, .pointer (some ⟨b, o + i * 2 + 1, none⟩))] { dst := some 0, op := Go.Op.load 28 (Go.Operand.const (.pointer (some ⟨b, o + i * 2 + 1, none⟩))), type := 28, pos := "", after := #[], guard := none } 109 ⟨.inn 5 (by kernel_rfl) e5, trivial⟩ (by kernel_rfl) (by kernel_rfl) (by kernel_rfl) rfl rfl rfl ?_
                clear hd e5
                have c1 := ext_cell hx c1
                go_wp2
                exact ⟨rfl, Ext.refl _, rfl⟩
              · intro vals w1 hx hd
                refine .run [(17, .int .i64 k)] { dst := some 0, op := Go.Op.move (Go.Operand.const (.int .i64 k)), type := 3, pos := "", after := #[], guard := none } 110 ⟨.out (by kernel_rfl) (by kernel_rfl), trivial⟩ (by kernel_rfl) (by kernel_rfl) (by kernel_rfl) rfl rfl rfl ?_
                clear hd
                go_wp2
                exact ⟨rfl, Ext.refl _, rfl⟩
              · intro vals w1 hx hd
                have e6 : vals 6 = .slice (some ⟨bk, ok, none⟩) rn rc := hd 6 (by decide)
                have e7 : vals 7 = .int .i64 k := hd 7 (by decide)
                refine .run [(109, .slice (some ⟨bk, ok, none⟩) rn rc), (110, .int .i64 k)] { dst := some 0, op := Go.Op.indexAddr 28 (Go.Operand.const (.slice (some ⟨bk, ok, none⟩) rn rc)) (Go.Operand.const (.int .i64 k)), type := 0, pos := "", after := #[], guard := none } 111 ⟨.inn 6 (by kernel_rfl) e6, .inn 7 (by kernel_rfl) e7, trivial⟩ (by kernel_rfl) (by kernel_rfl) (by kernel_rfl) rfl rfl rfl ?_
                clear hd e6 e7
                go_wp2
                exact ⟨rfl, Ext.refl _, rfl⟩
              · intro vals w1 hx hd
                have e8 : vals 8 = .pointer (some ⟨bk, ok + k, none⟩) := hd 8 (by decide)
                refine .run [(111, .pointer (some ⟨bk, ok + k, none⟩))] { dst := some 0, op := Go.Op.load 3 (Go.Operand.const (.pointer (some ⟨bk, ok + k, none⟩))), type := 3, pos := "", after := #[], guard := none } 112 ⟨.inn 8 (by kernel_rfl) e8, trivial⟩ (by kernel_rfl) (by kernel_rfl) (by kernel_rfl) rfl rfl rfl ?_
                clear hd e8
                have ck := ext_cell hx ck
                go_wp2
                exact ⟨rfl, Ext.refl _, rfl⟩
              · intro vals w1 hx hd
                have e9 : vals 9 = .int .i64 x := hd 9 (by decide)
                refine .run [(112, .int .i64 x)] { dst := some 0, op := Go.Op.buildSlice 28 1 #[(0, (Go.Operand.const (.int .i64 x)))], type := 28, pos := "", after := #[], guard := none } 113 ⟨.inn 9 (by kernel_rfl) e9, trivial⟩ (by kernel_rfl) (by kernel_rfl) (by kernel_rfl) rfl rfl rfl ?_
                clear hd e9
                go_wp2
                exact ⟨rfl, (by repeat (first | exact Below.refl _ _ | assumption | refine Below.drew ?_ | refine below_drewN ?_ _ | refine bl_alloc ?_ _ | refine Below.setCell ?_ (by first | (simp; done) | omega | (simp; omega)) _ | refine bl_then ?_ (by assumption))), _, rfl, Blk.new _ _ _⟩
            intro vals W6 hz hf
            have e1 : vals 1 = .slice A3 out.length c3 := hf 1 (by omega)
            obtain ⟨gx, e10, jx⟩ : ∃ gx, vals 10 = .slice (some ⟨gx, 0, none⟩) 1 1 ∧ Blk W6 gx 3 #[.int .i64 x] := hf 10 (by omega)
            have hz := hz.undrew
            clear hf
            obtain ⟨A8, c8, W8, hrun, e8, f8, hj8, ho8, hx8⟩ := box_app x gx jx (HJ.out.ext hz) (HO.out.ext hz) (by omega)
            have hy8 := hx8 _ (Ext.trans hy hz) (Nat.le_of_eq HGW.out.symm)
            rw [← hol2] at hrun hj8 ho8 hy8
            generalize out ++ [x] = out9 at hrun hj8 ho8 hy8 HFN hol1 hol2
            have HRUN := Lib.hid hrun
            have HJ8 := Lib.hid hj8
            have HO8 := Lib.hid ho8
            clear hrun hj8 ho8 hx8 hz jx HJ HO hy c1 d1 ck hol2
            refine tailF 11 _ _ 2 (by kernel_rfl) rfl ?_ (fun a w q => tailF 12 _ _ 1 (by kernel_rfl) rfl q (fun a w q => tail1 13 _ (by kernel_rfl) (by kernel_rfl) rfl q))
            simp only [Lf, dstAt, Act.put, List.getElem?_toArray, List.getElem?_cons_zero, List.getElem?_cons_succ, Option.bind_some, List.setIfInBounds_toArray, List.set_cons_zero, List.set_cons_succ]
            rw [e1, e10]
            clear e1 e10
            refine wpList_append_run_ rfl _ _ _ rfl rfl rfl HRUN.out ?_
            clear HRUN
            go_wp2_with fail
            go_roundw
            case rel => exact ⟨k + 1, d, out9, A8, c8, by omega, rfl, by go_num, HFN, hol1, HJ8, HO8, hy8⟩
            case measure => simp [intOf]; omega
      · have hfi := HF.out
        rw [List.drop_of_length_le (by rw [HRL.out]; omega), insQ] at hfi
        have c1 := ext_cell hy HC1.out
        cases d
        · rw [if_neg (by simp)] at hfi
          have hxa : Ext wr (wr.alloc (.cells #[.int .i64 p] 3)) := bl_alloc (Below.refl _ _) _
          have d1 : wr.cell? ⟨g, 1, none⟩ = some (.slice A3 out.length c3) := HJ.out.cell 1
          have hgr := HJ.out.lt
          obtain ⟨A8, c8, W8, hrun, e8, f8, hj8, ho8, hx8⟩ := box_app p _ (Blk.new wr 3 #[.int .i64 p]) (HJ.out.ext hxa) (HO.out.ext hxa) (by omega)
          have hy8 := hx8 _ (Ext.trans hy hxa) (Nat.le_of_eq HGW.out.symm)
          have HRUN := Lib.hid hrun
          have HJ8 := Lib.hid hj8
          have HO8 := Lib.hid ho8
          clear hrun hj8 ho8 hx8 hxa
          rw [show out.length + 1 = (out ++ [p]).length by rw [List.length_append]; rfl] at hy8 HRUN HJ8 HO8
          rw [← hfi] at hy8 HRUN HJ8 HO8
          clear hfi HF HJ HO hy
          go_upto_region 22 with (fail)
          clear c1
          go_upto_region 23 with (refine wpList_append_run_ rfl _ _ _ rfl rfl rfl HRUN.out ?_)
          clear HRUN d1 e8 f8 hol hgr
          generalize W8.setCell ⟨g, 1, none⟩ (.slice A8 fin.length c8) = wr at hy8 HJ8 HO8 ⊢
          obtain ⟨A3, hA3⟩ : ∃ a, a = A8 := ⟨_, rfl⟩
          obtain ⟨c3, hc3⟩ : ∃ a, a = c8 := ⟨_, rfl⟩
          rw [← hA3, ← hc3] at HJ8 HO8
          clear hA3 hc3
          have HJ := HJ8
          have HO := HO8
          have hy := hy8
          clear HJ8 HO8 hy8
          have hsl := HJ.out.lt
          have e0 : wr.cell? ⟨g, 0, none⟩ = some (.int .i64 im) := HJ.out.cell 0
          have e1 : wr.cell? ⟨g, 1, none⟩ = some (.slice A3 fin.length c3) := HJ.out.cell 1
          have ho5 := HO14.out.ext hy
          have ho3 := HO.out
          have ho5n : wr.ownsRow W3.heap.size 30 2 (.slice (some ⟨g14, 0, none⟩) n c14) n (rs.flatMap reqCells) := by
            have h9 := ho5
            unfold OwnR at h9
            rw [← HNL.out] at h9
            exact h9
          have hra14 := RA.of_own (cells := reqCells) ho5n HNL.out.symm (by omega)
          have hil : i < rs.length := by rw [← HNL.out]; exact hin
          obtain ⟨b9, o9, hz9, hA9, -, hc9⟩ := hra14.at_ req_len hin
          injection hA9 with hA9
          injection hA9 with q1 q2 _
          have s0 := hc9 0 (by omega)
          have s1 := hc9 1 (by omega)
          rw [← q1, ← q2, Nat.zero_add, Nat.add_zero] at s0
          rw [← q1, ← q2, Nat.zero_add] at s1
          have s0 : wr.cell? ⟨g14, i * 2, none⟩ = some (.int .i64 rs[i].im) := s0
          have s1 : wr.cell? ⟨g14, i * 2 + 1, none⟩ = some (.slice rs[i].a rs[i].n rs[i].c) := s1
          have f0 : wr.frozen? ⟨g14, i * 2, none⟩ = false := own_unfrozen ho5 (i * 2)
          have f1 : wr.frozen? ⟨g14, i * 2 + 1, none⟩ = false := own_unfrozen ho5 (i * 2 + 1)
          have hset := own_req_set ho5 i hil ⟨im, A3, fin.length, c3, fin⟩
          have hb14 : W3.heap.size ≤ g14 := (World.ownsRow.lt ho5 g14 rfl).1
          have hne3 : ∀ q, (Value.slice A3 fin.length c3).ownBlock = some q → q ≠ g14 := fun q e => by have := (World.ownsRow.lt ho3 q e).1; have := (World.ownsRow.lt HO14.out g14 rfl).2; have := HGW.out; omega
          have ho4 := own_off (own_off ho3 (p := ⟨g14, i * 2, none⟩) hne3 (.int .i64 im)) (p := ⟨g14, i * 2 + 1, none⟩) hne3 (.slice A3 fin.length c3)
          have hx35 := Ext.trans HX35.out hy
          have hx10 : Ext W3 ((wr.setCell ⟨g14, i * 2, none⟩ (.int .i64 im)).setCell ⟨g14, i * 2 + 1, none⟩ (.slice A3 fin.length c3)) := (hx35.setCell (p := ⟨g14, i * 2, none⟩) hb14 (.int .i64 im)).setCell (p := ⟨g14, i * 2 + 1, none⟩) hb14 (.slice A3 fin.length c3)
          have hwe : wr.setCells g14 (i * 2) [.int .i64 im, .slice A3 fin.length c3] = (wr.setCell ⟨g14, i * 2, none⟩ (.int .i64 im)).setCell ⟨g14, i * 2 + 1, none⟩ (.slice A3 fin.length c3) := rfl
          dsimp only at hset
          rw [← hwe] at hset ho4 hx10
          clear hwe
          have HSET := Lib.hid hset
          have HO4 := Lib.hid ho4
          have HX10 := Lib.hid hx10
          generalize rs[i].im = oim at s0
          generalize rs[i].a = oa at s1
          generalize rs[i].n = on at s1
          generalize rs[i].c = oc at s1
          have hs9 : RowS reqCells 2 W3.heap.size 30 g14 n c14 wr rs := ⟨HNL.out.symm, ho5n⟩
          have HT9 := Lib.hid (hs9.there req_len hil)
          clear hs9 ho5n ho5 ho3 hra14 hc9 q1 q2 hset hb14 hne3 ho4 hx35 hx10 HJ HO hy HC1
          go_upto_region 24 with (refine wpList_store_st rfl _ _ _ rfl g14 (i * 2) _ [.int .i64 im, .slice A3 fin.length c3] rfl rfl rfl HT9.out (by kernel_rfl) (by simp [Value.oneCell']) ?_)
          obtain ⟨W10, hW10⟩ : ∃ W, W = wr.setCells g14 (i * 2) [.int .i64 im, .slice A3 fin.length c3] := ⟨_, rfl⟩
          rw [← hW10] at HSET HO4 HX10 ⊢
          clear e0 e1 s0 s1 f0 f1 hsl HT9 hW10
          have hrs10 : Ext W2 W10 := Ext.trans HX23.out HX10.out
          have hrq10 := HRQ.out.below hrs10
          have hset := HSET.out
          unfold OwnR at hset
          rw [List.length_set, ← HNL.out] at hset
          obtain ⟨hrm, hlm⟩ := HMORE.out ⟨im, A3, fin.length, c3, fin⟩ HFIN.out rfl
          obtain ⟨he1, -⟩ := fit_lack _ hrm
          have hsl : (rs.set i ⟨im, A3, fin.length, c3, fin⟩).length = rs.length := List.length_set
          have hmore : Rqs W10 W10.heap.size (some ⟨g14, 0, none⟩) n c14 (rs.set i ⟨im, A3, fin.length, c3, fin⟩) := by
            refine ⟨RA.of_own (cells := reqCells) hset (by rw [hsl]; exact HNL.out.symm) (by omega), fun r hr => ?_⟩
            rcases List.mem_or_eq_of_mem_set hr with hr | rfl
            · exact ⟨(hrq10.each r hr).1.more (Below.size hrs10), (hrq10.each r hr).2⟩
            · exact ⟨RA.of_own (cells := intCells) HO4.out rfl (by have := HFL.out; dsimp only; omega), by have := HFL.out; dsimp only; omega⟩
          generalize rs.set i ⟨im, A3, fin.length, c3, fin⟩ = ms at hrm hlm he1 hmore hsl
          have HFM := Lib.hid (fun (W : World) (hW : Ext W10 W) => fit_any ms _ n c14 W ((hmore.below hW).more (Below.size hW)) (by omega))
          have HRA10 := Lib.hid hrq10.out
          have HRQ10 := Lib.hid hrq10
          have hlo : b < W10.heap.size := Nat.lt_of_lt_of_le hbw (Below.size hrs10)
          clear hmore hset hrm hsl HSET HO4 hrq10
          have hnc9 := HRA10.out.cap
          have hii : (i : Int) ≤ (n : Int) := by omega
          have hi1 : (i : Int) + 1 ≤ (n : Int) := by omega
          have hi2 : ((i : Int) + 1).toNat = i + 1 := by omega
          have hi3 : (0 : Int) ≤ (i : Int) + 1 := by omega
          have hnci : (n : Int) ≤ (c : Int) := by omega
          refine wp_region_obl 9 (fun ix vals v w1 => match ix with | 0 => ∃ g, v = .slice (some ⟨g, 0, none⟩) 0 0 ∧ W10.heap.size ≤ g ∧ Blk w1 g 30 #[] | 1 => v = .slice (some ⟨b, o, none⟩) n c | 2 => v = .int .i64 i | 3 => v = .slice (some ⟨b, o, none⟩) i c | 4 => OwnR w1 W10.heap.size v (rs.take i) | 5 => v = .slice (some ⟨b, o, none⟩) n c | 6 => v = .int .i64 i | 7 => v = .int .i64 (i + 1) | _ => ∃ T, v = .slice T (n - (i + 1)) (c - (i + 1)) ∧ W10.heap.size ≤ w1.heap.size ∧ RA reqCells 2 w1 W2.heap.size T (n - (i + 1)) (c - (i + 1)) (rs.drop (i + 1))) (by kernel_rfl) (by kernel_rfl) ?_ ?_ ?_ ?_
          · intro ix vals v w1 w2 hi hr hx
            match ix, hr with
            | 0, hr => obtain ⟨g, h1, h2, h3⟩ := hr; exact ⟨g, h1, h2, h3.ext hx⟩
            | 1, hr => exact hr
            | 2, hr => exact hr
            | 3, hr => exact hr
            | 4, hr => exact hr.ext hx
            | 5, hr => exact hr
            | 6, hr => exact hr
            | 7, hr => exact hr
            | (kx + 8), hr => obtain ⟨T, h1, h2, h3⟩ := hr; exact ⟨T, h1, Nat.le_trans h2 (Below.size hx), h3.below (hx.mono (Nat.le_trans (Below.size hrs10) h2))⟩
          · intro ix vals vals_ v w1 hi hv hr
            exact hr
          · refine obls_ofT [some 128, some 129, some 130, some 131, some 132, some 133, some 134, some 135, some 136, some 137, some 18] [(8, .slice (some ⟨b, o, none⟩) n c), (12, .int .i64 i)] 172 (by kernel_rfl) (by kernel_rfl) ⟨by kernel_rfl, by kernel_rfl, trivial⟩ ?_
            refine ⟨?_, ?_, ?_, ?_, ?_, ?_, ?_, ?_, ?_, trivial⟩
            · intro vals w1 hx hd
              refine .run [] { dst := some 0, op := Go.Op.buildSlice 31 0 #[], type := 31, pos := "", after := #[], guard := none } 128 trivial (by kernel_rfl) (by kernel_rfl) (by kernel_rfl) rfl rfl rfl ?_
              clear hd
              have hz9 := Below.size hx.undrew
              go_wp2
              exact ⟨rfl, (by repeat (first | exact Below.refl _ _ | assumption | refine Below.drew ?_ | refine below_drewN ?_ _ | refine bl_alloc ?_ _ | refine Below.setCell ?_ (by first | (simp; done) | omega | (simp; omega)) _ | refine bl_then ?_ (by assumption))), _, rfl, by omega, Blk.new _ _ _⟩
            · intro vals w1 hx hd
              refine .run [(8, .slice (some ⟨b, o, none⟩) n c)] { dst := some 0, op := Go.Op.move (Go.Operand.const (.slice (some ⟨b, o, none⟩) n c)), type := 31, pos := "", after := #[], guard := none } 129 ⟨.out (by kernel_rfl) (by kernel_rfl), trivial⟩ (by kernel_rfl) (by kernel_rfl) (by kernel_rfl) rfl rfl rfl ?_
              clear hd
              go_wp2
              exact ⟨rfl, Ext.refl _, rfl⟩
            · intro vals w1 hx hd
              refine .run [(12, .int .i64 i)] { dst := some 0, op := Go.Op.move (Go.Operand.const (.int .i64 i)), type := 3, pos := "", after := #[], guard := none } 130 ⟨.out (by kernel_rfl) (by kernel_rfl), trivial⟩ (by kernel_rfl) (by kernel_rfl) (by kernel_rfl) rfl rfl rfl ?_
              clear hd
              go_wp2
              exact ⟨rfl, Ext.refl _, rfl⟩
            · intro vals w1 hx hd
              have e1 : vals 1 = .slice (some ⟨b, o, none⟩) n c := hd 1 (by decide)
              have e2 : vals 2 = .int .i64 i := hd 2 (by decide)
              refine .run [(129, .slice (some ⟨b, o, none⟩) n c), (130, .int .i64 i)] { dst := some 0, op := Go.Op.slice 31 (Go.Operand.const (.slice (some ⟨b, o, none⟩) n c)) none (some (Go.Operand.const (.int .i64 i))) none, type := 31, pos := "", after := #[], guard := none } 131 ⟨.inn 1 (by kernel_rfl) e1, .inn 2 (by kernel_rfl) e2, trivial⟩ (by kernel_rfl) (by kernel_rfl) (by kernel_rfl) rfl rfl rfl ?_
              clear hd e1 e2
              go_wp2
              exact ⟨rfl, Ext.refl _, rfl⟩
            · intro vals w1 hx hd
              have r0 : (fun v w1 => ∃ g, v = .slice (some ⟨g, 0, none⟩) 0 0 ∧ W10.heap.size ≤ g ∧ Blk w1 g 30 #[]) (vals 0) w1 := hd 0 (by decide)
              dsimp only at r0
              obtain ⟨g0, e_0, hg0, j0⟩ := r0
              have e3 : vals 3 = .slice (some ⟨b, o, none⟩) i c := hd 3 (by decide)
              refine .run [(128, .slice (some ⟨g0, 0, none⟩) 0 0), (131, .slice (some ⟨b, o, none⟩) i c)] { dst := some 0, op := Go.Op.call { callee := Go.Callee.builtin Go.Builtin.append, args := #[(Go.Operand.const (.slice (some ⟨g0, 0, none⟩) 0 0)), (Go.Operand.const (.slice (some ⟨b, o, none⟩) i c))], argTypes := #[31, 31] }, type := 31, pos := "", after := #[], guard := none } 132 ⟨.inn 0 (by kernel_rfl) e_0, .inn 3 (by kernel_rfl) e3, trivial⟩ (by kernel_rfl) (by kernel_rfl) (by kernel_rfl) rfl rfl rfl ?_
              clear hd e_0 e3
              obtain ⟨v9, w9, hrun, hx9, ho9⟩ := copy_req 31 (rs.take i) W2.heap.size g0 i c (some ⟨b, o, none⟩) W10.heap.size j0 hg0 (by omega) ((HRA10.out.below (hx.undrew.mono (Below.size hrs10))).cut req_len i (by omega))
              refine wpList_append_run_ rfl _ _ _ rfl rfl rfl hrun ?_
              clear hrun
              go_wp2
              exact ⟨rfl, hx9, ho9⟩
            · intro vals w1 hx hd
              refine .run [(8, .slice (some ⟨b, o, none⟩) n c)] { dst := some 0, op := Go.Op.move (Go.Operand.const (.slice (some ⟨b, o, none⟩) n c)), type := 31, pos := "", after := #[], guard := none } 133 ⟨.out (by kernel_rfl) (by kernel_rfl), trivial⟩ (by kernel_rfl) (by kernel_rfl) (by kernel_rfl) rfl rfl rfl ?_
              clear hd
              go_wp2
              exact ⟨rfl, Ext.refl _, rfl⟩
            · intro vals w1 hx hd
              refine .run [(12, .int .i64 i)] { dst := some 0, op := Go.Op.move (Go.Operand.const (.int .i64 i)), type := 3, pos := "", after := #[], guard := none } 134 ⟨.out (by kernel_rfl) (by kernel_rfl), trivial⟩ (by kernel_rfl) (by kernel_rfl) (by kernel_rfl) rfl rfl rfl ?_
              clear hd
              go_wp2
              exact ⟨rfl, Ext.refl _, rfl⟩
            · intro vals w1 hx hd
              have e6 : vals 6 = .int .i64 i := hd 6 (by decide)
              refine .run [(134, .int .i64 i)] { dst := some 0, op := Go.Op.binOp Go.BinOp.add 3 (Go.Operand.const (.int .i64 i)) (Go.Operand.const (Go.Value.int Go.IntKind.i64 1)) 3, type := 3, pos := "", after := #[], guard := none } 135 ⟨.inn 6 (by kernel_rfl) e6, trivial⟩ (by kernel_rfl) (by kernel_rfl) (by kernel_rfl) rfl rfl rfl ?_
              clear hd e6
              go_wp2
              exact ⟨rfl, Ext.refl _, rfl⟩
            · intro vals w1 hx hd
              have e5 : vals 5 = .slice (some ⟨b, o, none⟩) n c := hd 5 (by decide)
              have e7 : vals 7 = .int .i64 (i + 1) := hd 7 (by decide)
              refine .run [(133, .slice (some ⟨b, o, none⟩) n c), (135, .int .i64 (i + 1))] { dst := some 0, op := Go.Op.slice 31 (Go.Operand.const (.slice (some ⟨b, o, none⟩) n c)) (some (Go.Operand.const (.int .i64 (i + 1)))) none none, type := 31, pos := "", after := #[], guard := none } 136 ⟨.inn 5 (by kernel_rfl) e5, .inn 7 (by kernel_rfl) e7, trivial⟩ (by kernel_rfl) (by kernel_rfl) (by kernel_rfl) rfl rfl rfl ?_
              clear hd e5 e7
              have hz9 := Below.size hx.undrew
              have hta := (HRA10.out.below (hx.undrew.mono (Below.size hrs10))).tail req_len (i + 1) (by omega)
              by_cases hce : c = i + 1
              · have hce2 : c - (i + 1) = 0 := (by omega); rw [if_pos hce, hce2] at hta; go_wp2; exact ⟨rfl, Ext.refl _, _, rfl, hz9, hta⟩
              · rw [if_neg hce] at hta; go_wp2; exact ⟨rfl, Ext.refl _, _, rfl, hz9, hta⟩
          intro vals W6 hz hf
          have h4 : OwnR W6 W10.heap.size (vals 4) (rs.take i) := hf 4 (by omega)
          obtain ⟨T, e8, hsz, hT⟩ : ∃ T, vals 8 = .slice T (n - (i + 1)) (c - (i + 1)) ∧ W10.heap.size ≤ W6.heap.size ∧ RA reqCells 2 W6 W2.heap.size T (n - (i + 1)) (c - (i + 1)) (rs.drop (i + 1)) := hf 8 (by omega)
          have hz := hz.undrew
          clear hf
          have hl1 : (rs.take i).length + (n - (i + 1)) ≤ 900 := by rw [List.length_take]; omega
          obtain ⟨v7, W7, hrun, hg7, h7⟩ := join_req 31 (rs.take i) (rs.drop (i + 1)) (vals 4) W10.heap.size W2.heap.size (n - (i + 1)) (c - (i + 1)) T h4 hT hl1 (Below.size hz)
          have hx7 : Ext W10 W7 := hz.grown hg7 (Below.size hz) (fun q e => (World.ownsRow.lt h4 q e).1)
          obtain ⟨A7, c7, hv7, _, _⟩ := own_slice h7
          subst hv7
          obtain ⟨hrl, hll⟩ := HLESS.out
          obtain ⟨he2, -⟩ := fit_lack _ hrl
          have hle7 : (rs.take i ++ rs.drop (i + 1)).length ≤ 8 := by rw [List.length_append, List.length_take, List.length_drop]; have := HNL.out; omega
          have hless : Rqs W7 W7.heap.size A7 (rs.take i ++ rs.drop (i + 1)).length c7 (rs.take i ++ rs.drop (i + 1)) := by
            refine ⟨RA.of_own (cells := reqCells) h7 rfl (by omega), fun r hr => ?_⟩
            have hr' : r ∈ rs := (by
              rcases List.mem_append.1 hr with hr | hr
              · exact List.mem_of_mem_take hr
              · exact List.mem_of_mem_drop hr)
            have hb7 : Below W2.heap.size W10 W7 := hx7.mono (Below.size hrs10)
            exact ⟨((HRQ10.out.each r hr').1.below hb7).more (Nat.le_trans (Below.size hrs10) (Below.size hx7)), (HRQ10.out.each r hr').2⟩
          generalize rs.take i ++ rs.drop (i + 1) = ls at hrl hll he2 hless hle7 hrun
          have HFE := Lib.hid (fun (W : World) (hW : Ext W7 W) => fit_any ls _ _ c7 W ((hless.below hW).more (Below.size hW)) (by omega))
          have hfm := HFM.out W7 hx7
          have hxw7 : Ext w W7 := Ext.trans HXW.out (Ext.trans hrs10 hx7)
          have HRUN := Lib.hid hrun
          unfold FitRet at hfm
          rw [he1] at hfm
          have hqa : q0 = 0 → (fitP ms).2.1.length = 0 := fun h => by rw [hlm (HQ0.out h)]; rfl
          have hqb : q0 = 0 → (fitP ls).2.1.length = 0 := fun h => by rw [hll (HQ0.out h)]; rfl
          generalize (fitP ms).1 = G1 at hfm
          generalize (fitP ms).2.1 = L1 at hfm hqa
          have HFM7 := Lib.hid hfm
          have HE2 := Lib.hid he2
          clear hfm hx7 h7 hrun hg7 hT hsz h4 hz hless hrl hll hlm he1 he2 hl1 hrs10 HFM HRQ10 HRA10 HLESS HMORE HRQ hle7
          refine tailF 9 _ _ 1 (by kernel_rfl) rfl ?_ (fun a w q => tail1 10 _ (by kernel_rfl) (by kernel_rfl) rfl q)
          simp only [Lf, dstAt, Act.put, List.getElem?_toArray, List.getElem?_cons_zero, List.getElem?_cons_succ, Option.bind_some, List.setIfInBounds_toArray, List.set_cons_zero, List.set_cons_succ]
          rw [e8]
          clear e8
          refine wpList_append_run_ rfl _ _ _ rfl rfl rfl HRUN.out ?_
          clear HRUN
          go_wp2_with fail
          refine HFM7.out.mono ?_
          rintro e W8 ⟨v81, v82, rfl, hown81, hown82, hz⟩
          obtain ⟨A81, c81, rfl, _, _⟩ := own_slice hown81
          obtain ⟨A82, c82, rfl, _, _⟩ := own_slice hown82
          have hfe := HFE.out W8 hz
          unfold FitRet at hfe
          rw [HE2.out] at hfe
          have hxw8 : Ext w W8 := Ext.trans hxw7 hz
          generalize (fitP ls).1 = G2 at hfe
          generalize (fitP ls).2.1 = L2 at hfe hqb
          have HFE8 := Lib.hid hfe
          clear hfe HFE HFM7 HE2 hown81 hown82 hz
          generalize G1.length = m1
          generalize L1.length = m2 at hqa ⊢
          go_wp2_with fail
          refine HFE8.out.mono ?_
          rintro e W9 ⟨v91, v92, rfl, hown91, hown92, hz⟩
          obtain ⟨A91, c91, rfl, _, _⟩ := own_slice hown91
          obtain ⟨A92, c92, rfl, _, _⟩ := own_slice hown92
          have hxw9 : Ext w W9 := Ext.trans hxw8 hz
          clear HFE8 hown91 hown92 hz
          generalize G2.length = m3
          generalize L2.length = m4 at hqb ⊢
          rcases Nat.eq_zero_or_pos q0 with h0 | h0
          · obtain rfl := hqa h0
            obtain rfl := hqb h0
            subst h0
            go_wp2_with fail
            go_ret
            exact ⟨rfl, hxw9⟩
          · have h0' : (0 : Int) < (q0 : Int) := by omega
            clear hqa hqb
            go_wp2_with fail
            go_ret
            exact ⟨rfl, hxw9⟩
        · rw [if_pos rfl, List.append_nil] at hfi
          rw [← hfi] at HJ HO
          clear hfi HF
          go_upto_region 23 with (fail)
          have hsl := HJ.out.lt
          have e0 : wr.cell? ⟨g, 0, none⟩ = some (.int .i64 im) := HJ.out.cell 0
          have e1 : wr.cell? ⟨g, 1, none⟩ = some (.slice A3 fin.length c3) := HJ.out.cell 1
          have ho5 := HO14.out.ext hy
          have ho3 := HO.out
          have ho5n : wr.ownsRow W3.heap.size 30 2 (.slice (some ⟨g14, 0, none⟩) n c14) n (rs.flatMap reqCells) := by
            have h9 := ho5
            unfold OwnR at h9
            rw [← HNL.out] at h9
            exact h9
          have hra14 := RA.of_own (cells := reqCells) ho5n HNL.out.symm (by omega)
          have hil : i < rs.length := by rw [← HNL.out]; exact hin
          obtain ⟨b9, o9, hz9, hA9, -, hc9⟩ := hra14.at_ req_len hin
          injection hA9 with hA9
          injection hA9 with q1 q2 _
          have s0 := hc9 0 (by omega)
          have s1 := hc9 1 (by omega)
          rw [← q1, ← q2, Nat.zero_add, Nat.add_zero] at s0
          rw [← q1, ← q2, Nat.zero_add] at s1
          have s0 : wr.cell? ⟨g14, i * 2, none⟩ = some (.int .i64 rs[i].im) := s0
          have s1 : wr.cell? ⟨g14, i * 2 + 1, none⟩ = some (.slice rs[i].a rs[i].n rs[i].c) := s1
          have f0 : wr.frozen? ⟨g14, i * 2, none⟩ = false := own_unfrozen ho5 (i * 2)
          have f1 : wr.frozen? ⟨g14, i * 2 + 1, none⟩ = false := own_unfrozen ho5 (i * 2 + 1)
          have hset := own_req_set ho5 i hil ⟨im, A3, fin.length, c3, fin⟩
          have hb14 : W3.heap.size ≤ g14 := (World.ownsRow.lt ho5 g14 rfl).1
          have hne3 : ∀ q, (Value.slice A3 fin.length c3).ownBlock = some q → q ≠ g14 := fun q e => by have := (World.ownsRow.lt ho3 q e).1; have := (World.ownsRow.lt HO14.out g14 rfl).2; have := HGW.out; omega
          have ho4 := own_off (own_off ho3 (p := ⟨g14, i * 2, none⟩) hne3 (.int .i64 im)) (p := ⟨g14, i * 2 + 1, none⟩) hne3 (.slice A3 fin.length c3)
          have hx35 := Ext.trans HX35.out hy
          have hx10 : Ext W3 ((wr.setCell ⟨g14, i * 2, none⟩ (.int .i64 im)).setCell ⟨g14, i * 2 + 1, none⟩ (.slice A3 fin.length c3)) := (hx35.setCell (p := ⟨g14, i * 2, none⟩) hb14 (.int .i64 im)).setCell (p := ⟨g14, i * 2 + 1, none⟩) hb14 (.slice A3 fin.length c3)
          have hwe : wr.setCells g14 (i * 2) [.int .i64 im, .slice A3 fin.length c3] = (wr.setCell ⟨g14, i * 2, none⟩ (.int .i64 im)).setCell ⟨g14, i * 2 + 1, none⟩ (.slice A3 fin.length c3) := rfl
          dsimp only at hset
          rw [← hwe] at hset ho4 hx10
          clear hwe
          have HSET := Lib.hid hset
          have HO4 := Lib.hid ho4
          have HX10 := Lib.hid hx10
          generalize rs[i].im = oim at s0
          generalize rs[i].a = oa at s1
          generalize rs[i].n = on at s1
          generalize rs[i].c = oc at s1
          have hs9 : RowS reqCells 2 W3.heap.size 30 g14 n c14 wr rs := ⟨HNL.out.symm, ho5n⟩
          have HT9 := Lib.hid (hs9.there req_len hil)
          clear hs9 ho5n ho5 ho3 hra14 hc9 q1 q2 hset hb14 hne3 ho4 hx35 hx10 HJ HO hy HC1
          go_upto_region 24 with (refine wpList_store_st rfl _ _ _ rfl g14 (i * 2) _ [.int .i64 im, .slice A3 fin.length c3] rfl rfl rfl HT9.out (by kernel_rfl) (by simp [Value.oneCell']) ?_)
          obtain ⟨W10, hW10⟩ : ∃ W, W = wr.setCells g14 (i * 2) [.int .i64 im, .slice A3 fin.length c3] := ⟨_, rfl⟩
          rw [← hW10] at HSET HO4 HX10 ⊢
          clear e0 e1 s0 s1 f0 f1 hsl HT9 hW10
          have hrs10 : Ext W2 W10 := Ext.trans HX23.out HX10.out
          have hrq10 := HRQ.out.below hrs10
          have hset := HSET.out
          unfold OwnR at hset
          rw [List.length_set, ← HNL.out] at hset
          obtain ⟨hrm, hlm⟩ := HMORE.out ⟨im, A3, fin.length, c3, fin⟩ HFIN.out rfl
          obtain ⟨he1, -⟩ := fit_lack _ hrm
          have hsl : (rs.set i ⟨im, A3, fin.length, c3, fin⟩).length = rs.length := List.length_set
          have hmore : Rqs W10 W10.heap.size (some ⟨g14, 0, none⟩) n c14 (rs.set i ⟨im, A3, fin.length, c3, fin⟩) := by
            refine ⟨RA.of_own (cells := reqCells) hset (by rw [hsl]; exact HNL.out.symm) (by omega), fun r hr => ?_⟩
            rcases List.mem_or_eq_of_mem_set hr with hr | rfl
            · exact ⟨(hrq10.each r hr).1.more (Below.size hrs10), (hrq10.each r hr).2⟩
            · exact ⟨RA.of_own (cells := intCells) HO4.out rfl (by have := HFL.out; dsimp only; omega), by have := HFL.out; dsimp only; omega⟩
          generalize rs.set i ⟨im, A3, fin.length, c3, fin⟩ = ms at hrm hlm he1 hmore hsl
          have HFM := Lib.hid (fun (W : World) (hW : Ext W10 W) => fit_any ms _ n c14 W ((hmore.below hW).more (Below.size hW)) (by omega))
          have HRA10 := Lib.hid hrq10.out
          have HRQ10 := Lib.hid hrq10
          have hlo : b < W10.heap.size := Nat.lt_of_lt_of_le hbw (Below.size hrs10)
          clear hmore hset hrm hsl HSET HO4 hrq10
          have hnc9 := HRA10.out.cap
          have hii : (i : Int) ≤ (n : Int) := by omega
          have hi1 : (i : Int) + 1 ≤ (n : Int) := by omega
          have hi2 : ((i : Int) + 1).toNat = i + 1 := by omega
          have hi3 : (0 : Int) ≤ (i : Int) + 1 := by omega
          have hnci : (n : Int) ≤ (c : Int) := by omega
          refine wp_region_obl 9 (fun ix vals v w1 => match ix with | 0 => ∃ g, v = .slice (some ⟨g, 0, none⟩) 0 0 ∧ W10.heap.size ≤ g ∧ Blk w1 g 30 #[] | 1 => v = .slice (some ⟨b, o, none⟩) n c | 2 => v = .int .i64 i | 3 => v = .slice (some ⟨b, o, none⟩) i c | 4 => OwnR w1 W10.heap.size v (rs.take i) | 5 => v = .slice (some ⟨b, o, none⟩) n c | 6 => v = .int .i64 i | 7 => v = .int .i64 (i + 1) | _ => ∃ T, v = .slice T (n - (i + 1)) (c - (i + 1)) ∧ W10.heap.size ≤ w1.heap.size ∧ RA reqCells 2 w1 W2.heap.size T (n - (i + 1)) (c - (i + 1)) (rs.drop (i + 1))) (by kernel_rfl) (by kernel_rfl) ?_ ?_ ?_ ?_
          · intro ix vals v w1 w2 hi hr hx
            match ix, hr with
            | 0, hr => obtain ⟨g, h1, h2, h3⟩ := hr; exact ⟨g, h1, h2, h3.ext hx⟩
            | 1, hr => exact hr
            | 2, hr => exact hr
            | 3, hr => exact hr
            | 4, hr => exact hr.ext hx
            | 5, hr => exact hr
            | 6, hr => exact hr
            | 7, hr => exact hr
            | (kx + 8), hr => obtain ⟨T, h1, h2, h3⟩ := hr; exact ⟨T, h1, Nat.le_trans h2 (Below.size hx), h3.below (hx.mono (Nat.le_trans (Below.size hrs10) h2))⟩
          · intro ix vals vals_ v w1 hi hv hr
            exact hr
          · refine obls_ofT [some 128, some 129, some 130, some 131, some 132, some 133, some 134, some 135, some 136, some 137, some 18] [(8, .slice (some ⟨b, o, none⟩) n c), (12, .int .i64 i)] 172 (by kernel_rfl) (by kernel_rfl) ⟨by kernel_rfl, by kernel_rfl, trivial⟩ ?_
            refine ⟨?_, ?_, ?_, ?_, ?_, ?_, ?_, ?_, ?_, trivial⟩
            · intro vals w1 hx hd
              refine .run [] { dst := some 0, op := Go.Op.buildSlice 31 0 #[], type := 31, pos := "", after := #[], guard := none } 128 trivial (by kernel_rfl) (by kernel_rfl) (by kernel_rfl) rfl rfl rfl ?_
              clear hd
              have hz9 := Below.size hx.undrew
              go_wp2
              exact ⟨rfl, (by repeat (first | exact Below.refl _ _ | assumption | refine Below.drew ?_ | refine below_drewN ?_ _ | refine bl_alloc ?_ _ | refine Below.setCell ?_ (by first | (simp; done) | omega | (simp; omega)) _ | refine bl_then ?_ (by assumption))), _, rfl, by omega, Blk.new _ _ _⟩
            · intro vals w1 hx hd
              refine .run [(8, .slice (some ⟨b, o, none⟩) n c)] { dst := some 0, op := Go.Op.move (Go.Operand.const (.slice (some ⟨b, o, none⟩) n c)), type := 31, pos := "", after := #[], guard := none } 129 ⟨.out (by kernel_rfl) (by kernel_rfl), trivial⟩ (by kernel_rfl) (by kernel_rfl) (by kernel_rfl) rfl rfl rfl ?_
              clear hd
              go_wp2
              exact ⟨rfl, Ext.refl _, rfl⟩
            · intro vals w1 hx hd
              refine .run [(12, .int .i64 i)] { dst := some 0, op := Go.Op.move (Go.Operand.const (.int .i64 i)), type := 3, pos := "", after := #[], guard := none } 130 ⟨.out (by kernel_rfl) (by kernel_rfl), trivial⟩ (by kernel_rfl) (by kernel_rfl) (by kernel_rfl) rfl rfl rfl ?_
              clear hd
              go_wp2
              exact ⟨rfl, Ext.refl _, rfl⟩
            · intro vals w1 hx hd
              have e1 : vals 1 = .slice (some ⟨b, o, none⟩) n c := hd 1 (by decide)
              have e2 : vals 2 = .int .i64 i := hd 2 (by decide)
              refine .run [(129, .slice (some ⟨b, o, none⟩) n c), (130, .int .i64 i)] { dst := some 0, op := Go.Op.slice 31 (Go.Operand.const (.slice (some ⟨b, o, none⟩) n c)) none (some (Go.Operand.const (.int .i64 i))) none, type := 31, pos := "", after := #[], guard := none } 131 ⟨.inn 1 (by kernel_rfl) e1, .inn 2 (by kernel_rfl) e2, trivial⟩ (by kernel_rfl) (by kernel_rfl) (by kernel_rfl) rfl rfl rfl ?_
              clear hd e1 e2
              go_wp2
              exact ⟨rfl, Ext.refl _, rfl⟩
            · intro vals w1 hx hd
              have r0 : (fun v w1 => ∃ g, v = .slice (some ⟨g, 0, none⟩) 0 0 ∧ W10.heap.size ≤ g ∧ Blk w1 g 30 #[]) (vals 0) w1 := hd 0 (by decide)
              dsimp only at r0
              obtain ⟨g0, e_0, hg0, j0⟩ := r0
              have e3 : vals 3 = .slice (some ⟨b, o, none⟩) i c := hd 3 (by decide)
              refine .run [(128, .slice (some ⟨g0, 0, none⟩) 0 0), (131, .slice (some ⟨b, o, none⟩) i c)] { dst := some 0, op := Go.Op.call { callee := Go.Callee.builtin Go.Builtin.append, args := #[(Go.Operand.const (.slice (some ⟨g0, 0, none⟩) 0 0)), (Go.Operand.const (.slice (some ⟨b, o, none⟩) i c))], argTypes := #[31, 31] }, type := 31, pos := "", after := #[], guard := none } 132 ⟨.inn 0 (by kernel_rfl) e_0, .inn 3 (by kernel_rfl) e3, trivial⟩ (by kernel_rfl) (by kernel_rfl) (by kernel_rfl) rfl rfl rfl ?_
              clear hd e_0 e3
              obtain ⟨v9, w9, hrun, hx9, ho9⟩ := copy_req 31 (rs.take i) W2.heap.size g0 i c (some ⟨b, o, none⟩) W10.heap.size j0 hg0 (by omega) ((HRA10.out.below (hx.undrew.mono (Below.size hrs10))).cut req_len i (by omega))
              refine wpList_append_run_ rfl _ _ _ rfl rfl rfl hrun ?_
              clear hrun
              go_wp2
              exact ⟨rfl, hx9, ho9⟩
            · intro vals w1 hx hd
              refine .run [(8, .slice (some ⟨b, o, none⟩) n c)] { dst := some 0, op := Go.Op.move (Go.Operand.const (.slice (some ⟨b, o, none⟩) n c)), type := 31, pos := "", after := #[], guard := none } 133 ⟨.out (by kernel_rfl) (by kernel_rfl), trivial⟩ (by kernel_rfl) (by kernel_rfl) (by kernel_rfl) rfl rfl rfl ?_
              clear hd
              go_wp2
              exact ⟨rfl, Ext.refl _, rfl⟩
            · intro vals w1 hx hd
              refine .run [(12, .int .i64 i)] { dst := some 0, op := Go.Op.move (Go.Operand.const (.int .i64 i)), type := 3, pos := "", after := #[], guard := none } 134 ⟨.out (by kernel_rfl) (by kernel_rfl), trivial⟩ (by kernel_rfl) (by kernel_rfl) (by kernel_rfl) rfl rfl rfl ?_
              clear hd
              go_wp2
              exact ⟨rfl, Ext.refl _, rfl⟩
            · intro vals w1 hx hd
              have e6 : vals 6 = .int .i64 i := hd 6 (by decide)
              refine .run [(134, .int .i64 i)] { dst := some 0, op := Go.Op.binOp Go.BinOp.add 3 (Go.Operand.const (.int .i64 i)) (Go.Operand.const (Go.Value.int Go.IntKind.i64 1)) 3, type := 3, pos := "", after := #[], guard := none } 135 ⟨.inn 6 (by kernel_rfl) e6, trivial⟩ (by kernel_rfl) (by kernel_rfl) (by kernel_rfl) rfl rfl rfl ?_
              clear hd e6
              go_wp2
              exact ⟨rfl, Ext.refl _, rfl⟩
            · intro vals w1 hx hd
              have e5 : vals 5 = .slice (some ⟨b, o, none⟩) n c := hd 5 (by decide)
              have e7 : vals 7 = .int .i64 (i + 1) := hd 7 (by decide)
              refine .run [(133, .slice (some ⟨b, o, none⟩) n c), (135, .int .i64 (i + 1))] { dst := some 0, op := Go.Op.slice 31 (Go.Operand.const (.slice (some ⟨b, o, none⟩) n c)) (some (Go.Operand.const (.int .i64 (i + 1)))) none none, type := 31, pos := "", after := #[], guard := none } 136 ⟨.inn 5 (by kernel_rfl) e5, .inn 7 (by kernel_rfl) e7, trivial⟩ (by kernel_rfl) (by kernel_rfl) (by kernel_rfl) rfl rfl rfl ?_
              clear hd e5 e7
              have hz9 := Below.size hx.undrew
              have hta := (HRA10.out.below (hx.undrew.mono (Below.size hrs10))).tail req_len (i + 1) (by omega)
              by_cases hce : c = i + 1
              · have hce2 : c - (i + 1) = 0 := (by omega); rw [if_pos hce, hce2] at hta; go_wp2; exact ⟨rfl, Ext.refl _, _, rfl, hz9, hta⟩
              · rw [if_neg hce] at hta; go_wp2; exact ⟨rfl, Ext.refl _, _, rfl, hz9, hta⟩
          intro vals W6 hz hf
          have h4 : OwnR W6 W10.heap.size (vals 4) (rs.take i) := hf 4 (by omega)
          obtain ⟨T, e8, hsz, hT⟩ : ∃ T, vals 8 = .slice T (n - (i + 1)) (c - (i + 1)) ∧ W10.heap.size ≤ W6.heap.size ∧ RA reqCells 2 W6 W2.heap.size T (n - (i + 1)) (c - (i + 1)) (rs.drop (i + 1)) := hf 8 (by omega)
          have hz := hz.undrew
          clear hf
          have hl1 : (rs.take i).length + (n - (i + 1)) ≤ 900 := by rw [List.length_take]; omega
          obtain ⟨v7, W7, hrun, hg7, h7⟩ := join_req 31 (rs.take i) (rs.drop (i + 1)) (vals 4) W10.heap.size W2.heap.size (n - (i + 1)) (c - (i + 1)) T h4 hT hl1 (Below.size hz)
          have hx7 : Ext W10 W7 := hz.grown hg7 (Below.size hz) (fun q e => (World.ownsRow.lt h4 q e).1)
          obtain ⟨A7, c7, hv7, _, _⟩ := own_slice h7
          subst hv7
          obtain ⟨hrl, hll⟩ := HLESS.out
          obtain ⟨he2, -⟩ := fit_lack _ hrl
          have hle7 : (rs.take i ++ rs.drop (i + 1)).length ≤ 8 := by rw [List.length_append, List.length_take, List.length_drop]; have := HNL.out; omega
          have hless : Rqs W7 W7.heap.size A7 (rs.take i ++ rs.drop (i + 1)).length c7 (rs.take i ++ rs.drop (i + 1)) := by
            refine ⟨RA.of_own (cells := reqCells) h7 rfl (by omega), fun r hr => ?_⟩
            have hr' : r ∈ rs := (by
              rcases List.mem_append.1 hr with hr | hr
              · exact List.mem_of_mem_take hr
              · exact List.mem_of_mem_drop hr)
            have hb7 : Below W2.heap.size W10 W7 := hx7.mono (Below.size hrs10)
            exact ⟨((HRQ10.out.each r hr').1.below hb7).more (Nat.le_trans (Below.size hrs10) (Below.size hx7)), (HRQ10.out.each r hr').2⟩
          generalize rs.take i ++ rs.drop (i + 1) = ls at hrl hll he2 hless hle7 hrun
          have HFE := Lib.hid (fun (W : World) (hW : Ext W7 W) => fit_any ls _ _ c7 W ((hless.below hW).more (Below.size hW)) (by omega))
          have hfm := HFM.out W7 hx7
          have hxw7 : Ext w W7 := Ext.trans HXW.out (Ext.trans hrs10 hx7)
          have HRUN := Lib.hid hrun
          unfold FitRet at hfm
          rw [he1] at hfm
          have hqa : q0 = 0 → (fitP ms).2.1.length = 0 := fun h => by rw [hlm (HQ0.out h)]; rfl
          have hqb : q0 = 0 → (fitP ls).2.1.length = 0 := fun h => by rw [hll (HQ0.out h)]; rfl
          generalize (fitP ms).1 = G1 at hfm
          generalize (fitP ms).2.1 = L1 at hfm hqa
          have HFM7 := Lib.hid hfm
          have HE2 := Lib.hid he2
          clear hfm hx7 h7 hrun hg7 hT hsz h4 hz hless hrl hll hlm he1 he2 hl1 hrs10 HFM HRQ10 HRA10 HLESS HMORE HRQ hle7
          refine tailF 9 _ _ 1 (by kernel_rfl) rfl ?_ (fun a w q => tail1 10 _ (by kernel_rfl) (by kernel_rfl) rfl q)
          simp only [Lf, dstAt, Act.put, List.getElem?_toArray, List.getElem?_cons_zero, List.getElem?_cons_succ, Option.bind_some, List.setIfInBounds_toArray, List.set_cons_zero, List.set_cons_succ]
          rw [e8]
          clear e8
          refine wpList_append_run_ rfl _ _ _ rfl rfl rfl HRUN.out ?_
          clear HRUN
          go_wp2_with fail
          refine HFM7.out.mono ?_
          rintro e W8 ⟨v81, v82, rfl, hown81, hown82, hz⟩
          obtain ⟨A81, c81, rfl, _, _⟩ := own_slice hown81
          obtain ⟨A82, c82, rfl, _, _⟩ := own_slice hown82
          have hfe := HFE.out W8 hz
          unfold FitRet at hfe
          rw [HE2.out] at hfe
          have hxw8 : Ext w W8 := Ext.trans hxw7 hz
          generalize (fitP ls).1 = G2 at hfe
          generalize (fitP ls).2.1 = L2 at hfe hqb
          have HFE8 := Lib.hid hfe
          clear hfe HFE HFM7 HE2 hown81 hown82 hz
          generalize G1.length = m1
          generalize L1.length = m2 at hqa ⊢
          go_wp2_with fail
          refine HFE8.out.mono ?_
          rintro e W9 ⟨v91, v92, rfl, hown91, hown92, hz⟩
          obtain ⟨A91, c91, rfl, _, _⟩ := own_slice hown91
          obtain ⟨A92, c92, rfl, _, _⟩ := own_slice hown92
          have hxw9 : Ext w W9 := Ext.trans hxw8 hz
          clear HFE8 hown91 hown92 hz
          generalize G2.length = m3
          generalize L2.length = m4 at hqb ⊢
          rcases Nat.eq_zero_or_pos q0 with h0 | h0
          · obtain rfl := hqa h0
            obtain rfl := hqb h0
            subst h0
            go_wp2_with fail
            go_ret
            exact ⟨rfl, hxw9⟩
          · have h0' : (0 : Int) < (q0 : Int) := by omega
            clear hqa hqb
            go_wp2_with fail
            go_ret
            exact ⟨rfl, hxw9⟩
end Go.Proofs.Ytgbfhkildbhhoaa
