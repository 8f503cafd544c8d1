/- The law TreeDelivers of the tree layer: for every input the call returns true and each argument reads afterwards as it read before: the options that are delivered are those that have a slot in a pass that is not lost. No condition. -/
import Derived.Test.YtikphbgfcpamgaaP33
namespace Go.Proofs.Ytikphbgfcpamgaa
open Go.RowKit

theorem bit8 : ∀ (S : Fin 256) (i : Fin 8), (((S.val : Int) / 2 ^ i.val).tmod 2 == 1) = S.val.testBit i.val := by decide +kernel
theorem car_pass {l : List Op} (h : carP l = true) {o : Op} (ho : o ∈ l) : ∀ s ∈ o.l, 0 ≤ s.p ∧ s.p ≤ 63 := by
  have H : ∀ (sat : Int) (r : List Op) (seen : List Int), okR sat seen r = true → ∀ o ∈ r, ∀ s ∈ o.l, 0 ≤ s.p ∧ s.p ≤ 63 := by
    intro sat r
    induction r with
    | nil => intro _ _ o ho; cases ho
    | cons x r ih =>
      intro seen h o ho s hs
      rw [okR, Bool.and_eq_true, Bool.and_eq_true, List.all_eq_true] at h
      rcases List.mem_cons.1 ho with rfl | ho
      · exact inB_iff.1 (h.1.2 s hs)
      · exact ih _ h.2 o ho s hs
  have h1 := (carP_iff.1 h).1
  cases l with
  | nil => cases ho
  | cons x r =>
    unfold okL at h1
    rw [Bool.and_eq_true] at h1
    exact H _ _ _ h1.2 o ho
theorem del_made (xs : List Six) (x : Int) (os : List Opt) (A TA LA : Option Addr) (n c tn tc ln lc : Nat) (w : World) (ho : opsP os = madeP xs) (h : Ops w w.heap.size A n c os) (hT : RA brnCells 5 w w.heap.size TA tn tc (treeP (madeP xs)).1) (hL : RA intCells 1 w w.heap.size LA ln lc (lossP x)) :
    Calls Try.prog 25 #[.agg #[.int .i64 (treeP (madeP xs)).2, .slice TA tn tc], .slice A n c, .slice LA ln lc] w fun e w' => e = .returned (.tuple #[.int .i64 ((gotP (runP (qP (madeP xs) (lossP x)) (srt (madeP xs)) 0) : Nat) : Int), .int .i64 0]) ∧ Ext w w' := by
  have hb := delivered_any _ TA tn tc (treeP (madeP xs)).2 os A n c LA ln lc (lossP x) w hT h hL
  rw [ho, made_fol] at hb
  exact hb
/-- The passes that were met. -/
def metC (M : List Int) : Array Value := #[.bool (decide ((0 : Int) ∈ M)), .bool (decide ((1 : Int) ∈ M)), .bool (decide ((2 : Int) ∈ M)), .bool (decide ((3 : Int) ∈ M)), .bool (decide ((4 : Int) ∈ M)), .bool (decide ((5 : Int) ∈ M))]
theorem met_nil : metC [] = #[.bool false, .bool false, .bool false, .bool false, .bool false, .bool false] := rfl
theorem met_at (M : List Int) {q : Nat} (hq : q < 6) : (metC M)[q]? = some (.bool (decide ((q : Int) ∈ M))) := by
  match q, hq with
  | 0, _ => rfl
  | 1, _ => rfl
  | 2, _ => rfl
  | 3, _ => rfl
  | 4, _ => rfl
  | 5, _ => rfl
theorem met_set (M : List Int) {q : Nat} (hq : q < 6) : (metC M).setIfInBounds q (.bool true) = metC (if (q : Int) ∈ M then M else M ++ [(q : Int)]) := by
  refine Array.ext_getElem? fun i => ?_
  rw [Array.getElem?_setIfInBounds]
  rcases Nat.lt_or_ge i 6 with hi | hi
  · rw [met_at _ hi, met_at _ hi]
    by_cases h : q = i
    · subst h
      rw [if_pos rfl, if_pos (by exact hq)]
      congr 2
      refine (decide_eq_true ?_).symm
      split
      · assumption
      · simp
    · rw [if_neg h]
      congr 2
      refine decide_eq_decide.2 ?_
      split
      · exact Iff.rfl
      · rw [List.mem_append, List.mem_singleton]
        exact ⟨.inl, fun h2 => by rcases h2 with h2 | h2; exact h2; exact absurd (by omega) h⟩
  · have e1 : (metC M)[i]? = none := Array.getElem?_eq_none hi
    have e2 : (metC (if (q : Int) ∈ M then M else M ++ [(q : Int)]))[i]? = none := Array.getElem?_eq_none hi
    rw [e1, e2, if_neg (by omega)]
set_option maxRecDepth 100000 in
set_option maxHeartbeats 8000000 in
theorem delivers_walk (z0 : List Six) (a0 : Option Addr) (len0 cap0 : Nat) (a1 : Int) (w : World) (g0 : RA sixCells 6 w w.heap.size a0 len0 cap0 z0) (o0 : ∀ x ∈ z0, x.ok) (g1 : I64ok a1) :
    Calls Try.prog 5 #[.slice a0 len0 cap0, .int .i64 a1] w fun e w' => e = .returned (.bool true) ∧ Below w.heap.size w w' := by
  have HSANE := Lib.hid (fun W : World => sane_any W)
  have HMADE := Lib.hid (fun (W : World) (hW : Ext w W) => made_ops z0 a0 len0 cap0 W (ra_ext g0 hW) o0)
  have HLOSS := Lib.hid (fun (W : World) => loss_ra a1 W g1)
  have HBLD := Lib.hid (fun (W : World) (os : List Opt) (A : Option Addr) (n c : Nat) ho h => build_made z0 os A n c W ho h)
  have HDEL := Lib.hid (fun (W : World) (os : List Opt) (A TA LA : Option Addr) (n c tn tc ln lc : Nat) ho h hT hL => del_made z0 a1 os A TA LA n c tn tc ln lc W ho h hT hL)
  have hfew := made_few z0
  have hgot : ∀ (i : Nat) (o : Op), (madeP z0)[i]? = some o → (gotP (runP (qP (madeP z0) (lossP a1)) (srt (madeP z0)) 0)).testBit i = o.l.any (fun s => !decide (s.p ∈ lossP a1)) := fun i o h => got_bit (made_car z0) h
  have hglt := got_lt (q := qP (madeP z0) (lossP a1)) (made_car z0)
  have hsix : ∀ (i : Nat) (o : Op), (madeP z0)[i]? = some o → o.l.length ≤ 6 ∧ ∀ s ∈ o.l, 0 ≤ s.p ∧ s.p ≤ 63 := fun i o h => ⟨car_six (made_car z0) h, car_pass (made_car z0) (List.mem_of_getElem? h)⟩
  clear g0 o0 g1
  generalize lossP a1 = lost at HLOSS HDEL hgot hglt
  generalize gotP (runP (qP (madeP z0) lost) (srt (madeP z0)) 0) = got at HDEL hgot hglt
  generalize (treeP (madeP z0)).1 = T at HBLD HDEL
  generalize (treeP (madeP z0)).2 = st at HBLD HDEL
  generalize madeP z0 = l at HMADE HBLD HDEL hgot hglt hfew hsix
  have HSIX := Lib.hid hsix
  have HGOT := Lib.hid hgot
  clear hsix hgot
  go_enter Try.func5, Try.ntmps5
  go_wp2_with fail
  refine (HSANE.out _).mono ?_
  rintro e W1 ⟨rfl, hx1⟩
  go_wp2_with fail
  refine (HMADE.out W1 hx1).mono ?_
  rintro e W2 ⟨A, c, os, hos, rfl, hops, hy⟩
  have hx2 := Ext.trans hx1 hy
  have HOPS := Lib.hid hops
  clear hx1 hy hops HMADE HSANE
  go_wp2_with fail
  refine (HLOSS.out W2).mono ?_
  rintro e W3 ⟨LA, lc, rfl, hl, hy⟩
  have hx3 := Ext.trans hx2 hy
  have HOPS := Lib.hid (HOPS.out.ext hy)
  have HL := Lib.hid hl
  clear hx2 hy hl HLOSS
  go_wp2_with fail
  refine (HBLD.out W3 os A _ c hos HOPS.out).mono ?_
  rintro e W4 ⟨TA, tc, rfl, hT, hy⟩
  have hx4 := Ext.trans hx3 hy
  have HOPS := Lib.hid (HOPS.out.ext hy)
  have HL := Lib.hid (ra_ext HL.out hy)
  have HT := Lib.hid hT
  clear hx3 hy hT HBLD
  have hxa : Ext W4 (W4.alloc (.cells #[.int .i64 st, .slice TA T.length tc] 33)) := bl_alloc (Below.refl _ _) _
  have J := Blk.new W4 33 #[.int .i64 st, .slice TA T.length tc]
  go_upto_region 7 with (fail)
  generalize W4.heap.size = gT at J ⊢
  generalize W4.alloc (.cells #[.int .i64 st, .slice TA T.length tc] 33) = W5 at hxa J ⊢
  have hx5 := Ext.trans hx4 hxa
  have HOPS := Lib.hid (HOPS.out.ext hxa)
  have HL := Lib.hid (ra_ext HL.out hxa)
  have HT := Lib.hid (ra_ext HT.out hxa)
  have HJ := Lib.hid J
  clear hx4 hxa J
  have t0 : W5.cell? ⟨gT, 0, none⟩ = some (.int .i64 st) := HJ.out.cell 0
  have t1 : W5.cell? ⟨gT, 1, none⟩ = some (.slice TA T.length tc) := HJ.out.cell 1
  go_wp2_with fail
  refine (HDEL.out W5 os A TA LA _ c _ tc _ lc hos HOPS.out HT.out HL.out).mono ?_
  rintro e W6 ⟨rfl, hy⟩
  have hx6 := Ext.trans hx5 hy
  have HOPS := Lib.hid (HOPS.out.ext hy)
  have HL := Lib.hid (ra_ext HL.out hy)
  clear hx5 hy HDEL t0 t1 HT HJ
  have hol := opsP_len hos
  obtain ⟨n, hn⟩ : ∃ n, n = os.length := ⟨_, rfl⟩
  obtain ⟨ln, hln⟩ : ∃ n, n = lost.length := ⟨_, rfl⟩
  rw [← hn] at HOPS hol ⊢
  rw [← hln] at HL ⊢
  rw [← hol] at hfew hglt
  have HN := Lib.hid hn
  have HLN := Lib.hid hln
  have HOS := Lib.hid hos
  clear hn hln hos hol
  have hg256 : got < 256 := Nat.lt_of_lt_of_le hglt (Nat.pow_le_pow_right (n := 2) (by decide) hfew)
  obtain ⟨P2, hP2⟩ : ∃ P : Nat, P = 2 ^ n := ⟨_, rfl⟩
  have hP256 : P2 ≤ 256 := by rw [hP2]; exact Nat.pow_le_pow_right (n := 2) (by decide) hfew
  have hpw : IntKind.i64.wrap ((2 : Int) ^ n) = (P2 : Int) := by
    have h2 : ((2 : Int) ^ n) = ((2 ^ n : Nat) : Int) := by simp
    rw [h2, ← hP2]
    exact IntWalk.i64_in _ (by omega)
  rw [← hP2] at hglt
  have hgz : (got : Int) < (P2 : Int) := by omega
  have hgz0 : ¬ (got : Int) < 0 := by omega
  have hgz1 : ¬ (P2 : Int) ≤ (got : Int) := by omega
  have hn0 : (0 : Int) ≤ (n : Int) := by omega
  have hn64 : (n : Int) ≤ 64 := by omega
  clear hP2
  go_upto_region 10 with (fail)
  clear hgz hgz0 hgz1 hn0 hn64 hpw hP256 hglt
  generalize decide ((got : Int) < 0) = q1
  generalize decide (P2 ≤ got) = q2
  generalize (q1 || q2) = q3
  go_wp2_with fail
  go_loopw [12] (fun x wr => ∃ k : Nat, k ≤ n ∧ x = .int .i64 k ∧ Ext W6 wr) (fun x _ => n - (intOf x).toNat)
  case atStart => exact ⟨0, Nat.zero_le _, rfl, Ext.refl _⟩
  case round =>
    obtain ⟨k, hk, rfl, hxq⟩ := hrel
    by_cases hkn : k < n
    · have hkl : k < os.length := by rw [← HN.out]; exact hkn
      have hxe : os[k]? = some os[k] := List.getElem?_eq_getElem hkl
      have hops := HOPS.out.ext hxq
      obtain ⟨b2, o2, hz2, hA2, _, hc2⟩ := hops.out.at_ opt_len hkn
      have hsl := hops.each os[k] (List.getElem_mem hkl)
      have hlx := ops_at HOS.out hxe
      have hgt := HGOT.out k _ hlx
      obtain ⟨h6, hpb⟩ := HSIX.out k _ hlx
      generalize os[k] = x at hc2 hsl hgt h6 hpb
      have c8 : wr.cell? ⟨b2, o2 + k * 9 + 8, none⟩ = some (.slice x.a x.n x.c) := hc2 8 (by omega)
      obtain ⟨oi, oi1, oi2, osa, osf, ost, oi6, osz, oa, on, oc, ol⟩ := x
      dsimp only [Opt.op] at hsl hgt h6 hpb c8
      have hlen := hsl.len
      rw [hlen] at h6
      have hkz : (k : Int) < (n : Int) := by omega
      subst hA2
      obtain ⟨SV, hSV⟩ : ∃ b, b = ol.any (fun s => !decide (s.p ∈ lost)) := ⟨_, rfl⟩
      rw [← hSV] at hgt
      have hb8 := bit8 ⟨got, hg256⟩ ⟨k, by omega⟩
      dsimp only at hb8
      rw [hgt] at hb8
      have hds : lost.length < (diffP [] ol).length → SV = true := fun h => by rw [hSV]; exact diff_saved h
      rw [← HLN.out] at hds
      have HSV0 : Hid (SV = (false || (ol.drop 0).any (fun s => !decide (s.p ∈ lost)))) := Lib.hid (by rw [hSV]; rfl)
      have HDF0 : Hid (diffP [] ol = diffP [] (ol.drop 0)) := Lib.hid rfl
      have HSL := Lib.hid hsl
      have HLEN := Lib.hid hlen
      have HDS := Lib.hid hds
      have HPB := Lib.hid hpb
      obtain ⟨Wk, rfl⟩ : ∃ W, W = wr := ⟨_, rfl⟩
      have hxa : Ext Wk (Wk.alloc (.cells (metC []) 65)) := bl_alloc (Below.refl _ _) _
      have J := Blk.new Wk 65 (metC [])
      rw [met_nil] at hxa J
      have HC8 : Hid (∀ W, Ext Wk W → W.cell? ⟨b2, o2 + k * 9 + 8, none⟩ = some (.slice oa on oc)) := Lib.hid (fun W hx => ext_cell hx c8)
      clear hz2 hc2 hsl hlen hgt hlx hxe hops c8 hSV hkl hds hpb
      go_upto_region 16 with (fail)
      obtain ⟨g, hgg⟩ : ∃ g, g = Wk.heap.size := ⟨_, rfl⟩
      have hgw : Wk.heap.size ≤ g := by omega
      rw [← hgg] at J ⊢
      generalize Wk.alloc _ = W7 at hxa J ⊢
      rw [← met_nil] at J
      clear hgg
      go_wp2_with fail
      go_loopw [13, 14, 16, 17] (fun s p x _ w3 => ∃ (r : Nat) (b : Bool) (M : List Int), r ≤ on ∧ x = .int .i64 r ∧ s = .bool b ∧ p = .int .i64 (M.length : Int) ∧ M.length ≤ r ∧ Hid (SV = (b || (ol.drop r).any (fun s => !decide (s.p ∈ lost)))) ∧ Hid (diffP [] ol = diffP M (ol.drop r)) ∧ Blk w3 g 65 (metC M) ∧ Ext Wk w3) (fun _ _ x _ _ => on - (intOf x).toNat)
      case atStart => exact ⟨0, false, [], Nat.zero_le _, rfl, rfl, rfl, Nat.le_refl _, HSV0, HDF0, J, hxa⟩
      case round =>
        clear HSV0 HDF0 J hxa
        obtain ⟨r, sb, M, hr, rfl, rfl, rfl, hM, HSV, HDF, J, hx3⟩ := hrel
        have hx4 := Ext.trans hxq hx3
        have c8 := HC8.out wr hx3
        by_cases hro : r < on
        · obtain ⟨b3, o3, hz3, hA3, _, hc3⟩ := (ra_ext HSL.out hx3).at_ slt_len hro
          have hsv := HSV.out
          have hdf := HDF.out
          have hpb := HPB.out _ (List.getElem_mem hz3)
          rw [List.drop_eq_getElem_cons hz3, List.any_cons] at hsv
          rw [List.drop_eq_getElem_cons hz3, diffP] at hdf
          generalize ol[r] = s at hc3 hsv hdf hpb
          have s0 : wr.cell? ⟨b3, o3 + r * 3, none⟩ = some (.int .i64 s.p) := hc3 0 (by omega)
          have hrz : (r : Int) < (on : Int) := by omega
          generalize s.p = sp at s0 hsv hdf hpb
          have HCL := Lib.hid (isLost_any LA ln lc lost sp _ wr (ra_ext HL.out hx4))
          have pk := fun W => pickl_any sp 6 W (by omega) (by omega) (by omega) (by omega)
          have hqb := pickP_bd sp 6 (by omega)
          obtain ⟨q, hq⟩ : ∃ q : Nat, pickP sp 6 = (q : Int) := ⟨(pickP sp 6).toNat, by omega⟩
          rw [hq] at pk hqb hdf
          have hq6 : q < 6 := by omega
          have hqz : (q : Int) < 6 := hqb.2
          have hqz0 : (0 : Int) ≤ (q : Int) := hqb.1
          have hcq : wr.cell? ⟨g, q, none⟩ = some (.bool (decide ((q : Int) ∈ M))) := by rw [J.cell]; exact met_at M hq6
          have hfz := J.frozen q
          have hJs := J.set_ q (.bool true)
          rw [met_set M hq6] at hJs
          have hxs : Ext Wk (wr.setCell ⟨g, q, none⟩ (.bool true)) := Below.setCell hx3 hgw _
          have HSVd := Lib.hid hsv
          have HDF2 := hdf
          have PK := Lib.hid pk
          subst hA3
          clear hc3 hz3 hsv hdf pk hq hqb HSV HDF hpb J
          cases sb
          · obtain ⟨dd, hdd⟩ : ∃ d, d = decide (sp ∈ lost) := ⟨_, rfl⟩
            rw [← hdd] at HCL
            have HSV2 : Hid (SV = ((!dd) || (ol.drop (r + 1)).any (fun s => !decide (s.p ∈ lost)))) := Lib.hid (by rw [HSVd.out, ← hdd, Bool.false_or])
            clear HSVd hdd
            go_wp2_with fail
            refine HCL.out.mono ?_
            rintro e w1 ⟨rfl, rfl⟩
            clear HCL
            by_cases hqm : (q : Int) ∈ M
            · rw [decide_eq_true hqm] at hcq
              rw [if_pos hqm] at hJs HDF2
              go_wp2_with fail
              refine (PK.out _).mono ?_
              rintro e w1 ⟨rfl, rfl⟩
              go_wp2_with fail
              refine (PK.out _).mono ?_
              rintro e w1 ⟨rfl, rfl⟩
              go_wp2_with fail
              go_roundw
              case rel => exact ⟨r + 1, _, M, by omega, by go_num, rfl, rfl, by omega, HSV2, HDF2, hJs, hxs⟩
              case measure => simp [intOf]; omega
            · rw [decide_eq_false hqm] at hcq
              rw [if_neg hqm] at hJs HDF2
              go_wp2_with fail
              refine (PK.out _).mono ?_
              rintro e w1 ⟨rfl, rfl⟩
              go_wp2_with fail
              refine (PK.out _).mono ?_
              rintro e w1 ⟨rfl, rfl⟩
              go_wp2_with fail
              go_roundw
              case rel => exact ⟨r + 1, _, M ++ [(q : Int)], by omega, by go_num, rfl, by rw [List.length_append]; go_num, by rw [List.length_append]; simp; omega, HSV2, HDF2, hJs, hxs⟩
              case measure => simp [intOf]; omega
          · have HSV2 : Hid (SV = (true || (ol.drop (r + 1)).any (fun s => !decide (s.p ∈ lost)))) := Lib.hid (by rw [HSVd.out]; simp)
            clear HSVd HCL
            by_cases hqm : (q : Int) ∈ M
            · rw [decide_eq_true hqm] at hcq
              rw [if_pos hqm] at hJs HDF2
              go_wp2_with fail
              refine (PK.out _).mono ?_
              rintro e w1 ⟨rfl, rfl⟩
              go_wp2_with fail
              refine (PK.out _).mono ?_
              rintro e w1 ⟨rfl, rfl⟩
              go_wp2_with fail
              go_roundw
              case rel => exact ⟨r + 1, _, M, by omega, by go_num, rfl, rfl, by omega, HSV2, HDF2, hJs, hxs⟩
              case measure => simp [intOf]; omega
            · rw [decide_eq_false hqm] at hcq
              rw [if_neg hqm] at hJs HDF2
              go_wp2_with fail
              refine (PK.out _).mono ?_
              rintro e w1 ⟨rfl, rfl⟩
              go_wp2_with fail
              refine (PK.out _).mono ?_
              rintro e w1 ⟨rfl, rfl⟩
              go_wp2_with fail
              go_roundw
              case rel => exact ⟨r + 1, _, M ++ [(q : Int)], by omega, by go_num, rfl, by rw [List.length_append]; go_num, by rw [List.length_append]; simp; omega, HSV2, HDF2, hJs, hxs⟩
              case measure => simp [intOf]; omega
        · obtain rfl : r = on := by omega
          have hdr : ol.drop r = [] := List.drop_of_length_le (by rw [HLEN.out]; exact Nat.le_refl _)
          obtain rfl : SV = sb := by rw [HSV.out, hdr]; simp
          have hdm : diffP [] ol = M := by rw [HDF.out, hdr]; rfl
          have hds := HDS.out
          rw [hdm] at hds
          have hrz : ¬ (r : Int) < (r : Int) := by omega
          clear hdm hdr HSV HDF HSL HLEN HDS HC8 J
          cases SV
          · have hml : ¬ (ln : Int) < (M.length : Int) := fun h => by have := hds (by omega); cases this
            clear hds
            go_wp2_with fail
            go_roundw
            case rel => exact ⟨k + 1, by omega, by go_num, hx4⟩
            case measure => simp [intOf]; omega
          · clear hds
            by_cases hml : (ln : Int) < (M.length : Int)
            · go_wp2_with fail
              go_roundw
              case rel => exact ⟨k + 1, by omega, by go_num, hx4⟩
              case measure => simp [intOf]; omega
            · go_wp2_with fail
              go_roundw
              case rel => exact ⟨k + 1, by omega, by go_num, hx4⟩
              case measure => simp [intOf]; omega
    · have hkz : ¬ (k : Int) < (n : Int) := by omega
      have HX := Lib.hid (Ext.trans hx6 hxq)
      go_wp2_with fail
      go_ret
      exact ⟨rfl, HX.out⟩
end Go.Proofs.Ytikphbgfcpamgaa
namespace Go.Proofs.Ytikphbgfcpamgaa
open Go.ChangeShapes Go.WideShapes Go.ChangeAt Go.RowKit Go.Deep
set_option linter.unusedVariables false
set_option maxRecDepth 100000 in
theorem treeDelivers_lifted (os : Os) (started : os.Started) (H : Type) (enc : TypeId × Value → H) :
    ReturnsInHanded {} Try.checked os 5 .any (Rows.treeDeliversSpec.pre6 enc Try.prog Try.f5 Rows.treeDeliversRow.domain false) (Rows.treeDeliversSpec.post enc Try.prog Try.f5 false true false false) := by
  refine returnsInHanded_of_change (C := Try.checked) ownKn started (by kernel_rfl) Try.func5
    (ChangeSpec.witness6 (enc := enc) (C := Try.checked) false ⟨#[], #[.slice none 0 0, .int .i64 0], []⟩ 8 (by kernel_rfl) (by kernel_rfl) (by kernel_rfl) (by kernel_rfl)) ?_
  intro W base args ds gs before hval0 hW hcnd _
  have hval : ∀ (j : Nat) t v, Try.f5.params[j]? = some t → args[j]? = some v → Value.okWide Try.prog W .any base t v := hval0
  have hW' := hW
  obtain ⟨p, q, hA0, hV, rfl, hfz, hnd⟩ := hW
  have hA : DataW.TrodAll enc Try.prog W 0 (fun _ => true) true Try.f5.params.toList args.toList ds p := hA0
  rw [Try.params5] at hA hval
  obtain ⟨v0, vs0, d0, ds0, p0, q0, hargs, rfl, rfl, h0, r0⟩ := trodAll_cons hA
  obtain ⟨v1, vs1, d1, ds1, p1, q1, rfl, rfl, rfl, h1, r1⟩ := trodAll_cons r0
  obtain ⟨rfl, rfl, rfl⟩ := trodAll_nil r1
  obtain rfl : args = #[v0, v1] := by cases args; simp_all
  obtain ⟨rfl, rfl⟩ := trodVars_none hV
  obtain ⟨a0, len0, cap0, rfl⟩ := okWide_slice Try.underlying22 (hval 0 22 v0 rfl rfl)
  have k0 := h0
  obtain ⟨z0, g0, o0⟩ := open_Sixs h0
  have lt0 : ∀ x ∈ p0, x.block < W.heap.size := by obtain ⟨m, hm⟩ := k0; exact DataW.trod_lt m _ _ _ hm
  obtain ⟨a1, rfl, rfl, rfl, w1⟩ := open_int Try.underlying3 (hval 1 3 v1 rfl rfl) h1
  clear hA0 hval0
  refine (delivers_walk z0 a0 len0 cap0 a1 W g0 o0 (i64_of_wf w1)).mono fun e W' ⟨he, bel⟩ => ?_
  subst he
  exact ⟨_, rfl, _, _, _, [], _, [], hW', trodAll_mk1 (shut_bool Try.underlying4 _), (trodAll_cons_mk (Below.trod laidOut (by kernel_rfl) (of_decide_eq_true (by kernel_rfl)) k0 bel lt0) (trodAll_cons_mk (shut_int Try.underlying3 w1) trodAll_mk0)), rfl, bel.frame _, fun h => by cases h⟩

theorem treeDelivers_over : Rows.treeDeliversRow.holds Try.pinned (OpenSpec.ofChange Rows.treeDeliversSpec) :=
  OpenClaim.holds_of_wide 5 Try.f5 rfl rfl rfl rfl rfl rfl rfl ⟨rfl, rfl, rfl, rfl, rfl⟩ rfl rfl rfl rfl rfl (by kernel_rfl) Try.func5 (by kernel_rfl)
    (of_decide_eq_true (by kernel_rfl)) (by unfold Func.isWrapper; first | (rw [if_pos (by decide +kernel)]; kernel_rfl) | (rw [if_neg (by decide +kernel)]; exact ⟨rfl, rfl⟩))
    (fun os started H enc _ => treeDelivers_lifted os started H enc)

theorem treeDelivers_proved : Rows.TreeDeliversSaid := treeDelivers_over
end Go.Proofs.Ytikphbgfcpamgaa
