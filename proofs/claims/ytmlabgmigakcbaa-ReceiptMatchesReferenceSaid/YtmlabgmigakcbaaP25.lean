/- The reference: Reconcile. -/
import Derived.Test.YtmlabgmigakcbaaP24
namespace Go.Proofs.Ytmlabgmigakcbaa
open Go.RowKit
theorem dsc_one (x : Dsc) : ∀ u ∈ dscCells x, u.oneCell' = true := by simp [dscCells, Value.oneCell']
theorem app_ra {α : Type} {cells : α → List Value} {s bytes : Nat} {w : World} (t ty e : TypeId) (i0 : TypeInfo) (z : Value) (ht : Try.prog.underlying t = some (.slice e)) (hi : Try.prog.info? e = some i0) (hz : i0.zero = some z) (hsz : i0.size = s) (hby : i0.bytes = bytes) (hzs : z.cells.size = s) (h0 : 0 < s) (hb1 : bytes ≤ 100000)
  (h1 : ∀ x, ∀ u ∈ cells x, u.oneCell' = true) (xs ys : List α) (v : Value) (base b n c : Nat) (A : Option Addr) (hx : w.ownsRow base e s v xs.length (xs.flatMap cells)) (hy : RA cells s w b A n c ys) (hn : xs.length + n ≤ 100000) (hb : base ≤ w.heap.size) :
  ∃ v' w', (Builtin.append_ #[t, t] ty #[v, .slice A n c]).run Try.prog w = .ok v' w' ∧ w.grownBy w' v.ownBlock ∧ w'.ownsRow base e s v' (xs ++ ys).length ((xs ++ ys).flatMap cells) := by
 have hl := hy.len
 rcases Nat.eq_zero_or_pos n with hn0 | hn0
 ·subst hn0
  obtain rfl : ys = [] := List.eq_nil_of_length_eq_zero hl
  rw [List.append_nil]
  refine ⟨v, w, ?_, ⟨rfl, rfl, rfl, Nat.le_refl _, fun _ _ _ => rfl⟩, hx⟩
  rcases hx.2 with ⟨rfl, _⟩ | ⟨g, cap, cur, rfl, _, _, hc, _⟩
  ·exact run_append_none2 w t ty e i0 ht hi A c
  ·exact run_append_none w t ty e i0 ht hi _ _ _ hc A c
 ·obtain ⟨b', o, rfl, _, hc⟩ := hy.rd.2 hn0
  obtain ⟨v', w', h3, h4, h5, -⟩ := run_append_own (P := Try.prog) w base t ty e i0 z s bytes ht hi hz hsz hby hzs h0 v _ _ hx ⟨b', o, none⟩ n c _ hy.rd.1 (fun j u hu => by rw [Addr.add_lit]; exact hc j u hu) (fun u hu => by obtain ⟨x, _, hx⟩ := List.mem_flatMap.1 hu; exact h1 x u hx) (by unfold maxLen; omega) (by have := Nat.mul_le_mul hn hb1; omega) hb
  refine ⟨v', w', h3, h5, ?_⟩
  rw [List.length_append, List.flatMap_append, hl]
  exact h4
theorem dsc_app {w : World} (ty : TypeId) (xs ys : List Dsc) (v : Value) (base b n c : Nat) (A : Option Addr) (hx : OwnD w base v xs) (hy : RA dscCells 3 w b A n c ys) (hn : xs.length + n ≤ 100000) (hb : base ≤ w.heap.size) :
  ∃ v' w', (Builtin.append_ #[48, 48] ty #[v, .slice A n c]).run Try.prog w = .ok v' w' ∧ w.grownBy w' v.ownBlock ∧ OwnD w' base v' (xs ++ ys) := by
 obtain ⟨i0, hi0, hz0, hz1, hz2⟩ := info_parts info2_dsc
 exact app_ra 48 ty 83 i0 _ Try.underlying48 hi0 hz0 hz1 hz2 rfl (by omega) (by omega) dsc_one xs ys v base b n c A hx hy hn hb
theorem OwnFs.other {w w' : World} {b b' s' n' : Nat} {v v' : Value} {fs : List Fte} {t' : TypeId} {xs' : List Value} (h : OwnFs w b v fs) (h' : w.ownsRow b' t' s' v' n' xs') (h1 : 76 ≠ t') (h2 : 3 ≠ t') (hg : w.grownBy w' v'.ownBlock) : OwnFs w' b v fs :=
 ⟨own_other h.1 h' h1 hg, fun x hx => own_other (h.2 x hx) h' h2 hg⟩
theorem noneP_cons (q : Opt → Rcp → Nat) (o : Opt) (l : List Opt) (r : Rcp) : noneP q (o :: l) r = (decide (q o r = 0) && noneP q l r) := rfl
set_option maxRecDepth 100000 in
set_option maxHeartbeats 16000000 in
theorem rrec_any (os : List Opt) (ps : List Pas) (sts : List Stn) (rs : List Rcp) (ns : List Nte) (now : Int) (OA PA SA QA NA : Option Addr) (n c pn pc sn sc qn qc nn nc : Nat) (w : World) (ho : Ops w w.heap.size OA n c os) (hp : RA pasCells 6 w w.heap.size PA pn pc ps) (hs : RA stnCells 6 w w.heap.size SA sn sc sts) (hq : RA rcpCells 3 w w.heap.size QA qn qc rs) (hn : RA nteCells 3 w w.heap.size NA nn nc ns) :
  Calls Try.prog 17 #[.slice OA n c, .slice PA pn pc, .slice SA sn sc, .slice QA qn qc, .slice NA nn nc, .int .i64 now] w (RecRet (recV os ps sts rs ns now) w) := by
 have hqle := hq.le
 have hnle := hn.le
 have hle := ho.out.le
 have hVAL := fun (W : World) (hW : Ext w W) => rvalid_any os ps sts OA PA SA n c pn pc sn sc W (ho.ext hW) (ra_ext hp hW) (ra_ext hs hW)
 obtain ⟨X, hX⟩ : ∃ x, x = recV os ps sts rs ns now := ⟨_, rfl⟩
 rw [← hX]
 have hXb : recOK os ps sts rs ns now = false → X = (([], []), 300) := fun h => by rw [hX, rec_bad h]
 have hok : recOK os ps sts rs ns now = (decide (qn ≤ 60) && (decide (nn ≤ 60) && (decide (0 ≤ now ∧ now ≤ 1000000) && validP os ps sts))) := by unfold recOK; rw [hq.len, hn.len]
 have hvok : validP os ps sts = true → VOK os ps sts := valid_vok
 have HVAL := Lib.hid hVAL
 have HX := Lib.hid hX
 have HO := Lib.hid ho
 have HP := Lib.hid hp
 have HS := Lib.hid hs
 have HQ := Lib.hid hq
 have HN := Lib.hid hn
 clear hVAL hX ho hp hs hq hn
 rw [hok] at hXb
 go_enter Try.func17, Try.ntmps17
 by_cases hq60 : qn ≤ 60
 ·by_cases hn60 : nn ≤ 60
  ·by_cases hn0 : 0 ≤ now
   ·by_cases hn1 : now ≤ 1000000
    ·rw [decide_eq_true hq60, decide_eq_true hn60, decide_eq_true (show 0 ≤ now ∧ now ≤ 1000000 from ⟨hn0, hn1⟩)] at hXb hok
     have g1 : ((qn : Int) ≤ 60) := by omega
     have g2 : ((nn : Int) ≤ 60) := by omega
     have g3 : ¬ now < 0 := by omega
     have g4 : ¬ 1000000 < now := by omega
     generalize hVV : validP os ps sts = V at HVAL hXb hok hvok
     have HXB := Lib.hid hXb
     have HOK := Lib.hid hok
     have HVK := Lib.hid hvok
     have HC := Lib.hid (HVAL.out w (Ext.refl _))
     clear hXb hok hvok hVV HVAL
     go_wp2_with fail
     refine HC.out.mono ?_
     rintro e W2 ⟨rfl, hx2⟩
     clear HC
     cases V
     ·have hXe : X = (([], []), 300) := HXB.out rfl
      have HXE := Lib.hid hXe
      clear HXB HX hXe
      go_wp2
      exact bodyPost_ret (v := .tuple #[.slice none 0 0, .slice none 0 0, .int .i64 300]) (by simp [results, Try.results17, go_sem]) rfl ⟨_, _, [], by rw [HXE.out], OwnFs.nil _ _, by rw [HXE.out]; rfl, by rw [HXE.out]; exact World.ownsRow_nil _ _ _ _, hx2⟩
     ·have hvok := HVK.out rfl
      have HVK2 := Lib.hid hvok
      clear HVK hvok
      obtain ⟨Q, hQ⟩ : ∃ Q, Q = qOf ps (skewF sts) now := ⟨_, rfl⟩
      have HXV : Hid (X = (recP Q now rs ns (strL Q os 0 [] rs) os, 0)) := Lib.hid (by rw [HX.out, hQ]; unfold recV; rw [HOK.out]; rfl)
      have HFIT : Hid (∀ (j : Nat) (hj : j < os.length) (r : Rcp) (W : World), Ext w W → Calls Try.prog 52 #[.agg (optCells os[j]).toArray, .slice PA pn pc, .slice SA sn sc, .agg (rcpCells r).toArray, .int .i64 now] W (RowRet (setL (Q os[j] r)) W)) := Lib.hid (fun j hj r W hW => by
       rw [hQ]
       exact rfits_any os os[j] ps sts r now PA SA pn pc sn sc W (ra_ext (HO.out.each _ (List.getElem_mem hj)) hW) (ra_ext HP.out hW) (ra_ext HS.out hW) HVK2.out (List.getElem_mem hj))
      have HFATE : Hid (∀ (j : Nat) (hj : j < os.length) (W : World), Ext w W → Calls Try.prog 53 #[.agg (optCells os[j]).toArray, .slice PA pn pc, .slice SA sn sc, .slice QA qn qc, .slice NA nn nc, .int .i64 now] W (RFate (fateP (Q os[j]) now os[j].l os[j].id rs ns []) W)) := Lib.hid (fun j hj W hW => by
       rw [hQ]
       exact rfate_any os os[j] ps sts rs ns now PA SA QA NA pn pc sn sc qn qc nn nc W (ra_ext (HO.out.each _ (List.getElem_mem hj)) hW) (ra_ext HP.out hW) (ra_ext HS.out hW) (ra_ext HQ.out hW) (ra_ext HN.out hW) HVK2.out (List.getElem_mem hj) hq60 hn60)
      have HLB : Hid (∀ (j : Nat) (hj : j < os.length) (r : Rcp), Q os[j] r < 64) := Lib.hid (fun j hj r => by
       rw [hQ]
       exact (fitsP_lb (HVK2.out.sl (List.getElem_mem hj)) (HO.out.each _ (List.getElem_mem hj)).len).1)
      have HOL := Lib.hid HO.out.out.len
      have HOL2 : Hid (os.length ≤ 24) := Lib.hid HVK2.out.len
      have HOO := Lib.hid HO.out.out
      have HQL := Lib.hid HQ.out.len
      have HNL := Lib.hid HN.out.len
      obtain ⟨D0, hD0⟩ : ∃ D, D = strL Q os 0 [] rs := ⟨_, rfl⟩
      have HXW : Hid (X = (recP Q now rs ns D0 os, 0)) := Lib.hid (by rw [HXV.out, hD0])
      have HS0 : Hid (D0 = strL Q os 0 [] (rs.drop 0)) := Lib.hid hD0
      clear hD0 HXV hQ HVK2 HXB HX HOK
      go_wp2_with fail
      go_loopw [16, 17] (fun y i wr => ∃ (k : Nat) (ds : List Dsc), k ≤ qn ∧ i = .int .i64 k ∧ Hid (D0 = strL Q os k ds (rs.drop k)) ∧ Hid (OwnD wr w.heap.size y ds) ∧ ds.length ≤ k ∧ Ext w wr) (fun _ i _ => qn - (intOf i).toNat)
      case atStart => exact ⟨0, [], Nat.zero_le _, rfl, HS0, Lib.hid (World.ownsRow_nil _ _ _ _), Nat.zero_le _, hx2⟩
      case round =>
       clear HS0 hx2
       obtain ⟨k, ds, hk, rfl, HSk, HD, hdl, hx⟩ := hrel
       obtain ⟨A1, c1, hv1, _, _⟩ := own_slice HD.out
       subst hv1
       by_cases hkq : k < qn
       ·obtain ⟨b, ob, hz, hA, _, hc⟩ := (ra_ext HQ.out hx).at_ rcp_len hkq
        have hst := HSk.out
        rw [List.drop_eq_getElem_cons hz, strL_cons] at hst
        have HFIT2 := Lib.hid (fun (j : Nat) (hj : j < os.length) => HFIT.out j hj rs[k])
        have HLB2 := Lib.hid (fun (j : Nat) (hj : j < os.length) => HLB.out j hj rs[k])
        generalize rs[k] = r at hst hc HFIT2 HLB2
        obtain ⟨qa, hqa⟩ : ∃ q, q = noneP Q os r := ⟨_, rfl⟩
        rw [← hqa] at hst
        have HQA : Hid (qa = (true && noneP Q (os.drop 0) r)) := Lib.hid hqa
        have HST := Lib.hid hst
        obtain ⟨rsn, rim, rat⟩ := r
        dsimp only at HST
        have r0 : wr.cell? ⟨b, ob + k * 3, none⟩ = some (.int .i64 rsn) := hc 0 (by omega)
        have r1 : wr.cell? ⟨b, ob + k * 3 + 1, none⟩ = some (.int .i64 rim) := hc 1 (by omega)
        have r2 : wr.cell? ⟨b, ob + k * 3 + 2, none⟩ = some (.int .i64 rat) := hc 2 (by omega)
        have HR0 := Lib.hid r0
        have HR1 := Lib.hid r1
        have HR2 := Lib.hid r2
        have hkz : (k : Int) < (qn : Int) := by omega
        have HKQ := Lib.hid hkq
        subst hA
        clear hc hz hst hqa HSk r0 r1 r2
        go_wp2_with fail
        go_loopw [18, 19] (fun x y wi => ∃ (j : Nat) (q1 : Bool), j ≤ n ∧ y = .int .i64 j ∧ x = .bool q1 ∧ Hid (qa = (q1 && noneP Q (os.drop j) ⟨rsn, rim, rat⟩)) ∧ Ext wr wi) (fun _ y _ => n - (intOf y).toNat)
        case atStart => exact ⟨0, true, Nat.zero_le _, rfl, rfl, HQA, Ext.refl _⟩
        case round =>
         clear HQA
         obtain ⟨j, q1, hj, rfl, rfl, HQJ, hxi⟩ := hrel
         by_cases hjn : j < n
         ·obtain ⟨b2, o2, hz2, hA2, _, hc2⟩ := (ra_ext (ra_ext HOO.out hx) hxi).at_ opt_len hjn
          have hst := HQJ.out
          rw [List.drop_eq_getElem_cons hz2, noneP_cons] at hst
          have hft := HFIT2.out j hz2
          have hlb := HLB2.out j hz2
          generalize os[j] = o at hst hft hlb hc2
          generalize Q o ⟨rsn, rim, rat⟩ = S at hst hft hlb
          obtain ⟨id, i1, i2, i3, i4, i5, i6, i7, a, m, d, l⟩ := o
          have hoe : (optCells ⟨id, i1, i2, i3, i4, i5, i6, i7, a, m, d, l⟩).toArray = #[.int .i64 id, .int .i64 i1, .int .i64 i2, .int .i64 i3, .int .i64 i4, .int .i64 i5, .int .i64 i6, .int .i64 i7, .slice a m d] := rfl
          have hre : (rcpCells ⟨rsn, rim, rat⟩).toArray = #[.int .i64 rsn, .int .i64 rim, .int .i64 rat] := rfl
          rw [hoe, hre] at hft
          have HFT := Lib.hid hft
          have HST2 := Lib.hid hst
          have HJN := Lib.hid hjn
          obtain ⟨sl, hsl⟩ : ∃ z, z = (setL S).length := ⟨_, rfl⟩
          have hsl0 : (sl = 0) = (S = 0) := by rw [hsl]; exact propext (setL_zero hlb)
          have HSL := Lib.hid hsl
          have hjz : (j : Int) < (n : Int) := by omega
          have c0 : wr.cell? ⟨b2, o2 + j * 9, none⟩ = some (.int .i64 id) := hc2 0 (by omega)
          have c1 : wr.cell? ⟨b2, o2 + j * 9 + 1, none⟩ = some (.int .i64 i1) := hc2 1 (by omega)
          have c2 : wr.cell? ⟨b2, o2 + j * 9 + 2, none⟩ = some (.int .i64 i2) := hc2 2 (by omega)
          have c3 : wr.cell? ⟨b2, o2 + j * 9 + 3, none⟩ = some (.int .i64 i3) := hc2 3 (by omega)
          have c4 : wr.cell? ⟨b2, o2 + j * 9 + 4, none⟩ = some (.int .i64 i4) := hc2 4 (by omega)
          have c5 : wr.cell? ⟨b2, o2 + j * 9 + 5, none⟩ = some (.int .i64 i5) := hc2 5 (by omega)
          have c6 : wr.cell? ⟨b2, o2 + j * 9 + 6, none⟩ = some (.int .i64 i6) := hc2 6 (by omega)
          have c7 : wr.cell? ⟨b2, o2 + j * 9 + 7, none⟩ = some (.int .i64 i7) := hc2 7 (by omega)
          have c8 : wr.cell? ⟨b2, o2 + j * 9 + 8, none⟩ = some (.slice a m d) := hc2 8 (by omega)
          have r0 := ext_cell hxi HR0.out
          have r1 := ext_cell hxi HR1.out
          have r2 := ext_cell hxi HR2.out
          subst hA2
          clear hc2 hz2 hst hft hlb hoe hre HQJ hsl
          cases q1
          ·have HN2 : Hid (qa = (false && noneP Q (os.drop (j + 1)) ⟨rsn, rim, rat⟩)) := Lib.hid (by rw [HST2.out]; rfl)
           clear HST2 HFT hsl0 HSL
           go_wp2_with fail
           go_quiet (fail)
           go_wp2_with fail
           go_roundw
           case rel => exact ⟨j + 1, false, HJN.out, by go_num, rfl, HN2, (by repeat (first | exact Below.refl _ _ | assumption | refine Below.drew ?_ | refine below_drewN ?_ _ | refine bl_alloc ?_ _ | refine Below.setCell ?_ (by first | (simp; done) | omega | (simp; omega)) _ | refine bl_then ?_ (by assumption)))⟩
           case measure => have := HJN.out; simp [intOf]; omega
          ·have HN2 : Hid (qa = (decide (sl = 0) && noneP Q (os.drop (j + 1)) ⟨rsn, rim, rat⟩)) := Lib.hid (by rw [HST2.out, Bool.true_and]; simp only [hsl0])
           have hs2 : ((sl : Int) == 0) = decide (sl = 0) := by
            by_cases h : sl = 0
            ·subst h; rfl
            ·rw [decide_eq_false h]; simpa using h
           clear HST2 hsl0
           go_upto_region 12 with (fail)
           have hx0 := hxi
           have hxk := hx
           refine wp_region_obl 17 (fun ix vals v w1 => match ix with | 0 => v = .bool true | 1 => v = .bool true | 2 => v = .slice (some ⟨b2, o2, none⟩) n c | 3 => v = .int .i64 (j : Nat) | 4 => v = .pointer (some ⟨b2, o2 + j * 9, none⟩) | 5 => v = .agg #[.int .i64 id, .int .i64 i1, .int .i64 i2, .int .i64 i3, .int .i64 i4, .int .i64 i5, .int .i64 i6, .int .i64 i7, .slice a m d] | 6 => v = .slice PA pn pc | 7 => v = .slice SA sn sc | 8 => v = .slice (some ⟨b, ob, none⟩) qn qc | 9 => v = .int .i64 (k : Nat) | 10 => v = .pointer (some ⟨b, ob + k * 3, none⟩) | 11 => v = .agg #[.int .i64 rsn, .int .i64 rim, .int .i64 rat] | 12 => v = .int .i64 now | 13 => ∃ A c, v = .slice A sl c | 14 => v = .int .i64 (sl : Nat) | 15 => v = .bool (decide (sl = 0)) | _ => v = .bool (decide (sl = 0))) (by kernel_rfl) (by kernel_rfl) ?_ ?_ ?_ ?_
           ·intro ix vals v w1 w2 hi hr hx
            match ix, hr with
            |0, hr => exact hr
            |1, hr => exact hr
            |2, hr => exact hr
            |3, hr => exact hr
            |4, hr => exact hr
            |5, hr => exact hr
            |6, hr => exact hr
            |7, hr => exact hr
            |8, hr => exact hr
            |9, hr => exact hr
            |10, hr => exact hr
            |11, hr => exact hr
            |12, hr => exact hr
            |13, hr => exact hr
            |14, hr => exact hr
            |15, hr => exact hr
            |(kx + 16), hr => exact hr
           ·intro ix vals vals_ v w1 hi hv hr
            exact hr
           ·refine ⟨?_, ?_, ?_, ?_, ?_, ?_, ?_, ?_, ?_, ?_, ?_, ?_, ?_, ?_, ?_, ?_, ?_, trivial⟩
            ·intro vals w1 hx hd ha
             clear hd ha
             simp only [Lf]
             go_wp2
             exact ⟨rfl, Ext.refl _, rfl⟩
            ·intro vals w1 hx hd ha
             have e0 : vals 0 = .bool true := hd 0 (by decide)
             clear hd ha
             simp only [Lf, dstAt, Act.put, List.getElem?_toArray, List.getElem?_cons_zero, Option.bind_some, List.setIfInBounds_toArray, List.set_cons_zero, List.set_cons_succ]
             simp only [e0]
             clear e0
             go_wp2
             exact ⟨rfl, Ext.refl _, rfl⟩
            ·intro vals w1 hx hd ha
             have e1 : vals 1 = .bool true := hd 1 (by decide)
             clear hd ha
             simp only [Lf, dstAt, Act.put, List.getElem?_toArray, List.getElem?_cons_zero, List.getElem?_cons_succ, Option.bind_some, List.setIfInBounds_toArray, List.set_cons_zero, List.set_cons_succ]
             simp only [e1]
             clear e1
             go_wp2
             exact ⟨rfl, Ext.refl _, rfl⟩
            ·intro vals w1 hx hd ha
             have e1 : vals 1 = .bool true := hd 1 (by decide)
             clear hd ha
             simp only [Lf, dstAt, Act.put, List.getElem?_toArray, List.getElem?_cons_zero, List.getElem?_cons_succ, Option.bind_some, List.setIfInBounds_toArray, List.set_cons_zero, List.set_cons_succ]
             simp only [e1]
             clear e1
             go_wp2
             exact ⟨rfl, Ext.refl _, rfl⟩
            ·intro vals w1 hx hd ha
             have e1 : vals 1 = .bool true := hd 1 (by decide)
             have e2 : vals 2 = .slice (some ⟨b2, o2, none⟩) n c := hd 2 (by decide)
             have e3 : vals 3 = .int .i64 (j : Nat) := hd 3 (by decide)
             clear hd ha
             simp only [Lf, dstAt, Act.put, List.getElem?_toArray, List.getElem?_cons_zero, List.getElem?_cons_succ, Option.bind_some, List.setIfInBounds_toArray, List.set_cons_zero, List.set_cons_succ]
             simp only [e1, e2, e3]
             clear e1 e2 e3
             go_wp2
             exact ⟨rfl, Ext.refl _, rfl⟩
            ·intro vals w1 hx hd ha
             have e1 : vals 1 = .bool true := hd 1 (by decide)
             have e4 : vals 4 = .pointer (some ⟨b2, o2 + j * 9, none⟩) := hd 4 (by decide)
             clear hd ha
             simp only [Lf, dstAt, Act.put, List.getElem?_toArray, List.getElem?_cons_zero, List.getElem?_cons_succ, Option.bind_some, List.setIfInBounds_toArray, List.set_cons_zero, List.set_cons_succ]
             simp only [e1, e4]
             clear e1 e4
             have c0 := ext_cell hx.undrew c0; have c1 := ext_cell hx.undrew c1; have c2 := ext_cell hx.undrew c2; have c3 := ext_cell hx.undrew c3; have c4 := ext_cell hx.undrew c4; have c5 := ext_cell hx.undrew c5; have c6 := ext_cell hx.undrew c6; have c7 := ext_cell hx.undrew c7; have c8 := ext_cell hx.undrew c8
             go_wp2
             exact ⟨rfl, Ext.refl _, rfl⟩
            ·intro vals w1 hx hd ha
             have e1 : vals 1 = .bool true := hd 1 (by decide)
             clear hd ha
             simp only [Lf, dstAt, Act.put, List.getElem?_toArray, List.getElem?_cons_zero, List.getElem?_cons_succ, Option.bind_some, List.setIfInBounds_toArray, List.set_cons_zero, List.set_cons_succ]
             simp only [e1]
             clear e1
             go_wp2
             exact ⟨rfl, Ext.refl _, rfl⟩
            ·intro vals w1 hx hd ha
             have e1 : vals 1 = .bool true := hd 1 (by decide)
             clear hd ha
             simp only [Lf, dstAt, Act.put, List.getElem?_toArray, List.getElem?_cons_zero, List.getElem?_cons_succ, Option.bind_some, List.setIfInBounds_toArray, List.set_cons_zero, List.set_cons_succ]
             simp only [e1]
             clear e1
             go_wp2
             exact ⟨rfl, Ext.refl _, rfl⟩
            ·intro vals w1 hx hd ha
             have e1 : vals 1 = .bool true := hd 1 (by decide)
             clear hd ha
             simp only [Lf, dstAt, Act.put, List.getElem?_toArray, List.getElem?_cons_zero, List.getElem?_cons_succ, Option.bind_some, List.setIfInBounds_toArray, List.set_cons_zero, List.set_cons_succ]
             simp only [e1]
             clear e1
             go_wp2
             exact ⟨rfl, Ext.refl _, rfl⟩
            ·intro vals w1 hx hd ha
             have e1 : vals 1 = .bool true := hd 1 (by decide)
             clear hd ha
             simp only [Lf, dstAt, Act.put, List.getElem?_toArray, List.getElem?_cons_zero, List.getElem?_cons_succ, Option.bind_some, List.setIfInBounds_toArray, List.set_cons_zero, List.set_cons_succ]
             simp only [e1]
             clear e1
             go_wp2
             exact ⟨rfl, Ext.refl _, rfl⟩
            ·intro vals w1 hx hd ha
             have e1 : vals 1 = .bool true := hd 1 (by decide)
             have e8 : vals 8 = .slice (some ⟨b, ob, none⟩) qn qc := hd 8 (by decide)
             have e9 : vals 9 = .int .i64 (k : Nat) := hd 9 (by decide)
             clear hd ha
             simp only [Lf, dstAt, Act.put, List.getElem?_toArray, List.getElem?_cons_zero, List.getElem?_cons_succ, Option.bind_some, List.setIfInBounds_toArray, List.set_cons_zero, List.set_cons_succ]
             simp only [e1, e8, e9]
             clear e1 e8 e9
             go_wp2
             exact ⟨rfl, Ext.refl _, rfl⟩
            ·intro vals w1 hx hd ha
             have e1 : vals 1 = .bool true := hd 1 (by decide)
             have e10 : vals 10 = .pointer (some ⟨b, ob + k * 3, none⟩) := hd 10 (by decide)
             clear hd ha
             simp only [Lf, dstAt, Act.put, List.getElem?_toArray, List.getElem?_cons_zero, List.getElem?_cons_succ, Option.bind_some, List.setIfInBounds_toArray, List.set_cons_zero, List.set_cons_succ]
             simp only [e1, e10]
             clear e1 e10
             have r0 := ext_cell hx.undrew r0; have r1 := ext_cell hx.undrew r1; have r2 := ext_cell hx.undrew r2
             go_wp2
             exact ⟨rfl, Ext.refl _, rfl⟩
            ·intro vals w1 hx hd ha
             have e1 : vals 1 = .bool true := hd 1 (by decide)
             clear hd ha
             simp only [Lf, dstAt, Act.put, List.getElem?_toArray, List.getElem?_cons_zero, List.getElem?_cons_succ, Option.bind_some, List.setIfInBounds_toArray, List.set_cons_zero, List.set_cons_succ]
             simp only [e1]
             clear e1
             go_wp2
             exact ⟨rfl, Ext.refl _, rfl⟩
            ·intro vals w1 hx hd ha
             have e1 : vals 1 = .bool true := hd 1 (by decide)
             have e5 : vals 5 = .agg #[.int .i64 id, .int .i64 i1, .int .i64 i2, .int .i64 i3, .int .i64 i4, .int .i64 i5, .int .i64 i6, .int .i64 i7, .slice a m d] := hd 5 (by decide)
             have e6 : vals 6 = .slice PA pn pc := hd 6 (by decide)
             have e7 : vals 7 = .slice SA sn sc := hd 7 (by decide)
             have e11 : vals 11 = .agg #[.int .i64 rsn, .int .i64 rim, .int .i64 rat] := hd 11 (by decide)
             have e12 : vals 12 = .int .i64 now := hd 12 (by decide)
             clear hd ha
             simp only [Lf, dstAt, Act.put, List.getElem?_toArray, List.getElem?_cons_zero, List.getElem?_cons_succ, Option.bind_some, List.setIfInBounds_toArray, List.set_cons_zero, List.set_cons_succ]
             have HC := Lib.hid (HFT.out w1 (Ext.trans hxk (Ext.trans hx0 hx.undrew)))
             simp only [e1]
             simp only [e5]
             simp only [e6]
             simp only [e7]
             simp only [e11]
             simp only [e12]
             clear e1 e5 e6 e7 e11 e12
             go_wp2_with fail
             refine HC.out.mono ?_
             rintro e w2 ⟨A, c, rfl, ho, hy⟩
             rw [← HSL.out] at ho ⊢
             go_wp2
             exact ⟨rfl, hy, A, c, rfl⟩
            ·intro vals w1 hx hd ha
             have e1 : vals 1 = .bool true := hd 1 (by decide)
             have r13 : (fun v w1 => ∃ A c, v = .slice A sl c) (vals 13) w1 := hd 13 (by decide)
             dsimp only at r13
             clear hd ha
             simp only [Lf, dstAt, Act.put, List.getElem?_toArray, List.getElem?_cons_zero, List.getElem?_cons_succ, Option.bind_some, List.setIfInBounds_toArray, List.set_cons_zero, List.set_cons_succ]
             obtain ⟨A, q, e_13⟩ := r13
             simp only [e1]
             clear e1
             rw [e_13]
             go_wp2
             exact ⟨rfl, Ext.refl _, rfl⟩
            ·intro vals w1 hx hd ha
             have e1 : vals 1 = .bool true := hd 1 (by decide)
             have e14 : vals 14 = .int .i64 (sl : Nat) := hd 14 (by decide)
             clear hd ha
             simp only [Lf, dstAt, Act.put, List.getElem?_toArray, List.getElem?_cons_zero, List.getElem?_cons_succ, Option.bind_some, List.setIfInBounds_toArray, List.set_cons_zero, List.set_cons_succ]
             simp only [e1]
             simp only [e14]
             clear e1 e14
             go_wp2
             exact ⟨rfl, Ext.refl _, by rw [← hs2]; rfl⟩
            ·intro vals w1 hx hd ha
             have e1 : vals 1 = .bool true := hd 1 (by decide)
             have e15 : vals 15 = .bool (decide (sl = 0)) := hd 15 (by decide)
             clear hd ha
             simp only [Lf, dstAt, Act.put, List.getElem?_toArray, List.getElem?_cons_zero, List.getElem?_cons_succ, Option.bind_some, List.setIfInBounds_toArray, List.set_cons_zero, List.set_cons_succ]
             simp only [e1, e15]
             clear e1 e15
             go_wp2
             exact ⟨rfl, Ext.refl _, rfl⟩
           intro vals W5 hz hf
           have v16 : vals 16 = .bool (decide (sl = 0)) := hf 16 (by omega)
           have hz := hz.undrew
           have HXC := Lib.hid (Ext.trans hxi hz)
           clear hf hz hxi hx0 hxk HFT
           refine tail1 17 _ (by kernel_rfl) (by kernel_rfl) rfl ?_
           simp only [Lf, dstAt, Act.put, List.getElem?_toArray, List.getElem?_cons_zero, List.getElem?_cons_succ, Option.bind_some, List.setIfInBounds_toArray, List.set_cons_zero, List.set_cons_succ]
           rw [v16]
           clear v16
           go_wp2_with fail
           go_roundw
           case rel => exact ⟨j + 1, _, HJN.out, by go_num, rfl, HN2, HXC.out⟩
           case measure => have := HJN.out; simp [intOf]; omega
         ·have hqe : qa = q1 := by
           rw [HQJ.out, List.drop_of_length_le (by rw [HOL.out]; omega)]
           exact Bool.and_true _
          have hjz : ¬ (j : Int) < (n : Int) := by omega
          subst hqe
          have hxc := Ext.trans hx hxi
          have HDc := Lib.hid (HD.out.ext hxi)
          have r1 := ext_cell hxi HR1.out
          clear HQJ HD hx hxi HR0 HR1 HR2 HFIT2 HLB2
          cases qa
          ·have HN2 : Hid (D0 = strL Q os (k + 1) ds (rs.drop (k + 1))) := HST
           go_wp2_with fail
           go_roundw
           case rel => exact ⟨k + 1, ds, HKQ.out, by go_num, HN2, HDc, by omega, hxc⟩
           case measure => have := HKQ.out; simp [intOf]; omega
          ·have HN2 : Hid (D0 = strL Q os (k + 1) (ds ++ [⟨1, rim, k⟩]) (rs.drop (k + 1))) := HST
           have hxa : Ext wr (wr.alloc (.cells #[.int .i64 1, .int .i64 rim, .int .i64 (k : Int)] 83)) := bl_alloc (Below.refl _ _) _
           have hxw := Ext.trans hxc hxa
           obtain ⟨v7, W7, hrun, hg7, hd7⟩ := dsc_snoc 48 ds (.slice A1 ds.length c1) ⟨1, rim, k⟩ w.heap.size wr.heap.size (Blk.new _ _ _) (HDc.out.ext hxa) (by omega) (Below.size hxw)
           have hx7 : Ext w W7 := hxw.grown hg7 (Below.size hxw) (fun q e => (World.ownsRow.lt HDc.out q e).1)
           have HD7 := Lib.hid hd7
           have HRUN := Lib.hid hrun
           clear hrun hg7 hd7 hxa hxw HST hxc
           go_upto_region 14 with (fail)
           go_wp2_with (refine wpList_append_run_ rfl _ _ _ rfl rfl rfl HRUN.out ?_)
           go_roundw
           case rel => exact ⟨k + 1, _, HKQ.out, by go_num, HN2, HD7, by simp; omega, hx7⟩
           case measure => have := HKQ.out; simp [intOf]; omega
       ·have hkz : ¬ (k : Int) < (qn : Int) := by omega
        have hdd : D0 = ds := by rw [HSk.out, List.drop_of_length_le (by rw [HQL.out]; omega), strL]
        have HE0 : Hid (X.1 = ([] ++ (recP Q now rs ns ds (os.drop 0)).1, (recP Q now rs ns ds (os.drop 0)).2) ∧ X.2 = 0) := Lib.hid (by rw [HXW.out, hdd]; exact ⟨rfl, rfl⟩)
        have hds60 : ds.length ≤ 60 := by omega
        clear hdd HSk HXW
        go_wp2_with fail
        go_loopw [15, 16, 20] (fun x y z wr => ∃ (k : Nat) (fs : List Fte) (ds2 : List Dsc), k ≤ n ∧ z = .int .i64 k ∧ Hid (fs.length = k) ∧ Hid (X.1 = (fs.map (·.p) ++ (recP Q now rs ns ds2 (os.drop k)).1, (recP Q now rs ns ds2 (os.drop k)).2) ∧ X.2 = 0) ∧ Hid (OwnFs wr w.heap.size x fs) ∧ Hid (OwnD wr w.heap.size y ds2) ∧ ds2.length ≤ 60 + 120 * k ∧ Ext w wr) (fun _ _ z _ => n - (intOf z).toNat)
        case atStart => exact ⟨0, [], ds, Nat.zero_le _, rfl, Lib.hid rfl, HE0, Lib.hid (OwnFs.nil _ _), HD, by omega, hx⟩
        case round =>
         clear HE0 HD hx hdl hds60 hkq hkz hk
         obtain ⟨k, fs, ds2, hk, rfl, HFL, HE, HOF, HD, hdl, hx⟩ := hrel
         obtain ⟨A3, c3, hv3, _, _⟩ := own_slice HOF.out.1
         subst hv3
         obtain ⟨A4, c4, hv4, _, _⟩ := own_slice HD.out
         subst hv4
         by_cases hkn : k < n
         ·obtain ⟨b2, o2, hz2, hA2, _, hc2⟩ := (ra_ext HOO.out hx).at_ opt_len hkn
          have hst := HE.out
          rw [List.drop_eq_getElem_cons hz2, recP_cons, fateP_app] at hst
          have HC := Lib.hid (HFATE.out k hz2 wr hx)
          have hfl2 := fateP_len (Q os[k]) now os[k].l os[k].id rs ns []
          rw [HQL.out, HNL.out] at hfl2
          generalize fateP (Q os[k]) now os[k].l os[k].id rs ns [] = FP at hst HC hfl2
          generalize os[k] = o at hc2 HC
          obtain ⟨id, i1, i2, i3, i4, i5, i6, i7, a, m, d, l⟩ := o
          obtain ⟨⟨fim, fst, fL, ffr, ftt⟩, ds3⟩ := FP
          dsimp only at hst hfl2
          have hoe : (optCells ⟨id, i1, i2, i3, i4, i5, i6, i7, a, m, d, l⟩).toArray = #[.int .i64 id, .int .i64 i1, .int .i64 i2, .int .i64 i3, .int .i64 i4, .int .i64 i5, .int .i64 i6, .int .i64 i7, .slice a m d] := rfl
          rw [hoe] at HC
          have c0 : wr.cell? ⟨b2, o2 + k * 9, none⟩ = some (.int .i64 id) := hc2 0 (by omega)
          have c1 : wr.cell? ⟨b2, o2 + k * 9 + 1, none⟩ = some (.int .i64 i1) := hc2 1 (by omega)
          have c2 : wr.cell? ⟨b2, o2 + k * 9 + 2, none⟩ = some (.int .i64 i2) := hc2 2 (by omega)
          have c3_ : wr.cell? ⟨b2, o2 + k * 9 + 3, none⟩ = some (.int .i64 i3) := hc2 3 (by omega)
          have c4_ : wr.cell? ⟨b2, o2 + k * 9 + 4, none⟩ = some (.int .i64 i4) := hc2 4 (by omega)
          have c5 : wr.cell? ⟨b2, o2 + k * 9 + 5, none⟩ = some (.int .i64 i5) := hc2 5 (by omega)
          have c6 : wr.cell? ⟨b2, o2 + k * 9 + 6, none⟩ = some (.int .i64 i6) := hc2 6 (by omega)
          have c7_ : wr.cell? ⟨b2, o2 + k * 9 + 7, none⟩ = some (.int .i64 i7) := hc2 7 (by omega)
          have c8 : wr.cell? ⟨b2, o2 + k * 9 + 8, none⟩ = some (.slice a m d) := hc2 8 (by omega)
          have HST := Lib.hid hst
          have HKN := Lib.hid hkn
          have hkz : (k : Int) < (n : Int) := by omega
          subst hA2
          clear hc2 hz2 hst hoe HE
          go_wp2_with fail
          refine HC.out.mono ?_
          rintro e W7 ⟨A7, c7, D7, dc7, rfl, hn7, hd7, hy⟩
          have hsz := Below.size hx
          have hx7 := Ext.trans hx hy
          have HOF7 := Lib.hid (HOF.out.ext hy)
          have HD7 := Lib.hid (HD.out.ext hy)
          have HN7 := Lib.hid (own_base hn7 hsz)
          have HDD := Lib.hid hd7
          clear c0 c1 c2 c3_ c4_ c5 c6 c7_ c8 HC hn7 hd7 hy hsz HOF HD hx
          go_upto_region 19 with (fail)
          have hya : Ext W7 (W7.alloc (.cells #[.int .i64 fim, .int .i64 fst, .slice A7 fL.length c7, .int .i64 ffr, .int .i64 ftt] 76)) := bl_alloc (Below.refl _ _) _
          have J := Blk.new W7 76 #[.int .i64 fim, .int .i64 fst, .slice A7 fL.length c7, .int .i64 ffr, .int .i64 ftt]
          generalize W7.heap.size = g21 at J ⊢
          generalize W7.alloc (.cells #[.int .i64 fim, .int .i64 fst, .slice A7 fL.length c7, .int .i64 ffr, .int .i64 ftt] 76) = W8 at hya J ⊢
          have q0 : W8.cell? ⟨g21, 0, none⟩ = some (.int .i64 fim) := J.cell 0
          have q1 : W8.cell? ⟨g21, 1, none⟩ = some (.int .i64 fst) := J.cell 1
          have q2 : W8.cell? ⟨g21, 2, none⟩ = some (.slice A7 fL.length c7) := J.cell 2
          have q3 : W8.cell? ⟨g21, 3, none⟩ = some (.int .i64 ffr) := J.cell 3
          have q4 : W8.cell? ⟨g21, 4, none⟩ = some (.int .i64 ftt) := J.cell 4
          have hyb : Ext W8 (W8.alloc (.cells #[.int .i64 fim, .int .i64 fst, .slice A7 fL.length c7, .int .i64 ffr, .int .i64 ftt] 76)) := bl_alloc (Below.refl _ _) _
          have hyc := Ext.trans hya hyb
          have hx8 := Ext.trans hx7 hyc
          have hof8 := HOF7.out.ext hyc
          obtain ⟨v9, W9, hrun, hg9, hof9⟩ := fts_snoc 47 fs (.slice A3 fs.length c3) ⟨⟨fim, fst, fL, ffr, ftt⟩, A7, c7⟩ w.heap.size W8.heap.size (Blk.new _ _ _) hof8 (OwnN.ext HN7.out hyc) (by have := HFL.out; have := HOL.out; have := HOL2.out; omega) (Below.size hx8)
          have hx9 : Ext w W9 := hx8.grown hg9 (Below.size hx8) (fun q e => (World.ownsRow.lt hof8.1 q e).1)
          have hd9 : OwnD W9 w.heap.size (.slice A4 ds2.length c4) ds2 := own_other (HD7.out.ext hyc) hof8.1 (by decide) hg9
          have hdd9 : OwnD W9 _ (.slice D7 ds3.length dc7) ds3 := own_other (HDD.out.ext hyc) hof8.1 (by decide) hg9
          obtain ⟨v10, W10, hrun2, hg10, hd10⟩ := dsc_app 48 ds2 ds3 (.slice A4 ds2.length c4) w.heap.size _ ds3.length dc7 D7 hd9 (RA.of_own2 hdd9 rfl) (by have := HOL.out; have := HOL2.out; simp at hfl2; omega) (Below.size hx9)
          have hx10 : Ext w W10 := hx9.grown hg10 (Below.size hx9) (fun q e => (World.ownsRow.lt hd9 q e).1)
          have HOF10 := Lib.hid (hof9.other hd9 (by decide) (by decide) hg10)
          have HD10 := Lib.hid hd10
          have HRUN := Lib.hid hrun
          have HRUN2 := Lib.hid hrun2
          have HE8 : Hid (X.1 = ((fs ++ [(⟨⟨fim, fst, fL, ffr, ftt⟩, A7, c7⟩ : Fte)]).map (·.p) ++ (recP Q now rs ns (ds2 ++ ds3) (os.drop (k + 1))).1, (recP Q now rs ns (ds2 ++ ds3) (os.drop (k + 1))).2) ∧ X.2 = 0) := Lib.hid (by refine ⟨?_, HST.out.2⟩; rw [HST.out.1]; simp)
          have HFL8 : Hid ((fs ++ [(⟨⟨fim, fst, fL, ffr, ftt⟩, A7, c7⟩ : Fte)]).length = k + 1) := Lib.hid (by have := HFL.out; simp; omega)
          have HDL8 : Hid ((ds2 ++ ds3).length ≤ 60 + 120 * (k + 1)) := Lib.hid (by rw [List.length_append]; simp at hfl2; omega)
          clear hya J hyb hyc hx8 hof8 hrun hg9 hof9 hx9 hd9 hdd9 hrun2 hg10 hd10 HST HFL HOF7 HD7 HN7 HDD hx7 hfl2 hdl
          generalize fs ++ [(⟨⟨fim, fst, fL, ffr, ftt⟩, A7, c7⟩ : Fte)] = fs8 at HE8 HOF10 HFL8
          go_upto_region 20 with (refine wpList_append_run_ rfl _ _ _ rfl rfl rfl HRUN.out ?_)
          go_wp2_with (refine wpList_append_run_ rfl _ _ _ rfl rfl rfl HRUN2.out ?_)
          go_roundw
          case rel => exact ⟨k + 1, fs8, _, HKN.out, by go_num, HFL8, HE8, HOF10, HD10, HDL8.out, hx10⟩
          case measure => have := HKN.out; simp [intOf]; omega
         ·have hst := HE.out
          rw [List.drop_of_length_le (by rw [HOL.out]; omega), recP] at hst
          have HEE := Lib.hid hst
          have hkz : ¬ (k : Int) < (n : Int) := by omega
          clear hst HE
          go_wp2_with fail
          exact bodyPost_ret (v := .tuple #[.slice A3 fs.length c3, .slice A4 ds2.length c4, .int .i64 0]) (by simp [results, Try.results17, go_sem]) rfl ⟨_, _, fs, by rw [HEE.out.2], HOF.out, by rw [HEE.out.1]; simp, by rw [HEE.out.1]; exact HD.out, hx⟩
    ·have g4 : 1000000 < now := by omega
     have g3 : ¬ now < 0 := by omega
     have g1 : ((qn : Int) ≤ 60) := by omega
     have g2 : ((nn : Int) ≤ 60) := by omega
     have hXe : X = (([], []), 300) := hXb (by simp [hn1])
     have HXE := Lib.hid hXe
     clear hXe hXb hok hvok HVAL HX
     go_wp2
     all_goals exact bodyPost_ret (v := .tuple #[.slice none 0 0, .slice none 0 0, .int .i64 300]) (by simp [results, Try.results17, go_sem]) rfl ⟨_, _, [], by rw [HXE.out], OwnFs.nil _ _, by rw [HXE.out]; rfl, by rw [HXE.out]; exact World.ownsRow_nil _ _ _ _, Ext.refl _⟩
   ·have g3 : now < 0 := by omega
    have g4 : ¬ 1000000 < now := by omega
    have g1 : ((qn : Int) ≤ 60) := by omega
    have g2 : ((nn : Int) ≤ 60) := by omega
    have hXe : X = (([], []), 300) := hXb (by simp [hn0])
    have HXE := Lib.hid hXe
    clear hXe hXb hok hvok HVAL HX
    go_wp2
    all_goals exact bodyPost_ret (v := .tuple #[.slice none 0 0, .slice none 0 0, .int .i64 300]) (by simp [results, Try.results17, go_sem]) rfl ⟨_, _, [], by rw [HXE.out], OwnFs.nil _ _, by rw [HXE.out]; rfl, by rw [HXE.out]; exact World.ownsRow_nil _ _ _ _, Ext.refl _⟩
  ·have g1 : ((qn : Int) ≤ 60) := by omega
   have g2 : ¬ ((nn : Int) ≤ 60) := by omega
   have hXe : X = (([], []), 300) := hXb (by simp [hn60])
   have HXE := Lib.hid hXe
   clear hXe hXb hok hvok HVAL HX
   go_wp2
   all_goals exact bodyPost_ret (v := .tuple #[.slice none 0 0, .slice none 0 0, .int .i64 300]) (by simp [results, Try.results17, go_sem]) rfl ⟨_, _, [], by rw [HXE.out], OwnFs.nil _ _, by rw [HXE.out]; rfl, by rw [HXE.out]; exact World.ownsRow_nil _ _ _ _, Ext.refl _⟩
 ·have g1 : ¬ ((qn : Int) ≤ 60) := by omega
  have hXe : X = (([], []), 300) := hXb (by simp [hq60])
  have HXE := Lib.hid hXe
  clear hXe hXb hok hvok HVAL HX
  go_wp2
  all_goals exact bodyPost_ret (v := .tuple #[.slice none 0 0, .slice none 0 0, .int .i64 300]) (by simp [results, Try.results17, go_sem]) rfl ⟨_, _, [], by rw [HXE.out], OwnFs.nil _ _, by rw [HXE.out]; rfl, by rw [HXE.out]; exact World.ownsRow_nil _ _ _ _, Ext.refl _⟩
end Go.Proofs.Ytmlabgmigakcbaa
