/- The walk of ReceiptWritesMatchReference. -/
import Derived.Test.YtmlabgmigakcbaaG0
namespace Go.Proofs.Ytmlabgmigakcbaa
open Go.RowKit

set_option maxRecDepth 100000 in
set_option maxHeartbeats 16000000 in
theorem writes_walk (c : Cas) (o : Opt) (which : Int) (ys : List Int) (YA : Option Addr) (yn yc : Nat) (w : World) (hc : CasR w w.heap.size c) (hcn : c.wa = none → c.wc = 0) (ho : OptR w o) (hwh : I64ok which) (hy : RA intCells 1 w w.heap.size YA yn yc ys) (hyn : YA = none → yc = 0) :
    Calls Try.prog 4 #[casV c, .agg (optCells o).toArray, .int .i64 which, .slice YA yn yc] w fun e w' => e = .returned (.bool true) ∧ Below w.heap.size w w' := by
  have HSANE := Lib.hid (fun W : World => sane_any W)
  have HMADE := Lib.hid (fun (W : World) (hW : Ext w W) => (made_any c W (hc.ext hW)).mono fun _ _ h => made_own h)
  have HLOST := Lib.hid (fun (W : World) (PA : Option Addr) (pc : Nat) (h : RA pasCells 6 W W.heap.size PA (casP c).length pc (casP c)) => lost_ra c PA pc W h hc.lost)
  have hL8 := casO_len c
  obtain ⟨L, hL⟩ : ∃ L, L = (casO c).length := ⟨_, rfl⟩
  rw [← hL] at hL8
  have HMADE2 : Hid (∀ (W : World), Ext w W → Calls Try.prog 11 #[casV c] W fun e w' => ∃ OA PA SA oc pc sc os, e = .returned (.tuple #[.slice OA L oc, .slice PA (casP c).length pc, .slice SA 3 sc]) ∧ MadeO w' W.heap.size w'.heap.size c OA PA SA oc pc sc os ∧ Ext W w') := Lib.hid (by rw [hL]; exact HMADE.out)
  have HLL := Lib.hid hL
  have HMR0 : Hid (∀ (W : World) (OA PA SA : Option Addr) (oc pc sc : Nat) (os : List Opt), MadeR W c OA PA SA oc pc sc os → Ops W W.heap.size OA L oc os) := Lib.hid (fun W OA PA SA oc pc sc os h => by rw [hL]; exact h.ho)
  clear hL HMADE
  generalize hpn : (casP c).length = pn at HMADE2 HLOST
  have HPN := Lib.hid hpn
  clear hpn
  have HWR := Lib.hid hc.wr
  have hwle := hc.wr.le
  have hwcap := hc.wr.cap
  have hycap := hy.cap
  have hyle := hy.le
  have hwn0 : c.wa = none → c.wn = 0 := fun e => by have h1 := hcn e; have h2 := hc.wr.cap; omega
  have hyn0 : YA = none → yn = 0 := fun e => by have h1 := hyn e; omega
  obtain ⟨m4, hm4⟩ : ∃ m, m = min c.wn 4 := ⟨_, rfl⟩
  obtain ⟨m5, hm5⟩ : ∃ m, m = min yn 5 := ⟨_, rfl⟩
  have HY := Lib.hid (hy.cut int_len m5 (by omega))
  have HW4 := Lib.hid (hc.wr.cut int_len m4 (by omega))
  have HM4 := Lib.hid hm4
  have HM5 := Lib.hid hm5
  clear hm4 hm5 hy
  have hcv : casV c = .agg #[.slice c.pa c.pn c.pc, .slice c.oa c.on c.oc, .int .i64 c.sk.a, .int .i64 c.sk.b, .int .i64 c.sk.c, .int .i64 c.lost, .slice c.wa c.wn c.wc] := rfl
  rw [hcv] at HMADE2 ⊢
  clear hcv hc
  generalize c.pa = pa at HMADE2 ⊢
  generalize c.pn = pcn at HMADE2 ⊢
  generalize c.pc = pcc at HMADE2 ⊢
  generalize c.oa = oa at HMADE2 ⊢
  generalize c.on = ocn at HMADE2 ⊢
  generalize c.oc = occ at HMADE2 ⊢
  generalize c.sk.a = sa at HMADE2 ⊢
  generalize c.sk.b = sb at HMADE2 ⊢
  generalize c.sk.c = sc at HMADE2 ⊢
  generalize c.lost = lo at HMADE2 HLOST ⊢
  generalize c.wa = wa at HMADE2 HWR HW4 hcn hwn0 ⊢
  generalize c.wn = wn at HMADE2 HWR HM4 hwle hwcap hwn0 ⊢
  generalize c.wc = wcp at HMADE2 HWR HW4 hwcap hcn ⊢
  generalize c.wr = wr0 at HWR HW4
  obtain ⟨id, i1, i2, i3, i4, i5, i6, i7, a, m, d, l⟩ := o
  have hoe : (optCells ⟨id, i1, i2, i3, i4, i5, i6, i7, a, m, d, l⟩).toArray = #[.int .i64 id, .int .i64 i1, .int .i64 i2, .int .i64 i3, .int .i64 i4, .int .i64 i5, .int .i64 i6, .int .i64 i7, .slice a m d] := rfl
  rw [hoe]
  have hosl := ho.sl
  have hon := ho.nil_
  dsimp only at hosl hon
  have hole := hosl.le
  have hocap := hosl.cap
  have hon0 : a = none → m = 0 := fun e => by have h1 := hon e; omega
  obtain ⟨m7, hm7⟩ : ∃ q, q = min m 7 := ⟨_, rfl⟩
  have HO7 := Lib.hid (hosl.cut slt_len m7 (by omega))
  have HM7 := Lib.hid hm7
  clear hoe ho hosl hm7
  have HPKW := Lib.hid (fun (W : World) (hl : 0 < (L : Int)) => pickl_any which L W hwh.1 hwh.2 hl (by omega))
  have HPKB := Lib.hid (fun (hl : 0 < (L : Int)) => pickI_bd which L hl)
  generalize pickI which L = pz at HPKW HPKB
  go_enter Try.func4, Try.ntmps4
  go_upto_region 1 with (fail)
  obtain ⟨W1, hW1⟩ : ∃ W, W = (w.alloc (.cells #[.slice pa pcn pcc, .slice oa ocn occ, .int .i64 sa, .int .i64 sb, .int .i64 sc, .int .i64 lo, .slice wa wn wcp] 27)).alloc (.cells #[.int .i64 id, .int .i64 i1, .int .i64 i2, .int .i64 i3, .int .i64 i4, .int .i64 i5, .int .i64 i6, .int .i64 i7, .slice a m d] 32) := ⟨_, rfl⟩
  rw [← hW1]
  obtain ⟨J4, J5, hx1⟩ := al2 w W1 _ _ _ _ hW1
  clear hW1
  obtain ⟨g5, hg5⟩ : ∃ g, g = w.heap.size + 1 := ⟨_, rfl⟩
  obtain ⟨g4, hg4⟩ : ∃ g, g = w.heap.size := ⟨_, rfl⟩
  rw [← hg5] at J5 ⊢
  rw [← hg4] at J4 ⊢
  have hg45 : g4 ≠ g5 := by omega
  have hg5w : w.heap.size ≤ g5 := by omega
  have h5lt := J5.lt
  have h4lt := J4.lt
  clear hg4 hg5
  have HJ4 := Lib.hid J4
  have HJ5 := Lib.hid J5
  clear J4 J5
  go_wp2_with fail
  refine (HSANE.out _).mono ?_
  rintro e W2 ⟨rfl, hy⟩
  have hx2 := Ext.trans hx1 hy
  have h5lt2 : g5 < W2.heap.size := Nat.lt_of_lt_of_le h5lt (Below.size hy)
  have h4lt2 : g4 < W2.heap.size := Nat.lt_of_lt_of_le h4lt (Below.size hy)
  have hj4 := HJ4.out.ext hy
  have HJ5 := Lib.hid (HJ5.out.ext hy)
  have d0 : W2.cell? ⟨g4, 0, none⟩ = some (.slice pa pcn pcc) := hj4.cell 0
  have d1 : W2.cell? ⟨g4, 1, none⟩ = some (.slice oa ocn occ) := hj4.cell 1
  have d2 : W2.cell? ⟨g4, 2, none⟩ = some (.int .i64 sa) := hj4.cell 2
  have d3 : W2.cell? ⟨g4, 3, none⟩ = some (.int .i64 sb) := hj4.cell 3
  have d4 : W2.cell? ⟨g4, 4, none⟩ = some (.int .i64 sc) := hj4.cell 4
  have d5 : W2.cell? ⟨g4, 5, none⟩ = some (.int .i64 lo) := hj4.cell 5
  have d6 : W2.cell? ⟨g4, 6, none⟩ = some (.slice wa wn wcp) := hj4.cell 6
  have HC := Lib.hid (HMADE2.out W2 hx2)
  have HJ4 := Lib.hid hj4
  clear hj4 hx1 HSANE HMADE2 hy h5lt h4lt
  go_wp2_with fail
  refine HC.out.mono ?_
  rintro e W3 ⟨OA, PA, SA, oc, pc, sc_, os, rfl, hmo, hy⟩
  have hx3 := Ext.trans hx2 hy
  have HJ4 := Lib.hid (HJ4.out.ext hy)
  have HJ5 := Lib.hid (HJ5.out.ext hy)
  have HMO := Lib.hid hmo
  have h23 := Below.size hy
  clear d0 d1 d2 d3 d4 d5 d6 HC hx2 hy hmo
  go_upto_region 4 with (fail)
  have hxa : Ext W3 (W3.alloc (.cells #[] 32)) := bl_alloc (Below.refl _ _) _
  obtain ⟨gb, kb, W4, hrun, hx34, hgb, hbo⟩ := copy_opt 36 os _ W3.heap.size L oc OA W3.heap.size (Blk.new W3 32 #[]) (Nat.le_refl _) (by omega) (ra_ext (HMR0.out W3 OA PA SA oc pc sc_ os HMO.out.r).out hxa)
  have hx34 := Ext.trans hxa hx34
  have hx4 := Ext.trans hx3 hx34
  have HJ4 := Lib.hid (HJ4.out.ext hx34)
  have hj5 := HJ5.out.ext hx34
  have HBO := Lib.hid hbo
  have HX34 := Lib.hid hx34
  have HRUN := Lib.hid hrun
  clear hrun hxa hx3 hx34 hbo
  go_upto_region 5 with (refine wpList_append_run_ rfl _ _ _ rfl rfl rfl HRUN.out ?_)
  clear HRUN
  go_cut [] from 35 to 43 (fun wc => wc = W4.setCell ⟨g5, 8, none⟩ (.slice a m7 d))
  case first =>
    have e7 : W4.cell? ⟨g5, 7 + 1, none⟩ = some (.slice a m d) := hj5.cell 8
    have e7' : W4.cell? ⟨g5, 8, none⟩ = some (.slice a m d) := hj5.cell 8
    have e7f : W4.frozen? ⟨g5, 7 + 1, none⟩ = false := hj5.frozen 8
    rcases a with _ | ⟨bN, oN, spN⟩
    · have h0 := hon0 rfl
      have h1 := hon rfl
      have h2 : m7 = 0 := by have := HM7.out; omega
      subst h0 h1 h2
      go_wp2
      go_meet
      exact rfl
    · have hif : (if (7 : Int) < (m : Int) then 7 else (m : Int)).toNat = m7 := by have := HM7.out; split <;> omega
      go_wp2
      all_goals (go_meet; exact rfl)
  case rest =>
  subst hcut
  have hx5 : Ext w (W4.setCell ⟨g5, 8, none⟩ (.slice a m7 d)) := Below.setCell hx4 hg5w _
  have hj5b := hj5.set_ 8 (.slice a m7 d)
  have hj4 := HJ4.out.far (p := ⟨g5, 8, none⟩) hg45 (.slice a m7 d)
  have hbo := own_set HBO.out (p := ⟨g5, 8, none⟩) (fun e => by injection e with e; have e : gb = g5 := e; omega) (.slice a m7 d)
  have hmid : ∀ k, W2.heap.size ≤ k → k < W3.heap.size → (W4.setCell ⟨g5, 8, none⟩ (.slice a m7 d)).heap[k]? = W3.heap[k]? := fun k h1 h2 => (Below.heap_setCell W4 ⟨g5, 8, none⟩ _ k (by show k ≠ g5; omega)).trans (HX34.out.block k h2)
  have hsz : W3.heap.size ≤ (W4.setCell ⟨g5, 8, none⟩ (.slice a m7 d)).heap.size := by rw [World.size_setCell]; exact Below.size HX34.out
  clear HJ4 HJ5 HBO hj5 hx4 HX34
  generalize W4.setCell ⟨g5, 8, none⟩ (.slice a m7 d) = W5 at hx5 hj5b hj4 hbo hmid hsz ⊢
  have hj5 : Blk W5 g5 32 #[.int .i64 id, .int .i64 i1, .int .i64 i2, .int .i64 i3, .int .i64 i4, .int .i64 i5, .int .i64 i6, .int .i64 i7, .slice a m7 d] := hj5b
  clear hj5b
  have HX5 := Lib.hid hx5
  have HJ4 := Lib.hid hj4
  have HBO := Lib.hid hbo
  have HMID := Lib.hid hmid
  clear hx5 hj4 hbo hmid
  go_upto_if 45 with (fail)
  go_cut [] from 45 to 53 (fun wc => Hid (∃ os2, Ops wc wc.heap.size (some ⟨gb, 0, none⟩) L kb os2) ∧ Hid (MadeR wc c OA PA SA oc pc sc_ os) ∧ Hid (Blk wc g4 27 #[.slice pa pcn pcc, .slice oa ocn occ, .int .i64 sa, .int .i64 sb, .int .i64 sc, .int .i64 lo, .slice wa wn wcp]) ∧ Ext w wc)
  case first =>
    by_cases hL0 : 0 < L
    · have hLz : (0 : Int) < (L : Int) := by omega
      obtain ⟨hp1, hp2⟩ := HPKB.out hLz
      obtain ⟨pk, rfl⟩ : ∃ q : Nat, pz = q := ⟨pz.toNat, by omega⟩
      have HPK := Lib.hid (fun W => HPKW.out W hLz)
      have hlo : os.length = L := by rw [HLL.out]; exact HMO.out.hl
      have hpk : pk < os.length := by omega
      have hpz : (pk : Int) < (L : Int) := by omega
      go_upto_region 7 with (fail)
      have e0 : W5.cell? ⟨g5, 0, none⟩ = some (.int .i64 id) := hj5.cell 0
      have e1 : W5.cell? ⟨g5, 1, none⟩ = some (.int .i64 i1) := hj5.cell 1
      have e2 : W5.cell? ⟨g5, 2, none⟩ = some (.int .i64 i2) := hj5.cell 2
      have e3 : W5.cell? ⟨g5, 3, none⟩ = some (.int .i64 i3) := hj5.cell 3
      have e4 : W5.cell? ⟨g5, 4, none⟩ = some (.int .i64 i4) := hj5.cell 4
      have e5 : W5.cell? ⟨g5, 5, none⟩ = some (.int .i64 i5) := hj5.cell 5
      have e6 : W5.cell? ⟨g5, 6, none⟩ = some (.int .i64 i6) := hj5.cell 6
      have e7 : W5.cell? ⟨g5, 7, none⟩ = some (.int .i64 i7) := hj5.cell 7
      have e8 : W5.cell? ⟨g5, 8, none⟩ = some (.slice a m7 d) := hj5.cell 8
      refine wp_region_obl 7 (fun ix vals v w1 => match ix with | 0 => v = .slice (some ⟨gb, 0, none⟩) L kb | 1 => v = .int .i64 which | 2 => v = .slice (some ⟨gb, 0, none⟩) L kb | 3 => v = .int .i64 (L : Nat) | 4 => v = .int .i64 (pk : Nat) | 5 => v = .agg #[.int .i64 id, .int .i64 i1, .int .i64 i2, .int .i64 i3, .int .i64 i4, .int .i64 i5, .int .i64 i6, .int .i64 i7, .slice a m7 d] | _ => v = .pointer (some ⟨gb, pk * 9, none⟩)) (by kernel_rfl) (by kernel_rfl) ?_ ?_ ?_ ?_
      · intro ix vals v w1 w2 hi hr hx
        match ix, hr with
        | 0, hr => exact hr
        | 1, hr => exact hr
        | 2, hr => exact hr
        | 3, hr => exact hr
        | 4, hr => exact hr
        | 5, hr => exact hr
        | (kx + 6), hr => exact hr
      · intro ix vals vals_ v w1 hi hv hr
        exact hr
      · refine ⟨?_, ?_, ?_, ?_, ?_, ?_, ?_, trivial⟩
        · intro vals w1 hx hd ha
          clear hd ha
          simp only [Lf]
          go_wp2
          exact ⟨rfl, Ext.refl _, rfl⟩
        · intro vals w1 hx hd ha
          clear hd ha
          simp only [Lf, dstAt, Act.put, List.getElem?_toArray, List.getElem?_cons_zero, Option.bind_some, List.setIfInBounds_toArray, List.set_cons_zero, List.set_cons_succ]
          go_wp2
          exact ⟨rfl, Ext.refl _, rfl⟩
        · intro vals w1 hx hd ha
          clear hd ha
          simp only [Lf, dstAt, Act.put, List.getElem?_toArray, List.getElem?_cons_zero, List.getElem?_cons_succ, Option.bind_some, List.setIfInBounds_toArray, List.set_cons_zero, List.set_cons_succ]
          go_wp2
          exact ⟨rfl, Ext.refl _, rfl⟩
        · intro vals w1 hx hd ha
          have e2 : vals 2 = .slice (some ⟨gb, 0, none⟩) L kb := hd 2 (by decide)
          clear hd ha
          simp only [Lf, dstAt, Act.put, List.getElem?_toArray, List.getElem?_cons_zero, List.getElem?_cons_succ, Option.bind_some, List.setIfInBounds_toArray, List.set_cons_zero, List.set_cons_succ]
          simp only [e2]
          clear e2
          go_wp2
          exact ⟨rfl, Ext.refl _, rfl⟩
        · intro vals w1 hx hd ha
          have e1 : vals 1 = .int .i64 which := hd 1 (by decide)
          have e3 : vals 3 = .int .i64 (L : Nat) := hd 3 (by decide)
          clear hd ha
          simp only [Lf, dstAt, Act.put, List.getElem?_toArray, List.getElem?_cons_zero, List.getElem?_cons_succ, Option.bind_some, List.setIfInBounds_toArray, List.set_cons_zero, List.set_cons_succ]
          simp only [e1]
          simp only [e3]
          clear e1 e3
          go_wp2_with (refine (HPK.out _).mono ?_; rintro e w2 ⟨rfl, rfl⟩)
          exact ⟨rfl, Ext.refl _, rfl⟩
        · intro vals w1 hx hd ha
          clear hd ha
          simp only [Lf, dstAt, Act.put, List.getElem?_toArray, List.getElem?_cons_zero, List.getElem?_cons_succ, Option.bind_some, List.setIfInBounds_toArray, List.set_cons_zero, List.set_cons_succ]
          have e0 := ext_cell hx.undrew e0; have e1 := ext_cell hx.undrew e1; have e2 := ext_cell hx.undrew e2; have e3 := ext_cell hx.undrew e3; have e4 := ext_cell hx.undrew e4; have e5 := ext_cell hx.undrew e5; have e6 := ext_cell hx.undrew e6; have e7 := ext_cell hx.undrew e7; have e8 := ext_cell hx.undrew e8
          go_wp2
          exact ⟨rfl, Ext.refl _, rfl⟩
        · intro vals w1 hx hd ha
          have e0 : vals 0 = .slice (some ⟨gb, 0, none⟩) L kb := hd 0 (by decide)
          have e1 : vals 1 = .int .i64 which := hd 1 (by decide)
          have e2 : vals 2 = .slice (some ⟨gb, 0, none⟩) L kb := hd 2 (by decide)
          have e3 : vals 3 = .int .i64 (L : Nat) := hd 3 (by decide)
          have e4 : vals 4 = .int .i64 (pk : Nat) := hd 4 (by decide)
          have e5 : vals 5 = .agg #[.int .i64 id, .int .i64 i1, .int .i64 i2, .int .i64 i3, .int .i64 i4, .int .i64 i5, .int .i64 i6, .int .i64 i7, .slice a m7 d] := hd 5 (by decide)
          clear hd ha
          simp only [Lf, dstAt, Act.put, List.getElem?_toArray, List.getElem?_cons_zero, List.getElem?_cons_succ, Option.bind_some, List.setIfInBounds_toArray, List.set_cons_zero, List.set_cons_succ]
          simp only [e0, e1, e2, e3, e4, e5]
          clear e0 e1 e2 e3 e4 e5
          go_wp2
          exact ⟨rfl, Ext.refl _, rfl⟩
      intro vals W6 hz hf
      have v5 : vals 5 = .agg #[.int .i64 id, .int .i64 i1, .int .i64 i2, .int .i64 i3, .int .i64 i4, .int .i64 i5, .int .i64 i6, .int .i64 i7, .slice a m7 d] := hf 5 (by omega)
      have v6 : vals 6 = .pointer (some ⟨gb, pk * 9, none⟩) := hf 6 (by omega)
      have hz := hz.undrew
      have hbo6 : OwnOp W6 W3.heap.size (.slice (some ⟨gb, 0, none⟩) L kb) os := own_ext HBO.out hz
      obtain ⟨hbo7, hth, hgr⟩ := own_opt_set hbo6 pk hpk ⟨id, i1, i2, i3, i4, i5, i6, i7, a, m7, d, l.take m7⟩
      obtain ⟨W7, hW7⟩ : ∃ W, W = W6.setCells gb (pk * 9) (optCells ⟨id, i1, i2, i3, i4, i5, i6, i7, a, m7, d, l.take m7⟩) := ⟨_, rfl⟩
      rw [← hW7] at hbo7 hgr
      have hx56 := Ext.trans HX5.out hz
      have hx7 : Ext w W7 := hx56.grown hgr (Below.size hx56) (fun q e => by injection e with e; omega)
      have hj47 : Blk W7 g4 27 #[.slice pa pcn pcc, .slice oa ocn occ, .int .i64 sa, .int .i64 sb, .int .i64 sc, .int .i64 lo, .slice wa wn wcp] := (HJ4.out.ext hz).grown hgr (fun e => by injection e with e; omega)
      have hs56 := Below.size hz
      have hmr7 : MadeR W7 c OA PA SA oc pc sc_ os := (HMO.out.mid (fun k h1 h2 => (hgr.block k (by omega) (fun e => by injection e with e; omega)).trans ((hz.block k (by omega)).trans (HMID.out k h1 h2)))).r
      have hops : Ops W7 W7.heap.size (some ⟨gb, 0, none⟩) L kb (os.set pk ⟨id, i1, i2, i3, i4, i5, i6, i7, a, m7, d, l.take m7⟩) := ⟨hbo7.ra (by rw [List.length_set]; omega), fun x hx => by
        rcases List.mem_or_eq_of_mem_set hx with h | h
        · exact hmr7.ho.each x h
        · subst h
          exact ra_ext HO7.out hx7⟩
      have HREL := Lib.hid (⟨Lib.hid ⟨_, hops⟩, Lib.hid hmr7, Lib.hid hj47, hx7⟩ : Hid (∃ os2, Ops W7 W7.heap.size (some ⟨gb, 0, none⟩) L kb os2) ∧ Hid (MadeR W7 c OA PA SA oc pc sc_ os) ∧ Hid (Blk W7 g4 27 #[.slice pa pcn pcc, .slice oa ocn occ, .int .i64 sa, .int .i64 sb, .int .i64 sc, .int .i64 lo, .slice wa wn wcp]) ∧ Ext w W7)
      clear hf hx7 hj47 hmr7 hops hbo7 hgr hbo6 hx56 hz e0 e1 e2 e3 e4 e5 e6 e7 e8 hs56
      refine tail1 7 _ (by kernel_rfl) (by kernel_rfl) rfl ?_
      simp only [Lf, dstAt, Act.put, List.getElem?_toArray, List.getElem?_cons_zero, List.getElem?_cons_succ, Option.bind_some, List.setIfInBounds_toArray, List.set_cons_zero, List.set_cons_succ]
      rw [v5, v6]
      clear v5 v6
      refine wpList_store_st rfl _ _ _ rfl gb (pk * 9) _ (optCells ⟨id, i1, i2, i3, i4, i5, i6, i7, a, m7, d, l.take m7⟩) rfl rfl rfl hth (by kernel_rfl) (opt_ones _) ?_
      rw [← hW7]
      clear hth hW7
      go_wp2
      go_meet
      case rel => exact HREL.out
    · have hLz : ¬ (0 : Int) < (L : Int) := by omega
      have hmr := (HMO.out.mid HMID.out).r
      have HREL := Lib.hid (⟨Lib.hid ⟨os, ⟨OwnOp.ra HBO.out (by have := HMO.out.hl; rw [← HLL.out] at this; omega), hmr.ho.each⟩⟩, Lib.hid hmr, HJ4, HX5.out⟩ : Hid (∃ os2, Ops W5 W5.heap.size (some ⟨gb, 0, none⟩) L kb os2) ∧ Hid (MadeR W5 c OA PA SA oc pc sc_ os) ∧ Hid (Blk W5 g4 27 #[.slice pa pcn pcc, .slice oa ocn occ, .int .i64 sa, .int .i64 sb, .int .i64 sc, .int .i64 lo, .slice wa wn wcp]) ∧ Ext w W5)
      clear hmr
      go_wp2
      go_meet
      case rel => exact HREL.out
  case rest =>
  obtain ⟨HBO2, HMR, HJ4, hx8⟩ := hcut
  obtain ⟨W8, hW8⟩ : ∃ q, q = wc := ⟨_, rfl⟩
  rw [← hW8] at HBO2 HMR HJ4 hx8 ⊢
  clear hW8 HMO HMID HBO HX5 HPKW HPKB hj5 HO7 HM7 hon hole hocap hon0 h5lt2 h4lt2 h23 hgb hsz hg45 hg5w
  have HX8 := Lib.hid hx8
  go_upto_region 8 with (fail)
  go_cut [13] from 53 to 60 (fun v wc => v = .slice wa m4 wcp ∧ wc = W8)
  case first =>
    have d6 : W8.cell? ⟨g4, 6, none⟩ = some (.slice wa wn wcp) := HJ4.out.cell 6
    rcases wa with _ | ⟨bN, oN, spN⟩
    · have h0 := hwn0 rfl
      have h1 := hcn rfl
      have h2 : m4 = 0 := by have := HM4.out; omega
      subst h0 h1 h2
      go_wp2
      go_meet
      exact ⟨rfl, rfl⟩
    · have hif : (if (4 : Int) < (wn : Int) then 4 else (wn : Int)).toNat = m4 := by have := HM4.out; split <;> omega
      go_wp2
      all_goals (go_meet; exact ⟨rfl, rfl⟩)
  case rest =>
  obtain ⟨rfl, hW⟩ := hcut
  rw [hW]
  clear hW wc hwn0 hcn hwle hwcap
  go_upto_region 9 with (fail)
  have hxa : Ext W8 (W8.alloc (.cells #[.slice OA L oc, .slice (some ⟨gb, 0, none⟩) L kb] 36)) := bl_alloc (Below.refl _ _) _
  have J := Blk.new W8 36 #[.slice OA L oc, .slice (some ⟨gb, 0, none⟩) L kb]
  obtain ⟨os2, hos2⟩ := HBO2.out
  have hos1 := HMR0.out W8 OA PA SA oc pc sc_ os HMR.out
  obtain ⟨gx, hgx⟩ : ∃ g, g = W8.heap.size := ⟨_, rfl⟩
  have HGX := Lib.hid hgx
  rw [← hgx] at J
  obtain ⟨W9, hW9⟩ : ∃ W, W = W8.alloc (.cells #[.slice OA L oc, .slice (some ⟨gb, 0, none⟩) L kb] 36) := ⟨_, rfl⟩
  rw [← hW9] at hxa J
  have HXS : Hid (∀ k, k < 2 → ∃ A n c xs, W9.cell? ⟨gx, k, none⟩ = some (.slice A n c) ∧ Ops W9 W9.heap.size A n c xs) := Lib.hid (fun k hk => by
    match k, hk with
    | 0, _ => exact ⟨_, _, _, _, J.cell 0, hos1.ext hxa⟩
    | 1, _ => exact ⟨_, _, _, _, J.cell 1, hos2.ext hxa⟩)
  have HPS : Hid (RA pasCells 6 W9 W9.heap.size PA pn pc (casP c)) := Lib.hid (by
    have h := ra_ext HMR.out.ps hxa
    rw [HPN.out] at h
    exact h)
  have HST := Lib.hid (ra_ext HMR.out.st hxa)
  have HJ4 := Lib.hid (HJ4.out.ext hxa)
  have HX9 := Lib.hid (Ext.trans HX8.out hxa)
  have HW9 := Lib.hid hW9
  clear hxa J hos1 hos2 hgx hW9 HBO2 HMR hx8 HX8
  go_wp2_with fail
  rw [← HW9.out, ← HGX.out]
  clear HW9 HGX
  go_loopw [64] (fun i wr => ∃ k : Nat, k ≤ 2 ∧ i = .int .i64 k ∧ Ext W9 wr) (fun i _ => 2 - (intOf i).toNat)
  case atStart => exact ⟨0, Nat.zero_le _, rfl, Ext.refl _⟩
  case round =>
    obtain ⟨k, hk, rfl, hx⟩ := hrel
    by_cases hk2 : k < 2
    · obtain ⟨XA, xn, xc, xs, hc0, hops⟩ := HXS.out k hk2
      have hc0 := ext_cell hx hc0
      have HOP := Lib.hid (hops.ext hx)
      have HPSr := Lib.hid (ra_ext HPS.out hx)
      have HXR := Lib.hid (Ext.trans HX9.out hx)
      have d5 : wr.cell? ⟨g4, 5, none⟩ = some (.int .i64 lo) := (HJ4.out.ext hx).cell 5
      have hk2z : (k : Int) < 2 := by omega
      have hm5c : (m5 : Int) ≤ (yc : Int) := by have := HM5.out; omega
      clear hops
      go_upto_region 12 with (fail)
      clear hc0
      refine wp_region_obl 12 (fun ix vals v w1 => match ix with | 0 => v = .slice PA pn pc | 1 => v = .pointer (some ⟨g4, 5, none⟩) | 2 => v = .int .i64 lo | 3 => ∃ LA ln lc, v = .slice LA ln lc ∧ RA intCells 1 w1 w1.heap.size LA ln lc (lostI c) | 4 => v = .slice YA yn yc | 5 => v = .slice YA yn yc | 6 => v = .int .i64 (yn : Nat) | 7 => v = .int .i64 (m5 : Nat) | 8 => v = .slice YA m5 yc | 9 => ∃ g LA ln lc, v = .slice (some ⟨g, 0, none⟩) 2 2 ∧ Blk w1 g 25 #[.slice LA ln lc, .slice YA m5 yc] ∧ RA intCells 1 w1 w1.heap.size LA ln lc (lostI c) | 10 => v = .int .i64 2 | _ => v = .int .i64 0) (by kernel_rfl) (by kernel_rfl) ?_ ?_ ?_ ?_
      · intro ix vals v w1 w2 hi hr hx
        match ix, hr with
        | 0, hr => exact hr
        | 1, hr => exact hr
        | 2, hr => exact hr
        | 3, hr => obtain ⟨A, n, q, h1, h2⟩ := hr; exact ⟨A, n, q, h1, ra_ext h2 hx⟩
        | 4, hr => exact hr
        | 5, hr => exact hr
        | 6, hr => exact hr
        | 7, hr => exact hr
        | 8, hr => exact hr
        | 9, hr => obtain ⟨g, A, n, q, h1, h2, h3⟩ := hr; exact ⟨g, A, n, q, h1, h2.ext hx, ra_ext h3 hx⟩
        | 10, hr => exact hr
        | (kx + 11), hr => exact hr
      · intro ix vals vals_ v w1 hi hv hr
        exact hr
      · refine ⟨?_, ?_, ?_, ?_, ?_, ?_, ?_, ?_, ?_, ?_, ?_, ?_, trivial⟩
        · intro vals w1 hx hd ha
          clear hd ha
          simp only [Lf]
          go_wp2
          exact ⟨rfl, Ext.refl _, rfl⟩
        · intro vals w1 hx hd ha
          clear hd ha
          simp only [Lf, dstAt, Act.put, List.getElem?_toArray, List.getElem?_cons_zero, Option.bind_some, List.setIfInBounds_toArray, List.set_cons_zero, List.set_cons_succ]
          go_wp2
          exact ⟨rfl, Ext.refl _, rfl⟩
        · intro vals w1 hx hd ha
          have e1 : vals 1 = .pointer (some ⟨g4, 5, none⟩) := hd 1 (by decide)
          clear hd ha
          simp only [Lf, dstAt, Act.put, List.getElem?_toArray, List.getElem?_cons_zero, List.getElem?_cons_succ, Option.bind_some, List.setIfInBounds_toArray, List.set_cons_zero, List.set_cons_succ]
          simp only [e1]
          clear e1
          have d5 := ext_cell hx.undrew d5
          go_wp2
          exact ⟨rfl, Ext.refl _, rfl⟩
        · intro vals w1 hx hd ha
          have e0 : vals 0 = .slice PA pn pc := hd 0 (by decide)
          have e2 : vals 2 = .int .i64 lo := hd 2 (by decide)
          clear hd ha
          simp only [Lf, dstAt, Act.put, List.getElem?_toArray, List.getElem?_cons_zero, List.getElem?_cons_succ, Option.bind_some, List.setIfInBounds_toArray, List.set_cons_zero, List.set_cons_succ]
          have HC := Lib.hid (HLOST.out w1 PA pc (ra_ext HPSr.out hx.undrew))
          simp only [e0]
          simp only [e2]
          clear e0 e2
          go_wp2_with fail
          refine HC.out.mono ?_
          rintro e w2 ⟨LA, ln, lc, rfl, hl, hy⟩
          go_wp2
          exact ⟨rfl, hy, _, _, _, rfl, hl⟩
        · intro vals w1 hx hd ha
          clear hd ha
          simp only [Lf, dstAt, Act.put, List.getElem?_toArray, List.getElem?_cons_zero, List.getElem?_cons_succ, Option.bind_some, List.setIfInBounds_toArray, List.set_cons_zero, List.set_cons_succ]
          go_wp2
          exact ⟨rfl, Ext.refl _, rfl⟩
        · intro vals w1 hx hd ha
          clear hd ha
          simp only [Lf, dstAt, Act.put, List.getElem?_toArray, List.getElem?_cons_zero, List.getElem?_cons_succ, Option.bind_some, List.setIfInBounds_toArray, List.set_cons_zero, List.set_cons_succ]
          go_wp2
          exact ⟨rfl, Ext.refl _, rfl⟩
        · intro vals w1 hx hd ha
          have e5 : vals 5 = .slice YA yn yc := hd 5 (by decide)
          clear hd ha
          simp only [Lf, dstAt, Act.put, List.getElem?_toArray, List.getElem?_cons_zero, List.getElem?_cons_succ, Option.bind_some, List.setIfInBounds_toArray, List.set_cons_zero, List.set_cons_succ]
          simp only [e5]
          clear e5
          go_wp2
          exact ⟨rfl, Ext.refl _, rfl⟩
        · intro vals w1 hx hd ha
          have e6 : vals 6 = .int .i64 (yn : Nat) := hd 6 (by decide)
          clear hd ha
          simp only [Lf, dstAt, Act.put, List.getElem?_toArray, List.getElem?_cons_zero, List.getElem?_cons_succ, Option.bind_some, List.setIfInBounds_toArray, List.set_cons_zero, List.set_cons_succ]
          simp only [e6]
          clear e6
          have hm5 := HM5.out
          go_wp2
          all_goals exact ⟨rfl, Ext.refl _, by show Value.int _ _ = Value.int _ _; congr 1; omega⟩
        · intro vals w1 hx hd ha
          have e4 : vals 4 = .slice YA yn yc := hd 4 (by decide)
          have e7 : vals 7 = .int .i64 (m5 : Nat) := hd 7 (by decide)
          clear hd ha
          simp only [Lf, dstAt, Act.put, List.getElem?_toArray, List.getElem?_cons_zero, List.getElem?_cons_succ, Option.bind_some, List.setIfInBounds_toArray, List.set_cons_zero, List.set_cons_succ]
          simp only [e4]
          simp only [e7]
          clear e4 e7
          rcases YA with _ | ⟨bN, oN, spN⟩
          · have h0 := hyn0 rfl; have h1 := hyn rfl; have h2 : m5 = 0 := (by have := HM5.out; omega); subst h0 h1 h2; go_wp2; exact ⟨rfl, Ext.refl _, rfl⟩
          · go_wp2; exact ⟨rfl, Ext.refl _, rfl⟩
        · intro vals w1 hx hd ha
          have r3 : (fun v w1 => ∃ LA ln lc, v = .slice LA ln lc ∧ RA intCells 1 w1 w1.heap.size LA ln lc (lostI c)) (vals 3) w1 := hd 3 (by decide)
          dsimp only at r3
          have e8 : vals 8 = .slice YA m5 yc := hd 8 (by decide)
          clear hd ha
          simp only [Lf, dstAt, Act.put, List.getElem?_toArray, List.getElem?_cons_zero, List.getElem?_cons_succ, Option.bind_some, List.setIfInBounds_toArray, List.set_cons_zero, List.set_cons_succ]
          obtain ⟨LA, ln, lc, e_3, hl3⟩ := r3
          simp only [e8]
          clear e8
          rw [e_3]
          go_wp2
          exact ⟨rfl, (by repeat (first | exact Below.refl _ _ | assumption | refine Below.drew ?_ | refine below_drewN ?_ _ | refine bl_alloc ?_ _ | refine Below.setCell ?_ (by first | (simp; done) | omega | (simp; omega)) _ | refine bl_then ?_ (by assumption))), _, LA, ln, lc, rfl, Blk.new _ _ _, ra_ext hl3 (bl_alloc (Below.refl _ _) _)⟩
        · intro vals w1 hx hd ha
          have r9 : (fun v w1 => ∃ g LA ln lc, v = .slice (some ⟨g, 0, none⟩) 2 2 ∧ Blk w1 g 25 #[.slice LA ln lc, .slice YA m5 yc] ∧ RA intCells 1 w1 w1.heap.size LA ln lc (lostI c)) (vals 9) w1 := hd 9 (by decide)
          dsimp only at r9
          clear hd ha
          simp only [Lf, dstAt, Act.put, List.getElem?_toArray, List.getElem?_cons_zero, List.getElem?_cons_succ, Option.bind_some, List.setIfInBounds_toArray, List.set_cons_zero, List.set_cons_succ]
          obtain ⟨g, A, n, q, e_9, _, _⟩ := r9
          rw [e_9]
          go_wp2
          exact ⟨rfl, Ext.refl _, rfl⟩
        · intro vals w1 hx hd ha
          clear hd ha
          simp only [Lf, dstAt, Act.put, List.getElem?_toArray, List.getElem?_cons_zero, List.getElem?_cons_succ, Option.bind_some, List.setIfInBounds_toArray, List.set_cons_zero, List.set_cons_succ]
          go_wp2
          exact ⟨rfl, Ext.refl _, rfl⟩
      intro vals W10 hz hf
      obtain ⟨gz, LA, ln, lc, v9, jz, hl⟩ : ∃ g LA ln lc, vals 9 = .slice (some ⟨g, 0, none⟩) 2 2 ∧ Blk W10 g 25 #[.slice LA ln lc, .slice YA m5 yc] ∧ RA intCells 1 W10 W10.heap.size LA ln lc (lostI c) := hf 9 (by omega)
      have v10 : vals 10 = .int .i64 2 := hf 10 (by omega)
      have v11 : vals 11 = .int .i64 0 := hf 11 (by omega)
      have hz := hz.undrew
      have hx10 := Ext.trans HXR.out hz
      have HZS : Hid (∀ q, q < 2 → ∃ A n k zs, W10.cell? ⟨gz, q, none⟩ = some (.slice A n k) ∧ RA intCells 1 W10 W10.heap.size A n k zs) := Lib.hid (fun q hq => by
        match q, hq with
        | 0, _ => exact ⟨_, _, _, _, jz.cell 0, hl⟩
        | 1, _ => exact ⟨_, _, _, _, jz.cell 1, ra_ext HY.out hx10⟩)
      have HOP := Lib.hid (HOP.out.ext hz)
      have HPSr := Lib.hid (ra_ext HPSr.out hz)
      have HSTr := Lib.hid (ra_ext (ra_ext HST.out hx) hz)
      have HWRr := Lib.hid (ra_ext HW4.out hx10)
      have HXZ := Lib.hid (Ext.trans hx hz)
      have hpn := HPN.out
      clear hf jz hl d5 hx10 hz hx HXR
      refine tail0 (by kernel_rfl) ?_
      simp only [Lf, dstAt, Act.put, List.getElem?_toArray, List.getElem?_cons_zero, List.getElem?_cons_succ, Option.bind_some, List.setIfInBounds_toArray, List.set_cons_zero, List.set_cons_succ]
      rw [v9, v10, v11]
      clear v9 v10 v11
      go_wp2_with fail
      go_loopw [79] (fun j wr => ∃ q : Nat, q ≤ 2 ∧ j = .int .i64 q ∧ Ext W10 wr) (fun j _ => 2 - (intOf j).toNat)
      case atStart => exact ⟨0, Nat.zero_le _, rfl, Ext.refl _⟩
      case round =>
        obtain ⟨q, hq, rfl, hxi⟩ := hrel
        by_cases hq2 : q < 2
        · obtain ⟨ZA, zn, zc, zs, hz0, hzr⟩ := HZS.out q hq2
          have hz0 := ext_cell hxi hz0
          have hq2z : (q : Int) < 2 := by omega
          have hops := HOP.out.ext hxi
          have hps := ra_ext HPSr.out hxi
          have hst := ra_ext HSTr.out hxi
          have hwr := ra_ext HWRr.out hxi
          have hzr := ra_ext hzr hxi
          have HC := Lib.hid (write_any xs (casP c) (casS c) zs (wr0.take m4) XA PA SA ZA wa xn xc pn pc 3 sc_ zn zc m4 wcp wr hops hps hst hzr hwr)
          have HC2 := Lib.hid (fun (W : World) (hW : Ext wr W) => rwrite_any xs (casP c) (casS c) zs (wr0.take m4) XA PA SA ZA wa xn xc pn pc 3 sc_ zn zc m4 wcp W (hops.ext hW) (ra_ext hps hW) (ra_ext hst hW) (ra_ext hzr hW) (ra_ext hwr hW))
          clear hops hps hst hwr hzr
          generalize wrtV xs (casP c) (casS c) zs (wr0.take m4) = X at HC HC2
          obtain ⟨⟨XR, XN⟩, XE⟩ := X
          go_wp2_with fail
          refine HC.out.mono ?_
          rintro e W11 h11
          obtain ⟨R1, rc1, N1, nc1, rfl, hr1, hn1, hy⟩ := h11.out
          have hx11 := Ext.trans hxi hy
          have HD := Lib.hid (HC2.out W11 hy)
          have HR1 := Lib.hid hr1
          have HN1 := Lib.hid hn1
          clear h11 hr1 hn1 hy HC HC2 hz0 hxi
          dsimp only at HR1 HN1 ⊢
          obtain ⟨rl, hrl⟩ : ∃ r, r = XR.length := ⟨_, rfl⟩
          obtain ⟨nl, hnl⟩ : ∃ r, r = XN.length := ⟨_, rfl⟩
          rw [← hrl] at HR1 ⊢
          rw [← hnl] at HN1 ⊢
          have HRL := Lib.hid hrl
          have HNL := Lib.hid hnl
          clear hrl hnl
          go_wp2_with fail
          refine HD.out.mono ?_
          rintro e W12 h12
          obtain ⟨R2, rc2, N2, nc2, rfl, hr2, hn2, hy⟩ := h12.out
          have hx12 := Ext.trans hx11 hy
          have HR1 := Lib.hid (ra_ext HR1.out hy)
          have HN1 := Lib.hid (ra_ext HN1.out hy)
          clear h12 HD hx11
          dsimp only at hr2 hn2 ⊢
          rw [← HRL.out] at hr2 ⊢
          rw [← HNL.out] at hn2 ⊢
          have HN2 := Lib.hid hn2
          have HC := Lib.hid (same_rcp_true R1 R2 rl rl rc1 rc2 XR W12 HR1.out hr2)
          have hee : (XE != XE) = false := by simp
          have hee2 : (XE == XE) = true := by simp
          clear hr2 hn2 hy HRL HNL HR1
          go_wp2_with fail
          refine HC.out.mono ?_
          rintro e W13 ⟨rfl, hy⟩
          have hx13 := Ext.trans hx12 hy
          have HC2 := Lib.hid (same_nte_true N1 N2 nl nl nc1 nc2 XN W13 (ra_ext HN1.out hy) (ra_ext HN2.out hy))
          clear hx12 hy HC HN1 HN2
          go_wp2_with fail
          refine HC2.out.mono ?_
          rintro e W14 ⟨rfl, hy⟩
          have HX14 := Lib.hid (Ext.trans hx13 hy)
          have HQ2 := Lib.hid hq2
          clear hx13 hy HC2
          go_wp2_with fail
          go_roundw
          case rel => exact ⟨q + 1, HQ2.out, by go_num, HX14.out⟩
          case measure => have := HQ2.out; simp [intOf]; omega
        · have hq2z : ¬ (q : Int) < 2 := by omega
          have HXF := Lib.hid (Ext.trans HXZ.out hxi)
          have HK2 := Lib.hid hk2
          clear hxi
          go_wp2_with fail
          go_roundw
          case rel => exact ⟨k + 1, HK2.out, by go_num, HXF.out⟩
          case measure => have := HK2.out; simp [intOf]; omega
    · have hk2z : ¬ (k : Int) < 2 := by omega
      have HXF := Lib.hid (Ext.trans HX9.out hx)
      clear hx
      go_wp2_with fail
      go_ret
      exact ⟨rfl, HXF.out⟩
end Go.Proofs.Ytmlabgmigakcbaa
