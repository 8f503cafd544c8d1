/- Receipts and notes of the case, as rows of one's own; appends onto them (truth_own is printed from truth_any). -/
import Derived.Test.YtmlabgmigakcbaaP26
namespace Go.Proofs.Ytmlabgmigakcbaa
open Go.RowKit
theorem rcp_one (x : Rcp) : ∀ u ∈ rcpCells x, u.oneCell' = true := by simp [rcpCells, Value.oneCell']
theorem nte_one (x : Nte) : ∀ u ∈ nteCells x, u.oneCell' = true := by simp [nteCells, Value.oneCell']
theorem rcp_app {w : World} (ty : TypeId) (xs ys : List Rcp) (v : Value) (base b n c : Nat) (A : Option Addr) (hx : OwnRc w base v xs) (hy : RA rcpCells 3 w b A n c ys) (hn : xs.length + n ≤ 100000) (hb : base ≤ w.heap.size) :
  ∃ v' w', (Builtin.append_ #[33, 33] ty #[v, .slice A n c]).run Try.prog w = .ok v' w' ∧ w.grownBy w' v.ownBlock ∧ OwnRc w' base v' (xs ++ ys) := by
 obtain ⟨i0, hi0, hz0, hz1, hz2⟩ := info_parts info_rcp
 exact app_ra 33 ty 63 i0 _ Try.underlying33 hi0 hz0 hz1 hz2 rfl (by omega) (by omega) rcp_one xs ys v base b n c A hx hy hn hb
theorem nte_app {w : World} (ty : TypeId) (xs ys : List Nte) (v : Value) (base b n c : Nat) (A : Option Addr) (hx : OwnNt w base v xs) (hy : RA nteCells 3 w b A n c ys) (hn : xs.length + n ≤ 100000) (hb : base ≤ w.heap.size) :
  ∃ v' w', (Builtin.append_ #[34, 34] ty #[v, .slice A n c]).run Try.prog w = .ok v' w' ∧ w.grownBy w' v.ownBlock ∧ OwnNt w' base v' (xs ++ ys) := by
 obtain ⟨i0, hi0, hz0, hz1, hz2⟩ := info_parts info_nte
 exact app_ra 34 ty 89 i0 _ Try.underlying34 hi0 hz0 hz1 hz2 rfl (by omega) (by omega) nte_one xs ys v base b n c A hx hy hn hb
set_option maxRecDepth 100000 in
set_option maxHeartbeats 8000000 in
theorem truth_own (c : Cas) (OA PA SA : Option Addr) (oc pc sc : Nat) (os : List Opt) (w : World) (hc : CasR w w.heap.size c) (hm : MadeR w c OA PA SA oc pc sc os) :
  Calls Try.prog 12 #[casV c, .slice PA (casP c).length pc, .slice OA (casO c).length oc, .slice SA 3 sc] w fun e w' =>
   ∃ RA_ rc NA nc, e = .returned (.tuple #[.slice RA_ (casW c).1.1.length rc, .slice NA (casW c).1.2.length nc, .bool (decide ((casW c).2 = 0))]) ∧ OwnRc w' w.heap.size (.slice RA_ (casW c).1.1.length rc) (casW c).1.1 ∧ OwnNt w' w.heap.size (.slice NA (casW c).1.2.length nc) (casW c).1.2 ∧ Ext w w' := by
 have HLO := Lib.hid (fun (W : World) (hW : Ext w W) => lost_ra c PA pc W (ra_ext hm.ps hW) hc.lost)
 have HWR : Hid (∀ (W : World) (A : Option Addr) (n k : Nat), Ext w W → RA intCells 1 W W.heap.size A n k (lostI c) → Calls Try.prog 26 #[.slice OA (casO c).length oc, .slice PA (casP c).length pc, .slice SA 3 sc, .slice A n k, .slice c.wa c.wn c.wc] W (WrtRet (casW c) W)) := Lib.hid (fun W A n k hW hA => by
  have h := write_any os (casP c) (casS c) (lostI c) c.wr OA PA SA A c.wa _ oc _ pc 3 sc n k c.wn c.wc W (hm.ext hW).ho (ra_ext hm.ps hW) (ra_ext hm.st hW) hA (ra_ext hc.wr hW)
  rw [wrtV_map os, hm.op] at h
  exact h)
 have hlen := casW_len c
 have hcv : casV c = .agg #[.slice c.pa c.pn c.pc, .slice c.oa c.on c.oc, .int .i64 c.sk.a, .int .i64 c.sk.b, .int .i64 c.sk.c, .int .i64 c.lost, .slice c.wa c.wn c.wc] := rfl
 rw [hcv]
 clear hcv hc hm
 generalize lostI c = LI at HLO HWR
 generalize casW c = X at HWR hlen ⊢
 obtain ⟨⟨XR, XN⟩, XE⟩ := X
 dsimp only at hlen ⊢
 obtain ⟨hlen1, hlen2⟩ := hlen
 generalize (casO c).length = on at HWR ⊢
 generalize (casP c).length = pn at HLO HWR ⊢
 generalize c.pa = pa
 generalize c.pn = pcn
 generalize c.pc = pcc
 generalize c.oa = oa
 generalize c.on = ocn
 generalize c.oc = occ
 generalize c.sk.a = sa
 generalize c.sk.b = sb
 generalize c.sk.c = sc2
 generalize c.lost = lo at HLO ⊢
 generalize c.wa = wa at HWR ⊢
 generalize c.wn = wn at HWR ⊢
 generalize c.wc = wc at HWR ⊢
 obtain ⟨fin, hfin⟩ : ∃ y, y = decide (XE = 0) := ⟨_, rfl⟩
 rw [← hfin]
 have HFIN := Lib.hid hfin
 clear hfin
 go_enter Try.func12, Try.ntmps12
 go_upto_region 1 with (fail)
 have hx1 : Ext w (w.alloc (.cells #[.slice pa pcn pcc, .slice oa ocn occ, .int .i64 sa, .int .i64 sb, .int .i64 sc2, .int .i64 lo, .slice wa wn wc] 27)) := bl_alloc (Below.refl _ _) _
 have J := Blk.new w 27 #[.slice pa pcn pcc, .slice oa ocn occ, .int .i64 sa, .int .i64 sb, .int .i64 sc2, .int .i64 lo, .slice wa wn wc]
 obtain ⟨g4, hg4⟩ : ∃ g, g = w.heap.size := ⟨_, rfl⟩
 rw [← hg4] at J ⊢
 clear hg4
 generalize w.alloc (.cells #[.slice pa pcn pcc, .slice oa ocn occ, .int .i64 sa, .int .i64 sb, .int .i64 sc2, .int .i64 lo, .slice wa wn wc] 27) = W1 at hx1 J ⊢
 have d5 : W1.cell? ⟨g4, 5, none⟩ = some (.int .i64 lo) := J.cell 5
 have d6 : W1.cell? ⟨g4, 6, none⟩ = some (.slice wa wn wc) := J.cell 6
 clear J
 refine wp_region_obl 17 (fun ix vals v w1 => match ix with | 0 => v = .slice OA on oc | 1 => v = .slice PA pn pc | 2 => v = .slice SA 3 sc | 3 => v = .slice PA pn pc | 4 => v = .pointer (some ⟨g4, 5, none⟩) | 5 => v = .int .i64 lo | 6 => ∃ A n k, v = .slice A n k ∧ RA intCells 1 w1 w1.heap.size A n k LI | 7 => v = .pointer (some ⟨g4, 6, none⟩) | 8 => v = .slice wa wn wc | 9 => ∃ v1 vn, v = .tuple #[v1, vn, .int .i64 XE] ∧ OwnRc w1 W1.heap.size v1 XR ∧ OwnNt w1 W1.heap.size vn XN | 10 => ∃ v1 vn, v = .tuple #[v1, vn, .int .i64 XE] ∧ OwnRc w1 W1.heap.size v1 XR ∧ OwnNt w1 W1.heap.size vn XN | 11 => OwnRc w1 W1.heap.size v XR | 12 => OwnNt w1 W1.heap.size v XN | 13 => v = .int .i64 XE | 14 => OwnRc w1 W1.heap.size v XR | 15 => OwnNt w1 W1.heap.size v XN | _ => v = .int .i64 XE) (by kernel_rfl) (by kernel_rfl) ?_ ?_ ?_ ?_
 ·intro ix vals v w1 w2 hi hr hx
  match ix, hr with
  |0, hr => exact hr
  |1, hr => exact hr
  |2, hr => exact hr
  |3, hr => exact hr
  |4, hr => exact hr
  |5, hr => exact hr
  |6, hr => obtain ⟨A, n, k, h1, h2⟩ := hr; exact ⟨A, n, k, h1, ra_ext h2 hx⟩
  |7, hr => exact hr
  |8, hr => exact hr
  |9, hr => obtain ⟨v1, vn, h1, h2, h3⟩ := hr; exact ⟨v1, vn, h1, h2.ext hx, h3.ext hx⟩
  |10, hr => obtain ⟨v1, vn, h1, h2, h3⟩ := hr; exact ⟨v1, vn, h1, h2.ext hx, h3.ext hx⟩
  |11, hr => exact OwnRc.ext hr hx
  |12, hr => exact OwnNt.ext hr hx
  |13, hr => exact hr
  |14, hr => exact OwnRc.ext hr hx
  |15, hr => exact OwnNt.ext hr hx
  |(kx + 16), hr => exact hr
 ·intro ix vals vals_ v w1 hi hv hr
  exact hr
 ·refine ⟨?_, ?_, ?_, ?_, ?_, ?_, ?_, ?_, ?_, ?_, ?_, ?_, ?_, ?_, ?_, ?_, ?_, trivial⟩
  ·intro vals w1 hx hd ha
   clear hd ha
   simp only [Lf]
   go_wp2
   exact ⟨rfl, Ext.refl _, rfl⟩
  ·intro vals w1 hx hd ha
   clear hd ha
   simp only [Lf, dstAt, Act.put, List.getElem?_toArray, List.getElem?_cons_zero, Option.bind_some, List.setIfInBounds_toArray, List.set_cons_zero, List.set_cons_succ]
   go_wp2
   exact ⟨rfl, Ext.refl _, rfl⟩
  ·intro vals w1 hx hd ha
   clear hd ha
   simp only [Lf, dstAt, Act.put, List.getElem?_toArray, List.getElem?_cons_zero, List.getElem?_cons_succ, Option.bind_some, List.setIfInBounds_toArray, List.set_cons_zero, List.set_cons_succ]
   go_wp2
   exact ⟨rfl, Ext.refl _, rfl⟩
  ·intro vals w1 hx hd ha
   clear hd ha
   simp only [Lf, dstAt, Act.put, List.getElem?_toArray, List.getElem?_cons_zero, List.getElem?_cons_succ, Option.bind_some, List.setIfInBounds_toArray, List.set_cons_zero, List.set_cons_succ]
   go_wp2
   exact ⟨rfl, Ext.refl _, rfl⟩
  ·intro vals w1 hx hd ha
   clear hd ha
   simp only [Lf, dstAt, Act.put, List.getElem?_toArray, List.getElem?_cons_zero, List.getElem?_cons_succ, Option.bind_some, List.setIfInBounds_toArray, List.set_cons_zero, List.set_cons_succ]
   go_wp2
   exact ⟨rfl, Ext.refl _, rfl⟩
  ·intro vals w1 hx hd ha
   have e4 : vals 4 = .pointer (some ⟨g4, 5, none⟩) := hd 4 (by decide)
   clear hd ha
   simp only [Lf, dstAt, Act.put, List.getElem?_toArray, List.getElem?_cons_zero, List.getElem?_cons_succ, Option.bind_some, List.setIfInBounds_toArray, List.set_cons_zero, List.set_cons_succ]
   simp only [e4]
   clear e4
   have d5 := ext_cell hx d5
   go_wp2
   exact ⟨rfl, Ext.refl _, rfl⟩
  ·intro vals w1 hx hd ha
   have e3 : vals 3 = .slice PA pn pc := hd 3 (by decide)
   have e5 : vals 5 = .int .i64 lo := hd 5 (by decide)
   clear hd ha
   simp only [Lf, dstAt, Act.put, List.getElem?_toArray, List.getElem?_cons_zero, List.getElem?_cons_succ, Option.bind_some, List.setIfInBounds_toArray, List.set_cons_zero, List.set_cons_succ]
   simp only [e3]
   simp only [e5]
   clear e3 e5
   go_wp2_with fail
   refine (HLO.out w1 (Ext.trans hx1 hx.undrew)).mono ?_
   rintro e w2 ⟨A, n, k, rfl, h1, hb2⟩
   have h1 := Lib.hid h1
   go_wp2
   exact ⟨rfl, hb2, A, n, k, rfl, h1.out⟩
  ·intro vals w1 hx hd ha
   clear hd ha
   simp only [Lf, dstAt, Act.put, List.getElem?_toArray, List.getElem?_cons_zero, List.getElem?_cons_succ, Option.bind_some, List.setIfInBounds_toArray, List.set_cons_zero, List.set_cons_succ]
   go_wp2
   exact ⟨rfl, Ext.refl _, rfl⟩
  ·intro vals w1 hx hd ha
   have e7 : vals 7 = .pointer (some ⟨g4, 6, none⟩) := hd 7 (by decide)
   clear hd ha
   simp only [Lf, dstAt, Act.put, List.getElem?_toArray, List.getElem?_cons_zero, List.getElem?_cons_succ, Option.bind_some, List.setIfInBounds_toArray, List.set_cons_zero, List.set_cons_succ]
   simp only [e7]
   clear e7
   have d6 := ext_cell hx d6
   go_wp2
   exact ⟨rfl, Ext.refl _, rfl⟩
  ·intro vals w1 hx hd ha
   have e0 : vals 0 = .slice OA on oc := hd 0 (by decide)
   have e1 : vals 1 = .slice PA pn pc := hd 1 (by decide)
   have e2 : vals 2 = .slice SA 3 sc := hd 2 (by decide)
   have r6 : (fun v w1 => ∃ A n k, v = .slice A n k ∧ RA intCells 1 w1 w1.heap.size A n k LI) (vals 6) w1 := hd 6 (by decide)
   dsimp only at r6
   have e8 : vals 8 = .slice wa wn wc := hd 8 (by decide)
   clear hd ha
   simp only [Lf, dstAt, Act.put, List.getElem?_toArray, List.getElem?_cons_zero, List.getElem?_cons_succ, Option.bind_some, List.setIfInBounds_toArray, List.set_cons_zero, List.set_cons_succ]
   simp only [e0]
   simp only [e1]
   simp only [e2]
   simp only [e8]
   clear e0 e1 e2 e8
   obtain ⟨A, n, k, e_6, h6⟩ := r6
   rw [e_6]
   have hz := Below.size hx.undrew
   have HW6 := Lib.hid (HWR.out w1 A n k (Ext.trans hx1 hx.undrew) h6)
   clear h6
   go_wp2_with fail
   refine HW6.out.mono ?_
   rintro e w2 ⟨v1, vn, rfl, h1, h2, hb2⟩
   have h1 := Lib.hid (own_base h1 hz)
   have h2 := Lib.hid (own_base h2 hz)
   go_wp2
   exact ⟨rfl, hb2, v1, vn, rfl, h1.out, h2.out⟩
  ·intro vals w1 hx hd ha
   have r9 : (fun v w1 => ∃ v1 vn, v = .tuple #[v1, vn, .int .i64 XE] ∧ OwnRc w1 W1.heap.size v1 XR ∧ OwnNt w1 W1.heap.size vn XN) (vals 9) w1 := hd 9 (by decide)
   dsimp only at r9
   clear hd ha
   simp only [Lf, dstAt, Act.put, List.getElem?_toArray, List.getElem?_cons_zero, List.getElem?_cons_succ, Option.bind_some, List.setIfInBounds_toArray, List.set_cons_zero, List.set_cons_succ]
   obtain ⟨v1, vn, e_9, h1, h2⟩ := r9
   rw [e_9]
   have h1 := Lib.hid h1
   have h2 := Lib.hid h2
   go_wp2
   exact ⟨rfl, Ext.refl _, v1, vn, rfl, h1.out, h2.out⟩
  ·intro vals w1 hx hd ha
   have r10 : (fun v w1 => ∃ v1 vn, v = .tuple #[v1, vn, .int .i64 XE] ∧ OwnRc w1 W1.heap.size v1 XR ∧ OwnNt w1 W1.heap.size vn XN) (vals 10) w1 := hd 10 (by decide)
   dsimp only at r10
   clear hd ha
   simp only [Lf, dstAt, Act.put, List.getElem?_toArray, List.getElem?_cons_zero, List.getElem?_cons_succ, Option.bind_some, List.setIfInBounds_toArray, List.set_cons_zero, List.set_cons_succ]
   obtain ⟨v1, vn, e_9, h1, h2⟩ := r10
   rw [e_9]
   have h1 := Lib.hid h1
   clear h2
   go_wp2
   exact ⟨rfl, Ext.refl _, h1.out⟩
  ·intro vals w1 hx hd ha
   have r10 : (fun v w1 => ∃ v1 vn, v = .tuple #[v1, vn, .int .i64 XE] ∧ OwnRc w1 W1.heap.size v1 XR ∧ OwnNt w1 W1.heap.size vn XN) (vals 10) w1 := hd 10 (by decide)
   dsimp only at r10
   clear hd ha
   simp only [Lf, dstAt, Act.put, List.getElem?_toArray, List.getElem?_cons_zero, List.getElem?_cons_succ, Option.bind_some, List.setIfInBounds_toArray, List.set_cons_zero, List.set_cons_succ]
   obtain ⟨v1, vn, e_9, h1, h2⟩ := r10
   rw [e_9]
   have h2 := Lib.hid h2
   clear h1
   go_wp2
   exact ⟨rfl, Ext.refl _, h2.out⟩
  ·intro vals w1 hx hd ha
   have r10 : (fun v w1 => ∃ v1 vn, v = .tuple #[v1, vn, .int .i64 XE] ∧ OwnRc w1 W1.heap.size v1 XR ∧ OwnNt w1 W1.heap.size vn XN) (vals 10) w1 := hd 10 (by decide)
   dsimp only at r10
   clear hd ha
   simp only [Lf, dstAt, Act.put, List.getElem?_toArray, List.getElem?_cons_zero, List.getElem?_cons_succ, Option.bind_some, List.setIfInBounds_toArray, List.set_cons_zero, List.set_cons_succ]
   obtain ⟨v1, vn, e_9, h1, h2⟩ := r10
   rw [e_9]
   clear h1 h2
   go_wp2
   exact ⟨rfl, Ext.refl _, rfl⟩
  ·intro vals w1 hx hd ha
   have e0 : vals 0 = .slice OA on oc := hd 0 (by decide)
   have e1 : vals 1 = .slice PA pn pc := hd 1 (by decide)
   have e2 : vals 2 = .slice SA 3 sc := hd 2 (by decide)
   have e3 : vals 3 = .slice PA pn pc := hd 3 (by decide)
   have e4 : vals 4 = .pointer (some ⟨g4, 5, none⟩) := hd 4 (by decide)
   have e5 : vals 5 = .int .i64 lo := hd 5 (by decide)
   have r6 : (fun v w1 => ∃ A n k, v = .slice A n k ∧ RA intCells 1 w1 w1.heap.size A n k LI) (vals 6) w1 := hd 6 (by decide)
   dsimp only at r6
   have e7 : vals 7 = .pointer (some ⟨g4, 6, none⟩) := hd 7 (by decide)
   have e8 : vals 8 = .slice wa wn wc := hd 8 (by decide)
   have r9 : (fun v w1 => ∃ v1 vn, v = .tuple #[v1, vn, .int .i64 XE] ∧ OwnRc w1 W1.heap.size v1 XR ∧ OwnNt w1 W1.heap.size vn XN) (vals 9) w1 := hd 9 (by decide)
   dsimp only at r9
   have r10 : (fun v w1 => ∃ v1 vn, v = .tuple #[v1, vn, .int .i64 XE] ∧ OwnRc w1 W1.heap.size v1 XR ∧ OwnNt w1 W1.heap.size vn XN) (vals 10) w1 := hd 10 (by decide)
   dsimp only at r10
   have r11 : (fun v w1 => OwnRc w1 W1.heap.size v XR) (vals 11) w1 := hd 11 (by decide)
   dsimp only at r11
   clear hd ha
   simp only [Lf, dstAt, Act.put, List.getElem?_toArray, List.getElem?_cons_zero, List.getElem?_cons_succ, Option.bind_some, List.setIfInBounds_toArray, List.set_cons_zero, List.set_cons_succ]
   simp only [e0]
   simp only [e1]
   simp only [e2]
   simp only [e3]
   simp only [e4]
   simp only [e5]
   simp only [e7]
   simp only [e8]
   clear e0 e1 e2 e3 e4 e5 e7 e8
   have r11 := Lib.hid r11
   go_wp2
   exact ⟨rfl, Ext.refl _, r11.out⟩
  ·intro vals w1 hx hd ha
   have e0 : vals 0 = .slice OA on oc := hd 0 (by decide)
   have e1 : vals 1 = .slice PA pn pc := hd 1 (by decide)
   have e2 : vals 2 = .slice SA 3 sc := hd 2 (by decide)
   have e3 : vals 3 = .slice PA pn pc := hd 3 (by decide)
   have e4 : vals 4 = .pointer (some ⟨g4, 5, none⟩) := hd 4 (by decide)
   have e5 : vals 5 = .int .i64 lo := hd 5 (by decide)
   have r6 : (fun v w1 => ∃ A n k, v = .slice A n k ∧ RA intCells 1 w1 w1.heap.size A n k LI) (vals 6) w1 := hd 6 (by decide)
   dsimp only at r6
   have e7 : vals 7 = .pointer (some ⟨g4, 6, none⟩) := hd 7 (by decide)
   have e8 : vals 8 = .slice wa wn wc := hd 8 (by decide)
   have r9 : (fun v w1 => ∃ v1 vn, v = .tuple #[v1, vn, .int .i64 XE] ∧ OwnRc w1 W1.heap.size v1 XR ∧ OwnNt w1 W1.heap.size vn XN) (vals 9) w1 := hd 9 (by decide)
   dsimp only at r9
   have r10 : (fun v w1 => ∃ v1 vn, v = .tuple #[v1, vn, .int .i64 XE] ∧ OwnRc w1 W1.heap.size v1 XR ∧ OwnNt w1 W1.heap.size vn XN) (vals 10) w1 := hd 10 (by decide)
   dsimp only at r10
   have r11 : (fun v w1 => OwnRc w1 W1.heap.size v XR) (vals 11) w1 := hd 11 (by decide)
   dsimp only at r11
   have r12 : (fun v w1 => OwnNt w1 W1.heap.size v XN) (vals 12) w1 := hd 12 (by decide)
   dsimp only at r12
   have r14 : (fun v w1 => OwnRc w1 W1.heap.size v XR) (vals 14) w1 := hd 14 (by decide)
   dsimp only at r14
   clear hd ha
   simp only [Lf, dstAt, Act.put, List.getElem?_toArray, List.getElem?_cons_zero, List.getElem?_cons_succ, Option.bind_some, List.setIfInBounds_toArray, List.set_cons_zero, List.set_cons_succ]
   simp only [e0]
   simp only [e1]
   simp only [e2]
   simp only [e3]
   simp only [e4]
   simp only [e5]
   simp only [e7]
   simp only [e8]
   clear e0 e1 e2 e3 e4 e5 e7 e8
   have r12 := Lib.hid r12
   go_wp2
   exact ⟨rfl, Ext.refl _, r12.out⟩
  ·intro vals w1 hx hd ha
   have e0 : vals 0 = .slice OA on oc := hd 0 (by decide)
   have e1 : vals 1 = .slice PA pn pc := hd 1 (by decide)
   have e2 : vals 2 = .slice SA 3 sc := hd 2 (by decide)
   have e3 : vals 3 = .slice PA pn pc := hd 3 (by decide)
   have e4 : vals 4 = .pointer (some ⟨g4, 5, none⟩) := hd 4 (by decide)
   have e5 : vals 5 = .int .i64 lo := hd 5 (by decide)
   have r6 : (fun v w1 => ∃ A n k, v = .slice A n k ∧ RA intCells 1 w1 w1.heap.size A n k LI) (vals 6) w1 := hd 6 (by decide)
   dsimp only at r6
   have e7 : vals 7 = .pointer (some ⟨g4, 6, none⟩) := hd 7 (by decide)
   have e8 : vals 8 = .slice wa wn wc := hd 8 (by decide)
   have r9 : (fun v w1 => ∃ v1 vn, v = .tuple #[v1, vn, .int .i64 XE] ∧ OwnRc w1 W1.heap.size v1 XR ∧ OwnNt w1 W1.heap.size vn XN) (vals 9) w1 := hd 9 (by decide)
   dsimp only at r9
   have r10 : (fun v w1 => ∃ v1 vn, v = .tuple #[v1, vn, .int .i64 XE] ∧ OwnRc w1 W1.heap.size v1 XR ∧ OwnNt w1 W1.heap.size vn XN) (vals 10) w1 := hd 10 (by decide)
   dsimp only at r10
   have r11 : (fun v w1 => OwnRc w1 W1.heap.size v XR) (vals 11) w1 := hd 11 (by decide)
   dsimp only at r11
   have r12 : (fun v w1 => OwnNt w1 W1.heap.size v XN) (vals 12) w1 := hd 12 (by decide)
   dsimp only at r12
   have e13 : vals 13 = .int .i64 XE := hd 13 (by decide)
   have r14 : (fun v w1 => OwnRc w1 W1.heap.size v XR) (vals 14) w1 := hd 14 (by decide)
   dsimp only at r14
   have r15 : (fun v w1 => OwnNt w1 W1.heap.size v XN) (vals 15) w1 := hd 15 (by decide)
   dsimp only at r15
   clear hd ha
   simp only [Lf, dstAt, Act.put, List.getElem?_toArray, List.getElem?_cons_zero, List.getElem?_cons_succ, Option.bind_some, List.setIfInBounds_toArray, List.set_cons_zero, List.set_cons_succ]
   simp only [e0, e1, e2, e3, e4, e5, e7, e8, e13]
   clear e0 e1 e2 e3 e4 e5 e7 e8 e13
   go_wp2
   exact ⟨rfl, Ext.refl _, rfl⟩
 intro vals W5 hy hf
 have h14 : OwnRc W5 W1.heap.size (vals 14) XR := hf 14 (by omega)
 have h15 : OwnNt W5 W1.heap.size (vals 15) XN := hf 15 (by omega)
 have h16 : vals 16 = .int .i64 XE := hf 16 (by omega)
 have hy := hy.undrew
 obtain ⟨RA_, rc, hv1, _, _⟩ := own_slice h14
 obtain ⟨NA, nc, hv2, _, _⟩ := own_slice h15
 rw [hv1] at h14
 rw [hv2] at h15
 have HX := Lib.hid (Ext.trans hx1 hy)
 have hz1 := Below.size hx1
 have H14 := Lib.hid (show OwnRc W5 w.heap.size (.slice RA_ XR.length rc) XR from own_base h14 hz1)
 have H15 := Lib.hid (show OwnNt W5 w.heap.size (.slice NA XN.length nc) XN from own_base h15 hz1)
 clear hz1
 clear hf h14 h15 hy hx1 d5 d6 HLO HWR
 refine tail0 (by kernel_rfl) ?_
 simp only [Lf, dstAt, Act.put, List.getElem?_toArray, List.getElem?_cons_zero, List.getElem?_cons_succ, Option.bind_some, List.setIfInBounds_toArray, List.set_cons_zero, List.set_cons_succ]
 rw [hv1, hv2, h16]
 clear hv1 hv2 h16
 by_cases he : XE = 0
 ·subst he
  go_wp2
  exact bodyPost_ret (v := .tuple #[.slice RA_ XR.length rc, .slice NA XN.length nc, .bool true]) (by simp [results, Try.results12, go_sem]) rfl ⟨_, _, _, _, by rw [HFIN.out]; rfl, H14.out, H15.out, HX.out⟩
 ·have he1 : (XE == 0) = false := by simpa using he
  go_wp2
  exact bodyPost_ret (v := .tuple #[.slice RA_ XR.length rc, .slice NA XN.length nc, .bool false]) (by simp [results, Try.results12, go_sem]) rfl ⟨_, _, _, _, by rw [HFIN.out, decide_eq_false he], H14.out, H15.out, HX.out⟩
end Go.Proofs.Ytmlabgmigakcbaa
