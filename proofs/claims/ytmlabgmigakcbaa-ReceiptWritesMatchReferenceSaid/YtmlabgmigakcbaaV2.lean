/- fated. -/
import Derived.Test.YtmlabgmigakcbaaV1
namespace Go.Proofs.Ytmlabgmigakcbaa
open Go.RowKit

theorem fateE_len (now : Int) (sl : List Slt) (id : Int) (left : Nat) (h : sl.length ≤ 6) : (fateE now sl id left).l.length ≤ 6 := by
  unfold fateE endP
  split
  · exact setL_len left
  · split
    · simp
    · exact Nat.le_trans (openK_len now sl sl.length) h
theorem recP_lens (q : Opt → Rcp → Nat) (now : Int) (rs : List Rcp) (ns : List Nte) : ∀ (os : List Opt) (ds : List Dsc), (∀ o ∈ os, o.l.length ≤ 6) → ∀ x ∈ (recP q now rs ns ds os).1, x.l.length ≤ 6
  | [], _, _ => fun x hx => by cases hx
  | o :: r, ds, h => by
    rw [recP_cons]
    intro x hx
    rcases List.mem_cons.1 hx with rfl | hx
    · exact fateE_len now o.l o.id _ (h o List.mem_cons_self)
    · exact recP_lens q now rs ns r _ (fun y hy => h y (List.mem_cons_of_mem _ hy)) x hx
theorem recP_many (q : Opt → Rcp → Nat) (now : Int) (rs : List Rcp) (ns : List Nte) : ∀ (os : List Opt) (ds : List Dsc), (recP q now rs ns ds os).1.length = os.length
  | [], _ => rfl
  | o :: r, ds => by rw [recP_cons, List.length_cons, List.length_cons, recP_many q now rs ns r]
theorem recV_fs {os : List Opt} {ps : List Pas} {sts : List Stn} {rs : List Rcp} {ns : List Nte} {now : Int} : (recV os ps sts rs ns now).1.1.length ≤ 24 ∧ ∀ x ∈ (recV os ps sts rs ns now).1.1, x.l.length ≤ 6 := by
  unfold recV
  split
  · rename_i h
    unfold recOK at h
    simp only [Bool.and_eq_true, decide_eq_true_eq] at h
    have hv := valid_vok h.2.2.2
    refine ⟨by rw [recP_many]; exact hv.len, recP_lens _ _ _ _ _ _ (fun o ho => (hv.sl ho).len)⟩
  · exact ⟨by simp, fun x hx => by cases hx⟩
/-- What a call of Reconcile hands back, as slices that can be read. -/
structure RecOut (X : (List FteP × List Dsc) × Int) (w : World) (FA : Option Addr) (fn fc : Nat) (DA : Option Addr) (dn dc : Nat) : Prop where
  fs : ∃ fs, Fts w w.heap.size FA fn fc fs ∧ fs.map (·.p) = X.1.1
  ds : RA dscCells 3 w w.heap.size DA dn dc X.1.2
theorem RecOut.ext {X : (List FteP × List Dsc) × Int} {w w' : World} {FA DA : Option Addr} {fn fc dn dc : Nat} (h : RecOut X w FA fn fc DA dn dc) (hx : Ext w w') : RecOut X w' FA fn fc DA dn dc := by
  obtain ⟨⟨fs, h1, h2⟩, h3⟩ := h
  exact ⟨⟨fs, h1.ext hx, h2⟩, ra_ext h3 hx⟩
theorem strL_len (q : Opt → Rcp → Nat) (os : List Opt) : ∀ (l : List Rcp) (i : Nat) (ds : List Dsc), (strL q os i ds l).length ≤ ds.length + l.length
  | [], _, ds => by rw [strL]; simp
  | r :: l, i, ds => by
    rw [strL_cons]
    refine Nat.le_trans (strL_len q os l (i + 1) _) ?_
    split <;> simp <;> omega
theorem recP_dlen (q : Opt → Rcp → Nat) (now : Int) (rs : List Rcp) (ns : List Nte) : ∀ (os : List Opt) (ds : List Dsc), (recP q now rs ns ds os).2.length ≤ ds.length + os.length * (rs.length + ns.length)
  | [], ds => by rw [recP]; simp
  | o :: r, ds => by
    rw [recP_cons]
    have h1 := recP_dlen q now rs ns r (fateP (q o) now o.l o.id rs ns ds).2
    have h2 := fateP_len (q o) now o.l o.id rs ns ds
    rw [List.length_cons, Nat.succ_mul]
    dsimp only
    omega
theorem recV_ds {os : List Opt} {ps : List Pas} {sts : List Stn} {rs : List Rcp} {ns : List Nte} {now : Int} : (recV os ps sts rs ns now).1.2.length ≤ 4000 := by
  unfold recV
  split
  · rename_i h
    unfold recOK at h
    simp only [Bool.and_eq_true, decide_eq_true_eq] at h
    have hv := (valid_vok h.2.2.2).len
    have h1 := strL_len (qOf ps (skewF sts) now) os rs 0 []
    have h2 := recP_dlen (qOf ps (skewF sts) now) now rs ns os (strL (qOf ps (skewF sts) now) os 0 [] rs)
    have h3 : os.length * (rs.length + ns.length) ≤ 24 * 120 := Nat.mul_le_mul hv (by omega)
    simp at h1
    dsimp only
    omega
  · simp
theorem RecRet.out {X : (List FteP × List Dsc) × Int} {w w' : World} {e : Ending} (h : RecRet X w e w') (h1 : X.1.1.length ≤ 24 ∧ ∀ x ∈ X.1.1, x.l.length ≤ 6) (h2 : X.1.2.length ≤ 4000) :
    ∃ FA fc DA dc, e = .returned (.tuple #[.slice FA X.1.1.length fc, .slice DA X.1.2.length dc, .int .i64 X.2]) ∧ RecOut X w' FA X.1.1.length fc DA X.1.2.length dc ∧ Ext w w' := by
  obtain ⟨v, vd, fs, he, ho, hp, hd, hx⟩ := h
  obtain ⟨FA, fc, hv, _, _⟩ := own_slice ho.1
  obtain ⟨DA, dc, hvd, _, _⟩ := own_slice hd
  have hl : fs.length = X.1.1.length := by rw [← hp, List.length_map]
  rw [hl] at hv
  subst hv hvd
  refine ⟨FA, fc, DA, dc, he, ⟨⟨fs, ho.fts (by omega) (fun x hx => ?_), hp⟩, RA.of_own hd rfl (by omega)⟩, hx⟩
  have := h1.2 x.p (by rw [← hp]; exact List.mem_map_of_mem hx)
  omega
/-- Reconcile, with slices that can be read. -/
theorem rec_any (os : List Opt) (ps : List Pas) (sts : List Stn) (rs : List Rcp) (ns : List Nte) (now : Int) (OA PA SA QA NA : Option Addr) (n c pn pc sn sc qn qc nn nc : Nat) (w : World) (ho : Ops w w.heap.size OA n c os) (hp : RA pasCells 6 w w.heap.size PA pn pc ps) (hs : RA stnCells 6 w w.heap.size SA sn sc sts) (hq : RA rcpCells 3 w w.heap.size QA qn qc rs) (hn : RA nteCells 3 w w.heap.size NA nn nc ns) :
    Calls Try.prog 16 #[.slice OA n c, .slice PA pn pc, .slice SA sn sc, .slice QA qn qc, .slice NA nn nc, .int .i64 now] w fun e w' =>
      ∃ FA fc DA dc, e = .returned (.tuple #[.slice FA (recV os ps sts rs ns now).1.1.length fc, .slice DA (recV os ps sts rs ns now).1.2.length dc, .int .i64 (recV os ps sts rs ns now).2]) ∧ RecOut (recV os ps sts rs ns now) w' FA (recV os ps sts rs ns now).1.1.length fc DA (recV os ps sts rs ns now).1.2.length dc ∧ Ext w w' :=
  (reconcile_any os ps sts rs ns now OA PA SA QA NA n c pn pc sn sc qn qc nn nc w ho hp hs hq hn).mono fun _ _ h => h.out recV_fs recV_ds
def ftpV (p : FteP) (A : Option Addr) (c : Nat) : Value := .agg #[.int .i64 p.im, .int .i64 p.st, .slice A p.l.length c, .int .i64 p.fr, .int .i64 p.tt]
def fated2 (X : (List FteP × List Dsc) × Int) (want : FteP) (many : Int) : Bool := decide (X.2 = 0) && (decide ((X.1.2.length : Int) = many) && decide (X.1.1 = [want]))

set_option maxRecDepth 100000 in
set_option maxHeartbeats 8000000 in
theorem fated_any (rs : List Rcp) (ns : List Nte) (now : Int) (want : FteP) (many : Int) (QA NA WA : Option Addr) (qn qc nn nc wc : Nat) (w : World) (hq : RA rcpCells 3 w w.heap.size QA qn qc rs) (hn : RA nteCells 3 w w.heap.size NA nn nc ns) (hw : RA natCells 1 w w.heap.size WA want.l.length wc want.l) :
    Calls Try.prog 35 #[.slice QA qn qc, .slice NA nn nc, .int .i64 now, ftpV want WA wc, .int .i64 many] w fun e w' => e = .returned (.bool (fatedP rs ns now want many)) ∧ Ext w w' := by
  have HEX := Lib.hid (fun W : World => example_any W)
  have hXX : fatedP rs ns now want many = fated2 (recV (exO.map toOpt) exP exS rs ns now) want many := rfl
  rw [hXX]
  have HRC : Hid (∀ (W : World) (g1 g2 g3 : Nat) (os : List Opt), Ext w W → ExR W g1 g2 g3 os → Calls Try.prog 16 #[.slice (some ⟨g1, 0, none⟩) 1 1, .slice (some ⟨g2, 0, none⟩) 2 2, .slice (some ⟨g3, 0, none⟩) 1 1, .slice QA qn qc, .slice NA nn nc, .int .i64 now] W fun e w' =>
      ∃ FA fc DA dc, e = .returned (.tuple #[.slice FA (recV (exO.map toOpt) exP exS rs ns now).1.1.length fc, .slice DA (recV (exO.map toOpt) exP exS rs ns now).1.2.length dc, .int .i64 (recV (exO.map toOpt) exP exS rs ns now).2]) ∧ RecOut (recV (exO.map toOpt) exP exS rs ns now) w' FA (recV (exO.map toOpt) exP exS rs ns now).1.1.length fc DA (recV (exO.map toOpt) exP exS rs ns now).1.2.length dc ∧ Ext W w') := Lib.hid (fun W g1 g2 g3 os hW h => by
    have h1 := rec_any os exP exS rs ns now _ _ _ QA NA 1 1 2 2 1 1 qn qc nn nc W h.ho h.ps h.st (ra_ext hq hW) (ra_ext hn hW)
    rw [recV_map os, h.op] at h1
    exact h1)
  generalize recV (exO.map toOpt) exP exS rs ns now = X at HRC ⊢
  obtain ⟨⟨XF, XD⟩, XE⟩ := X
  have HW := Lib.hid (fun (W : World) (hW : Ext w W) => ra_ext hw hW)
  obtain ⟨wim, wst, wl, wfr, wtt⟩ := want
  dsimp only at HRC HW ⊢
  clear hq hn hw hXX
  generalize hml : wl.length = wn at HW
  have HML := Lib.hid hml
  unfold ftpV fated2
  dsimp only
  rw [hml]
  clear hml
  obtain ⟨fin, hfin⟩ : ∃ y, y = (decide (XE = 0) && (decide ((XD.length : Int) = many) && decide (XF = [(⟨wim, wst, wl, wfr, wtt⟩ : FteP)]))) := ⟨_, rfl⟩
  rw [← hfin]
  have HFIN := Lib.hid hfin
  clear hfin
  go_enter Try.func35, Try.ntmps35
  go_upto_region 1 with (fail)
  have hx1 : Ext w (w.alloc (.cells #[.int .i64 wim, .int .i64 wst, .slice WA wn wc, .int .i64 wfr, .int .i64 wtt] 76)) := bl_alloc (Below.refl _ _) _
  have J := Blk.new w 76 #[.int .i64 wim, .int .i64 wst, .slice WA wn wc, .int .i64 wfr, .int .i64 wtt]
  obtain ⟨g8, hg8⟩ : ∃ g, g = w.heap.size := ⟨_, rfl⟩
  rw [← hg8] at J ⊢
  clear hg8
  generalize w.alloc (.cells #[.int .i64 wim, .int .i64 wst, .slice WA wn wc, .int .i64 wfr, .int .i64 wtt] 76) = W1 at hx1 J ⊢
  have HJ := Lib.hid J
  clear J
  go_wp2_with fail
  refine (HEX.out _).mono ?_
  rintro e W2 ⟨k1, k2, k3, os, rfl, hex, hy⟩
  have hx2 := Ext.trans hx1 hy
  have HJ2 := Lib.hid (HJ.out.ext hy)
  have HC := Lib.hid (HRC.out W2 k1 k2 k3 [exOp os] hx2 hex)
  clear hex hy hx1 HJ HRC HEX
  go_wp2_with fail
  refine HC.out.mono ?_
  rintro e W3 ⟨FA, fc, DA, dc, rfl, hro, hy⟩
  have hx3 := Ext.trans hx2 hy
  have HJ3 := Lib.hid (HJ2.out.ext hy)
  have HRO := Lib.hid hro
  clear hro hy hx2 HJ2 HC
  by_cases he : XE = 0
  · subst he
    by_cases hm : (XD.length : Int) = many
    · have hm1 : ((XD.length : Int) == many) = true := by simpa using hm
      subst hm
      have HFE : Hid (fin = decide (XF = [(⟨wim, wst, wl, wfr, wtt⟩ : FteP)])) := Lib.hid (by rw [HFIN.out]; simp)
      have hm2 : ((XD.length : Int) == (XD.length : Int)) = true := by simp
      obtain ⟨fs, hfs, hfp⟩ := HRO.out.fs
      have d0 : W3.cell? ⟨g8, 0, none⟩ = some (.int .i64 wim) := HJ3.out.cell 0
      have d1 : W3.cell? ⟨g8, 1, none⟩ = some (.int .i64 wst) := HJ3.out.cell 1
      have d2 : W3.cell? ⟨g8, 2, none⟩ = some (.slice WA wn wc) := HJ3.out.cell 2
      have d3 : W3.cell? ⟨g8, 3, none⟩ = some (.int .i64 wfr) := HJ3.out.cell 3
      have d4 : W3.cell? ⟨g8, 4, none⟩ = some (.int .i64 wtt) := HJ3.out.cell 4
      have hxa : Ext W3 (W3.alloc (.cells #[.int .i64 wim, .int .i64 wst, .slice WA wn wc, .int .i64 wfr, .int .i64 wtt] 76)) := bl_alloc (Below.refl _ _) _
      have hW := HW.out _ (Ext.trans hx3 hxa)
      have hone : Fts (W3.alloc (.cells #[.int .i64 wim, .int .i64 wst, .slice WA wn wc, .int .i64 wfr, .int .i64 wtt] 76)) (W3.alloc (.cells #[.int .i64 wim, .int .i64 wst, .slice WA wn wc, .int .i64 wfr, .int .i64 wtt] 76)).heap.size (some ⟨W3.heap.size, 0, none⟩) 1 1 [⟨⟨wim, wst, wl, wfr, wtt⟩, WA, wc⟩] :=
        ⟨RA.of_blk (Blk.new _ _ _) (by rw [← HML.out]; rfl) rfl rfl (by omega), fun x hx => by rw [List.mem_singleton.1 hx]; show RA natCells 1 _ _ WA wl.length wc wl; rw [HML.out]; exact hW⟩
      have hS := sameF_any FA (some ⟨W3.heap.size, 0, none⟩) _ 1 fc 1 fs _ _ (hfs.ext hxa) hone
      rw [hfp] at hS
      have HS := Lib.hid hS
      have HXA := Lib.hid (Ext.trans hx3 hxa)
      clear hS hone hW hxa hfs hfp HRO HJ3
      go_wp2_with fail
      refine HS.out.mono ?_
      rintro e W4 ⟨rfl, hy⟩
      have HXF := Lib.hid (Ext.trans HXA.out hy)
      clear hy hx3 d0 d1 d2 d3 d4
      go_wp2
      go_ret
      exact ⟨by rw [HFE.out]; rfl, HXF.out⟩
    · have hm1 : ((XD.length : Int) == many) = false := by simpa using hm
      have HFE : Hid (fin = false) := Lib.hid (by rw [HFIN.out, decide_eq_false hm]; simp)
      go_wp2
      go_ret
      exact ⟨by rw [HFE.out]; rfl, hx3⟩
  · have he1 : (XE == 0) = false := by simpa using he
    have HFE : Hid (fin = false) := Lib.hid (by rw [HFIN.out, decide_eq_false he]; rfl)
    go_wp2
    go_ret
    exact ⟨by rw [HFE.out]; rfl, hx3⟩
end Go.Proofs.Ytmlabgmigakcbaa
