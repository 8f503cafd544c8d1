/- The reference: the fate of an option. -/
import Derived.Test.YtmlabgmigakcbaaP23
namespace Go.Proofs.Ytmlabgmigakcbaa
open Go.RowKit
def RFate (X : FteP × List Dsc) (w : World) (e : Ending) (w' : World) : Prop := ∃ A c D dc, e = .returned (.tuple #[.agg #[.int .i64 X.1.im, .int .i64 X.1.st, .slice A X.1.l.length c, .int .i64 X.1.fr, .int .i64 X.1.tt], .slice D X.2.length dc]) ∧ OwnN w' w.heap.size (.slice A X.1.l.length c) X.1.l ∧ OwnD w' w.heap.size (.slice D X.2.length dc) X.2 ∧ Ext w w'
theorem OwnN.ra {w : World} {b n c : Nat} {A : Option Addr} {l : List Nat} (h : OwnN w b (.slice A n c) l) : RA natCells 1 w w.heap.size A n c l := by
 obtain ⟨_, _, hv, _, _⟩ := own_slice h
 injection hv with _ e _
 subst e
 exact RA.of_own2 h rfl
theorem fate_app2 {w : World} {g base c3 : Nat} {x0 x1 x3 x4 : Value} {A3 : Option Addr} {l : List Nat} (y : Nat) (gx : Nat) (jx : Blk w gx 3 #[.int .i64 (y : Int)]) (hj : Blk w g 76 #[x0, x1, .slice A3 l.length c3, x3, x4]) (ho : OwnN w base (.slice A3 l.length c3) l) (hn : l.length ≤ 900) (hb : base ≤ g) :
  ∃ A7 c7 W7, (Builtin.append_ #[25, 25] 25 #[.slice A3 l.length c3, .slice (some ⟨gx, 0, none⟩) 1 1]).run Try.prog w = .ok (.slice A7 (l.length + 1) c7) W7 ∧ W7.cell? ⟨g, 2, none⟩ = some (.slice A3 l.length c3) ∧ W7.frozen? ⟨g, 2, none⟩ = false ∧
   Blk (W7.setCell ⟨g, 2, none⟩ (.slice A7 (l.length + 1) c7)) g 76 #[x0, x1, .slice A7 (l.length + 1) c7, x3, x4] ∧ OwnN (W7.setCell ⟨g, 2, none⟩ (.slice A7 (l.length + 1) c7)) base (.slice A7 (l.length + 1) c7) (l ++ [y]) ∧
   (∀ w0, Ext w0 w → w0.heap.size ≤ base → Ext w0 (W7.setCell ⟨g, 2, none⟩ (.slice A7 (l.length + 1) c7))) ∧ ∀ (b : Nat) (v : Value) (ds : List Dsc), OwnD w b v ds → OwnD (W7.setCell ⟨g, 2, none⟩ (.slice A7 (l.length + 1) c7)) b v ds := by
 obtain ⟨v7, W7, hrun, hg7, ho7⟩ := snoc_nat 25 l (.slice A3 l.length c3) y base gx jx ho hn (Nat.le_trans hb (Nat.le_of_lt hj.lt))
 obtain ⟨A7, c7, hv7, _, _⟩ := own_slice ho7
 rw [List.length_append, List.length_singleton] at hv7
 subst hv7
 have hj7 := hj.grown hg7 (fun e => own_blk_ne ho hj (by decide) e.symm)
 refine ⟨A7, c7, W7, hrun, hj7.cell 2, hj7.frozen 2, hj7.set_ 2 _, One.own ((One.refl g W7).set 2 _) ho7 hj7 (by decide), fun w0 h0 h1 => ?_, fun b v ds hd => One.own ((One.refl g W7).set 2 _) (own_other hd ho (by decide) hg7) hj7 (by decide)⟩
 exact (h0.grown hg7 (Below.size h0) (fun q e => Nat.le_trans h1 (World.ownsRow.lt ho q e).1)).setCell (p := ⟨g, 2, none⟩) (Nat.le_trans h1 hb) _
theorem load_fte {w : World} {g : Nat} {X : Array Value} (h : Blk w g 76 X) (hs : X.size = 5) : (loadVar 76 ⟨g, 0, none⟩).run Try.prog w = .ok (.agg X) w :=
 run_loadVar_row w g 76 76 X (0, 0) _ h Try.underlying76 rfl (by rw [hs]; exact fate_size)
theorem Blk.cast5 {w : World} {g : Nat} {t : TypeId} {a b c : Value} {x y x' y' : Int} (h : Blk w g t #[a, b, c, .int .i64 x, .int .i64 y]) (hx : x = x') (hy : y = y') : Blk w g t #[a, b, c, .int .i64 x', .int .i64 y'] := by subst hx hy; exact h
def frW (l : List Slt) (lst : List Nat) (k : Nat) : Int := if k = 0 then 0 else ttAt l (lst.headD 0)
def ttW (l : List Slt) (lst : List Nat) (k : Nat) : Int := if k = 0 then 0 else ttAt l (lst.getD (k - 1) 0)
def fateW (id st : Int) (l : List Slt) (lst : List Nat) : FteP := ⟨id, st, lst, if lst = [] then 0 else ttAt l (lst.headD 0), if lst = [] then 0 else ttAt l (lst.getLastD 0)⟩
def NStep (now : Int) (l : List Slt) (id : Int) (ns : List Nte) (k left slot : Nat) (ds : List Dsc) (nis : Bool) (fin : Nat × List Dsc) (T : Nat) : Prop := fin = if T = 0 ∧ (left ≠ 0 ∨ nis = true) then noteP now l id (k + 1) left (slot + 1) nis (ds ++ [⟨4, id, k⟩]) (ns.drop (k + 1)) else noteP now l id (k + 1) T (slot + 1) nis ds (ns.drop (k + 1))
theorem RA.of_blk_nat {w : World} {g x : Nat} (h : Blk w g 3 #[.int .i64 (x : Int)]) : RA natCells 1 w w.heap.size (some ⟨g, 0, none⟩) 1 1 [x] := by
 refine ⟨⟨rfl, fun _ => ⟨g, 0, rfl, h.lt, fun j u hu => ?_⟩⟩, rfl, Nat.le_refl _, by unfold maxLen; omega, by omega⟩
 rw [Nat.zero_add, h.cell]
 match j, hu with
 |0, hu => exact hu
 |j + 1, hu => simp [natCells] at hu
set_option maxRecDepth 100000 in
set_option maxHeartbeats 16000000 in
theorem rfate_any (os : List Opt) (o : Opt) (ps : List Pas) (sts : List Stn) (rs : List Rcp) (ns : List Nte) (now : Int) (PA SA QA NA : Option Addr) (pn pc sn sc qn qc nn nc : Nat) (w : World) (ho : RA sltCells 3 w w.heap.size o.a o.n o.c o.l) (hp : RA pasCells 6 w w.heap.size PA pn pc ps) (hs : RA stnCells 6 w w.heap.size SA sn sc sts) (hq : RA rcpCells 3 w w.heap.size QA qn qc rs) (hn : RA nteCells 3 w w.heap.size NA nn nc ns) (hV : VOK os ps sts) (hm : o ∈ os) (hqn : qn ≤ 60) (hnn : nn ≤ 60) :
  Calls Try.prog 53 #[.agg (optCells o).toArray, .slice PA pn pc, .slice SA sn sc, .slice QA qn qc, .slice NA nn nc, .int .i64 now] w (RFate (fateP (fun r => fitsP ps (skewF sts) now o.id o.l r) now o.l o.id rs ns []) w) := by
 have hslk := hV.sl hm
 have hlo := (hV.each o hm).2.2
 have h6 : o.n ≤ 6 := by rw [← ho.len]; exact hslk.len
 have hfit := fun (r : Rcp) (W : World) (hW : Ext w W) => rfits_any os o ps sts r now PA SA pn pc sn sc W (ra_ext ho hW) (ra_ext hp hW) (ra_ext hs hW) hV hm
 have hlb := fun (r : Rcp) => fitsP_lb (f := skewF sts) (now := now) (id := o.id) (r := r) hslk ho.len
 obtain ⟨q, hqq⟩ : ∃ q : Rcp → Nat, q = fun r => fitsP ps (skewF sts) now o.id o.l r := ⟨_, rfl⟩
 have hqr : ∀ r, fitsP ps (skewF sts) now o.id o.l r = q r := fun r => by rw [hqq]
 simp only [hqr] at hfit hlb
 rw [← hqq]
 clear hqr hqq
 have hmono : ∀ i j, i ≤ j → j < o.l.length → ttAt o.l i ≤ ttAt o.l j := fun i j hi hj => by
  unfold lossOK at hlo
  rw [Bool.and_eq_true] at hlo
  exact slots_mono hlo.2 i j hi hj
 have hpos : ∀ j, j < o.l.length → 0 ≤ ttAt o.l j := fun j hj => by rw [ttAt_eq hj]; exact (hslk.bd _ (List.getElem_mem hj)).1
 obtain ⟨id, i1, i2, i3, i4, i5, i6, i7, a, m, d, l⟩ := o
 have hoe : (optCells ⟨id, i1, i2, i3, i4, i5, i6, i7, a, m, d, l⟩).toArray = #[.int .i64 id, .int .i64 i1, .int .i64 i2, .int .i64 i3, .int .i64 i4, .int .i64 i5, .int .i64 i6, .int .i64 i7, .slice a m d] := rfl
 rw [hoe] at hfit ⊢
 dsimp only at ho h6 hlb hmono hpos ⊢
 obtain ⟨fin, hfin⟩ : ∃ f : Nat × List Dsc, f = noteP now l id 0 (recvP q id 0 0 [] rs).1 0 false (recvP q id 0 0 [] rs).2 ns := ⟨_, rfl⟩
 have hX : fateP q now l id rs ns [] = (fateE now l id fin.1, fin.2) := by rw [hfin]; rfl
 rw [hX]
 have HF0 : Hid (fin = noteP now l id 0 (recvP q id 0 0 [] (rs.drop 0)).1 0 false (recvP q id 0 0 [] (rs.drop 0)).2 ns) := Lib.hid hfin
 have HFIT := Lib.hid hfit
 have HLB := Lib.hid hlb
 have HMONO := Lib.hid hmono
 have HPOS := Lib.hid hpos
 have HO := Lib.hid ho
 have HQ := Lib.hid hq
 have HNT := Lib.hid hn
 have hlm := ho.len
 have HLM := Lib.hid hlm
 clear hX hfin hfit hlb hmono hpos ho hq hn hV hm hslk hlo hp hs hoe hlm
 go_enter Try.func53, Try.ntmps53
 go_upto_region 1 with (fail)
 obtain ⟨W1, hW1⟩ : ∃ W, W = (w.alloc (.cells #[.int .i64 id, .int .i64 i1, .int .i64 i2, .int .i64 i3, .int .i64 i4, .int .i64 i5, .int .i64 i6, .int .i64 i7, .slice a m d] 32)).alloc (.cells #[.int .i64 0, .int .i64 0, .slice none 0 0, .int .i64 0, .int .i64 0] 76) := ⟨_, rfl⟩
 rw [← hW1]
 obtain ⟨J6, J12, hx1⟩ := al2 w W1 _ _ _ _ hW1
 clear hW1
 obtain ⟨g12, hg12⟩ : ∃ g, g = w.heap.size + 1 := ⟨_, rfl⟩
 obtain ⟨g6, hg6⟩ : ∃ g, g = w.heap.size := ⟨_, rfl⟩
 rw [← hg12] at J12 ⊢
 rw [← hg6] at J6 ⊢
 have hg612 : g6 ≠ g12 := by omega
 have hg12w : w.heap.size ≤ g12 := by omega
 clear hg6 hg12
 have HJ6 := Lib.hid J6
 have HJ12 := Lib.hid J12
 have HX1 := Lib.hid hx1
 clear J6 J12 hx1
 go_wp2_with fail
 go_loopw [14, 15, 16] (fun x y z wr => ∃ (k left : Nat) (ds : List Dsc), k ≤ qn ∧ z = .int .i64 k ∧ LB m left ∧ Hid (fin = noteP now l id 0 (recvP q id k left ds (rs.drop k)).1 0 false (recvP q id k left ds (rs.drop k)).2 ns) ∧ Hid (OwnD wr W1.heap.size x ds) ∧ Hid (OwnN wr W1.heap.size y (setL left)) ∧ ds.length ≤ k ∧ Ext W1 wr) (fun _ _ z _ => qn - (intOf z).toNat)
 case atStart => exact ⟨0, 0, [], Nat.zero_le _, rfl, LB.zero m, HF0, Lib.hid (World.ownsRow_nil _ _ _ _), Lib.hid (World.ownsRow_nil _ _ _ _), Nat.zero_le _, Ext.refl _⟩
 case round =>
  clear HF0
  obtain ⟨k, left, ds, hk, rfl, hlt, HF, HD, HN, hdl, hx⟩ := hrel
  obtain ⟨A1, c1, hv1, _, _⟩ := own_slice HD.out
  subst hv1
  obtain ⟨A2, c2, hv2, _, _⟩ := own_slice HN.out
  subst hv2
  obtain ⟨ln, hln⟩ : ∃ n, n = (setL left).length := ⟨_, rfl⟩
  rw [← hln] at HN ⊢
  have hl0 : ln = 0 ↔ left = 0 := by rw [hln]; exact setL_zero hlt.1
  have hl6 : ln ≤ 6 := by rw [hln]; exact setL_len left
  have HL0 := Lib.hid hl0
  have HLN := Lib.hid hln
  clear hln hl0
  by_cases hkn : k < qn
  ·obtain ⟨b, ob, hz, hA, _, hc⟩ := (ra_ext (ra_ext HQ.out HX1.out) hx).at_ rcp_len hkn
   have hst := HF.out
   rw [List.drop_eq_getElem_cons hz, recvP_cons] at hst
   have hft := HFIT.out rs[k]
   have hlbr := HLB.out rs[k]
   generalize rs[k] = r at hst hc hft hlbr
   obtain ⟨S, hS⟩ : ∃ S, S = q r := ⟨_, rfl⟩
   rw [← hS] at hst hft hlbr
   obtain ⟨rsn, rim, rat⟩ := r
   have hre : (rcpCells ⟨rsn, rim, rat⟩).toArray = #[.int .i64 rsn, .int .i64 rim, .int .i64 rat] := rfl
   rw [hre] at hft
   have r0 : wr.cell? ⟨b, ob + k * 3, none⟩ = some (.int .i64 rsn) := hc 0 (by omega)
   have r1 : wr.cell? ⟨b, ob + k * 3 + 1, none⟩ = some (.int .i64 rim) := hc 1 (by omega)
   have r2 : wr.cell? ⟨b, ob + k * 3 + 2, none⟩ = some (.int .i64 rat) := hc 2 (by omega)
   have HST := Lib.hid hst
   have HFT := Lib.hid hft
   obtain ⟨sn_, hsn⟩ : ∃ n, n = (setL S).length := ⟨_, rfl⟩
   have hs0 : sn_ = 0 ↔ S = 0 := by rw [hsn]; exact setL_zero hlbr.1
   have hs6 : sn_ ≤ 6 := by rw [hsn]; exact setL_len S
   have HSN := Lib.hid hsn
   have HKN := Lib.hid hkn
   have hkz : (k : Int) < (qn : Int) := by omega
   have j6 := HJ6.out.ext hx
   have d0 : wr.cell? ⟨g6, 0, none⟩ = some (.int .i64 id) := j6.cell 0
   have d1 : wr.cell? ⟨g6, 1, none⟩ = some (.int .i64 i1) := j6.cell 1
   have d2 : wr.cell? ⟨g6, 2, none⟩ = some (.int .i64 i2) := j6.cell 2
   have d3 : wr.cell? ⟨g6, 3, none⟩ = some (.int .i64 i3) := j6.cell 3
   have d4 : wr.cell? ⟨g6, 4, none⟩ = some (.int .i64 i4) := j6.cell 4
   have d5 : wr.cell? ⟨g6, 5, none⟩ = some (.int .i64 i5) := j6.cell 5
   have d6 : wr.cell? ⟨g6, 6, none⟩ = some (.int .i64 i6) := j6.cell 6
   have d7 : wr.cell? ⟨g6, 7, none⟩ = some (.int .i64 i7) := j6.cell 7
   have d8 : wr.cell? ⟨g6, 8, none⟩ = some (.slice a m d) := j6.cell 8
   subst hA
   clear hc hz hst hft hsn hS hre j6 HF
   go_upto_region 6 with (fail)
   have hx0 := hx
   refine wp_region_obl 9 (fun ix vals v w1 => match ix with | 0 => v = .agg #[.int .i64 id, .int .i64 i1, .int .i64 i2, .int .i64 i3, .int .i64 i4, .int .i64 i5, .int .i64 i6, .int .i64 i7, .slice a m d] | 1 => v = .slice PA pn pc | 2 => v = .slice SA sn sc | 3 => v = .slice (some ⟨b, ob, none⟩) qn qc | 4 => v = .int .i64 (k : Nat) | 5 => v = .pointer (some ⟨b, ob + k * 3, none⟩) | 6 => v = .agg #[.int .i64 rsn, .int .i64 rim, .int .i64 rat] | 7 => v = .int .i64 now | _ => ∃ A c, v = .slice A sn_ c ∧ OwnN w1 W1.heap.size (.slice A sn_ c) (setL S)) (by kernel_rfl) (by kernel_rfl) ?_ ?_ ?_ ?_
   ·intro ix vals v w1 w2 hi hr hx
    match ix, hr with
    |0, hr => exact hr
    |1, hr => exact hr
    |2, hr => exact hr
    |3, hr => exact hr
    |4, hr => exact hr
    |5, hr => exact hr
    |6, hr => exact hr
    |7, hr => exact hr
    |(kx + 8), hr => obtain ⟨A, c, h1, h2⟩ := hr; exact ⟨A, c, h1, h2.ext hx⟩
   ·intro ix vals vals_ v w1 hi hv hr
    exact hr
   ·refine ⟨?_, ?_, ?_, ?_, ?_, ?_, ?_, ?_, ?_, trivial⟩
    ·intro vals w1 hx hd ha
     clear hd ha
     simp only [Lf]
     have d0 := ext_cell hx.undrew d0; have d1 := ext_cell hx.undrew d1; have d2 := ext_cell hx.undrew d2; have d3 := ext_cell hx.undrew d3; have d4 := ext_cell hx.undrew d4; have d5 := ext_cell hx.undrew d5; have d6 := ext_cell hx.undrew d6; have d7 := ext_cell hx.undrew d7; have d8 := ext_cell hx.undrew d8
     go_wp2
     exact ⟨rfl, Ext.refl _, rfl⟩
    ·intro vals w1 hx hd ha
     clear hd ha
     simp only [Lf, dstAt, Act.put, List.getElem?_toArray, List.getElem?_cons_zero, Option.bind_some, List.setIfInBounds_toArray, List.set_cons_zero, List.set_cons_succ]
     go_wp2
     exact ⟨rfl, Ext.refl _, rfl⟩
    ·intro vals w1 hx hd ha
     clear hd ha
     simp only [Lf, dstAt, Act.put, List.getElem?_toArray, List.getElem?_cons_zero, List.getElem?_cons_succ, Option.bind_some, List.setIfInBounds_toArray, List.set_cons_zero, List.set_cons_succ]
     go_wp2
     exact ⟨rfl, Ext.refl _, rfl⟩
    ·intro vals w1 hx hd ha
     clear hd ha
     simp only [Lf, dstAt, Act.put, List.getElem?_toArray, List.getElem?_cons_zero, List.getElem?_cons_succ, Option.bind_some, List.setIfInBounds_toArray, List.set_cons_zero, List.set_cons_succ]
     go_wp2
     exact ⟨rfl, Ext.refl _, rfl⟩
    ·intro vals w1 hx hd ha
     clear hd ha
     simp only [Lf, dstAt, Act.put, List.getElem?_toArray, List.getElem?_cons_zero, List.getElem?_cons_succ, Option.bind_some, List.setIfInBounds_toArray, List.set_cons_zero, List.set_cons_succ]
     go_wp2
     exact ⟨rfl, Ext.refl _, rfl⟩
    ·intro vals w1 hx hd ha
     have e3 : vals 3 = .slice (some ⟨b, ob, none⟩) qn qc := hd 3 (by decide)
     have e4 : vals 4 = .int .i64 (k : Nat) := hd 4 (by decide)
     clear hd ha
     simp only [Lf, dstAt, Act.put, List.getElem?_toArray, List.getElem?_cons_zero, List.getElem?_cons_succ, Option.bind_some, List.setIfInBounds_toArray, List.set_cons_zero, List.set_cons_succ]
     simp only [e3, e4]
     clear e3 e4
     go_wp2
     exact ⟨rfl, Ext.refl _, rfl⟩
    ·intro vals w1 hx hd ha
     have e5 : vals 5 = .pointer (some ⟨b, ob + k * 3, none⟩) := hd 5 (by decide)
     clear hd ha
     simp only [Lf, dstAt, Act.put, List.getElem?_toArray, List.getElem?_cons_zero, List.getElem?_cons_succ, Option.bind_some, List.setIfInBounds_toArray, List.set_cons_zero, List.set_cons_succ]
     simp only [e5]
     clear e5
     have r0 := ext_cell hx.undrew r0; have r1 := ext_cell hx.undrew r1; have r2 := ext_cell hx.undrew r2
     go_wp2
     exact ⟨rfl, Ext.refl _, rfl⟩
    ·intro vals w1 hx hd ha
     clear hd ha
     simp only [Lf, dstAt, Act.put, List.getElem?_toArray, List.getElem?_cons_zero, List.getElem?_cons_succ, Option.bind_some, List.setIfInBounds_toArray, List.set_cons_zero, List.set_cons_succ]
     go_wp2
     exact ⟨rfl, Ext.refl _, rfl⟩
    ·intro vals w1 hx hd ha
     have e0 : vals 0 = .agg #[.int .i64 id, .int .i64 i1, .int .i64 i2, .int .i64 i3, .int .i64 i4, .int .i64 i5, .int .i64 i6, .int .i64 i7, .slice a m d] := hd 0 (by decide)
     have e1 : vals 1 = .slice PA pn pc := hd 1 (by decide)
     have e2 : vals 2 = .slice SA sn sc := hd 2 (by decide)
     have e6 : vals 6 = .agg #[.int .i64 rsn, .int .i64 rim, .int .i64 rat] := hd 6 (by decide)
     have e7 : vals 7 = .int .i64 now := hd 7 (by decide)
     clear hd ha
     simp only [Lf, dstAt, Act.put, List.getElem?_toArray, List.getElem?_cons_zero, List.getElem?_cons_succ, Option.bind_some, List.setIfInBounds_toArray, List.set_cons_zero, List.set_cons_succ]
     have hsz9 := Below.size (Ext.trans hx0 hx.undrew)
     have HC := Lib.hid (HFT.out w1 (Ext.trans HX1.out (Ext.trans hx0 hx.undrew)))
     simp only [e0]
     simp only [e1]
     simp only [e2]
     simp only [e6]
     simp only [e7]
     clear e0 e1 e2 e6 e7
     go_wp2_with fail
     refine HC.out.mono ?_
     rintro e w2 ⟨A, c, rfl, ho, hy⟩
     rw [← HSN.out] at ho ⊢
     go_wp2
     exact ⟨rfl, hy, A, c, rfl, own_base ho hsz9⟩
   intro vals W5 hz hf
   obtain ⟨A3, c3, v8, ho3⟩ : ∃ A c, vals 8 = .slice A sn_ c ∧ OwnN W5 W1.heap.size (.slice A sn_ c) (setL S) := hf 8 (by omega)
   have hz := hz.undrew
   have hxc := Ext.trans hx hz
   have HD := Lib.hid (HD.out.ext hz)
   have HN := Lib.hid (HN.out.ext hz)
   have HO3 := Lib.hid ho3
   clear hf hz hx hx0 ho3 d0 d1 d2 d3 d4 d5 d6 d7 d8 r0 r1 r2 HFT
   refine tail1 9 _ (by kernel_rfl) (by kernel_rfl) rfl ?_
   simp only [Lf, dstAt, Act.put, List.getElem?_toArray, List.getElem?_cons_zero, List.getElem?_cons_succ, Option.bind_some, List.setIfInBounds_toArray, List.set_cons_zero, List.set_cons_succ]
   rw [v8]
   clear v8
   by_cases hS0 : S = 0
   ·obtain rfl : sn_ = 0 := hs0.2 hS0
    have HN2 : Hid (fin = noteP now l id 0 (recvP q id (k + 1) left ds (rs.drop (k + 1))).1 0 false (recvP q id (k + 1) left ds (rs.drop (k + 1))).2 ns) := Lib.hid (by have h := HST.out; rw [if_pos hS0] at h; exact h)
    clear hs0 hS0 HST
    go_wp2_with fail
    go_roundw
    case rel => exact ⟨k + 1, left, ds, HKN.out, by go_num, hlt, HN2, HD, HN, by omega, hxc⟩
    case measure => have := HKN.out; simp [intOf]; omega
   ·have hs1 : ¬ sn_ = 0 := fun h => hS0 (hs0.1 h)
    have hs2 : ((sn_ : Int) == 0) = false := by simpa using hs1
    have hst := HST.out
    rw [if_neg hS0] at hst
    by_cases hL0 : left = 0
    ·obtain rfl : ln = 0 := HL0.out.2 hL0
     rw [if_pos hL0] at hst
     have HN2 := Lib.hid hst
     clear hst HST hs0 hS0 hL0 HL0
     go_wp2_with fail
     go_roundw
     case rel => exact ⟨k + 1, S, ds, HKN.out, by go_num, hlbr, HN2, HD, HO3, by omega, hxc⟩
     case measure => have := HKN.out; simp [intOf]; omega
    ·have hl1 : ¬ ln = 0 := fun h => hL0 (HL0.out.1 h)
     have hl2 : (0 : Int) < (ln : Int) := by omega
     rw [if_neg hL0] at hst
     have hb := rboth_any (setL left) (setL S) A2 A3 ln c2 sn_ c3 W5 HN.out.ra HO3.out.ra (by omega)
     rw [setL_and] at hb
     have hlT := hlt.and_ S
     obtain ⟨T, hT⟩ : ∃ T, T = left &&& S := ⟨_, rfl⟩
     rw [← hT] at hb hlT hst
     obtain ⟨tn, htn⟩ : ∃ n, n = (setL T).length := ⟨_, rfl⟩
     have ht0 : tn = 0 ↔ T = 0 := by rw [htn]; exact setL_zero hlT.1
     have ht6 : tn ≤ 6 := by rw [htn]; exact setL_len T
     have HB := Lib.hid hb
     have HTN := Lib.hid htn
     have HST := Lib.hid hst
     clear hb htn hT hst
     go_wp2_with fail
     refine HB.out.mono ?_
     rintro e W6 ⟨A4, c4, rfl, ho4, hy⟩
     rw [← HTN.out] at ho4 ⊢
     have hsz6 := Below.size hxc
     have HO4 := Lib.hid (own_base ho4 hsz6)
     have hxc := Ext.trans hxc hy
     have HD := Lib.hid (HD.out.ext hy)
     have HN := Lib.hid (HN.out.ext hy)
     clear HB ho4 hy hsz6
     by_cases hT0 : T = 0
     ·obtain rfl : tn = 0 := ht0.2 hT0
      have hst := HST.out
      rw [if_pos hT0] at hst
      have HN2 := Lib.hid hst
      clear hst HST hT0 ht0 hs0 hS0 hL0
      have hxa : Ext W6 (W6.alloc (.cells #[.int .i64 2, .int .i64 id, .int .i64 (k : Int)] 83)) := bl_alloc (Below.refl _ _) _
      have hxw := Ext.trans hxc hxa
      obtain ⟨v7, W7, hrun, hg7, hd7⟩ := dsc_snoc 48 ds (.slice A1 ds.length c1) ⟨2, id, k⟩ W1.heap.size W6.heap.size (Blk.new _ _ _) (HD.out.ext hxa) (by omega) (Below.size hxw)
      have HX7 : Hid (Ext W1 W7) := Lib.hid (hxw.grown hg7 (Below.size hxw) (fun q e => (World.ownsRow.lt HD.out q e).1))
      have HN7 : Hid (OwnN W7 W1.heap.size (.slice A2 ln c2) (setL left)) := Lib.hid (own_other (HN.out.ext hxa) (HD.out.ext hxa) (by decide) hg7)
      have HD7 := Lib.hid hd7
      have HRUN := Lib.hid hrun
      have o0 : W6.cell? ⟨g6, 0, none⟩ = some (.int .i64 id) := (HJ6.out.ext hxc).cell 0
      clear hrun hg7 hd7 hxa hxw
      go_upto_region 12 with (fail)
      go_wp2_with (refine wpList_append_run_ rfl _ _ _ rfl rfl rfl HRUN.out ?_)
      go_roundw
      case rel => exact ⟨k + 1, left, ds ++ [⟨2, id, k⟩], HKN.out, by go_num, hlt, HN2, HD7, HN7, by simp; omega, HX7.out⟩
      case measure => have := HKN.out; simp [intOf]; omega
     ·have ht1 : ¬ tn = 0 := fun h => hT0 (ht0.1 h)
      have ht2 : ((tn : Int) == 0) = false := by simpa using ht1
      have hst := HST.out
      rw [if_neg hT0] at hst
      have HN2 := Lib.hid hst
      clear hst HST hT0 ht0 hs0 hS0 hL0
      go_wp2_with fail
      go_roundw
      case rel => exact ⟨k + 1, T, ds, HKN.out, by go_num, hlT, HN2, HD, HO4, by omega, hxc⟩
      case measure => have := HKN.out; simp [intOf]; omega
  ·have HV0 : Hid (fin = noteP now l id 0 left 0 false ds (ns.drop 0)) := Lib.hid (by
    have h := HF.out
    rw [List.drop_of_length_le (by rw [HQ.out.len]; omega), recvP] at h
    exact h)
   have hdl0 : ds.length ≤ 60 := by omega
   clear HF HFIT HLB HQ
   go_upto_block 2 with fail
   go_cut [14, 15, 19, 20, 21, 22, 23, 24] from 65 to 149 (fun x y a1 a2 a3 a4 a5 a6 wc => ∃ (left : Nat) (ds : List Dsc), LB m left ∧ Hid (fin = (left, ds)) ∧ Hid (OwnD wc W1.heap.size x ds) ∧ Hid (OwnN wc W1.heap.size y (setL left)) ∧ Ext W1 wc)
   case first =>
    go_wp2_with fail
    go_loopw [14, 15, 19, 20, 21] (fun x y s dn z wr => ∃ (k left slot : Nat) (done : Bool) (ds : List Dsc), k ≤ nn ∧ z = .int .i64 k ∧ LB m left ∧ s = .int .i64 slot ∧ slot ≤ m ∧ dn = .bool done ∧ Hid (fin = noteP now l id k left slot done ds (ns.drop k)) ∧ Hid (OwnD wr W1.heap.size x ds) ∧ Hid (OwnN wr W1.heap.size y (setL left)) ∧ ds.length ≤ 60 + k ∧ Ext W1 wr) (fun _ _ _ _ z _ => nn - (intOf z).toNat)
    case atStart => exact ⟨0, left, 0, false, ds, Nat.zero_le _, rfl, hlt, rfl, Nat.zero_le _, rfl, HV0, HD, HN, by omega, hx⟩
    case round =>
     clear HV0 HD HN hx hlt hdl hdl0 HL0 HLN hl6
     obtain ⟨k, left, slot, done, ds, hk, rfl, hlt, rfl, hsm, rfl, HF, HD, HN, hdl, hx⟩ := hrel
     obtain ⟨A1, c1, hv1, _, _⟩ := own_slice HD.out
     subst hv1
     obtain ⟨A2, c2, hv2, _, _⟩ := own_slice HN.out
     subst hv2
     obtain ⟨ln, hln⟩ : ∃ n, n = (setL left).length := ⟨_, rfl⟩
     rw [← hln] at HN ⊢
     have hl0 : ln = 0 ↔ left = 0 := by rw [hln]; exact setL_zero hlt.1
     have hl6 : ln ≤ 6 := by rw [hln]; exact setL_len left
     have HL0 := Lib.hid hl0
     have HLN := Lib.hid hln
     clear hln hl0
     by_cases hkn : k < nn
     ·obtain ⟨b, ob, hz, hA, _, hc⟩ := (ra_ext (ra_ext HNT.out HX1.out) hx).at_ nte_len hkn
      have hst := HF.out
      rw [List.drop_eq_getElem_cons hz, noteP_cons] at hst
      generalize ns[k] = nt at hst hc
      obtain ⟨nim, nsl, nis⟩ := nt
      dsimp only at hst
      have c0 : wr.cell? ⟨b, ob + k * 3, none⟩ = some (.int .i64 nim) := hc 0 (by omega)
      have c1_ : wr.cell? ⟨b, ob + k * 3 + 1, none⟩ = some (.int .i64 nsl) := hc 1 (by omega)
      have c2_ : wr.cell? ⟨b, ob + k * 3 + 2, none⟩ = some (.bool nis) := hc 2 (by omega)
      have hkz : (k : Int) < (nn : Int) := by omega
      have HKN := Lib.hid hkn
      have HST := Lib.hid hst
      subst hA
      clear hst hc hz HF
      go_upto_region 20 with (fail)
      have hya : Ext wr (wr.alloc (.cells #[.int .i64 nim, .int .i64 nsl, .bool nis] 89)) := bl_alloc (Below.refl _ _) _
      have J := Blk.new wr 89 #[.int .i64 nim, .int .i64 nsl, .bool nis]
      generalize wr.heap.size = g22 at J ⊢
      generalize wr.alloc (.cells #[.int .i64 nim, .int .i64 nsl, .bool nis] 89) = W5 at hya J ⊢
      have hxc := Ext.trans hx hya
      have HD := Lib.hid (HD.out.ext hya)
      have HN := Lib.hid (HN.out.ext hya)
      have d0 : W5.cell? ⟨g6, 0, none⟩ = some (.int .i64 id) := (HJ6.out.ext hxc).cell 0
      have d8 : W5.cell? ⟨g6, 7 + 1, none⟩ = some (.slice a m d) := (HJ6.out.ext hxc).cell 8
      have n0 : W5.cell? ⟨g22, 0, none⟩ = some (.int .i64 nim) := J.cell 0
      have n1 : W5.cell? ⟨g22, 1, none⟩ = some (.int .i64 nsl) := J.cell 1
      have n2 : W5.cell? ⟨g22, 2, none⟩ = some (.bool nis) := J.cell 2
      have HJ22 := Lib.hid J
      clear c0 c1_ c2_ hya J hx
      by_cases him : nim = id
      case neg =>
       have him1 : (nim == id) = false := by simpa using him
       have him2 : (nim != id) = true := by simpa using him
       have HN2 : Hid (fin = noteP now l id (k + 1) left slot done ds (ns.drop (k + 1))) := Lib.hid (by have h := HST.out; rw [if_pos him] at h; exact h)
       clear HST
       go_wp2_with fail
       go_roundw
       case rel => exact ⟨k + 1, left, slot, done, ds, HKN.out, by go_num, hlt, rfl, hsm, rfl, HN2, HD, HN, by omega, hxc⟩
       case measure => have := HKN.out; simp [intOf]; omega
      have him1 : (nim == id) = true := by simpa using him
      have him2 : (nim != id) = false := by simpa using him
      have hst := HST.out
      rw [if_neg (by simpa using him)] at hst
      have HST := Lib.hid hst
      have him' := him.symm
      clear hst
      subst him'
      clear him
      go_upto_region 21 with (fail)
      by_cases hs2 : slot < m
      case neg =>
       have hs2b : decide ((slot : Int) < (m : Int)) = false := decide_eq_false (by omega)
       have HN2 : Hid (fin = (left, ds ++ [⟨3, id, k⟩])) := Lib.hid (by rw [HST.out, if_pos (.inr (.inr (.inl (by rw [HLM.out]; omega))))])
       have hxa : Ext W5 (W5.alloc (.cells #[.int .i64 3, .int .i64 id, .int .i64 (k : Int)] 83)) := bl_alloc (Below.refl _ _) _
       have hxw := Ext.trans hxc hxa
       obtain ⟨v7, W7, hrun, hg7, hd7⟩ := dsc_snoc 48 ds (.slice A1 ds.length c1) ⟨3, id, k⟩ W1.heap.size W5.heap.size (Blk.new _ _ _) (HD.out.ext hxa) (by omega) (Below.size hxw)
       have HX7 : Hid (Ext W1 W7) := Lib.hid (hxw.grown hg7 (Below.size hxw) (fun q e => (World.ownsRow.lt HD.out q e).1))
       have HN7 : Hid (OwnN W7 W1.heap.size (.slice A2 ln c2) (setL left)) := Lib.hid (own_other (HN.out.ext hxa) (HD.out.ext hxa) (by decide) hg7)
       have HD7 := Lib.hid hd7
       have HRUN := Lib.hid hrun
       have o0 : W5.cell? ⟨g6, 0, none⟩ = some (.int .i64 id) := (HJ6.out.ext hxc).cell 0
       clear hrun hg7 hd7 hxa hxw
       go_upto_region 25 with (fail)
       go_wp2_with (refine wpList_append_run_ rfl _ _ _ rfl rfl rfl HRUN.out ?_)
       go_meet
       exact ⟨left, _, hlt, HN2, HD7, HN7, HX7.out⟩
      have hs2b : decide ((slot : Int) < (m : Int)) = true := decide_eq_true (by omega)
      cases done
      case true =>
       have HN2 : Hid (fin = (left, ds ++ [⟨3, id, k⟩])) := Lib.hid (by rw [HST.out, if_pos (.inl rfl)])
       have hxa : Ext W5 (W5.alloc (.cells #[.int .i64 3, .int .i64 id, .int .i64 (k : Int)] 83)) := bl_alloc (Below.refl _ _) _
       have hxw := Ext.trans hxc hxa
       obtain ⟨v7, W7, hrun, hg7, hd7⟩ := dsc_snoc 48 ds (.slice A1 ds.length c1) ⟨3, id, k⟩ W1.heap.size W5.heap.size (Blk.new _ _ _) (HD.out.ext hxa) (by omega) (Below.size hxw)
       have HX7 : Hid (Ext W1 W7) := Lib.hid (hxw.grown hg7 (Below.size hxw) (fun q e => (World.ownsRow.lt HD.out q e).1))
       have HN7 : Hid (OwnN W7 W1.heap.size (.slice A2 ln c2) (setL left)) := Lib.hid (own_other (HN.out.ext hxa) (HD.out.ext hxa) (by decide) hg7)
       have HD7 := Lib.hid hd7
       have HRUN := Lib.hid hrun
       have o0 : W5.cell? ⟨g6, 0, none⟩ = some (.int .i64 id) := (HJ6.out.ext hxc).cell 0
       clear hrun hg7 hd7 hxa hxw
       go_upto_region 25 with (fail)
       go_wp2_with (refine wpList_append_run_ rfl _ _ _ rfl rfl rfl HRUN.out ?_)
       go_meet
       exact ⟨left, _, hlt, HN2, HD7, HN7, HX7.out⟩
      by_cases hs1 : nsl = (slot : Int)
      case neg =>
       have hs1b : (nsl == (slot : Int)) = false := by simpa using hs1
       have HN2 : Hid (fin = (left, ds ++ [⟨3, id, k⟩])) := Lib.hid (by rw [HST.out, if_pos (.inr (.inl hs1))])
       have hxa : Ext W5 (W5.alloc (.cells #[.int .i64 3, .int .i64 id, .int .i64 (k : Int)] 83)) := bl_alloc (Below.refl _ _) _
       have hxw := Ext.trans hxc hxa
       obtain ⟨v7, W7, hrun, hg7, hd7⟩ := dsc_snoc 48 ds (.slice A1 ds.length c1) ⟨3, id, k⟩ W1.heap.size W5.heap.size (Blk.new _ _ _) (HD.out.ext hxa) (by omega) (Below.size hxw)
       have HX7 : Hid (Ext W1 W7) := Lib.hid (hxw.grown hg7 (Below.size hxw) (fun q e => (World.ownsRow.lt HD.out q e).1))
       have HN7 : Hid (OwnN W7 W1.heap.size (.slice A2 ln c2) (setL left)) := Lib.hid (own_other (HN.out.ext hxa) (HD.out.ext hxa) (by decide) hg7)
       have HD7 := Lib.hid hd7
       have HRUN := Lib.hid hrun
       have o0 : W5.cell? ⟨g6, 0, none⟩ = some (.int .i64 id) := (HJ6.out.ext hxc).cell 0
       clear hrun hg7 hd7 hxa hxw
       go_upto_region 25 with (fail)
       go_wp2_with (refine wpList_append_run_ rfl _ _ _ rfl rfl rfl HRUN.out ?_)
       go_meet
       exact ⟨left, _, hlt, HN2, HD7, HN7, HX7.out⟩
      subst hs1
      have hself : ((slot : Int) == (slot : Int)) = true := by simp
      obtain ⟨b', o', hzs, hA', _, hcs⟩ := (ra_ext (ra_ext HO.out HX1.out) hxc).at_ slt_len hs2
      obtain ⟨tq, htq⟩ : ∃ t, t = ttAt l slot := ⟨_, rfl⟩
      have e8 : W5.cell? ⟨b', o' + slot * 3 + 2, none⟩ = some (.int .i64 tq) := by
       have h := hcs 2 (by omega)
       rw [h, htq, ttAt_eq hzs]
       rfl
      have e8' : W5.cell? ⟨b', o' + slot * 3 + 1 + 1, none⟩ = some (.int .i64 tq) := e8
      have HTQ := Lib.hid htq
      have HA' := Lib.hid hA'
      have hsz : (slot : Int) < (m : Int) := by omega
      rw [hA'] at d8
      clear hcs hzs htq hA'
      by_cases hs3 : tq ≤ now
      case neg =>
       have hs3b : decide (tq ≤ now) = false := decide_eq_false hs3
       have HN2 : Hid (fin = (left, ds ++ [⟨3, id, k⟩])) := Lib.hid (by rw [HST.out, if_pos (.inr (.inr (.inr (by rw [← HTQ.out]; omega))))])
       have hxa : Ext W5 (W5.alloc (.cells #[.int .i64 3, .int .i64 id, .int .i64 (k : Int)] 83)) := bl_alloc (Below.refl _ _) _
       have hxw := Ext.trans hxc hxa
       obtain ⟨v7, W7, hrun, hg7, hd7⟩ := dsc_snoc 48 ds (.slice A1 ds.length c1) ⟨3, id, k⟩ W1.heap.size W5.heap.size (Blk.new _ _ _) (HD.out.ext hxa) (by omega) (Below.size hxw)
       have HX7 : Hid (Ext W1 W7) := Lib.hid (hxw.grown hg7 (Below.size hxw) (fun q e => (World.ownsRow.lt HD.out q e).1))
       have HN7 : Hid (OwnN W7 W1.heap.size (.slice A2 ln c2) (setL left)) := Lib.hid (own_other (HN.out.ext hxa) (HD.out.ext hxa) (by decide) hg7)
       have HD7 := Lib.hid hd7
       have HRUN := Lib.hid hrun
       have o0 : W5.cell? ⟨g6, 0, none⟩ = some (.int .i64 id) := (HJ6.out.ext hxc).cell 0
       clear hrun hg7 hd7 hxa hxw
       go_upto_region 25 with (fail)
       go_wp2_with (refine wpList_append_run_ rfl _ _ _ rfl rfl rfl HRUN.out ?_)
       go_meet
       exact ⟨left, _, hlt, HN2, HD7, HN7, HX7.out⟩
      have hs3b : decide (tq ≤ now) = true := decide_eq_true hs3
      have hst := HST.out
      rw [if_neg (by rw [HLM.out, ← HTQ.out]; simp; omega)] at hst
      have hk6 : slot < 6 := by omega
      have hw := rwithout_any (setL left) (slot : Int) A2 ln c2 W5 HN.out.ra (by omega)
      rw [setL_clr left slot hk6] at hw
      have HW := Lib.hid hw
      have HST : Hid (NStep now l id ns k left slot ds nis fin (nextP nis left slot)) := Lib.hid hst
      have hsw : IntKind.i64.wrap ((slot : Int) + 1) = ((slot + 1 : Nat) : Int) := by rw [IntWalk.i64_in _ (by omega)]; omega
      clear hst hw
      go_upto_region 28 with (fail)
      go_wp2_with fail
      refine HW.out.mono ?_
      rintro e W6 ⟨A4, c4, rfl, ho4, hy⟩
      have hsz6 := Below.size hxc
      have HO4 : Hid (OwnN W6 W1.heap.size (.slice A4 (setL (clrB left slot)).length c4) (setL (clrB left slot))) := Lib.hid (own_base ho4 hsz6)
      have hxc := Ext.trans hxc hy
      have HD := Lib.hid (HD.out.ext hy)
      have HN := Lib.hid (HN.out.ext hy)
      have j22 := HJ22.out.ext hy
      have n1 : W6.cell? ⟨g22, 1, none⟩ = some (.int .i64 (slot : Int)) := j22.cell 1
      have n2 : W6.cell? ⟨g22, 2, none⟩ = some (.bool nis) := j22.cell 2
      clear HW ho4 hy hsz6 d0 d8 n0 e8 e8' HA' HJ22
      cases nis
      ·have hlT : LB m (clrB left slot) := hlt.and_ _
       have hst := HST.out
       rw [show nextP false left slot = clrB left slot from rfl] at hst
       generalize clrB left slot = T at hst hlT HO4
       have n2 : W6.cell? ⟨g22, 2, none⟩ = some (.bool false) := j22.cell 2
       obtain ⟨tn, htn⟩ : ∃ n, n = (setL T).length := ⟨_, rfl⟩
       rw [← htn] at HO4 ⊢
       have ht0 : tn = 0 ↔ T = 0 := by rw [htn]; exact setL_zero hlT.1
       have HTN := Lib.hid htn
       have HST := Lib.hid hst
       clear htn hst
       by_cases hdis : T = 0 ∧ (left ≠ 0 ∨ false = true)
       ·obtain rfl : tn = 0 := ht0.2 hdis.1
        have HN2 : Hid (fin = noteP now l id (k + 1) left (slot + 1) false (ds ++ [⟨4, id, k⟩]) (ns.drop (k + 1))) := Lib.hid (by have h := HST.out; unfold NStep at h; rw [if_pos hdis] at h; exact h)
        have hln1 : left ≠ 0 → (0 : Int) < (ln : Int) := fun h => by have := HL0.out; omega
        have hdis2 := hdis.2
        clear hdis HST ht0
        have hxa : Ext W6 (W6.alloc (.cells #[.int .i64 4, .int .i64 id, .int .i64 (k : Int)] 83)) := bl_alloc (Below.refl _ _) _
        have hxw := Ext.trans hxc hxa
        obtain ⟨v7, W7, hrun, hg7, hd7⟩ := dsc_snoc 48 ds (.slice A1 ds.length c1) ⟨4, id, k⟩ W1.heap.size W6.heap.size (Blk.new _ _ _) (HD.out.ext hxa) (by omega) (Below.size hxw)
        have HX7 : Hid (Ext W1 W7) := Lib.hid (hxw.grown hg7 (Below.size hxw) (fun q e => (World.ownsRow.lt HD.out q e).1))
        have HN7 : Hid (OwnN W7 W1.heap.size (.slice A2 ln c2) (setL left)) := Lib.hid (own_other (HN.out.ext hxa) (HD.out.ext hxa) (by decide) hg7)
        have HD7 := Lib.hid hd7
        have HRUN := Lib.hid hrun
        have o0 : W6.cell? ⟨g6, 0, none⟩ = some (.int .i64 id) := (HJ6.out.ext hxc).cell 0
        clear hrun hg7 hd7 hxa hxw
        by_cases hl00 : ln = 0
        ·have hnt : false = true := by
          rcases hdis2 with h | h
          ·exact absurd (hln1 h) (by omega)
          ·exact h
         subst hl00
         first
         |exact absurd hnt (by decide)
         |clear hln1 hdis2
          go_upto_region 32 with (fail)
          go_wp2_with (refine wpList_append_run_ rfl _ _ _ rfl rfl rfl HRUN.out ?_)
          go_roundw
          case rel => exact ⟨k + 1, left, slot + 1, false, _, HKN.out, by go_num, hlt, by go_num, by omega, rfl, HN2, HD7, HN7, by simp; omega, HX7.out⟩
          case measure => have := HKN.out; simp [intOf]; omega
        ·have hlb : decide ((0 : Int) < (ln : Int)) = true := decide_eq_true (by omega)
         have hlp : 0 < ln := by omega
         have hlq : decide (0 < ln) = true := decide_eq_true hlp
         have hlz : (0 : Int) < (ln : Int) := by omega
         have hnt : Hid True := Lib.hid trivial
         clear hln1 hdis2
         go_upto_region 32 with (fail)
         go_wp2_with (refine wpList_append_run_ rfl _ _ _ rfl rfl rfl HRUN.out ?_)
         go_roundw
         case rel => exact ⟨k + 1, left, slot + 1, false, _, HKN.out, by go_num, hlt, by go_num, by omega, rfl, HN2, HD7, HN7, by simp; omega, HX7.out⟩
         case measure => have := HKN.out; simp [intOf]; omega
       ·have HN2 : Hid (fin = noteP now l id (k + 1) T (slot + 1) false ds (ns.drop (k + 1))) := Lib.hid (by have h := HST.out; unfold NStep at h; rw [if_neg hdis] at h; exact h)
        clear HST
        by_cases hT0 : T = 0
        ·obtain rfl : tn = 0 := ht0.2 hT0
         have hL0 : left = 0 := by
          rcases Nat.eq_zero_or_pos left with h | h
          ·exact h
          ·exact absurd ⟨hT0, .inl (by omega)⟩ hdis
         have hl00 := HL0.out.2 hL0
         have hnf : ¬ (false = true) := fun h => hdis ⟨hT0, .inr h⟩
         clear hdis ht0
         first
         |exact absurd rfl hnf
         |subst hl00
          go_wp2_with fail
          go_roundw
          case rel => exact ⟨k + 1, T, slot + 1, false, ds, HKN.out, by go_num, hlT, by go_num, by omega, rfl, HN2, HD, HO4, by omega, hxc⟩
          case measure => have := HKN.out; simp [intOf]; omega
        ·have ht1 : ¬ tn = 0 := fun h => hT0 (ht0.1 h)
         have ht2 : ((tn : Int) == 0) = false := by simpa using ht1
         clear hdis ht0 hT0
         go_wp2_with fail
         go_roundw
         case rel => exact ⟨k + 1, T, slot + 1, false, ds, HKN.out, by go_num, hlT, by go_num, by omega, rfl, HN2, HD, HO4, by omega, hxc⟩
         case measure => have := HKN.out; simp [intOf]; omega
      ·have hlT : LB m (left &&& 2 ^ slot) := hlt.and_ _
       have hst := HST.out
       rw [show nextP true left slot = left &&& 2 ^ slot from rfl] at hst
       have hxa : Ext W6 (W6.alloc (.cells #[.int .i64 (slot : Int)] 3)) := bl_alloc (Below.refl _ _) _
       have hb := rboth_any (setL left) [slot] A2 (some ⟨W6.heap.size, 0, none⟩) ln c2 1 1 _ (ra_ext HN.out.ra hxa) (RA.of_blk_nat (Blk.new W6 3 #[.int .i64 (slot : Int)])) (by omega)
       rw [setL_one left slot hk6] at hb
       generalize left &&& 2 ^ slot = T at hst hlT hb
       have HB := Lib.hid hb
       have HXA := Lib.hid hxa
       clear hb hxa HO4
       go_wp2_with fail
       refine HB.out.mono ?_
       rintro e W8 ⟨A5, c5, rfl, ho5, hy⟩
       have hy2 : Ext W6 W8 := Ext.trans HXA.out hy
       have HO4 : Hid (OwnN W8 W1.heap.size (.slice A5 (setL T).length c5) (setL T)) := Lib.hid (own_base ho5 (Below.size (Ext.trans hxc HXA.out)))
       have hxc := Ext.trans hxc hy2
       have HD := Lib.hid (HD.out.ext hy2)
       have HN := Lib.hid (HN.out.ext hy2)
       have j22 := j22.ext hy2
       clear HB HXA ho5 hy hy2 n1 n2
       have n2 : W8.cell? ⟨g22, 2, none⟩ = some (.bool true) := j22.cell 2
       obtain ⟨tn, htn⟩ : ∃ n, n = (setL T).length := ⟨_, rfl⟩
       rw [← htn] at HO4 ⊢
       have ht0 : tn = 0 ↔ T = 0 := by rw [htn]; exact setL_zero hlT.1
       have HTN := Lib.hid htn
       have HST := Lib.hid hst
       clear htn hst
       by_cases hdis : T = 0 ∧ (left ≠ 0 ∨ true = true)
       ·obtain rfl : tn = 0 := ht0.2 hdis.1
        have HN2 : Hid (fin = noteP now l id (k + 1) left (slot + 1) true (ds ++ [⟨4, id, k⟩]) (ns.drop (k + 1))) := Lib.hid (by have h := HST.out; unfold NStep at h; rw [if_pos hdis] at h; exact h)
        have hln1 : left ≠ 0 → (0 : Int) < (ln : Int) := fun h => by have := HL0.out; omega
        have hdis2 := hdis.2
        clear hdis HST ht0
        have hxa : Ext W8 (W8.alloc (.cells #[.int .i64 4, .int .i64 id, .int .i64 (k : Int)] 83)) := bl_alloc (Below.refl _ _) _
        have hxw := Ext.trans hxc hxa
        obtain ⟨v7, W7, hrun, hg7, hd7⟩ := dsc_snoc 48 ds (.slice A1 ds.length c1) ⟨4, id, k⟩ W1.heap.size W8.heap.size (Blk.new _ _ _) (HD.out.ext hxa) (by omega) (Below.size hxw)
        have HX7 : Hid (Ext W1 W7) := Lib.hid (hxw.grown hg7 (Below.size hxw) (fun q e => (World.ownsRow.lt HD.out q e).1))
        have HN7 : Hid (OwnN W7 W1.heap.size (.slice A2 ln c2) (setL left)) := Lib.hid (own_other (HN.out.ext hxa) (HD.out.ext hxa) (by decide) hg7)
        have HD7 := Lib.hid hd7
        have HRUN := Lib.hid hrun
        have o0 : W8.cell? ⟨g6, 0, none⟩ = some (.int .i64 id) := (HJ6.out.ext hxc).cell 0
        clear hrun hg7 hd7 hxa hxw
        by_cases hl00 : ln = 0
        ·have hnt : true = true := by
          rcases hdis2 with h | h
          ·exact absurd (hln1 h) (by omega)
          ·exact h
         subst hl00
         first
         |exact absurd hnt (by decide)
         |clear hln1 hdis2
          go_upto_region 32 with (fail)
          go_wp2_with (refine wpList_append_run_ rfl _ _ _ rfl rfl rfl HRUN.out ?_)
          go_roundw
          case rel => exact ⟨k + 1, left, slot + 1, true, _, HKN.out, by go_num, hlt, by go_num, by omega, rfl, HN2, HD7, HN7, by simp; omega, HX7.out⟩
          case measure => have := HKN.out; simp [intOf]; omega
        ·have hlb : decide ((0 : Int) < (ln : Int)) = true := decide_eq_true (by omega)
         have hlp : 0 < ln := by omega
         have hlq : decide (0 < ln) = true := decide_eq_true hlp
         have hlz : (0 : Int) < (ln : Int) := by omega
         have hnt : Hid True := Lib.hid trivial
         clear hln1 hdis2
         go_upto_region 32 with (fail)
         go_wp2_with (refine wpList_append_run_ rfl _ _ _ rfl rfl rfl HRUN.out ?_)
         go_roundw
         case rel => exact ⟨k + 1, left, slot + 1, true, _, HKN.out, by go_num, hlt, by go_num, by omega, rfl, HN2, HD7, HN7, by simp; omega, HX7.out⟩
         case measure => have := HKN.out; simp [intOf]; omega
       ·have HN2 : Hid (fin = noteP now l id (k + 1) T (slot + 1) true ds (ns.drop (k + 1))) := Lib.hid (by have h := HST.out; unfold NStep at h; rw [if_neg hdis] at h; exact h)
        clear HST
        by_cases hT0 : T = 0
        ·obtain rfl : tn = 0 := ht0.2 hT0
         have hL0 : left = 0 := by
          rcases Nat.eq_zero_or_pos left with h | h
          ·exact h
          ·exact absurd ⟨hT0, .inl (by omega)⟩ hdis
         have hl00 := HL0.out.2 hL0
         have hnf : ¬ (true = true) := fun h => hdis ⟨hT0, .inr h⟩
         clear hdis ht0
         first
         |exact absurd rfl hnf
         |subst hl00
          go_wp2_with fail
          go_roundw
          case rel => exact ⟨k + 1, T, slot + 1, true, ds, HKN.out, by go_num, hlT, by go_num, by omega, rfl, HN2, HD, HO4, by omega, hxc⟩
          case measure => have := HKN.out; simp [intOf]; omega
        ·have ht1 : ¬ tn = 0 := fun h => hT0 (ht0.1 h)
         have ht2 : ((tn : Int) == 0) = false := by simpa using ht1
         clear hdis ht0 hT0
         go_wp2_with fail
         go_roundw
         case rel => exact ⟨k + 1, T, slot + 1, true, ds, HKN.out, by go_num, hlT, by go_num, by omega, rfl, HN2, HD, HO4, by omega, hxc⟩
         case measure => have := HKN.out; simp [intOf]; omega
     ·have HF2 : Hid (fin = (left, ds)) := Lib.hid (by
       have h := HF.out
       rw [List.drop_of_length_le (by rw [HNT.out.len]; omega), noteP] at h
       exact h)
      clear HF
      go_wp2_with fail
      go_meet
      exact ⟨left, ds, hlt, HF2, HD, HN, hx⟩
   case rest =>
   clear HV0 HD HN hx hlt hdl hdl0 HL0 HLN hl6 HNT
   obtain ⟨left, ds, hlt, HF, HD, HN, hx⟩ := hcut
   obtain ⟨wr, hwr⟩ : ∃ W, W = wc := ⟨_, rfl⟩
   rw [← hwr] at HD HN hx ⊢
   clear hwr
   obtain ⟨A1, c1, hv1, _, _⟩ := own_slice HD.out
   subst hv1
   obtain ⟨A2, c2, hv2, _, _⟩ := own_slice HN.out
   subst hv2
   obtain ⟨ln, hln⟩ : ∃ n, n = (setL left).length := ⟨_, rfl⟩
   obtain ⟨dn, hdn⟩ : ∃ n, n = ds.length := ⟨_, rfl⟩
   rw [← hln] at HN ⊢
   rw [← hdn] at HD ⊢
   have hl0 : ln = 0 ↔ left = 0 := by rw [hln]; exact setL_zero hlt.1
   have HLN := Lib.hid hln
   have HDN := Lib.hid hdn
   clear hln hdn
   have HFX : Hid ((fateE now l id fin.1, fin.2) = (fateE now l id left, ds)) := Lib.hid (by rw [HF.out])
   clear HF
   have o0 : wr.cell? ⟨g6, 0, none⟩ = some (.int .i64 id) := (HJ6.out.ext hx).cell 0
   go_upto_region 35 with (fail)
   have hya : Ext wr (wr.alloc (.cells #[.int .i64 id, .int .i64 1, .slice A2 ln c2, .int .i64 0, .int .i64 0] 76)) := bl_alloc (Below.refl _ _) _
   have J := Blk.new wr 76 #[.int .i64 id, .int .i64 1, .slice A2 ln c2, .int .i64 0, .int .i64 0]
   obtain ⟨g25, hg25⟩ : ∃ g, g = wr.heap.size := ⟨_, rfl⟩
   have hg25w : W1.heap.size ≤ g25 := by rw [hg25]; exact Below.size hx
   rw [← hg25] at J ⊢
   clear hg25
   generalize wr.alloc (.cells #[.int .i64 id, .int .i64 1, .slice A2 ln c2, .int .i64 0, .int .i64 0] 76) = W5 at hya J ⊢
   have hx5 := Ext.trans hx hya
   have HD := Lib.hid (HD.out.ext hya)
   have HN := Lib.hid (HN.out.ext hya)
   have HJ25 := Lib.hid J
   clear o0 hya J hx
   go_upto_if 155 with (fail)
   go_cut [26] from 156 to 180 (fun z wc => ∃ (st : Int) (lst : List Nat) (A5 : Option Addr) (c5 : Nat), Hid (Blk wc g25 76 #[.int .i64 id, .int .i64 st, .slice A5 lst.length c5, .int .i64 0, .int .i64 0]) ∧ Hid (OwnN wc W1.heap.size (.slice A5 lst.length c5) lst) ∧ Hid (OwnD wc W1.heap.size (.slice A1 dn c1) ds) ∧ Hid (fateE now l id left = fateW id st l lst) ∧ Hid (lst.Pairwise (· < ·) ∧ ∀ x ∈ lst, x < m) ∧ Ext W1 wc)
   case first =>
    by_cases hL0 : left = 0
    ·obtain rfl : ln = 0 := hl0.2 hL0
     rw [show (((0 : Nat) : Int) == 0) = true from rfl, show ((0 : Nat) : Int) = 0 from rfl]
     have jb1 : Blk (W5.setCell ⟨g25, 1, none⟩ (.int .i64 3)) g25 76 #[.int .i64 id, .int .i64 3, .slice A2 0 c2, .int .i64 0, .int .i64 0] := HJ25.out.set_ 1 (.int .i64 3)
     have hone := (One.refl g25 W5).set 1 (.int .i64 3)
     have HD1 := Lib.hid (show OwnD _ _ _ _ from One.own hone HD.out HJ25.out (by decide))
     have HN1 : Hid (OwnN (W5.setCell ⟨g25, 1, none⟩ (.int .i64 3)) W1.heap.size (.slice A2 0 c2) (openK now l 0)) := Lib.hid (by
      have h := One.own hone HN.out HJ25.out (by decide)
      rw [hL0] at h
      exact h)
     have hxs := hone.ext hx5 hg25w
     have b1 : W5.cell? ⟨g25, 1, none⟩ = some (.int .i64 1) := HJ25.out.cell 1
     have bz : W5.frozen? ⟨g25, 1, none⟩ = false := HJ25.out.frozen 1
     have HFE0 : Hid (fateE now l id left = if openL now l = [] then ⟨id, 3, [], 0, 0⟩ else endP id 2 l (openL now l)) := Lib.hid (by unfold fateE; rw [if_neg (by simpa using hL0)])
     have HJB := Lib.hid jb1
     clear hone HD HN HJ25 hx5 hlt hl0 hL0 jb1
     go_upto_region 37 with (fail)
     clear b1 bz
     generalize W5.setCell ⟨g25, 1, none⟩ (.int .i64 3) = W6 at hxs HD1 HN1 HJB ⊢
     go_wp2_with fail
     go_loopw [26] (fun z wr => ∃ (k : Nat) (A5 : Option Addr) (c5 : Nat), k ≤ m ∧ z = .int .i64 k ∧ Hid (Blk wr g25 76 #[.int .i64 id, .int .i64 (if openK now l k = [] then 3 else 2), .slice A5 (openK now l k).length c5, .int .i64 0, .int .i64 0]) ∧ Hid (OwnN wr W1.heap.size (.slice A5 (openK now l k).length c5) (openK now l k)) ∧ Hid (OwnD wr W1.heap.size (.slice A1 dn c1) ds) ∧ Ext W1 wr) (fun z _ => m - (intOf z).toNat)
     case atStart => exact ⟨0, A2, c2, Nat.zero_le _, rfl, HJB, HN1, HD1, hxs⟩
     case round =>
      clear HD1 HN1 HJB hxs
      obtain ⟨k, A5, c5, hk, rfl, HJB, HN1, HD1, hx⟩ := hrel
      have d8 : wr.cell? ⟨g6, 7 + 1, none⟩ = some (.slice a m d) := (HJ6.out.ext hx).cell 8
      by_cases hkn : k < m
      ·obtain ⟨b', o', hzs, hA', _, hcs⟩ := (ra_ext (ra_ext HO.out HX1.out) hx).at_ slt_len hkn
       obtain ⟨tq, htq⟩ : ∃ t, t = ttAt l k := ⟨_, rfl⟩
       have e8 : wr.cell? ⟨b', o' + k * 3 + 2, none⟩ = some (.int .i64 tq) := by
        have h := hcs 2 (by omega)
        rw [h, htq, ttAt_eq hzs]
        rfl
       have e8' : wr.cell? ⟨b', o' + k * 3 + 1 + 1, none⟩ = some (.int .i64 tq) := e8
       have hop := openK_succ now l k
       rw [← htq] at hop
       have hkz : (k : Int) < (m : Int) := by omega
       rw [hA'] at d8
       have HKN := Lib.hid hkn
       have holn := openK_len now l k
       clear hcs hzs htq hA'
       by_cases hlt2 : now < tq
       ·have hd : decide (now < tq) = true := decide_eq_true hlt2
        rw [if_pos hlt2] at hop
        have HOP := Lib.hid hop
        have hne : openK now l (k + 1) ≠ [] := by rw [hop]; simp
        have HNE := Lib.hid hne
        clear hop hlt2 hne
        generalize openK now l k = OL at HJB HN1 HOP holn
        have b1 : wr.cell? ⟨g25, 1, none⟩ = some (.int .i64 (if OL = [] then 3 else 2)) := HJB.out.cell 1
        have bz : wr.frozen? ⟨g25, 1, none⟩ = false := HJB.out.frozen 1
        have jb2 : Blk (wr.setCell ⟨g25, 1, none⟩ (.int .i64 2)) g25 76 #[.int .i64 id, .int .i64 2, .slice A5 OL.length c5, .int .i64 0, .int .i64 0] := HJB.out.set_ 1 (.int .i64 2)
        have hone := (One.refl g25 wr).set 1 (.int .i64 2)
        have hd2 : OwnD (wr.setCell ⟨g25, 1, none⟩ (.int .i64 2)) W1.heap.size (.slice A1 dn c1) ds := One.own hone HD1.out HJB.out (by decide)
        have hn2 : OwnN (wr.setCell ⟨g25, 1, none⟩ (.int .i64 2)) W1.heap.size (.slice A5 OL.length c5) OL := One.own hone HN1.out HJB.out (by decide)
        have hxs := hone.ext hx hg25w
        have HJ2 := Lib.hid jb2
        have HD2 := Lib.hid hd2
        have HN2 := Lib.hid hn2
        clear hone jb2 hd2 hn2 HJB HN1 HD1 hx
        generalize (if OL = [] then (3 : Int) else 2) = st0 at b1
        go_upto_region 42 with (fail)
        clear b1 bz d8 e8 e8'
        generalize wr.setCell ⟨g25, 1, none⟩ (.int .i64 2) = W6 at hxs HJ2 HD2 HN2 ⊢
        have hxa : Ext W6 (W6.alloc (.cells #[.int .i64 (k : Int)] 3)) := bl_alloc (Below.refl _ _) _
        obtain ⟨A7, c7, W7, hrun, hf2, hfz, hj7, ho7, hx7, hgd7⟩ := fate_app2 k W6.heap.size (Blk.new _ _ _) (HJ2.out.ext hxa) (HN2.out.ext hxa) (by omega) hg25w
        have b2 : W6.cell? ⟨g25, 2, none⟩ = some (.slice A5 OL.length c5) := HJ2.out.cell 2
        have b2a : (W6.alloc (.cells #[.int .i64 (k : Int)] 3)).cell? ⟨g25, 2, none⟩ = some (.slice A5 OL.length c5) := ext_cell hxa b2
        have hgd : OwnD (W7.setCell ⟨g25, 2, none⟩ (.slice A7 (OL.length + 1) c7)) W1.heap.size (.slice A1 dn c1) ds := hgd7 _ _ _ (HD2.out.ext hxa)
        have HGD := Lib.hid hgd
        have HRUN := Lib.hid hrun
        have HNEW : Hid (Hid (Blk (W7.setCell ⟨g25, 2, none⟩ (.slice A7 (OL.length + 1) c7)) g25 76 #[.int .i64 id, .int .i64 (if openK now l (k + 1) = [] then 3 else 2), .slice A7 (openK now l (k + 1)).length c7, .int .i64 0, .int .i64 0]) ∧ Hid (OwnN (W7.setCell ⟨g25, 2, none⟩ (.slice A7 (OL.length + 1) c7)) W1.heap.size (.slice A7 (openK now l (k + 1)).length c7) (openK now l (k + 1)))) := Lib.hid ⟨Lib.hid (by rw [if_neg HNE.out, HOP.out, List.length_append]; exact hj7), Lib.hid (by rw [HOP.out, List.length_append]; exact ho7)⟩
        have HX7 := Lib.hid (hx7 W1 (Ext.trans hxs hxa) (Nat.le_refl _))
        clear hrun hj7 ho7 hx7 hxa hgd hxs HJ2 HD2 HN2 HOP HNE
        go_wp2_with (refine wpList_append_run_ rfl _ _ _ rfl rfl rfl HRUN.out ?_)
        go_roundw
        case rel => exact ⟨k + 1, A7, c7, HKN.out, by go_num, HNEW.out.1, HNEW.out.2, HGD, HX7.out⟩
        case measure => have := HKN.out; simp [intOf]; omega
       ·have hd : decide (now < tq) = false := decide_eq_false hlt2
        have hop2 : openK now l (k + 1) = openK now l k := by rw [hop, if_neg hlt2, List.append_nil]
        have HREL : Hid (Hid (Blk wr g25 76 #[.int .i64 id, .int .i64 (if openK now l (k + 1) = [] then 3 else 2), .slice A5 (openK now l (k + 1)).length c5, .int .i64 0, .int .i64 0]) ∧ Hid (OwnN wr W1.heap.size (.slice A5 (openK now l (k + 1)).length c5) (openK now l (k + 1)))) := Lib.hid (by rw [hop2]; exact ⟨HJB, HN1⟩)
        clear hop hop2 hlt2 HJB HN1
        go_wp2_with fail
        go_roundw
        case rel => exact ⟨k + 1, A5, c5, HKN.out, by go_num, HREL.out.1, HREL.out.2, HD1, hx⟩
        case measure => have := HKN.out; simp [intOf]; omega
      ·have hkm : k = m := by omega
       have hOL : openK now l k = openL now l := by unfold openL openK; rw [HLM.out, hkm]
       rw [hOL] at HJB HN1
       have HREL : Hid (∃ (st : Int) (lst : List Nat) (A5 : Option Addr) (c5 : Nat), Hid (Blk wr g25 76 #[.int .i64 id, .int .i64 st, .slice A5 lst.length c5, .int .i64 0, .int .i64 0]) ∧ Hid (OwnN wr W1.heap.size (.slice A5 lst.length c5) lst) ∧ Hid (OwnD wr W1.heap.size (.slice A1 dn c1) ds) ∧ Hid (fateE now l id left = fateW id st l lst) ∧ Hid (lst.Pairwise (· < ·) ∧ ∀ x ∈ lst, x < m) ∧ Ext W1 wr) := Lib.hid ⟨_, openL now l, A5, c5, HJB, HN1, HD1, Lib.hid (by
        rw [HFE0.out]
        unfold fateW
        split
        ·rename_i h; rw [h]
         first | done | rfl
        ·rfl), Lib.hid ⟨List.Pairwise.filter _ List.pairwise_lt_range, fun x h => by rw [← hOL] at h; rw [← hkm]; exact openK_mem h⟩, hx⟩
       clear hkm hOL HJB HN1 HD1 hx HFE0
       go_wp2_with fail
       go_meet
       exact HREL.out
    ·have hl1 : ¬ ln = 0 := fun h => hL0 (hl0.1 h)
     have hl2 : ((ln : Int) == 0) = false := by simpa using hl1
     have hne : setL left ≠ [] := fun h => hl1 (by rw [HLN.out, h]; rfl)
     have HREL : Hid (∃ (st : Int) (lst : List Nat) (A5 : Option Addr) (c5 : Nat), Hid (Blk W5 g25 76 #[.int .i64 id, .int .i64 st, .slice A5 lst.length c5, .int .i64 0, .int .i64 0]) ∧ Hid (OwnN W5 W1.heap.size (.slice A5 lst.length c5) lst) ∧ Hid (OwnD W5 W1.heap.size (.slice A1 dn c1) ds) ∧ Hid (fateE now l id left = fateW id st l lst) ∧ Hid (lst.Pairwise (· < ·) ∧ ∀ x ∈ lst, x < m) ∧ Ext W1 W5) := Lib.hid ⟨1, setL left, A2, c2, by rw [← HLN.out]; exact HJ25, by rw [← HLN.out]; exact HN, HD, Lib.hid (by
      unfold fateE fateW
      rw [if_pos hL0, if_neg hne, if_neg hne]
      rfl), Lib.hid ⟨List.Pairwise.filter _ List.pairwise_lt_range, fun x h => hlt.mem h⟩, hx5⟩
     clear HJ25 HN HD hlt hx5 hL0 hne
     go_wp2_with fail
     go_meet
     exact HREL.out
   case rest =>
   clear HD HN HJ25 hx5 hlt hl0 HLN
   obtain ⟨st, lst, A5, c5, HJB, HN, HD, HFE, HSO, hx⟩ := hcut
   obtain ⟨wr, hwr⟩ : ∃ W, W = wc := ⟨_, rfl⟩
   rw [← hwr] at HJB HN HD hx ⊢
   clear hwr
   obtain ⟨kn, hkn_⟩ : ∃ n, n = lst.length := ⟨_, rfl⟩
   rw [← hkn_] at HJB HN
   have HKL := Lib.hid hkn_
   clear hkn_
   go_wp2_with fail
   obtain ⟨cA, cq, ceq, hkc, hcm⟩ := own_slice HN.out
   have hk6 : kn ≤ 9223372036854775807 := by rw [HKL.out]; unfold maxLen at hcm; omega
   clear hkc hcm ceq
   have HFE2 : Hid (fateE now l id left = ⟨id, st, lst, frW l lst kn, ttW l lst kn⟩) := Lib.hid (by
    rw [HFE.out, HKL.out]
    unfold fateW frW ttW
    cases lst with
    |nil => rfl
    |cons x r =>
     rw [if_neg (by simp), if_neg (by simp), if_neg (by simp), if_neg (by simp)]
     congr 2
     rw [List.getLastD_eq_getLast?, List.getLast?_eq_getElem?, List.getD_eq_getElem?_getD])
   clear HFE
   go_loopw [27] (fun z wr => ∃ k : Nat, k ≤ kn ∧ z = .int .i64 k ∧ Hid (Blk wr g25 76 #[.int .i64 id, .int .i64 st, .slice A5 kn c5, .int .i64 (frW l lst k), .int .i64 (ttW l lst k)]) ∧ Hid (OwnN wr W1.heap.size (.slice A5 kn c5) lst) ∧ Hid (OwnD wr W1.heap.size (.slice A1 dn c1) ds) ∧ Ext W1 wr) (fun z _ => kn - (intOf z).toNat)
   case atStart => exact ⟨0, Nat.zero_le _, rfl, HJB, HN, HD, hx⟩
   case round =>
    clear HJB HN HD hx
    obtain ⟨k, hk, rfl, HJB, HN, HD, hx⟩ := hrel
    have b2 : wr.cell? ⟨g25, 2, none⟩ = some (.slice A5 kn c5) := HJB.out.cell 2
    by_cases hkn : k < kn
    ·have hkl : k < lst.length := by rw [← HKL.out]; exact hkn
     have hne : lst ≠ [] := fun h => by rw [h] at hkl; simp at hkl
     obtain ⟨gs, hA5, hkl9, _, _, _, _, hcell⟩ := HN.out.at_ hne
     clear hkl9
     have lk := hcell k hkl
     have hxm := HSO.out.2 lst[k] (List.getElem_mem hkl)
     have hpos := HPOS.out lst[k] (by rw [HLM.out]; exact hxm)
     have hfr : frW l lst (k + 1) = (if k = 0 then ttAt l lst[k] else frW l lst k) := by
      unfold frW
      rw [if_neg (by omega)]
      by_cases h0 : k = 0
      ·subst h0
       rw [if_pos rfl]
       cases lst with
       |nil => exact absurd rfl hne
       |cons x r => rfl
      ·rw [if_neg h0, if_neg h0]
     have htt : ttW l lst (k + 1) = ttAt l lst[k] := by
      unfold ttW
      rw [if_neg (by omega), Nat.add_sub_cancel, List.getD_eq_getElem?_getD, List.getElem?_eq_getElem hkl]
      rfl
     have hle : k ≠ 0 → frW l lst k ≤ ttAt l lst[k] ∧ ttW l lst k ≤ ttAt l lst[k] := fun h0 => by
      have hp := HSO.out.1
      have hk1 : k - 1 < lst.length := by omega
      have h1 : lst[k - 1] < lst[k] := List.pairwise_iff_getElem.1 hp (k - 1) k hk1 hkl (by omega)
      have h2 : lst[0]'(by omega) < lst[k] := List.pairwise_iff_getElem.1 hp 0 k (by omega) hkl (by omega)
      have e1 : frW l lst k = ttAt l (lst[0]'(by omega)) := by
       unfold frW
       rw [if_neg h0]
       cases lst with
       |nil => exact absurd rfl hne
       |cons x r => rfl
      have e2 : ttW l lst k = ttAt l lst[k - 1] := by
       unfold ttW
       rw [if_neg h0, List.getD_eq_getElem?_getD, List.getElem?_eq_getElem hk1]
       rfl
      rw [e1, e2]
      exact ⟨HMONO.out _ _ (by omega) (by rw [HLM.out]; exact hxm), HMONO.out _ _ (by omega) (by rw [HLM.out]; exact hxm)⟩
     obtain ⟨b', o', hzs, hA', _, hcs⟩ := (ra_ext (ra_ext HO.out HX1.out) hx).at_ slt_len hxm
     have e8 : wr.cell? ⟨b', o' + lst[k] * 3 + 2, none⟩ = some (.int .i64 (ttAt l lst[k])) := by
      have h := hcs 2 (by omega)
      rw [h, ttAt_eq hzs]
      rfl
     generalize lst[k] = xk at lk hxm hpos hfr htt hle e8
     generalize ttAt l xk = tk at hpos hfr htt hle e8
     have e8' : wr.cell? ⟨b', o' + xk * 3 + 1 + 1, none⟩ = some (.int .i64 tk) := e8
     have d8 : wr.cell? ⟨g6, 7 + 1, none⟩ = some (.slice (some ⟨b', o', none⟩) m d) := by rw [← hA']; exact (HJ6.out.ext hx).cell 8
     have hkz : (k : Int) < (kn : Int) := by omega
     have hxz : (xk : Int) < (m : Int) := by omega
     have HKN := Lib.hid hkn
     have HFR := Lib.hid hfr
     have HTT := Lib.hid htt
     rw [hA5] at b2 HJB HN
     clear hcs hzs hA' hcell hfr htt hkl hne
     go_upto_region 46 with (fail)
     go_quiet (fail)
     have hy : Ext wr (wr.drewN nq) := (by repeat (first | exact Below.refl _ _ | assumption | refine Below.drew ?_ | refine below_drewN ?_ _ | refine bl_alloc ?_ _ | refine Below.setCell ?_ (by first | (simp; done) | omega | (simp; omega)) _ | refine bl_then ?_ (by assumption)))
     have HJB := Lib.hid (HJB.out.ext hy)
     have HN := Lib.hid (HN.out.ext hy)
     have HD := Lib.hid (HD.out.ext hy)
     have hxq := Ext.trans hx hy
     clear b2 lk e8 e8' d8 hy hx
     generalize wr.drewN nq = wq at HJB HN HD hxq ⊢
     have b3 : wq.cell? ⟨g25, 3, none⟩ = some (.int .i64 (frW l lst k)) := HJB.out.cell 3
     have b4 : wq.cell? ⟨g25, 4, none⟩ = some (.int .i64 (ttW l lst k)) := HJB.out.cell 4
     have b3z : wq.frozen? ⟨g25, 3, none⟩ = false := HJB.out.frozen 3
     have b4z : wq.frozen? ⟨g25, 4, none⟩ = false := HJB.out.frozen 4
     by_cases hk0 : k = 0
     ·subst hk0
      have e1 : frW l lst 0 = 0 := rfl
      have e2 : ttW l lst 0 = 0 := rfl
      rw [e1] at b3 HJB
      rw [e2] at b4 HJB
      have hfr := HFR.out
      rw [if_pos rfl] at hfr
      have HFR := Lib.hid hfr
      have ht1 : ¬ tk < tk := by omega
      have ht2 : decide (tk < tk) = false := decide_eq_false ht1
      have hone := (((One.refl g25 wq).set 3 (.int .i64 tk)).set 3 (.int .i64 tk)).set 4 (.int .i64 (if 0 < tk then tk else 0))
      have HJ2 := Lib.hid (Blk.cast5 (x' := frW l lst (0 + 1)) (y' := ttW l lst (0 + 1)) (((HJB.out.set_ 3 (.int .i64 tk)).set_ 3 (.int .i64 tk)).set_ 4 (.int .i64 (if 0 < tk then tk else 0))) HFR.out.symm (by rw [HTT.out]; split <;> omega))
      have HN2 : Hid (OwnN _ W1.heap.size (.slice (some ⟨gs, 0, none⟩) kn c5) lst) := Lib.hid (One.own hone HN.out HJB.out (by decide))
      have HD2 : Hid (OwnD _ W1.heap.size (.slice A1 dn c1) ds) := Lib.hid (One.own hone HD.out HJB.out (by decide))
      have HX2 := Lib.hid (hone.ext hxq hg25w)
      clear e1 e2 hle hfr hone HJB HN HD hxq
      go_wp2_with fail
      go_roundw
      case rel => exact ⟨0 + 1, HKN.out, by go_num, by rw [hA5]; exact HJ2, by rw [hA5]; exact HN2, HD2, HX2.out⟩
      case measure => have := HKN.out; simp [intOf]; omega
     ·have hk1 : ((k : Int) == 0) = false := by simpa using hk0
      obtain ⟨hle1, hle2⟩ := hle hk0
      have hfr := HFR.out
      rw [if_neg hk0] at hfr
      have HFR := Lib.hid hfr
      have ht1 : ¬ tk < frW l lst k := by omega
      clear hle hfr
      generalize frW l lst k = fr0 at b3 HFR hle1 ht1 HJB
      generalize ttW l lst k = tt0 at b4 hle2 HJB
      have hone := ((One.refl g25 wq).set 3 (.int .i64 fr0)).set 4 (.int .i64 (if tt0 < tk then tk else tt0))
      have HJ2 := Lib.hid (Blk.cast5 (x' := frW l lst (k + 1)) (y' := ttW l lst (k + 1)) ((HJB.out.set_ 3 (.int .i64 fr0)).set_ 4 (.int .i64 (if tt0 < tk then tk else tt0))) HFR.out.symm (by rw [HTT.out]; split <;> omega))
      have HN2 : Hid (OwnN _ W1.heap.size (.slice (some ⟨gs, 0, none⟩) kn c5) lst) := Lib.hid (One.own hone HN.out HJB.out (by decide))
      have HD2 : Hid (OwnD _ W1.heap.size (.slice A1 dn c1) ds) := Lib.hid (One.own hone HD.out HJB.out (by decide))
      have HX2 := Lib.hid (hone.ext hxq hg25w)
      clear hone HJB HN HD hxq
      go_wp2_with fail
      go_roundw
      case rel => exact ⟨k + 1, HKN.out, by go_num, by rw [hA5]; exact HJ2, by rw [hA5]; exact HN2, HD2, HX2.out⟩
      case measure => have := HKN.out; simp [intOf]; omega
    ·have hkk : k = kn := by omega
     have HKK := Lib.hid hkk
     have HJB : Hid (Blk wr g25 76 #[.int .i64 id, .int .i64 st, .slice A5 kn c5, .int .i64 (frW l lst kn), .int .i64 (ttW l lst kn)]) := Lib.hid (by rw [← hkk]; rw [hkk] at HJB ⊢; exact HJB.out)
     have HX : Hid (Ext w wr) := Lib.hid (Ext.trans HX1.out hx)
     have hj12 := HJ12.out.ext hx
     clear hkk
     generalize frW l lst kn = fr at HJB HFE2
     generalize ttW l lst kn = tt at HJB HFE2
     have b0 : wr.cell? ⟨g25, 0, none⟩ = some (.int .i64 id) := HJB.out.cell 0
     have b1 : wr.cell? ⟨g25, 1, none⟩ = some (.int .i64 st) := HJB.out.cell 1
     have b3 : wr.cell? ⟨g25, 3, none⟩ = some (.int .i64 fr) := HJB.out.cell 3
     have b4 : wr.cell? ⟨g25, 4, none⟩ = some (.int .i64 tt) := HJB.out.cell 4
     have hone := (One.refl g12 wr).row #[.int .i64 id, .int .i64 st, .slice A5 kn c5, .int .i64 fr, .int .i64 tt]
     have HJF := Lib.hid hj12
     have HNF : Hid (OwnN (wr.setRow g12 #[.int .i64 id, .int .i64 st, .slice A5 kn c5, .int .i64 fr, .int .i64 tt]) w.heap.size (.slice A5 kn c5) lst) := Lib.hid (own_base (One.own hone HN.out hj12 (by decide)) (Below.size HX1.out))
     have HDF : Hid (OwnD (wr.setRow g12 #[.int .i64 id, .int .i64 st, .slice A5 kn c5, .int .i64 fr, .int .i64 tt]) w.heap.size (.slice A1 dn c1) ds) := Lib.hid (own_base (One.own hone HD.out hj12 (by decide)) (Below.size HX1.out))
     have HXF := Lib.hid (hone.ext HX.out hg12w)
     have HLD := Lib.hid (load_fte (hj12.row #[.int .i64 id, .int .i64 st, .slice A5 kn c5, .int .i64 fr, .int .i64 tt]) rfl)
     clear hone hj12 HN HD HX hx HJB
     go_wp2_with (refine wpList_store_row rfl _ _ _ rfl g12 #[.int .i64 id, .int .i64 st, .slice A5 kn c5, .int .i64 fr, .int .i64 tt] rfl rfl 76 _ HJF.out fate_size rfl (by simp [Value.oneCell']) ?_)
     exact bodyPost_ret (results2c Try.results53 _ _ g12 _ _ _ rfl HLD.out rfl rfl) rfl (by
      unfold RFate
      rw [HFX.out]
      dsimp only
      rw [HFE2.out]
      dsimp only
      rw [← HKL.out, ← HDN.out]
      exact ⟨A5, c5, A1, c1, rfl, HNF.out, HDF.out, HXF.out⟩)
end Go.Proofs.Ytmlabgmigakcbaa
