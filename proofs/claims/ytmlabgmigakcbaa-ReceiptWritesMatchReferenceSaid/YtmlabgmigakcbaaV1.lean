/- What hangs on the numbers of options alone; the example. -/
import Derived.Test.YtmlabgmigakcbaaU7
import Derived.Test.YtmlabgmigakcbaaS3
namespace Go.Proofs.Ytmlabgmigakcbaa
open Go.RowKit

def toOpt (o : Opp) : Opt := ⟨o.id, 0, 0, 0, 0, 0, 0, 0, none, 0, 0, o.l⟩
theorem optsR_map (ps : List Pas) : ∀ (os : List Opt) (seen : Int → Bool), optsR ps seen os = optsR ps seen ((os.map Opt.p).map toOpt)
  | [], _ => rfl
  | o :: r, seen => by
    rw [List.map_cons, List.map_cons, optsR_cons, optsR_cons, optsR_map ps r]
    rfl
theorem validP_map (os : List Opt) (ps : List Pas) (sts : List Stn) : validP os ps sts = validP ((os.map Opt.p).map toOpt) ps sts := by
  unfold validP
  rw [optsR_map ps os]
  simp
theorem noneP_map (ps : List Pas) (f : Int → Option Int) (now : Int) (os : List Opt) (r : Rcp) : noneP (qOf ps f now) os r = noneP (qOf ps f now) ((os.map Opt.p).map toOpt) r := by
  unfold noneP
  rw [List.all_map, List.all_map]
  rfl
theorem strL_map (ps : List Pas) (f : Int → Option Int) (now : Int) (os : List Opt) : ∀ (l : List Rcp) (i : Nat) (ds : List Dsc), strL (qOf ps f now) os i ds l = strL (qOf ps f now) ((os.map Opt.p).map toOpt) i ds l
  | [], _, _ => by rw [strL, strL]
  | r :: l, i, ds => by rw [strL_cons, strL_cons, noneP_map, strL_map ps f now os l]
theorem recP_map (ps : List Pas) (f : Int → Option Int) (now : Int) (rs : List Rcp) (ns : List Nte) : ∀ (os : List Opt) (ds : List Dsc), recP (qOf ps f now) now rs ns ds os = recP (qOf ps f now) now rs ns ds ((os.map Opt.p).map toOpt)
  | [], _ => rfl
  | o :: r, ds => by
    rw [List.map_cons, List.map_cons, recP_cons, recP_cons, recP_map ps f now rs ns r]
    rfl
theorem recV_map (os : List Opt) (ps : List Pas) (sts : List Stn) (rs : List Rcp) (ns : List Nte) (now : Int) : recV os ps sts rs ns now = recV ((os.map Opt.p).map toOpt) ps sts rs ns now := by
  unfold recV recOK
  rw [← validP_map os ps sts, recP_map ps _ now rs ns os, strL_map ps _ now os]
theorem wrtL_map (ps : List Pas) (sts : List Stn) (lost wrong : List Int) : ∀ (os : List Opt) (rs : List Rcp) (ns : List Nte), wrtL ps sts lost wrong rs ns os = wrtL ps sts lost wrong rs ns ((os.map Opt.p).map toOpt)
  | [], _, _ => rfl
  | o :: r, rs, ns => by
    rw [List.map_cons, List.map_cons, wrtL_cons, wrtL_cons, wrtL_map ps sts lost wrong r]
    rfl
theorem wrtV_map (os : List Opt) (ps : List Pas) (sts : List Stn) (lost wrong : List Int) : wrtV os ps sts lost wrong = wrtV ((os.map Opt.p).map toOpt) ps sts lost wrong := by
  unfold wrtV
  rw [← validP_map os ps sts, wrtL_map ps sts lost wrong os]
theorem fitsV_map (o : Opt) (ps : List Pas) (sts : List Stn) (r : Rcp) (now : Int) : fitsV o ps sts r now = fitsV (toOpt o.p) ps sts r now := by
  unfold fitsV
  rw [validP_map [o] ps sts]
  rfl
theorem RA.of_blk {α : Type} {cells : α → List Value} {s : Nat} {w : World} {g n : Nat} {t : TypeId} {l : List α} {X : Array Value} (h : Blk w g t X) (hX : X.toList = l.flatMap cells) (hf : (l.flatMap cells).length = n * s) (hl : l.length = n) (hn : n ≤ 1000) : RA cells s w w.heap.size (some ⟨g, 0, none⟩) n n l :=
  ⟨⟨hf, fun _ => ⟨g, 0, rfl, h.lt, fun j u hu => by rw [Nat.zero_add, h.cell, ← hu, ← hX]; simp⟩⟩, hl, Nat.le_refl _, by unfold maxLen; omega, by omega⟩
def exL : List Slt := [⟨0, 10, 12⟩, ⟨0, 14, 16⟩, ⟨1, 100, 102⟩]
def exO : List Opp := [⟨7, exL⟩]
def exP : List Pas := [⟨0, 3, ⟨10, 20⟩, ⟨10, 20⟩⟩, ⟨0, 3, ⟨100, 110⟩, ⟨100, 110⟩⟩]
def exS : List Stn := [⟨3, ⟨0, 0⟩, 0, 1, 2⟩]
structure ExR (w : World) (g1 g2 g3 : Nat) (os : List Opt) : Prop where
  ho : Ops w w.heap.size (some ⟨g1, 0, none⟩) 1 1 os
  op : os.map Opt.p = exO
  ps : RA pasCells 6 w w.heap.size (some ⟨g2, 0, none⟩) 2 2 exP
  st : RA stnCells 6 w w.heap.size (some ⟨g3, 0, none⟩) 1 1 exS
theorem ExR.ext {w w' : World} {g1 g2 g3 : Nat} {os : List Opt} (h : ExR w g1 g2 g3 os) (hx : Ext w w') : ExR w' g1 g2 g3 os := ⟨h.ho.ext hx, h.op, ra_ext h.ps hx, ra_ext h.st hx⟩
def exOp (gs : Nat) : Opt := ⟨7, 0, 0, 0, 0, 0, 0, 0, some ⟨gs, 0, none⟩, 3, 3, exL⟩
def ExRet (w : World) (e : Ending) (w' : World) : Prop := ∃ g1 g2 g3 gs, e = .returned (.tuple #[.slice (some ⟨g1, 0, none⟩) 1 1, .slice (some ⟨g2, 0, none⟩) 2 2, .slice (some ⟨g3, 0, none⟩) 1 1]) ∧ ExR w' g1 g2 g3 [exOp gs] ∧ Ext w w'

set_option maxRecDepth 100000 in
set_option maxHeartbeats 8000000 in
theorem example_any (w : World) : Calls Try.prog 34 #[] w (ExRet w) := by
  go_enter Try.func34, Try.ntmps34
  go_upto_region 4 with (fail)
  obtain ⟨W1, hW1⟩ : ∃ W, W = (w.alloc (.cells #[.int .i64 10, .int .i64 20] 29)).alloc (.cells #[.int .i64 100, .int .i64 110] 29) := ⟨_, rfl⟩
  have hs1 : W1.heap.size = w.heap.size + 1 + 1 := by rw [hW1]; simp
  rw [← hW1]
  obtain ⟨J3, J4, hx1⟩ := al2 w W1 _ _ _ _ hW1
  clear hW1
  obtain ⟨W2, hW2⟩ : ∃ W, W = (W1.alloc (.cells #[.int .i64 0, .int .i64 10, .int .i64 12, .int .i64 0, .int .i64 14, .int .i64 16, .int .i64 1, .int .i64 100, .int .i64 102] 78)).alloc (.cells #[.int .i64 7, .int .i64 0, .int .i64 0, .int .i64 0, .int .i64 0, .int .i64 0, .int .i64 0, .int .i64 0, .slice (some ⟨w.heap.size + 1 + 1, 0, none⟩) 3 3] 32) := ⟨_, rfl⟩
  rw [← hW2]
  obtain ⟨JS, JO, hx2⟩ := al2 W1 W2 _ _ _ _ hW2
  clear hW2
  rw [hs1] at JS JO
  have J3 := J3.ext hx2
  have J4 := J4.ext hx2
  generalize w.heap.size + 1 + 1 + 1 = g5 at JO ⊢
  generalize w.heap.size + 1 + 1 = gs at JS JO ⊢
  generalize w.heap.size + 1 = g4 at J4 ⊢
  obtain ⟨g3, hg3⟩ : ∃ g, g = w.heap.size := ⟨_, rfl⟩
  rw [← hg3] at J3 ⊢
  clear hg3 hs1
  have HX := Lib.hid (Ext.trans hx1 hx2)
  have HJS := Lib.hid JS
  have HJO := Lib.hid JO
  have a0 : W2.cell? ⟨g3, 0, none⟩ = some (.int .i64 10) := J3.cell 0
  have a1 : W2.cell? ⟨g3, 1, none⟩ = some (.int .i64 20) := J3.cell 1
  have b0 : W2.cell? ⟨g4, 0, none⟩ = some (.int .i64 100) := J4.cell 0
  have b1 : W2.cell? ⟨g4, 1, none⟩ = some (.int .i64 110) := J4.cell 1
  have d0 : W2.cell? ⟨g5, 0, none⟩ = some (.int .i64 7) := JO.cell 0
  have d1 : W2.cell? ⟨g5, 1, none⟩ = some (.int .i64 0) := JO.cell 1
  have d2 : W2.cell? ⟨g5, 2, none⟩ = some (.int .i64 0) := JO.cell 2
  have d3 : W2.cell? ⟨g5, 3, none⟩ = some (.int .i64 0) := JO.cell 3
  have d4 : W2.cell? ⟨g5, 4, none⟩ = some (.int .i64 0) := JO.cell 4
  have d5 : W2.cell? ⟨g5, 5, none⟩ = some (.int .i64 0) := JO.cell 5
  have d6 : W2.cell? ⟨g5, 6, none⟩ = some (.int .i64 0) := JO.cell 6
  have d7 : W2.cell? ⟨g5, 7, none⟩ = some (.int .i64 0) := JO.cell 7
  have d8 : W2.cell? ⟨g5, 8, none⟩ = some (.slice (some ⟨gs, 0, none⟩) 3 3) := JO.cell 8
  clear J3 J4 JS JO hx1 hx2
  refine wp_region_obl 14 (fun ix vals v w1 => match ix with | 0 => v = .agg #[.int .i64 7, .int .i64 0, .int .i64 0, .int .i64 0, .int .i64 0, .int .i64 0, .int .i64 0, .int .i64 0, .slice (some ⟨gs, 0, none⟩) 3 3] | 1 => ∃ g, v = .slice (some ⟨g, 0, none⟩) 1 1 ∧ Blk w1 g 32 #[.int .i64 7, .int .i64 0, .int .i64 0, .int .i64 0, .int .i64 0, .int .i64 0, .int .i64 0, .int .i64 0, .slice (some ⟨gs, 0, none⟩) 3 3] | 2 => v = .agg #[.int .i64 10, .int .i64 20] | 3 => v = .agg #[.int .i64 10, .int .i64 20] | 4 => v = .agg #[.int .i64 0, .int .i64 3, .int .i64 10, .int .i64 20, .int .i64 10, .int .i64 20] | 5 => v = .agg #[.int .i64 100, .int .i64 110] | 6 => v = .agg #[.int .i64 100, .int .i64 110] | 7 => v = .agg #[.int .i64 0, .int .i64 3, .int .i64 100, .int .i64 110, .int .i64 100, .int .i64 110] | 8 => ∃ g, v = .slice (some ⟨g, 0, none⟩) 2 2 ∧ Blk w1 g 98 #[.int .i64 0, .int .i64 3, .int .i64 10, .int .i64 20, .int .i64 10, .int .i64 20, .int .i64 0, .int .i64 3, .int .i64 100, .int .i64 110, .int .i64 100, .int .i64 110] | 9 => v = .agg #[.int .i64 3, .int .i64 0, .int .i64 0, .int .i64 0, .int .i64 1, .int .i64 2] | 10 => ∃ g, v = .slice (some ⟨g, 0, none⟩) 1 1 ∧ Blk w1 g 122 #[.int .i64 3, .int .i64 0, .int .i64 0, .int .i64 0, .int .i64 1, .int .i64 2] | 11 => ∃ g, v = .slice (some ⟨g, 0, none⟩) 1 1 ∧ Blk w1 g 32 #[.int .i64 7, .int .i64 0, .int .i64 0, .int .i64 0, .int .i64 0, .int .i64 0, .int .i64 0, .int .i64 0, .slice (some ⟨gs, 0, none⟩) 3 3] | 12 => ∃ g, v = .slice (some ⟨g, 0, none⟩) 2 2 ∧ Blk w1 g 98 #[.int .i64 0, .int .i64 3, .int .i64 10, .int .i64 20, .int .i64 10, .int .i64 20, .int .i64 0, .int .i64 3, .int .i64 100, .int .i64 110, .int .i64 100, .int .i64 110] | _ => ∃ g, v = .slice (some ⟨g, 0, none⟩) 1 1 ∧ Blk w1 g 122 #[.int .i64 3, .int .i64 0, .int .i64 0, .int .i64 0, .int .i64 1, .int .i64 2]) (by kernel_rfl) (by kernel_rfl) ?_ ?_ ?_ ?_
  · intro ix vals v w1 w2 hi hr hx
    match ix, hr with
    | 0, hr => exact hr
    | 1, hr => obtain ⟨g, h1, h2⟩ := hr; exact ⟨g, h1, h2.ext hx⟩
    | 2, hr => exact hr
    | 3, hr => exact hr
    | 4, hr => exact hr
    | 5, hr => exact hr
    | 6, hr => exact hr
    | 7, hr => exact hr
    | 8, hr => obtain ⟨g, h1, h2⟩ := hr; exact ⟨g, h1, h2.ext hx⟩
    | 9, hr => exact hr
    | 10, hr => obtain ⟨g, h1, h2⟩ := hr; exact ⟨g, h1, h2.ext hx⟩
    | 11, hr => obtain ⟨g, h1, h2⟩ := hr; exact ⟨g, h1, h2.ext hx⟩
    | 12, hr => obtain ⟨g, h1, h2⟩ := hr; exact ⟨g, h1, h2.ext hx⟩
    | (kx + 13), hr => obtain ⟨g, h1, h2⟩ := hr; exact ⟨g, h1, h2.ext hx⟩
  · intro ix vals vals_ v w1 hi hv hr
    exact hr
  · refine ⟨?_, ?_, ?_, ?_, ?_, ?_, ?_, ?_, ?_, ?_, ?_, ?_, ?_, ?_, trivial⟩
    · intro vals w1 hx hd ha
      clear hd ha
      simp only [Lf]
      have d0 := ext_cell hx d0; have d1 := ext_cell hx d1; have d2 := ext_cell hx d2; have d3 := ext_cell hx d3; have d4 := ext_cell hx d4; have d5 := ext_cell hx d5; have d6 := ext_cell hx d6; have d7 := ext_cell hx d7; have d8 := ext_cell hx d8
      go_wp2
      exact ⟨rfl, Ext.refl _, rfl⟩
    · intro vals w1 hx hd ha
      have e0 : vals 0 = .agg #[.int .i64 7, .int .i64 0, .int .i64 0, .int .i64 0, .int .i64 0, .int .i64 0, .int .i64 0, .int .i64 0, .slice (some ⟨gs, 0, none⟩) 3 3] := hd 0 (by decide)
      clear hd ha
      simp only [Lf, dstAt, Act.put, List.getElem?_toArray, List.getElem?_cons_zero, Option.bind_some, List.setIfInBounds_toArray, List.set_cons_zero, List.set_cons_succ]
      simp only [e0]
      clear e0
      go_wp2
      exact ⟨rfl, (by repeat (first | exact Below.refl _ _ | assumption | refine Below.drew ?_ | refine below_drewN ?_ _ | refine bl_alloc ?_ _ | refine Below.setCell ?_ (by first | (simp; done) | omega | (simp; omega)) _ | refine bl_then ?_ (by assumption))), _, rfl, Blk.new _ _ _⟩
    · intro vals w1 hx hd ha
      clear hd ha
      simp only [Lf, dstAt, Act.put, List.getElem?_toArray, List.getElem?_cons_zero, List.getElem?_cons_succ, Option.bind_some, List.setIfInBounds_toArray, List.set_cons_zero, List.set_cons_succ]
      have a0 := ext_cell hx a0; have a1 := ext_cell hx a1
      go_wp2
      exact ⟨rfl, Ext.refl _, rfl⟩
    · intro vals w1 hx hd ha
      clear hd ha
      simp only [Lf, dstAt, Act.put, List.getElem?_toArray, List.getElem?_cons_zero, List.getElem?_cons_succ, Option.bind_some, List.setIfInBounds_toArray, List.set_cons_zero, List.set_cons_succ]
      have a0 := ext_cell hx a0; have a1 := ext_cell hx a1
      go_wp2
      exact ⟨rfl, Ext.refl _, rfl⟩
    · intro vals w1 hx hd ha
      have e2 : vals 2 = .agg #[.int .i64 10, .int .i64 20] := hd 2 (by decide)
      have e3 : vals 3 = .agg #[.int .i64 10, .int .i64 20] := hd 3 (by decide)
      clear hd ha
      simp only [Lf, dstAt, Act.put, List.getElem?_toArray, List.getElem?_cons_zero, List.getElem?_cons_succ, Option.bind_some, List.setIfInBounds_toArray, List.set_cons_zero, List.set_cons_succ]
      simp only [e2, e3]
      clear e2 e3
      go_wp2
      exact ⟨rfl, Ext.refl _, rfl⟩
    · intro vals w1 hx hd ha
      clear hd ha
      simp only [Lf, dstAt, Act.put, List.getElem?_toArray, List.getElem?_cons_zero, List.getElem?_cons_succ, Option.bind_some, List.setIfInBounds_toArray, List.set_cons_zero, List.set_cons_succ]
      have b0 := ext_cell hx b0; have b1 := ext_cell hx b1
      go_wp2
      exact ⟨rfl, Ext.refl _, rfl⟩
    · intro vals w1 hx hd ha
      clear hd ha
      simp only [Lf, dstAt, Act.put, List.getElem?_toArray, List.getElem?_cons_zero, List.getElem?_cons_succ, Option.bind_some, List.setIfInBounds_toArray, List.set_cons_zero, List.set_cons_succ]
      have b0 := ext_cell hx b0; have b1 := ext_cell hx b1
      go_wp2
      exact ⟨rfl, Ext.refl _, rfl⟩
    · intro vals w1 hx hd ha
      have e5 : vals 5 = .agg #[.int .i64 100, .int .i64 110] := hd 5 (by decide)
      have e6 : vals 6 = .agg #[.int .i64 100, .int .i64 110] := hd 6 (by decide)
      clear hd ha
      simp only [Lf, dstAt, Act.put, List.getElem?_toArray, List.getElem?_cons_zero, List.getElem?_cons_succ, Option.bind_some, List.setIfInBounds_toArray, List.set_cons_zero, List.set_cons_succ]
      simp only [e5, e6]
      clear e5 e6
      go_wp2
      exact ⟨rfl, Ext.refl _, rfl⟩
    · intro vals w1 hx hd ha
      have e4 : vals 4 = .agg #[.int .i64 0, .int .i64 3, .int .i64 10, .int .i64 20, .int .i64 10, .int .i64 20] := hd 4 (by decide)
      have e7 : vals 7 = .agg #[.int .i64 0, .int .i64 3, .int .i64 100, .int .i64 110, .int .i64 100, .int .i64 110] := hd 7 (by decide)
      clear hd ha
      simp only [Lf, dstAt, Act.put, List.getElem?_toArray, List.getElem?_cons_zero, List.getElem?_cons_succ, Option.bind_some, List.setIfInBounds_toArray, List.set_cons_zero, List.set_cons_succ]
      simp only [e4]
      simp only [e7]
      clear e4 e7
      go_wp2
      exact ⟨rfl, (by repeat (first | exact Below.refl _ _ | assumption | refine Below.drew ?_ | refine below_drewN ?_ _ | refine bl_alloc ?_ _ | refine Below.setCell ?_ (by first | (simp; done) | omega | (simp; omega)) _ | refine bl_then ?_ (by assumption))), _, rfl, Blk.new _ _ _⟩
    · intro vals w1 hx hd ha
      clear hd ha
      simp only [Lf, dstAt, Act.put, List.getElem?_toArray, List.getElem?_cons_zero, List.getElem?_cons_succ, Option.bind_some, List.setIfInBounds_toArray, List.set_cons_zero, List.set_cons_succ]
      go_wp2
      exact ⟨rfl, Ext.refl _, rfl⟩
    · intro vals w1 hx hd ha
      have e9 : vals 9 = .agg #[.int .i64 3, .int .i64 0, .int .i64 0, .int .i64 0, .int .i64 1, .int .i64 2] := hd 9 (by decide)
      clear hd ha
      simp only [Lf, dstAt, Act.put, List.getElem?_toArray, List.getElem?_cons_zero, List.getElem?_cons_succ, Option.bind_some, List.setIfInBounds_toArray, List.set_cons_zero, List.set_cons_succ]
      simp only [e9]
      clear e9
      go_wp2
      exact ⟨rfl, (by repeat (first | exact Below.refl _ _ | assumption | refine Below.drew ?_ | refine below_drewN ?_ _ | refine bl_alloc ?_ _ | refine Below.setCell ?_ (by first | (simp; done) | omega | (simp; omega)) _ | refine bl_then ?_ (by assumption))), _, rfl, Blk.new _ _ _⟩
    · intro vals w1 hx hd ha
      have e0 : vals 0 = .agg #[.int .i64 7, .int .i64 0, .int .i64 0, .int .i64 0, .int .i64 0, .int .i64 0, .int .i64 0, .int .i64 0, .slice (some ⟨gs, 0, none⟩) 3 3] := hd 0 (by decide)
      have r1 : (fun v w1 => ∃ g, v = .slice (some ⟨g, 0, none⟩) 1 1 ∧ Blk w1 g 32 #[.int .i64 7, .int .i64 0, .int .i64 0, .int .i64 0, .int .i64 0, .int .i64 0, .int .i64 0, .int .i64 0, .slice (some ⟨gs, 0, none⟩) 3 3]) (vals 1) w1 := hd 1 (by decide)
      dsimp only at r1
      clear hd ha
      simp only [Lf, dstAt, Act.put, List.getElem?_toArray, List.getElem?_cons_zero, List.getElem?_cons_succ, Option.bind_some, List.setIfInBounds_toArray, List.set_cons_zero, List.set_cons_succ]
      simp only [e0]
      clear e0
      obtain ⟨g, e1, h1⟩ := r1
      rw [e1]
      have h1 := Lib.hid h1
      go_wp2
      exact ⟨rfl, Ext.refl _, g, rfl, h1.out⟩
    · intro vals w1 hx hd ha
      have e0 : vals 0 = .agg #[.int .i64 7, .int .i64 0, .int .i64 0, .int .i64 0, .int .i64 0, .int .i64 0, .int .i64 0, .int .i64 0, .slice (some ⟨gs, 0, none⟩) 3 3] := hd 0 (by decide)
      have r1 : (fun v w1 => ∃ g, v = .slice (some ⟨g, 0, none⟩) 1 1 ∧ Blk w1 g 32 #[.int .i64 7, .int .i64 0, .int .i64 0, .int .i64 0, .int .i64 0, .int .i64 0, .int .i64 0, .int .i64 0, .slice (some ⟨gs, 0, none⟩) 3 3]) (vals 1) w1 := hd 1 (by decide)
      dsimp only at r1
      have e2 : vals 2 = .agg #[.int .i64 10, .int .i64 20] := hd 2 (by decide)
      have e3 : vals 3 = .agg #[.int .i64 10, .int .i64 20] := hd 3 (by decide)
      have e4 : vals 4 = .agg #[.int .i64 0, .int .i64 3, .int .i64 10, .int .i64 20, .int .i64 10, .int .i64 20] := hd 4 (by decide)
      have e5 : vals 5 = .agg #[.int .i64 100, .int .i64 110] := hd 5 (by decide)
      have e6 : vals 6 = .agg #[.int .i64 100, .int .i64 110] := hd 6 (by decide)
      have e7 : vals 7 = .agg #[.int .i64 0, .int .i64 3, .int .i64 100, .int .i64 110, .int .i64 100, .int .i64 110] := hd 7 (by decide)
      have r8 : (fun v w1 => ∃ g, v = .slice (some ⟨g, 0, none⟩) 2 2 ∧ Blk w1 g 98 #[.int .i64 0, .int .i64 3, .int .i64 10, .int .i64 20, .int .i64 10, .int .i64 20, .int .i64 0, .int .i64 3, .int .i64 100, .int .i64 110, .int .i64 100, .int .i64 110]) (vals 8) w1 := hd 8 (by decide)
      dsimp only at r8
      have r11 : (fun v w1 => ∃ g, v = .slice (some ⟨g, 0, none⟩) 1 1 ∧ Blk w1 g 32 #[.int .i64 7, .int .i64 0, .int .i64 0, .int .i64 0, .int .i64 0, .int .i64 0, .int .i64 0, .int .i64 0, .slice (some ⟨gs, 0, none⟩) 3 3]) (vals 11) w1 := hd 11 (by decide)
      dsimp only at r11
      clear hd ha
      simp only [Lf, dstAt, Act.put, List.getElem?_toArray, List.getElem?_cons_zero, List.getElem?_cons_succ, Option.bind_some, List.setIfInBounds_toArray, List.set_cons_zero, List.set_cons_succ]
      simp only [e0]
      simp only [e2]
      simp only [e3]
      simp only [e4]
      simp only [e5]
      simp only [e6]
      simp only [e7]
      clear e0 e2 e3 e4 e5 e6 e7
      obtain ⟨g, e1, h1⟩ := r8
      rw [e1]
      have h1 := Lib.hid h1
      go_wp2
      exact ⟨rfl, Ext.refl _, g, rfl, h1.out⟩
    · intro vals w1 hx hd ha
      have e0 : vals 0 = .agg #[.int .i64 7, .int .i64 0, .int .i64 0, .int .i64 0, .int .i64 0, .int .i64 0, .int .i64 0, .int .i64 0, .slice (some ⟨gs, 0, none⟩) 3 3] := hd 0 (by decide)
      have r1 : (fun v w1 => ∃ g, v = .slice (some ⟨g, 0, none⟩) 1 1 ∧ Blk w1 g 32 #[.int .i64 7, .int .i64 0, .int .i64 0, .int .i64 0, .int .i64 0, .int .i64 0, .int .i64 0, .int .i64 0, .slice (some ⟨gs, 0, none⟩) 3 3]) (vals 1) w1 := hd 1 (by decide)
      dsimp only at r1
      have e2 : vals 2 = .agg #[.int .i64 10, .int .i64 20] := hd 2 (by decide)
      have e3 : vals 3 = .agg #[.int .i64 10, .int .i64 20] := hd 3 (by decide)
      have e4 : vals 4 = .agg #[.int .i64 0, .int .i64 3, .int .i64 10, .int .i64 20, .int .i64 10, .int .i64 20] := hd 4 (by decide)
      have e5 : vals 5 = .agg #[.int .i64 100, .int .i64 110] := hd 5 (by decide)
      have e6 : vals 6 = .agg #[.int .i64 100, .int .i64 110] := hd 6 (by decide)
      have e7 : vals 7 = .agg #[.int .i64 0, .int .i64 3, .int .i64 100, .int .i64 110, .int .i64 100, .int .i64 110] := hd 7 (by decide)
      have r8 : (fun v w1 => ∃ g, v = .slice (some ⟨g, 0, none⟩) 2 2 ∧ Blk w1 g 98 #[.int .i64 0, .int .i64 3, .int .i64 10, .int .i64 20, .int .i64 10, .int .i64 20, .int .i64 0, .int .i64 3, .int .i64 100, .int .i64 110, .int .i64 100, .int .i64 110]) (vals 8) w1 := hd 8 (by decide)
      dsimp only at r8
      have e9 : vals 9 = .agg #[.int .i64 3, .int .i64 0, .int .i64 0, .int .i64 0, .int .i64 1, .int .i64 2] := hd 9 (by decide)
      have r10 : (fun v w1 => ∃ g, v = .slice (some ⟨g, 0, none⟩) 1 1 ∧ Blk w1 g 122 #[.int .i64 3, .int .i64 0, .int .i64 0, .int .i64 0, .int .i64 1, .int .i64 2]) (vals 10) w1 := hd 10 (by decide)
      dsimp only at r10
      have r11 : (fun v w1 => ∃ g, v = .slice (some ⟨g, 0, none⟩) 1 1 ∧ Blk w1 g 32 #[.int .i64 7, .int .i64 0, .int .i64 0, .int .i64 0, .int .i64 0, .int .i64 0, .int .i64 0, .int .i64 0, .slice (some ⟨gs, 0, none⟩) 3 3]) (vals 11) w1 := hd 11 (by decide)
      dsimp only at r11
      have r12 : (fun v w1 => ∃ g, v = .slice (some ⟨g, 0, none⟩) 2 2 ∧ Blk w1 g 98 #[.int .i64 0, .int .i64 3, .int .i64 10, .int .i64 20, .int .i64 10, .int .i64 20, .int .i64 0, .int .i64 3, .int .i64 100, .int .i64 110, .int .i64 100, .int .i64 110]) (vals 12) w1 := hd 12 (by decide)
      dsimp only at r12
      clear hd ha
      simp only [Lf, dstAt, Act.put, List.getElem?_toArray, List.getElem?_cons_zero, List.getElem?_cons_succ, Option.bind_some, List.setIfInBounds_toArray, List.set_cons_zero, List.set_cons_succ]
      simp only [e0]
      simp only [e2]
      simp only [e3]
      simp only [e4]
      simp only [e5]
      simp only [e6]
      simp only [e7]
      simp only [e9]
      clear e0 e2 e3 e4 e5 e6 e7 e9
      obtain ⟨g, e1, h1⟩ := r10
      rw [e1]
      have h1 := Lib.hid h1
      go_wp2
      exact ⟨rfl, Ext.refl _, g, rfl, h1.out⟩
  intro vals W5 hy hf
  obtain ⟨k1, v1, j1⟩ : ∃ g, vals 11 = .slice (some ⟨g, 0, none⟩) 1 1 ∧ Blk W5 g 32 #[.int .i64 7, .int .i64 0, .int .i64 0, .int .i64 0, .int .i64 0, .int .i64 0, .int .i64 0, .int .i64 0, .slice (some ⟨gs, 0, none⟩) 3 3] := hf 11 (by omega)
  obtain ⟨k2, v2, j2⟩ : ∃ g, vals 12 = .slice (some ⟨g, 0, none⟩) 2 2 ∧ Blk W5 g 98 #[.int .i64 0, .int .i64 3, .int .i64 10, .int .i64 20, .int .i64 10, .int .i64 20, .int .i64 0, .int .i64 3, .int .i64 100, .int .i64 110, .int .i64 100, .int .i64 110] := hf 12 (by omega)
  obtain ⟨k3, v3, j3⟩ : ∃ g, vals 13 = .slice (some ⟨g, 0, none⟩) 1 1 ∧ Blk W5 g 122 #[.int .i64 3, .int .i64 0, .int .i64 0, .int .i64 0, .int .i64 1, .int .i64 2] := hf 13 (by omega)
  have hy := hy.undrew
  have HR : Hid (ExR W5 k1 k2 k3 [exOp gs]) := Lib.hid ⟨⟨RA.of_blk j1 rfl rfl rfl (by omega), fun o ho => by rw [List.mem_singleton.1 ho]; exact RA.of_blk (HJS.out.ext hy) rfl rfl rfl (by show 3 ≤ 1000; omega)⟩, rfl, RA.of_blk j2 rfl rfl rfl (by omega), RA.of_blk j3 rfl rfl rfl (by omega)⟩
  have HXF := Lib.hid (Ext.trans HX.out hy)
  clear hf hy j1 j2 j3 a0 a1 b0 b1 d0 d1 d2 d3 d4 d5 d6 d7 d8
  refine tail0 (by kernel_rfl) ?_
  simp only [Lf, dstAt, Act.put, List.getElem?_toArray, List.getElem?_cons_zero, List.getElem?_cons_succ, Option.bind_some, List.setIfInBounds_toArray, List.set_cons_zero, List.set_cons_succ]
  rw [v1, v2, v3]
  clear v1 v2 v3
  go_wp2
  exact bodyPost_ret (v := .tuple #[.slice (some ⟨k1, 0, none⟩) 1 1, .slice (some ⟨k2, 0, none⟩) 2 2, .slice (some ⟨k3, 0, none⟩) 1 1]) (by simp [results, Try.results34, go_sem]) rfl ⟨k1, k2, k3, gs, rfl, HR.out, HXF.out⟩
/-- fated, plainly. -/
def fatedP (rs : List Rcp) (ns : List Nte) (now : Int) (want : FteP) (many : Int) : Bool :=
  decide ((recV (exO.map toOpt) exP exS rs ns now).2 = 0) && (decide (((recV (exO.map toOpt) exP exS rs ns now).1.2.length : Int) = many) && decide ((recV (exO.map toOpt) exP exS rs ns now).1.1 = [want]))
end Go.Proofs.Ytmlabgmigakcbaa
