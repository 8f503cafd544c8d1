/- Receipt: Fits; what valid options and stations say. -/
import Derived.Test.YtmlabgmigakcbaaR5
namespace Go.Proofs.Ytmlabgmigakcbaa
open Go.RowKit

theorem slotsOK_each (ps : List Pas) (hp : properP ps = true) : ∀ (l : List Slt) (e : Int), 0 ≤ e → slotsOK ps e l = true → ∀ s ∈ l, (0 ≤ s.p ∧ s.p < ps.length) ∧ 0 ≤ s.fr ∧ s.fr < s.tt ∧ s.tt ≤ 1000001
  | [], _, _, _ => fun s hs => by cases hs
  | s :: r, e, he, h => by
    rw [slotsOK_cons] at h
    simp only [Bool.and_eq_true] at h
    obtain ⟨⟨h1, h2⟩, h3⟩ := h
    rw [inB_iff] at h1
    have hs : (0 ≤ s.p ∧ s.p < ps.length) ∧ 0 ≤ s.fr ∧ s.fr < s.tt ∧ s.tt ≤ 1000001 := by
      refine ⟨by omega, ?_⟩
      cases hq : ps[s.p.toNat]? with
      | none => rw [hq] at h2; cases h2
      | some p =>
        rw [hq] at h2
        simp only [Bool.and_eq_true, decide_eq_true_eq] at h2
        have hm : p ∈ ps := List.mem_of_getElem? hq
        have hall : ps.all pasOK = true := by
          unfold properP at hp
          simp only [Bool.and_eq_true] at hp
          exact hp.1.2
        have hb := pas_bd (List.all_eq_true.1 hall p hm)
        omega
    intro t ht
    rcases List.mem_cons.1 ht with rfl | ht
    · exact hs
    · exact slotsOK_each ps hp r s.tt (by omega) h3 t ht
theorem loss_slok {ps : List Pas} {l : List Slt} (hp : properP ps = true) (h : lossOK ps l = true) : SlOK ps l := by
  unfold lossOK at h
  rw [Bool.and_eq_true, decide_eq_true_eq] at h
  have := slotsOK_each ps hp l 0 (by omega) h.2
  exact ⟨h.1.2, fun s hs => (this s hs).1, fun s hs => by have := (this s hs).2; omega⟩
theorem listOK_all {α : Type} (ok : α → Bool) (id : α → Int) : ∀ (l : List α) (p : Option α), listOK ok id p l = true → ∀ x ∈ l, ok x = true
  | [], _, _ => fun x hx => by cases hx
  | y :: r, p, h => by
    have h1 : ok y = true ∧ listOK ok id (some y) r = true := by
      cases p with
      | none => simp [listOK] at h; exact ⟨h.1, h.2⟩
      | some z => simp [listOK] at h; exact ⟨h.1.1, h.2⟩
    intro x hx
    rcases List.mem_cons.1 hx with rfl | hx
    · exact h1.1
    · exact listOK_all ok id r (some y) h1.2 x hx
theorem skewL_bd (l : List Stn) (hl : ∀ s ∈ l, 0 ≤ s.skew ∧ s.skew ≤ 30) : ∀ f : Int → Option Int, (∀ k, 0 ≤ (f k).getD 0 ∧ (f k).getD 0 ≤ 30) → ∀ k, 0 ≤ (skewL f l k).getD 0 ∧ (skewL f l k).getD 0 ≤ 30 := by
  induction l with
  | nil => intro f hf k; exact hf k
  | cons s r ih =>
    intro f hf k
    rw [skewL_cons]
    refine ih (fun x hx => hl x (List.mem_cons_of_mem _ hx)) _ (fun j => ?_) k
    have hs := hl s List.mem_cons_self
    by_cases h : j = s.id
    · rw [if_pos h]; exact hs
    · rw [if_neg h]; exact hf j
theorem stns_skok {l : List Stn} (h : stnsOK l = true) : SkOK (skewF l) := by
  unfold stnsOK at h
  rw [Bool.and_eq_true] at h
  refine ⟨skewL_bd l (fun s hs => ?_) _ (fun k => by simp)⟩
  have := listOK_all stnOK (·.id) l none h.2 s hs
  unfold stnOK at this
  simp only [Bool.and_eq_true] at this
  exact inB_iff.1 this.2
theorem optsR_each (ps : List Pas) : ∀ (os : List Opt) (seen : Int → Bool), optsR ps seen os = true → ∀ o ∈ os, 0 ≤ o.id ∧ o.id ≤ 63 ∧ properP ps = true ∧ lossOK ps o.l = true
  | [], _, _ => fun o ho => by cases ho
  | x :: r, seen, h => by
    rw [optsR_cons] at h
    simp only [Bool.and_eq_true] at h
    intro o ho
    rcases List.mem_cons.1 ho with rfl | ho
    · have := inB_iff.1 h.1.1.1
      exact ⟨this.1, this.2, h.1.2.1, h.1.2.2⟩
    · exact optsR_each ps r _ h.2 o ho
/-- What Valid says. -/
structure VOK (os : List Opt) (ps : List Pas) (sts : List Stn) : Prop where
  len : os.length ≤ 24
  proper : properP ps = true
  stns : stnsOK sts = true
  there : stnIn (skewF sts) ps = true
  each : ∀ o ∈ os, 0 ≤ o.id ∧ o.id ≤ 63 ∧ lossOK ps o.l = true
theorem valid_vok {os : List Opt} {ps : List Pas} {sts : List Stn} (h : validP os ps sts = true) : VOK os ps sts := by
  unfold validP at h
  simp only [Bool.and_eq_true, decide_eq_true_eq] at h
  obtain ⟨h1, h2, h3, h4, h5⟩ := h
  exact ⟨h1, h2, h3, h4, fun o ho => by have := optsR_each ps os _ h5 o ho; exact ⟨this.1, this.2.1, this.2.2.2⟩⟩
theorem VOK.sl {os : List Opt} {ps : List Pas} {sts : List Stn} (h : VOK os ps sts) {o : Opt} (ho : o ∈ os) : SlOK ps o.l := loss_slok h.proper (h.each o ho).2.2
theorem VOK.sk {os : List Opt} {ps : List Pas} {sts : List Stn} (h : VOK os ps sts) : SkOK (skewF sts) := stns_skok h.stns
/-- Fits, plainly. -/
def fitsV (o : Opt) (ps : List Pas) (sts : List Stn) (r : Rcp) (now : Int) : List Nat := if validP [o] ps sts then setL (fitsP ps (skewF sts) now o.id o.l r) else []
theorem ops_one {w : World} {g : Nat} {o : Opt} (h : Blk w g 32 (optCells o).toArray) (ho : RA sltCells 3 w w.heap.size o.a o.n o.c o.l) : Ops w w.heap.size (some ⟨g, 0, none⟩) 1 1 [o] := by
  refine ⟨⟨⟨by simp [optCells], fun _ => ⟨g, 0, rfl, h.lt, fun j u hu => ?_⟩⟩, rfl, Nat.le_refl _, by unfold maxLen; omega, by omega⟩, fun x hx => ?_⟩
  · rw [Nat.zero_add, h.cell]
    simpa [optCells] using hu
  · rw [List.mem_singleton.1 hx]; exact ho

set_option maxRecDepth 100000 in
set_option maxHeartbeats 4000000 in
theorem Fits_any (o : Opt) (ps : List Pas) (sts : List Stn) (r : Rcp) (now : Int) (PA SA : Option Addr) (pn pc sn sc : Nat) (w : World) (ho : RA sltCells 3 w w.heap.size o.a o.n o.c o.l) (hp : RA pasCells 6 w w.heap.size PA pn pc ps) (hs : RA stnCells 6 w w.heap.size SA sn sc sts) :
    Calls Try.prog 23 #[.agg (optCells o).toArray, .slice PA pn pc, .slice SA sn sc, .agg (rcpCells r).toArray, .int .i64 now] w fun e w' => ∃ v, e = .returned v ∧ OwnN w' w.heap.size v (fitsV o ps sts r now) ∧ Ext w w' := by
  have HV := Lib.hid (fun (g : Nat) (W : World) (hW : Ext w W) (h : Blk W g 32 (optCells o).toArray) => valid_any [o] ps sts (some ⟨g, 0, none⟩) PA SA 1 1 pn pc sn sc W (ops_one h (ra_ext ho hW)) (ra_ext hp hW) (ra_ext hs hW))
  have hsk : ∀ (W : World), Ext w W → Calls Try.prog 41 #[.slice SA sn sc] W fun e w' => ∃ g, e = .returned (.map (some g)) ∧ W.heap.size ≤ g ∧ MapI w' g (iM (skewF sts)) ∧ Ext W w' := fun W hW => skews_any sts SA sn sc W (ra_ext hs hW)
  have hft : validP [o] ps sts = true → ∀ (gm : Nat) (W : World), Ext w W → MapI W gm (iM (skewF sts)) → Calls Try.prog 50 #[.agg #[.slice PA pn pc, .map (some gm), .int .i64 now], .agg (optCells o).toArray, .agg (rcpCells r).toArray] W fun e w' => e = .returned (.int .u64 (fitsP ps (skewF sts) now o.id o.l r : Nat)) ∧ Ext W w' := fun hv gm W hW hm =>
    fits_any o ps (skewF sts) now r PA pn pc gm W (ra_ext ho hW) (ra_ext hp hW) hm ((valid_vok hv).sl (List.mem_singleton.2 rfl)) (valid_vok hv).sk
  have hlt : validP [o] ps sts = true → fitsP ps (skewF sts) now o.id o.l r < 64 := fun hv => fitsP_lt ((valid_vok hv).sl (List.mem_singleton.2 rfl))
  unfold fitsV
  generalize validP [o] ps sts = q at HV hft hlt ⊢
  generalize skewF sts = f at hsk hft hlt ⊢
  generalize fitsP ps f now o.id o.l r = S at hft hlt ⊢
  obtain ⟨fin, hfin⟩ : ∃ x, x = (if q = true then setL S else []) := ⟨_, rfl⟩
  rw [← hfin]
  have HFIN := Lib.hid hfin
  have HSK := Lib.hid hsk
  have HFT := Lib.hid hft
  have HLT := Lib.hid hlt
  clear hfin hsk hft hlt ho hp hs
  obtain ⟨id, i1, i2, i3, i4, i5, i6, i7, a, n, c, l⟩ := o
  obtain ⟨rsn, rim, rat⟩ := r
  show Calls Try.prog 23 #[.agg #[.int .i64 id, .int .i64 i1, .int .i64 i2, .int .i64 i3, .int .i64 i4, .int .i64 i5, .int .i64 i6, .int .i64 i7, .slice a n c], .slice PA pn pc, .slice SA sn sc, .agg #[.int .i64 rsn, .int .i64 rim, .int .i64 rat], .int .i64 now] w _
  go_enter Try.func23, Try.ntmps23
  go_upto_region 1 with (fail)
  obtain ⟨W1, hW1⟩ : ∃ W, W = (w.alloc (.cells #[.int .i64 id, .int .i64 i1, .int .i64 i2, .int .i64 i3, .int .i64 i4, .int .i64 i5, .int .i64 i6, .int .i64 i7, .slice a n c] 32)).alloc (.cells #[.int .i64 rsn, .int .i64 rim, .int .i64 rat] 63) := ⟨_, rfl⟩
  rw [← hW1]
  obtain ⟨J0, J1, hx1⟩ := al2 w W1 _ _ _ _ hW1
  clear hW1
  generalize w.heap.size + 1 = g4 at J1 ⊢
  obtain ⟨g3, hg3⟩ : ∃ g, g = w.heap.size := ⟨_, rfl⟩
  have hg3w : w.heap.size ≤ g3 := by omega
  rw [← hg3] at J0 ⊢
  clear hg3
  have d0 : W1.cell? ⟨g3, 0, none⟩ = some (.int .i64 id) := J0.cell 0
  have d1 : W1.cell? ⟨g3, 1, none⟩ = some (.int .i64 i1) := J0.cell 1
  have d2 : W1.cell? ⟨g3, 2, none⟩ = some (.int .i64 i2) := J0.cell 2
  have d3 : W1.cell? ⟨g3, 3, none⟩ = some (.int .i64 i3) := J0.cell 3
  have d4 : W1.cell? ⟨g3, 4, none⟩ = some (.int .i64 i4) := J0.cell 4
  have d5 : W1.cell? ⟨g3, 5, none⟩ = some (.int .i64 i5) := J0.cell 5
  have d6 : W1.cell? ⟨g3, 6, none⟩ = some (.int .i64 i6) := J0.cell 6
  have d7 : W1.cell? ⟨g3, 7, none⟩ = some (.int .i64 i7) := J0.cell 7
  have d8 : W1.cell? ⟨g3, 8, none⟩ = some (.slice a n c) := J0.cell 8
  have hxa : Ext W1 (W1.alloc (.cells #[.int .i64 id, .int .i64 i1, .int .i64 i2, .int .i64 i3, .int .i64 i4, .int .i64 i5, .int .i64 i6, .int .i64 i7, .slice a n c] 32)) := bl_alloc (Below.refl _ _) _
  have HC := Lib.hid (HV.out W1.heap.size _ (Ext.trans hx1 hxa) (Blk.new W1 32 _))
  have HJ0 := Lib.hid J0
  have HJ1 := Lib.hid J1
  clear HV J0 J1
  go_wp2_with fail
  refine HC.out.mono ?_
  rintro e W2 ⟨rfl, hy⟩
  have hy2 : Ext W1 W2 := Ext.trans hxa hy
  have hxw := Ext.trans hx1 hy2
  have J0 := HJ0.out.ext hy2
  have J1 := HJ1.out.ext hy2
  clear HC hy hxa d0 d1 d2 d3 d4 d5 d6 d7 d8 HJ0 HJ1
  cases q
  · have hf : fin = [] := HFIN.out
    subst hf
    go_wp2_with fail
    go_ret
    exact ⟨_, rfl, World.ownsRow_nil _ _ _ _, hxw⟩
  · have hf : fin = setL S := HFIN.out
    have hS := HLT.out rfl
    have hfit := HFT.out rfl
    have HFI := Lib.hid hfit
    have HFN := Lib.hid hf
    have hli := fun W => list_any S hS W
    have HLI := Lib.hid hli
    have d0 : W2.cell? ⟨g3, 0, none⟩ = some (.int .i64 id) := J0.cell 0
    have d1 : W2.cell? ⟨g3, 1, none⟩ = some (.int .i64 i1) := J0.cell 1
    have d2 : W2.cell? ⟨g3, 2, none⟩ = some (.int .i64 i2) := J0.cell 2
    have d3 : W2.cell? ⟨g3, 3, none⟩ = some (.int .i64 i3) := J0.cell 3
    have d4 : W2.cell? ⟨g3, 4, none⟩ = some (.int .i64 i4) := J0.cell 4
    have d5 : W2.cell? ⟨g3, 5, none⟩ = some (.int .i64 i5) := J0.cell 5
    have d6 : W2.cell? ⟨g3, 6, none⟩ = some (.int .i64 i6) := J0.cell 6
    have d7 : W2.cell? ⟨g3, 7, none⟩ = some (.int .i64 i7) := J0.cell 7
    have d8 : W2.cell? ⟨g3, 8, none⟩ = some (.slice a n c) := J0.cell 8
    have r0 : W2.cell? ⟨g4, 0, none⟩ = some (.int .i64 rsn) := J1.cell 0
    have r1 : W2.cell? ⟨g4, 1, none⟩ = some (.int .i64 rim) := J1.cell 1
    have r2 : W2.cell? ⟨g4, 2, none⟩ = some (.int .i64 rat) := J1.cell 2
    clear hfit hf hli HFIN HFT HLT J0 J1
    go_wp2_with fail
    refine wp_region_obl 9 (fun ix vals v w1 => match ix with | 0 => v = .slice PA pn pc | 1 => v = .slice SA sn sc | 2 => ∃ g, v = .map (some g) ∧ MapI w1 g (iM f) | 3 => v = .int .i64 now | 4 => ∃ g, v = .agg #[.slice PA pn pc, .map (some g), .int .i64 now] ∧ MapI w1 g (iM f) | 5 => v = .agg #[.int .i64 id, .int .i64 i1, .int .i64 i2, .int .i64 i3, .int .i64 i4, .int .i64 i5, .int .i64 i6, .int .i64 i7, .slice a n c] | 6 => v = .agg #[.int .i64 rsn, .int .i64 rim, .int .i64 rat] | 7 => v = .int .u64 S | _ => OwnN w1 W2.heap.size v (setL S)) (by kernel_rfl) (by kernel_rfl) ?_ ?_ ?_ ?_
    · intro ix vals v w1 w2 hi hr hx
      match ix, hr with
      | 0, hr => exact hr
      | 1, hr => exact hr
      | 2, hr => obtain ⟨g, h1, h2⟩ := hr; exact ⟨g, h1, h2.ext hx⟩
      | 3, hr => exact hr
      | 4, hr => obtain ⟨g, h1, h2⟩ := hr; exact ⟨g, h1, h2.ext hx⟩
      | 5, hr => exact hr
      | 6, hr => exact hr
      | 7, hr => exact hr
      | (kx + 8), hr => exact hr.ext hx
    · intro ix vals vals_ v w1 hi hv hr
      exact hr
    · refine obls_ofT [some 17, some 18, some 19, some 20, some 21, some 22, some 23, some 24, some 25, some 10] [(1, .slice PA pn pc), (2, .slice SA sn sc), (4, .int .i64 now), (5, .pointer (some ⟨g3, 0, none⟩)), (8, .pointer (some ⟨g4, 0, none⟩))] 26 (by kernel_rfl) (by kernel_rfl) ⟨by kernel_rfl, by kernel_rfl, by kernel_rfl, by kernel_rfl, by kernel_rfl, trivial⟩ ?_
      refine ⟨?_, ?_, ?_, ?_, ?_, ?_, ?_, ?_, ?_, trivial⟩
      · intro vals w1 hx hd
        refine .run [(1, .slice PA pn pc)] { dst := some 0, op := Go.Op.move (Go.Operand.const (.slice PA pn pc)), type := 37, pos := "", after := #[], guard := none } 17 ⟨.out (by kernel_rfl) (by kernel_rfl), trivial⟩ (by kernel_rfl) (by kernel_rfl) (by kernel_rfl) rfl rfl rfl ?_
        clear hd
        go_wp2
        exact ⟨rfl, Ext.refl _, rfl⟩
      · intro vals w1 hx hd
        refine .run [(2, .slice SA sn sc)] { dst := some 0, op := Go.Op.move (Go.Operand.const (.slice SA sn sc)), type := 38, pos := "", after := #[], guard := none } 18 ⟨.out (by kernel_rfl) (by kernel_rfl), trivial⟩ (by kernel_rfl) (by kernel_rfl) (by kernel_rfl) rfl rfl rfl ?_
        clear hd
        go_wp2
        exact ⟨rfl, Ext.refl _, rfl⟩
      · intro vals w1 hx hd
        have e1 : vals 1 = .slice SA sn sc := hd 1 (by decide)
        refine .run [(18, .slice SA sn sc)] { dst := some 0, op := Go.Op.call { callee := Go.Callee.value (Go.Operand.func 41), args := #[(Go.Operand.const (.slice SA sn sc))], argTypes := #[38] }, type := 95, pos := "", after := #[], guard := none } 19 ⟨.inn 1 (by kernel_rfl) e1, trivial⟩ (by kernel_rfl) (by kernel_rfl) (by kernel_rfl) rfl rfl rfl ?_
        clear hd e1
        have hxx := Ext.trans hxw hx.undrew
        go_wp2_with fail
        refine (HSK.out _ hxx).mono ?_
        rintro e w2 ⟨g, rfl, hg, hmm, hb2⟩
        go_wp2
        exact ⟨rfl, hb2, _, rfl, hmm⟩
      · intro vals w1 hx hd
        refine .run [(4, .int .i64 now)] { dst := some 0, op := Go.Op.move (Go.Operand.const (.int .i64 now)), type := 3, pos := "", after := #[], guard := none } 20 ⟨.out (by kernel_rfl) (by kernel_rfl), trivial⟩ (by kernel_rfl) (by kernel_rfl) (by kernel_rfl) rfl rfl rfl ?_
        clear hd
        go_wp2
        exact ⟨rfl, Ext.refl _, rfl⟩
      · intro vals w1 hx hd
        have e0 : vals 0 = .slice PA pn pc := hd 0 (by decide)
        have r2 : (fun v w1 => ∃ g, v = .map (some g) ∧ MapI w1 g (iM f)) (vals 2) w1 := hd 2 (by decide)
        dsimp only at r2
        obtain ⟨g, e_2, hm2⟩ := r2
        have e3 : vals 3 = .int .i64 now := hd 3 (by decide)
        refine .run [(17, .slice PA pn pc), (19, .map (some g)), (20, .int .i64 now)] { dst := some 0, op := Go.Op.build 104 #[(0, (Go.Operand.const (.slice PA pn pc))), (1, (Go.Operand.const (.map (some g)))), (2, (Go.Operand.const (.int .i64 now)))], type := 104, pos := "", after := #[], guard := none } 21 ⟨.inn 0 (by kernel_rfl) e0, .inn 2 (by kernel_rfl) e_2, .inn 3 (by kernel_rfl) e3, trivial⟩ (by kernel_rfl) (by kernel_rfl) (by kernel_rfl) rfl rfl rfl ?_
        clear hd e0 e_2 e3
        go_wp2
        exact ⟨rfl, Ext.refl _, _, rfl, hm2⟩
      · intro vals w1 hx hd
        refine .run [(5, .pointer (some ⟨g3, 0, none⟩))] { dst := some 0, op := Go.Op.load 32 (Go.Operand.const (.pointer (some ⟨g3, 0, none⟩))), type := 32, pos := "", after := #[], guard := none } 22 ⟨.out (by kernel_rfl) (by kernel_rfl), trivial⟩ (by kernel_rfl) (by kernel_rfl) (by kernel_rfl) rfl rfl rfl ?_
        clear hd
        have d0 := ext_cell hx d0; have d1 := ext_cell hx d1; have d2 := ext_cell hx d2; have d3 := ext_cell hx d3; have d4 := ext_cell hx d4; have d5 := ext_cell hx d5; have d6 := ext_cell hx d6; have d7 := ext_cell hx d7; have d8 := ext_cell hx d8
        go_wp2
        exact ⟨rfl, Ext.refl _, rfl⟩
      · intro vals w1 hx hd
        refine .run [(8, .pointer (some ⟨g4, 0, none⟩))] { dst := some 0, op := Go.Op.load 63 (Go.Operand.const (.pointer (some ⟨g4, 0, none⟩))), type := 63, pos := "", after := #[], guard := none } 23 ⟨.out (by kernel_rfl) (by kernel_rfl), trivial⟩ (by kernel_rfl) (by kernel_rfl) (by kernel_rfl) rfl rfl rfl ?_
        clear hd
        have r0 := ext_cell hx r0; have r1 := ext_cell hx r1; have r2 := ext_cell hx r2
        go_wp2
        exact ⟨rfl, Ext.refl _, rfl⟩
      · intro vals w1 hx hd
        have r4 : (fun v w1 => ∃ g, v = .agg #[.slice PA pn pc, .map (some g), .int .i64 now] ∧ MapI w1 g (iM f)) (vals 4) w1 := hd 4 (by decide)
        dsimp only at r4
        obtain ⟨g, e_4, hm4⟩ := r4
        have e5 : vals 5 = .agg #[.int .i64 id, .int .i64 i1, .int .i64 i2, .int .i64 i3, .int .i64 i4, .int .i64 i5, .int .i64 i6, .int .i64 i7, .slice a n c] := hd 5 (by decide)
        have e6 : vals 6 = .agg #[.int .i64 rsn, .int .i64 rim, .int .i64 rat] := hd 6 (by decide)
        refine .run [(21, .agg #[.slice PA pn pc, .map (some g), .int .i64 now]), (22, .agg #[.int .i64 id, .int .i64 i1, .int .i64 i2, .int .i64 i3, .int .i64 i4, .int .i64 i5, .int .i64 i6, .int .i64 i7, .slice a n c]), (23, .agg #[.int .i64 rsn, .int .i64 rim, .int .i64 rat])] { dst := some 0, op := Go.Op.call { callee := Go.Callee.value (Go.Operand.func 50), args := #[(Go.Operand.const (.agg #[.slice PA pn pc, .map (some g), .int .i64 now])), (Go.Operand.const (.agg #[.int .i64 id, .int .i64 i1, .int .i64 i2, .int .i64 i3, .int .i64 i4, .int .i64 i5, .int .i64 i6, .int .i64 i7, .slice a n c])), (Go.Operand.const (.agg #[.int .i64 rsn, .int .i64 rim, .int .i64 rat]))], argTypes := #[104, 32, 63] }, type := 108, pos := "", after := #[], guard := none } 24 ⟨.inn 4 (by kernel_rfl) e_4, .inn 5 (by kernel_rfl) e5, .inn 6 (by kernel_rfl) e6, trivial⟩ (by kernel_rfl) (by kernel_rfl) (by kernel_rfl) rfl rfl rfl ?_
        clear hd e_4 e5 e6
        have hxx := Ext.trans hxw hx.undrew
        go_wp2_with fail
        refine (HFI.out _ _ hxx hm4).mono ?_
        rintro e w2 ⟨rfl, hb2⟩
        go_wp2
        exact ⟨rfl, hb2, rfl⟩
      · intro vals w1 hx hd
        have e7 : vals 7 = .int .u64 S := hd 7 (by decide)
        refine .run [(24, .int .u64 S)] { dst := some 0, op := Go.Op.call { callee := Go.Callee.value (Go.Operand.func 58), args := #[(Go.Operand.const (.int .u64 S))], argTypes := #[108] }, type := 25, pos := "", after := #[], guard := none } 25 ⟨.inn 7 (by kernel_rfl) e7, trivial⟩ (by kernel_rfl) (by kernel_rfl) (by kernel_rfl) rfl rfl rfl ?_
        clear hd e7
        have hz9 := Below.size hx.undrew
        go_wp2_with fail
        refine (HLI.out _).mono ?_
        rintro e w2 ⟨v2, rfl, hown, hb2⟩
        have hown := Lib.hid (own_base hown hz9)
        go_wp2
        exact ⟨rfl, hb2, hown.out⟩
    intro vals W5 hz hf
    have v8 : OwnN W5 W2.heap.size (vals 8) (setL S) := hf 8 (by omega)
    have hz := hz.undrew
    clear hf
    obtain ⟨A3, c3, hv3, _, _⟩ := own_slice v8
    have hxf := Ext.trans hxw hz
    have HV8 := Lib.hid (own_base v8 (Below.size hxw))
    clear v8
    refine tail1 9 _ (by kernel_rfl) (by kernel_rfl) rfl ?_
    simp only [Lf, dstAt, Act.put, List.getElem?_toArray, List.getElem?_cons_zero, List.getElem?_cons_succ, Option.bind_some, List.setIfInBounds_toArray, List.set_cons_zero, List.set_cons_succ]
    rw [hv3] at HV8 ⊢
    clear hv3
    go_wp2
    go_ret
    rw [HFN.out]
    exact ⟨_, rfl, HV8.out, hxf⟩
end Go.Proofs.Ytmlabgmigakcbaa
