/- What left needs: the branches of a tree, what was met of it, the boxes of its functions. -/
import Derived.Test.YtikphbgfcpamgaaP20
import Derived.Laws.EntriesVeiled
namespace Go.Proofs.Ytikphbgfcpamgaa
open Go.RowKit

def BegRet (w : World) (e : Ending) (w' : World) : Prop := ∃ gg gk, e = .returned (.pointer (some ⟨gg, 0, none⟩)) ∧ w.heap.size ≤ gg ∧ w.heap.size ≤ gk ∧ (∀ base, Gr w' gg gk base 0 (.slice none 0 0) []) ∧ Ext w w'
theorem begin_any (w : World) : Calls Try.prog 37 #[] w (BegRet w) := by
  have hmm : ∀ w : World, (Instr.makeMap 86 none).run Try.prog w = .ok (.map (some w.heap.size)) (w.alloc (.map #[] 0)) := fun w => by simp [Instr.makeMap]
  go_enter Try.func37, Try.ntmps37
  go_wp2
  have hm := MapK.new (cells := brnCells) w
  have hx1 : Ext w (w.alloc (.map #[] 0)) := bl_alloc (Below.refl _ _) _
  have J := Blk.new_at (g := w.heap.size + 1) (w.alloc (.map #[] 0)) 88 #[.int .i64 0, .slice none 0 0, .map (some w.heap.size)] (by simp)
  have hx2 := bl_alloc (Below.refl (w.alloc (.map #[] 0)).heap.size (w.alloc (.map #[] 0))) (.cells #[.int .i64 0, .slice none 0 0, .map (some w.heap.size)] 88)
  go_ret
  exact ⟨_, _, rfl, by omega, Nat.le_refl _, fun base => ⟨J, World.ownsRow_nil _ _ _ _, (hm.ext hx2).congr fun _ => rfl, List.nodup_nil⟩, Ext.trans hx1 hx2⟩
def buildP (l : List Op) : List Brn × Int × Int := if carP l && decide ((treeP l).1.length ≤ 1500) then ((treeP l).1, (treeP l).2, 0) else ([], 0, 200)
def BuildRet (X : List Brn × Int × Int) (w : World) (e : Ending) (w' : World) : Prop := ∃ v, e = .returned (.tuple #[.agg #[.int .i64 X.2.1, v], .int .i64 X.2.2]) ∧ OwnB w' w.heap.size v X.1 ∧ Ext w w'
theorem tre_size : (Try.prog.info? 33).map (·.size) = some 2 := by kernel_rfl
theorem FT.undrewF {N0 : Nat} {S : Nat → Prop} {F : World → Prop} (hF : ∀ w : World, F w → F w.drew) {w w' : World} (h : FT N0 S F w.drew w') : FT N0 S F w w' :=
  ⟨h.os, h.tape, h.output, h.size, h.oth, fun x => h.fin (hF _ x), by rcases h.orr with e | e; exact .inl e.undrew; exact .inr e⟩
def FinG (B gl gmb gfb gpb gg gk gm : Nat) (LA : Option Addr) (ln lc : Nat) (ps : List Plc) (st : Int) (v : Value) (T2 : List Brn) (N0 : Nat) (W : World) : Prop := ∃ v' M', GSt W B gl gmb gfb gpb gg gk gm LA ln lc ps st v' T2 M' ∧ ∀ g, v'.ownBlock = some g → v.ownBlock = some g ∨ N0 ≤ g
theorem finG_drew {B gl gmb gfb gpb gg gk gm : Nat} {LA : Option Addr} {ln lc : Nat} {ps : List Plc} {st : Int} {v : Value} {T2 : List Brn} {N0 : Nat} (W : World) (h : FinG B gl gmb gfb gpb gg gk gm LA ln lc ps st v T2 N0 W) : FinG B gl gmb gfb gpb gg gk gm LA ln lc ps st v T2 N0 W.drew := by
  obtain ⟨v', M', g, o⟩ := h
  exact ⟨v', M', ⟨⟨g.env.jl, g.env.jm, g.env.jf, g.env.jp, g.env.rl.keep (fun _ _ => rfl), g.env.hB⟩, ⟨g.gr.blk, g.gr.row, g.gr.map, g.gr.nd⟩, g.map, g.met, g.frm⟩, o⟩
def SG (gg gk gm : Nat) (v : Value) (i : Nat) : Prop := i = gg ∨ i = gk ∨ i = gm ∨ v.ownBlock = some i
theorem grow_ft {B gl gmb gfb gpb gg gk gm : Nat} {LA : Option Addr} {ln lc : Nat} {ps : List Plc} {st : Int} {v : Value} {T : List Brn} {M : Stt → Option Value} (h1 : B ≤ gg) (h2 : B ≤ gk) (h3 : B ≤ gm) (hkm : gk ≠ gm) (hl : ln ≤ 48) (h8 : ∀ p ∈ ps, p.opt < 8) {W0 w1 : World} (h : GSt W0 B gl gmb gfb gpb gg gk gm LA ln lc ps st v T M)
    (hx : FT W0.heap.size (SG gg gk gm v) (FinG B gl gmb gfb gpb gg gk gm LA ln lc ps st v (bld T (dt ps 0)).1 W0.heap.size) W0 w1) :
    Calls Try.prog 38 #[.agg #[.int .i64 0, .int .i64 0], .pointer (some ⟨gl, 0, none⟩), .pointer (some ⟨gmb, 0, none⟩), .pointer (some ⟨gfb, 0, none⟩), .pointer (some ⟨gpb, 0, none⟩)] w1 fun e w' => e = .returned (.int .i64 (bld T (dt ps 0)).2) ∧ FT W0.heap.size (SG gg gk gm v) (FinG B gl gmb gfb gpb gg gk gm LA ln lc ps st v (bld T (dt ps 0)).1 W0.heap.size) w1 w' ∧ FinG B gl gmb gfb gpb gg gk gm LA ln lc ps st v (bld T (dt ps 0)).1 W0.heap.size w' := by
  have key : ∀ (v1 : Value) (T1 : List Brn) (M1 : Stt → Option Value), GSt w1 B gl gmb gfb gpb gg gk gm LA ln lc ps st v1 T1 M1 → bld T1 (dt ps 0) = bld T (dt ps 0) → (∀ g, v1.ownBlock = some g → v.ownBlock = some g ∨ W0.heap.size ≤ g) →
      Calls Try.prog 38 #[.agg #[.int .i64 0, .int .i64 0], .pointer (some ⟨gl, 0, none⟩), .pointer (some ⟨gmb, 0, none⟩), .pointer (some ⟨gfb, 0, none⟩), .pointer (some ⟨gpb, 0, none⟩)] w1 fun e w' => e = .returned (.int .i64 (bld T (dt ps 0)).2) ∧ FT W0.heap.size (SG gg gk gm v) (FinG B gl gmb gfb gpb gg gk gm LA ln lc ps st v (bld T (dt ps 0)).1 W0.heap.size) w1 w' ∧ FinG B gl gmb gfb gpb gg gk gm LA ln lc ps st v (bld T (dt ps 0)).1 W0.heap.size w' := by
    intro v1 T1 M1 g1 he o1
    have hc := grow_any h1 h2 h3 hkm hl h8 (ln + 1) 0 0 v1 T1 M1 w1 g1 (Nat.zero_le _) (by omega) (by omega)
    rw [List.drop_zero, he] at hc
    refine Calls.mono hc ?_
    rintro e w' ⟨v', M', rfl, hg, hw⟩
    have hf : FinG B gl gmb gfb gpb gg gk gm LA ln lc ps st v (bld T (dt ps 0)).1 W0.heap.size w' := ⟨v', M', hg, fun g hgv => by
      rcases hw.own g hgv with e2 | e2
      · exact o1 g e2
      · exact .inr (Nat.le_trans hx.size e2)⟩
    refine ⟨rfl, ⟨hw.os, hw.tape, hw.output, hw.size, fun i hi hs => hw.block i (Nat.lt_of_lt_of_le hi hx.size) (fun e => hs (.inl e)) (fun e => hs (.inr (.inl e))) (fun e => hs (.inr (.inr (.inl e)))) (fun e => ?_), fun _ => hf, .inr hf⟩, hf⟩
    rcases o1 i e with e2 | e2
    · exact hs (.inr (.inr (.inr e2)))
    · omega
  rcases hx.orr with e | ⟨v1, M1, g1, o1⟩
  · exact key v T M (h.ext e) rfl fun _ e => .inl e
  · refine key v1 _ M1 g1 ?_ o1
    exact bld_met (bld_nodup _ _ h.gr.nd) (bld_rep _ _)
set_option maxRecDepth 100000 in
set_option maxHeartbeats 2000000 in
theorem build_any (os : List Opt) (A : Option Addr) (n c : Nat) (w : World) (hr : Ops w w.heap.size A n c os) :
    Calls Try.prog 13 #[.slice A n c] w (BuildRet (buildP (opsP os)) w) := by
  have HPL := Lib.hid (fun (W : World) (hx : Ext w W) => places_any os A n c W (hr.ext hx))
  obtain ⟨l, hl⟩ : ∃ l, l = opsP os := ⟨_, rfl⟩
  rw [← hl] at HPL ⊢
  clear hl hr
  obtain ⟨Y, hY⟩ : ∃ Y, Y = buildP l := ⟨_, rfl⟩
  rw [← hY]
  have HY := Lib.hid hY
  have hs48 : carP l = true → (srt l).length ≤ 48 ∧ ∀ p ∈ srt l, p.opt < 8 := fun h => by
    have h1 := (carP_iff.1 h).1
    have h2 := srt_len h1
    exact ⟨by omega, fun p hp => (plc_ok h1 (mem_srt.1 hp)).2.2.2.2.2⟩
  have HS := Lib.hid hs48
  clear hs48 hY
  go_enter Try.func13, Try.ntmps13
  go_wp2_with fail
  have JT := Blk.new w 33 #[.int .i64 0, .slice none 0 0]
  have hx0 : Ext w (w.alloc (.cells #[.int .i64 0, .slice none 0 0] 33)) := (by repeat (first | exact Below.refl _ _ | assumption | refine Below.drew ?_ | refine below_drewN ?_ _ | refine bl_alloc ?_ _ | refine Below.setCell ?_ (by first | (simp; done) | omega | (simp; omega)) _ | refine bl_then ?_ (by assumption)))
  obtain ⟨gt, hgt⟩ : ∃ g, g = w.heap.size := ⟨_, rfl⟩
  rw [← hgt] at JT ⊢
  have HGT := Lib.hid hgt
  clear hgt
  generalize w.alloc (.cells #[.int .i64 0, .slice none 0 0] 33) = W0 at JT hx0 ⊢
  have hc := HPL.out W0 hx0
  clear HPL
  refine hc.mono ?_
  clear hc
  rintro e W1 ⟨v, rfl, ho, hy⟩
  obtain ⟨LA, lc, hv, _, _⟩ := own_slice ho
  subst hv
  have hx1 := Ext.trans hx0 hy
  have JT := JT.ext hy
  have hgw : w.heap.size ≤ gt := by have := HGT.out; omega
  have hl100 : (srtC l).length ≤ 100000 := by
    unfold srtC
    cases hcb : carP l
    · simp
    · have := (HS.out hcb).1
      simpa using (by omega : (srt l).length ≤ 100000)
  have HRA := Lib.hid (RA.of_own ho rfl hl100)
  clear ho hy hl100 hx0
  cases hcb : carP l
  · have HY2 : Hid (Y = ([], 0, 200)) := Lib.hid (by rw [HY.out, buildP, hcb]; rfl)
    go_upto_region 2 with (fail)
    have hx2 : Ext w (W1.alloc (.cells #[.slice LA (srtC l).length lc] 73)) := bl_alloc hx1 _
    have JT2 := JT.alloc (.cells #[.slice LA (srtC l).length lc] 73)
    generalize W1.alloc (.cells #[.slice LA (srtC l).length lc] 73) = W2 at JT2 hx2 ⊢
    have t0 : W2.cell? ⟨gt, 0, none⟩ = some (.int .i64 0) := JT2.cell 0
    have t1 : W2.cell? ⟨gt, 1, none⟩ = some (.slice none 0 0) := JT2.cell 1
    have f0 := JT2.frozen 0
    have f1 := JT2.frozen 1
    clear JT hx1
    go_wp2
    refine bodyPost_ret (results_rt Try.results13 _ _ gt _ (.int .i64 200) rfl rfl (JT2.set2 (.int .i64 0) (.slice none 0 0)) _ Try.underlying33 rfl tre_size) rfl ?_
    refine ⟨.slice none 0 0, by rw [HY2.out], ?_, (hx2.setCell hgw _).setCell hgw _⟩
    rw [HY2.out]
    exact World.ownsRow_nil _ _ _ _
  · have hsc : srtC l = srt l := by unfold srtC; rw [hcb]; rfl
    rw [hsc] at HRA ⊢
    obtain ⟨hl48, h8⟩ := HS.out hcb
    have HYT := Lib.hid (show Y = if decide ((bld [] (dt (srt l) 0)).1.length ≤ 1500) then ((bld [] (dt (srt l) 0)).1, (bld [] (dt (srt l) 0)).2, 0) else ([], 0, 200) by rw [HY.out, buildP, hcb]; rfl)
    have H8 := Lib.hid h8
    clear hsc HS HY h8
    generalize srt l = ps at HRA HYT H8 hl48 ⊢
    obtain ⟨ln, hln⟩ : ∃ n, n = ps.length := ⟨_, rfl⟩
    rw [← hln] at HRA hl48 ⊢
    have HLN := Lib.hid hln
    clear hln
    go_upto_region 4 with (fail)
    have JL := Blk.new W1 73 #[.slice LA ln lc]
    have hy2 : Ext W1 (W1.alloc (.cells #[.slice LA ln lc] 73)) := bl_alloc (Below.refl _ _) _
    generalize W1.heap.size = gl at JL ⊢
    generalize W1.alloc (.cells #[.slice LA ln lc] 73) = W2 at JL hy2 ⊢
    have hx2 := Ext.trans hx1 hy2
    have JT2 := JT.ext hy2
    have HRA2 := Lib.hid (ra_ext HRA.out hy2)
    clear JT hx1 hy2 HRA
    go_wp2_with fail
    refine (begin_any W2).mono ?_
    rintro e W3 ⟨gg, gk, rfl, hgg, hgk, hgr, hy3⟩
    obtain ⟨B, hB⟩ : ∃ B, B = W2.heap.size := ⟨_, rfl⟩
    rw [← hB] at hgg hgk HRA2
    have hx3 := Ext.trans hx2 hy3
    have hBw : w.heap.size ≤ B := by rw [hB]; exact Below.size hx2
    have hB3 : B ≤ W3.heap.size := by rw [hB]; exact Below.size hy3
    have HRA3 : Hid (RA plcCells 4 W3 B LA ln lc ps) := Lib.hid (HRA2.out.keep fun p hp => hy3.cell (by omega))
    have HGR := Lib.hid (hgr B)
    have JT3 := JT2.ext hy3
    have JL3 := JL.ext hy3
    have hmm : ∀ w : World, (Instr.makeMap 78 none).run Try.prog w = .ok (.map (some w.heap.size)) (w.alloc (.map #[] 0)) := fun w => by simp [Instr.makeMap]
    clear hgr hy3 JT2 JL hx2 HRA2 hB
    go_upto_region 7 with (fail)
    clear hmm
    obtain ⟨Wa, hWa⟩ : ∃ W, W = W3.alloc (.cells #[.pointer (some ⟨gg, 0, none⟩)] 76) := ⟨_, rfl⟩
    obtain ⟨Wb, hWb⟩ : ∃ W, W = Wa.alloc (.map #[] 0) := ⟨_, rfl⟩
    obtain ⟨gpb, hgpb⟩ : ∃ g, g = W3.heap.size := ⟨_, rfl⟩
    obtain ⟨gm, hgm⟩ : ∃ g, g = gpb + 1 := ⟨_, rfl⟩
    obtain ⟨gmb, hgmb⟩ : ∃ g, g = gm + 1 := ⟨_, rfl⟩
    obtain ⟨gfb, hgfb⟩ : ∃ g, g = gmb + 1 := ⟨_, rfl⟩
    obtain ⟨Wc, hWc⟩ : ∃ W, W = Wb.alloc (.cells #[.map (some gm)] 78) := ⟨_, rfl⟩
    obtain ⟨Wd, hWd⟩ : ∃ W, W = Wc.alloc (.cells #[.nilFunc] 79) := ⟨_, rfl⟩
    have ea : Wa.heap.size = gm := by rw [hWa, hgm, hgpb]; simp
    have eb : Wb.heap.size = gmb := by rw [hWb, hgmb, ← ea]; simp
    have ec : Wc.heap.size = gfb := by rw [hWc, hgfb, ← eb]; simp
    rw [← hWa, ← hWb, ← hgpb, ← hgm, ← hgmb, ← hgfb, ← hWc, ← hWd]
    have xa : Ext W3 Wa := by rw [hWa]; exact bl_alloc (Below.refl _ _) _
    have xb : Ext Wa Wb := by rw [hWb]; exact bl_alloc (Below.refl _ _) _
    have xc : Ext Wb Wc := by rw [hWc]; exact bl_alloc (Below.refl _ _) _
    have xd : Ext Wc Wd := by rw [hWd]; exact bl_alloc (Below.refl _ _) _
    have JP : Blk Wd gpb 76 #[.pointer (some ⟨gg, 0, none⟩)] := (((show Blk Wa gpb 76 #[.pointer (some ⟨gg, 0, none⟩)] by rw [hWa]; exact Blk.new_at _ _ _ hgpb.symm).ext xb).ext xc).ext xd
    have MM : MapK sttCells Wd gm (fun _ => none) := ((show MapK sttCells Wb gm (fun _ => none) by rw [hWb, ← ea]; exact MapK.new Wa).ext xc).ext xd
    have JM : Blk Wd gmb 78 #[.map (some gm)] := (show Blk Wc gmb 78 #[.map (some gm)] by rw [hWc]; exact Blk.new_at _ _ _ eb).ext xd
    have JF : Blk Wd gfb 79 #[.nilFunc] := by rw [hWd]; exact Blk.new_at _ _ _ ec
    have x3d : Ext W3 Wd := Ext.trans (Ext.trans (Ext.trans xa xb) xc) xd
    have JT4 := JT3.ext x3d
    have JL4 := JL3.ext x3d
    have hgr4 := HGR.out.ext x3d
    have hx4 := Ext.trans hx3 x3d
    have hra4 : RA plcCells 4 Wd B LA ln lc ps := HRA3.out.keep fun p hp => x3d.cell (by omega)
    have hlts := And.intro JL3.lt (And.intro hgr4.blk.lt hgr4.map.lt)
    have hg3 : W3.heap.size = gpb := hgpb.symm
    have hggL := HGR.out.blk.lt
    have hgkL := HGR.out.map.lt
    have hgtL := JT3.lt
    have hglL := JL3.lt
    have j0 : Wd.cell? ⟨gfb, 0, none⟩ = some .nilFunc := JF.cell 0
    have jf := JF.frozen 0
    have hBd : B ≤ Wd.heap.size := Nat.le_trans hB3 (Below.size x3d)
    clear hWa hWb hWc hWd xa xb xc xd ea eb ec HRA3 HGR JT3 JL3 hx3
    obtain ⟨W7, hW7⟩ : ∃ W, W = Wd.setCell ⟨gfb, 0, none⟩ (.func (.func 38) #[] #[.pointer (some ⟨gl, 0, none⟩), .pointer (some ⟨gmb, 0, none⟩), .pointer (some ⟨gfb, 0, none⟩), .pointer (some ⟨gpb, 0, none⟩)]) := ⟨_, rfl⟩
    have JF7 : Blk W7 gfb 79 #[.func (.func 38) #[] #[.pointer (some ⟨gl, 0, none⟩), .pointer (some ⟨gmb, 0, none⟩), .pointer (some ⟨gfb, 0, none⟩), .pointer (some ⟨gpb, 0, none⟩)]] := by rw [hW7]; exact JF.set_ 0 _
    have JP7 : Blk W7 gpb 76 #[.pointer (some ⟨gg, 0, none⟩)] := by rw [hW7]; exact JP.far (p := ⟨gfb, 0, none⟩) (by show gpb ≠ gfb; omega) _
    have JM7 : Blk W7 gmb 78 #[.map (some gm)] := by rw [hW7]; exact JM.far (p := ⟨gfb, 0, none⟩) (by show gmb ≠ gfb; omega) _
    have JL7 : Blk W7 gl 73 #[.slice LA ln lc] := by rw [hW7]; exact JL4.far (p := ⟨gfb, 0, none⟩) (by show gl ≠ gfb; omega) _
    have JT7 : Blk W7 gt 33 #[.int .i64 0, .slice none 0 0] := by rw [hW7]; exact JT4.far (p := ⟨gfb, 0, none⟩) (by show gt ≠ gfb; omega) _
    have MM7 : MapK sttCells W7 gm (fun _ => none) := by rw [hW7]; exact MM.keep (Below.heap_setCell Wd ⟨gfb, 0, none⟩ _ gm (by show gm ≠ gfb; omega))
    have GR7 : Gr W7 gg gk B 0 (.slice none 0 0) [] := by
      rw [hW7]
      exact ⟨hgr4.blk.far (p := ⟨gfb, 0, none⟩) (by show gg ≠ gfb; omega) _, World.ownsRow_nil _ _ _ _, hgr4.map.keep (Below.heap_setCell Wd ⟨gfb, 0, none⟩ _ gk (by show gk ≠ gfb; omega)), List.nodup_nil⟩
    have hra7 : RA plcCells 4 W7 B LA ln lc ps := hra4.keep fun p hp => by
      rw [hW7]
      unfold World.cell?
      rw [Below.heap_setCell Wd ⟨gfb, 0, none⟩ _ p.block (by show p.block ≠ gfb; omega)]
    have hx7 : Ext w W7 := by rw [hW7]; exact hx4.setCell (by show w.heap.size ≤ gfb; omega) _
    have hB7 : B ≤ W7.heap.size := by rw [hW7]; simpa using hBd
    have hG7 : GSt W7 B gl gmb gfb gpb gg gk gm LA ln lc ps 0 (.slice none 0 0) [] (fun _ => none) := ⟨⟨JL7, JM7, JF7, JP7, hra7, hB7⟩, GR7, MM7, (fun s u h => (by cases h)), (fun i h => (by simp at h))⟩
    have hkm : gk ≠ gm := by omega
    have hBm : B ≤ gm := by omega
    clear JP MM JM JF JT4 JL4 hgr4 hra4 hlts hBd JF7 JP7 JM7 JL7 MM7 GR7 hra7 hx4
    have HW7 := Lib.hid hW7
    have i1 : gg < gpb := by omega
    have i2 : gk < gpb := by omega
    have i3 : gt < gpb := by omega
    have i4 : gpb < gm := by omega
    have i5 : gm < gmb := by omega
    have i6 : gmb < gfb := by omega
    clear hW7 hgm hgmb hgfb hgpb hg3 hggL hgkL hgtL hglL hB3
    go_upto_region 8 with (fail)
    rw [← HW7.out]
    clear HW7 j0 jf
    obtain ⟨T2, hT2⟩ : ∃ T, T = (bld [] (dt ps 0)).1 := ⟨_, rfl⟩
    obtain ⟨k2, hk2⟩ : ∃ k, k = (bld [] (dt ps 0)).2 := ⟨_, rfl⟩
    have HGF := Lib.hid (fun (w1 : World) => fun hx => grow_ft hgg hgk hBm hkm hl48 H8.out hG7 (w1 := w1) hx)
    have hyt := HYT.out
    rw [← hT2, ← hk2] at HGF hyt
    have HY3 := Lib.hid hyt
    have hnd2 : T2.Nodup := by rw [hT2]; exact bld_nodup _ _ List.nodup_nil
    clear hT2 hk2 hyt HYT
    have HG7 := Lib.hid hG7
    have hT := ft_tr W7.heap.size (SG gg gk gm (.slice none 0 0)) (FinG B gl gmb gfb gpb gg gk gm LA ln lc ps 0 (.slice none 0 0) T2 W7.heap.size)
    have nsp : ¬ SG gg gk gm (.slice none 0 0) gpb := fun e => by
      rcases e with e | e | e | e
      · omega
      · omega
      · omega
      · cases e
    have nsf : ¬ SG gg gk gm (.slice none 0 0) gfb := fun e => by
      rcases e with e | e | e | e
      · omega
      · omega
      · omega
      · cases e
    have nst : ¬ SG gg gk gm (.slice none 0 0) gt := fun e => by
      rcases e with e | e | e | e
      · exact JT7.ne_ hG7.gr.blk (by decide) e
      · have h1 := JT7.ne_ hG7.gr.blk (by decide); exact hG7.gr.map.ne_blk JT7 e
      · omega
      · cases e
    have lsp := hG7.env.jp.lt
    have lsf := hG7.env.jf.lt
    have p0 : W7.cell? ⟨gpb, 0, none⟩ = some (.pointer (some ⟨gg, 0, none⟩)) := hG7.env.jp.cell 0
    have f0 : W7.cell? ⟨gfb, 0, none⟩ = some (.func (.func 38) #[] #[.pointer (some ⟨gl, 0, none⟩), .pointer (some ⟨gmb, 0, none⟩), .pointer (some ⟨gfb, 0, none⟩), .pointer (some ⟨gpb, 0, none⟩)]) := hG7.env.jf.cell 0
    refine RB.wp_region_obl (T := _) hT 7 (fun ix vals v w1 => match ix with | 0 => v = .pointer (some ⟨gg, 0, none⟩) | 1 => v = .func (.func 38) #[] #[.pointer (some ⟨gl, 0, none⟩), .pointer (some ⟨gmb, 0, none⟩), .pointer (some ⟨gfb, 0, none⟩), .pointer (some ⟨gpb, 0, none⟩)] | 2 => v = .agg #[.int .i64 0, .int .i64 0] | 3 => v = .int .i64 k2 ∧ FinG B gl gmb gfb gpb gg gk gm LA ln lc ps 0 (.slice none 0 0) T2 W7.heap.size w1 | 4 => v = .pointer (some ⟨gg, 0, none⟩) | 5 => v = .pointer (some ⟨gg, 0, none⟩) | _ => v = .pointer (some ⟨gg, 0, none⟩)) (by kernel_rfl) (by kernel_rfl) ?_ ?_ ?_ ?_
    · intro ix vals v w1 w2 hi hr hx
      match ix, hr with
      | 0, hr => exact hr
      | 1, hr => exact hr
      | 2, hr => exact hr
      | 3, hr => exact ⟨hr.1, hx.fin hr.2⟩
      | 4, hr => exact hr
      | 5, hr => exact hr
      | (kx + 6), hr => exact hr
    · intro ix vals vals_ v w1 hi hv hr
      exact hr
    · refine ⟨?_, ?_, ?_, ?_, ?_, ?_, ?_, trivial⟩
      · intro vals w1 hx hd ha
        clear hd ha
        simp only [Lf]
        have p0 := (FT.undrewF (fun W => finG_drew W) hx).cell p0 lsp nsp
        go_wp2
        exact ⟨rfl, hT.refl _, rfl⟩
      · intro vals w1 hx hd ha
        clear hd ha
        simp only [Lf, dstAt, Act.put, List.getElem?_toArray, List.getElem?_cons_zero, Option.bind_some, List.setIfInBounds_toArray, List.set_cons_zero, List.set_cons_succ]
        have f0 := (FT.undrewF (fun W => finG_drew W) hx).cell f0 lsf nsf
        go_wp2
        exact ⟨rfl, hT.refl _, rfl⟩
      · intro vals w1 hx hd ha
        clear hd ha
        simp only [Lf, dstAt, Act.put, List.getElem?_toArray, List.getElem?_cons_zero, List.getElem?_cons_succ, Option.bind_some, List.setIfInBounds_toArray, List.set_cons_zero, List.set_cons_succ]
        go_wp2
        exact ⟨rfl, hT.refl _, rfl⟩
      · intro vals w1 hx hd ha
        have e1 : vals 1 = .func (.func 38) #[] #[.pointer (some ⟨gl, 0, none⟩), .pointer (some ⟨gmb, 0, none⟩), .pointer (some ⟨gfb, 0, none⟩), .pointer (some ⟨gpb, 0, none⟩)] := hd 1 (by decide)
        have e2 : vals 2 = .agg #[.int .i64 0, .int .i64 0] := hd 2 (by decide)
        clear hd ha
        simp only [Lf, dstAt, Act.put, List.getElem?_toArray, List.getElem?_cons_zero, List.getElem?_cons_succ, Option.bind_some, List.setIfInBounds_toArray, List.set_cons_zero, List.set_cons_succ]
        simp only [e1]
        simp only [e2]
        clear e1 e2
        go_wp2_with fail
        refine (HGF.out w1 (FT.undrewF (fun W => finG_drew W) hx)).mono ?_
        rintro e w2 ⟨rfl, hft, hfin⟩
        go_wp2
        exact ⟨rfl, hft, rfl, hfin⟩
      · intro vals w1 hx hd ha
        have e0 : vals 0 = .pointer (some ⟨gg, 0, none⟩) := hd 0 (by decide)
        have e1 : vals 1 = .func (.func 38) #[] #[.pointer (some ⟨gl, 0, none⟩), .pointer (some ⟨gmb, 0, none⟩), .pointer (some ⟨gfb, 0, none⟩), .pointer (some ⟨gpb, 0, none⟩)] := hd 1 (by decide)
        have e2 : vals 2 = .agg #[.int .i64 0, .int .i64 0] := hd 2 (by decide)
        have r3 : (fun v w1 => v = .int .i64 k2 ∧ FinG B gl gmb gfb gpb gg gk gm LA ln lc ps 0 (.slice none 0 0) T2 W7.heap.size w1) (vals 3) w1 := hd 3 (by decide)
        dsimp only at r3
        clear hd ha
        simp only [Lf, dstAt, Act.put, List.getElem?_toArray, List.getElem?_cons_zero, List.getElem?_cons_succ, Option.bind_some, List.setIfInBounds_toArray, List.set_cons_zero, List.set_cons_succ]
        simp only [e0, e1, e2]
        clear e0 e1 e2
        go_wp2
        exact ⟨rfl, hT.refl _, rfl⟩
      · intro vals w1 hx hd ha
        have e0 : vals 0 = .pointer (some ⟨gg, 0, none⟩) := hd 0 (by decide)
        have e1 : vals 1 = .func (.func 38) #[] #[.pointer (some ⟨gl, 0, none⟩), .pointer (some ⟨gmb, 0, none⟩), .pointer (some ⟨gfb, 0, none⟩), .pointer (some ⟨gpb, 0, none⟩)] := hd 1 (by decide)
        have e2 : vals 2 = .agg #[.int .i64 0, .int .i64 0] := hd 2 (by decide)
        have r3 : (fun v w1 => v = .int .i64 k2 ∧ FinG B gl gmb gfb gpb gg gk gm LA ln lc ps 0 (.slice none 0 0) T2 W7.heap.size w1) (vals 3) w1 := hd 3 (by decide)
        dsimp only at r3
        have e4 : vals 4 = .pointer (some ⟨gg, 0, none⟩) := hd 4 (by decide)
        clear hd ha
        simp only [Lf, dstAt, Act.put, List.getElem?_toArray, List.getElem?_cons_zero, List.getElem?_cons_succ, Option.bind_some, List.setIfInBounds_toArray, List.set_cons_zero, List.set_cons_succ]
        simp only [e0, e1, e2, e4]
        clear e0 e1 e2 e4
        go_wp2
        exact ⟨rfl, hT.refl _, rfl⟩
      · intro vals w1 hx hd ha
        have e0 : vals 0 = .pointer (some ⟨gg, 0, none⟩) := hd 0 (by decide)
        have e1 : vals 1 = .func (.func 38) #[] #[.pointer (some ⟨gl, 0, none⟩), .pointer (some ⟨gmb, 0, none⟩), .pointer (some ⟨gfb, 0, none⟩), .pointer (some ⟨gpb, 0, none⟩)] := hd 1 (by decide)
        have e2 : vals 2 = .agg #[.int .i64 0, .int .i64 0] := hd 2 (by decide)
        have r3 : (fun v w1 => v = .int .i64 k2 ∧ FinG B gl gmb gfb gpb gg gk gm LA ln lc ps 0 (.slice none 0 0) T2 W7.heap.size w1) (vals 3) w1 := hd 3 (by decide)
        dsimp only at r3
        have e5 : vals 5 = .pointer (some ⟨gg, 0, none⟩) := hd 5 (by decide)
        clear hd ha
        simp only [Lf, dstAt, Act.put, List.getElem?_toArray, List.getElem?_cons_zero, List.getElem?_cons_succ, Option.bind_some, List.setIfInBounds_toArray, List.set_cons_zero, List.set_cons_succ]
        simp only [e0, e1, e2, e5]
        clear e0 e1 e2 e5
        go_wp2
        exact ⟨rfl, hT.refl _, rfl⟩
    intro vz W8 hx8 hf
    have z6 : vz 6 = .pointer (some ⟨gg, 0, none⟩) := hf 6 (by omega)
    obtain ⟨z3, v8, M8, g8, o8⟩ : vz 3 = .int .i64 k2 ∧ FinG B gl gmb gfb gpb gg gk gm LA ln lc ps 0 (.slice none 0 0) T2 W7.heap.size W8 := hf 3 (by omega)
    clear hf p0 f0 hT HGF
    have hx8 := FT.undrewF (fun W => finG_drew W) hx8
    have JT8 := hx8.blk JT7 JT7.lt nst
    have hxw8 : Ext w W8 := ⟨hx8.os.trans hx7.os, hx8.tape.trans hx7.tape, hx8.output.trans hx7.output, Nat.le_trans hx7.size hx8.size, fun i hi => (hx8.oth i (Nat.lt_of_lt_of_le hi hx7.size) (fun e => by
      rcases e with e | e | e | e
      · omega
      · omega
      · omega
      · cases e)).trans (hx7.block i hi)⟩
    obtain ⟨A8, c8, hv8, _, _⟩ := own_slice g8.gr.row
    subst hv8
    have hgw2 : w.heap.size ≤ gg := by omega
    have hgtg : gt ≠ gg := fun e => nst (.inl e)
    have JT9 := JT8.far (p := ⟨gg, 0, none⟩) hgtg (.int .i64 k2)
    have hx9 : Ext w (W8.setCell ⟨gg, 0, none⟩ (.int .i64 k2)) := hxw8.setCell hgw2 _
    have JP9 := g8.env.jp.far (p := ⟨gg, 0, none⟩) (by show gpb ≠ gg; omega) (.int .i64 k2)
    have hrow9 := own_off g8.gr.row (p := ⟨gg, 0, none⟩) (fun q e e2 => g8.gr.ne_g (by rw [e, e2])) (.int .i64 k2)
    have hblk9 : GBlk (W8.setCell ⟨gg, 0, none⟩ (.int .i64 k2)) gg k2 (.slice A8 T2.length c8) gk := by
      have h := g8.gr.blk.set_ 0 (.int .i64 k2)
      simp only [List.setIfInBounds_toArray, List.set_cons_zero] at h
      exact h
    have g0 : W8.cell? ⟨gg, 0, none⟩ = some (.int .i64 0) := g8.gr.blk.cell 0
    have gf0 := g8.gr.blk.frozen 0
    have HROW := Lib.hid (own_base hrow9 hBw)
    clear hx8 JT8 hxw8 g8 o8 hrow9 HG7 JT7 hG7 nsp nsf nst lsp lsf
    obtain ⟨W9, hW9⟩ : ∃ W, W = W8.setCell ⟨gg, 0, none⟩ (.int .i64 k2) := ⟨_, rfl⟩
    rw [← hW9] at JT9 hx9 JP9 hblk9 HROW
    have HW9 := Lib.hid hW9
    clear hW9
    refine tail1 7 _ (by kernel_rfl) (by kernel_rfl) rfl ?_
    simp only [Lf, dstAt, Act.put, List.getElem?_toArray, List.getElem?_cons_zero, List.getElem?_cons_succ, Option.bind_some, List.setIfInBounds_toArray, List.set_cons_zero, List.set_cons_succ]
    rw [z3, z6]
    clear z3 z6
    go_upto_region 9 with (fail)
    rw [← HW9.out]
    clear HW9 g0 gf0
    have p0 : W9.cell? ⟨gpb, 0, none⟩ = some (.pointer (some ⟨gg, 0, none⟩)) := JP9.cell 0
    have g0 : W9.cell? ⟨gg, 0, none⟩ = some (.int .i64 k2) := hblk9.cell 0
    have g1 : W9.cell? ⟨gg, 1, none⟩ = some (.slice A8 T2.length c8) := hblk9.cell 1
    have t0 : W9.cell? ⟨gt, 0, none⟩ = some (.int .i64 0) := JT9.cell 0
    have t1 : W9.cell? ⟨gt, 1, none⟩ = some (.slice none 0 0) := JT9.cell 1
    have f0 := JT9.frozen 0
    have f1 := JT9.frozen 1
    clear hblk9 JP9
    by_cases h15 : T2.length ≤ 1500
    · have HYF : Hid (Y = (T2, k2, 0)) := Lib.hid (by rw [HY3.out, decide_eq_true h15]; rfl)
      have h15z : ¬ (1500 : Int) < (T2.length : Int) := by omega
      clear HY3
      go_wp2
      refine bodyPost_ret (results_rt Try.results13 _ _ gt _ (.int .i64 0) rfl rfl (JT9.set2 (.int .i64 k2) (.slice A8 T2.length c8)) _ Try.underlying33 rfl tre_size) rfl ?_
      refine ⟨.slice A8 T2.length c8, by rw [HYF.out], ?_, (hx9.setCell hgw _).setCell hgw _⟩
      rw [HYF.out]
      have hne : ∀ q, (Value.slice A8 T2.length c8).ownBlock = some q → q ≠ gt := fun q e e2 => own_blk_ne HROW.out JT9 (by decide) (by rw [e, e2])
      have h1 := own_off HROW.out (p := ⟨gt, 0, none⟩) hne (.int .i64 k2)
      exact own_off h1 (p := ⟨gt, 1, none⟩) hne _
    · have HYF : Hid (Y = ([], 0, 200)) := Lib.hid (by rw [HY3.out, decide_eq_false h15]; rfl)
      have h15z : (1500 : Int) < (T2.length : Int) := by omega
      clear HY3
      go_wp2
      refine bodyPost_ret (results_rt Try.results13 _ _ gt _ (.int .i64 200) rfl rfl (JT9.set2 (.int .i64 0) (.slice none 0 0)) _ Try.underlying33 rfl tre_size) rfl ?_
      refine ⟨.slice none 0 0, by rw [HYF.out], ?_, (hx9.setCell hgw _).setCell hgw _⟩
      rw [HYF.out]
      exact World.ownsRow_nil _ _ _ _
end Go.Proofs.Ytikphbgfcpamgaa
namespace Go.Proofs.Ytikphbgfcpamgaa
open Go.RowKit

def MetL (Tt T : List Brn) (M : Int → Option Value) : Prop := ∀ j u, M j = some u → ∃ (i : Int) (D : DT), u = .int .i64 i ∧ Rep Tt j D ∧ Rep T i D
theorem MetL.grow {Tt T : List Brn} {M : Int → Option Value} (h : MetL Tt T M) (D : DT) : MetL Tt (bld T D).1 M := fun j u hj => by
  obtain ⟨i, X, h1, h2, h3⟩ := h j u hj
  exact ⟨i, X, h1, h2, h3.grow (bld_ext D T)⟩
theorem MetL.put {Tt T : List Brn} {M : Int → Option Value} (h : MetL Tt T M) {k i : Int} {D : DT} (h1 : Rep Tt k D) (h2 : Rep T i D) : MetL Tt T (fun j => if j = k then some (.int .i64 i) else M j) := fun j u hj => by
  dsimp only at hj
  by_cases e : j = k
  · rw [if_pos e] at hj
    injection hj with hj
    subst e
    exact ⟨i, D, hj.symm, h1, h2⟩
  · rw [if_neg e] at hj
    exact h j u hj
def PL (Tt : List Brn) (X : DT) : Prop := ∃ j : Nat, j < Tt.length ∧ Rep Tt (j : Int) X
theorem pl_len {Tt T : List Brn} (hd : Down Tt) (hl : Tt.length ≤ 1500) (hn : T.Nodup) (h : FromP (PL Tt) T) : T.length ≤ 1500 := by
  refine Nat.le_trans (from_len hn h (fun j => unf Tt (j : Int)) fun X hX => ?_) hl
  obtain ⟨j, h1, h2⟩ := hX
  exact ⟨j, h1, unf_rep hd h2⟩
theorem pl_subs {Tt : List Brn} {k : Int} {D : DT} (h : Rep Tt k D) : ∀ X ∈ subs D, PL Tt X := fun X hX => rep_sub h X hX
structure EnvL (W : World) (B gmb gtb gcb gpb gg gm : Nat) (s0 : Int) (TA : Option Addr) (tn tc : Nat) (Tt : List Brn) : Prop where
  jm : Blk W gmb 95 #[.map (some gm)]
  jt : Blk W gtb 33 #[.int .i64 s0, .slice TA tn tc]
  jf : Blk W gcb 109 #[.func (.func 55) #[] #[.pointer (some ⟨gmb, 0, none⟩), .pointer (some ⟨gtb, 0, none⟩), .pointer (some ⟨gcb, 0, none⟩), .pointer (some ⟨gpb, 0, none⟩)]]
  jp : Blk W gpb 76 #[.pointer (some ⟨gg, 0, none⟩)]
  rl : RA brnCells 5 W B TA tn tc Tt
  hB : B ≤ W.heap.size
theorem EnvL.ext {W W' : World} {B gmb gtb gcb gpb gg gm : Nat} {s0 : Int} {TA : Option Addr} {tn tc : Nat} {Tt : List Brn} (h : EnvL W B gmb gtb gcb gpb gg gm s0 TA tn tc Tt) (hx : Ext W W') : EnvL W' B gmb gtb gcb gpb gg gm s0 TA tn tc Tt :=
  ⟨h.jm.ext hx, h.jt.ext hx, h.jf.ext hx, h.jp.ext hx, h.rl.keep (fun p hp => hx.cell (by have := h.hB; omega)), Nat.le_trans h.hB hx.size⟩
structure LSt (W : World) (B gmb gtb gcb gpb gg gk gm : Nat) (s0 : Int) (TA : Option Addr) (tn tc : Nat) (Tt : List Brn) (st : Int) (v : Value) (T : List Brn) (M : Int → Option Value) : Prop where
  env : EnvL W B gmb gtb gcb gpb gg gm s0 TA tn tc Tt
  gr : Gr W gg gk B st v T
  map : MapI W gm M
  met : MetL Tt T M
  frm : FromP (PL Tt) T
theorem LSt.ext {W W' : World} {B gmb gtb gcb gpb gg gk gm : Nat} {s0 : Int} {TA : Option Addr} {tn tc : Nat} {Tt : List Brn} {st : Int} {v : Value} {T : List Brn} {M : Int → Option Value} (h : LSt W B gmb gtb gcb gpb gg gk gm s0 TA tn tc Tt st v T M) (hx : Ext W W') : LSt W' B gmb gtb gcb gpb gg gk gm s0 TA tn tc Tt st v T M :=
  ⟨h.env.ext hx, h.gr.ext hx, h.map.ext hx, h.met, h.frm⟩
theorem LSt.nS {W : World} {B gmb gtb gcb gpb gg gk gm : Nat} {s0 : Int} {TA : Option Addr} {tn tc : Nat} {Tt : List Brn} {st : Int} {v : Value} {T : List Brn} {M : Int → Option Value} (h : LSt W B gmb gtb gcb gpb gg gk gm s0 TA tn tc Tt st v T M) {b : Nat} {t : TypeId} {cs : Array Value} (j : Blk W b t cs) (n1 : t ≠ 88) (n2 : v.ownBlock ≠ some b) : ¬ SB gg gk v b := fun e => by
  rcases e with e | e | e
  · exact j.ne_ h.gr.blk n1 e
  · exact h.gr.map.ne_blk j e
  · exact n2 e
theorem LSt.blk {W W' : World} {B gmb gtb gcb gpb gg gk gm : Nat} {s0 : Int} {TA : Option Addr} {tn tc : Nat} {Tt : List Brn} {st : Int} {v v' : Value} {T : List Brn} {M : Int → Option Value} (h : LSt W B gmb gtb gcb gpb gg gk gm s0 TA tn tc Tt st v T M) (x : Grw gg gk gm v v' W W') {b : Nat} {t : TypeId} {cs : Array Value} (j : Blk W b t cs) (n1 : t ≠ 88) (n2 : v.ownBlock ≠ some b) : Blk W' b t cs :=
  x.blk j (j.ne_ h.gr.blk n1) (h.gr.map.ne_blk j) (h.map.ne_blk j) n2
theorem LSt.no {W : World} {B gmb gtb gcb gpb gg gk gm : Nat} {s0 : Int} {TA : Option Addr} {tn tc : Nat} {Tt : List Brn} {st : Int} {v : Value} {T : List Brn} {M : Int → Option Value} (h : LSt W B gmb gtb gcb gpb gg gk gm s0 TA tn tc Tt st v T M) {b : Nat} {t : TypeId} {cs : Array Value} (j : Blk W b t cs) (n : t ≠ 30) : v.ownBlock ≠ some b := own_blk_ne h.gr.row j (fun e => n e.symm)
theorem LSt.env_ft {W W' : World} {B gmb gtb gcb gpb gg gk gm : Nat} {s0 : Int} {TA : Option Addr} {tn tc : Nat} {Tt : List Brn} {st : Int} {v : Value} {T : List Brn} {M : Int → Option Value} {F : World → Prop} (h : LSt W B gmb gtb gcb gpb gg gk gm s0 TA tn tc Tt st v T M) (h1 : B ≤ gg) (h2 : B ≤ gk) (x : FT W.heap.size (SB gg gk v) F W W') : EnvL W' B gmb gtb gcb gpb gg gm s0 TA tn tc Tt := by
  have hb : ∀ {b : Nat} {t : TypeId} {cs : Array Value}, Blk W b t cs → t ≠ 88 → t ≠ 30 → Blk W' b t cs := fun j n1 n2 => x.blk j j.lt (h.nS j n1 (h.no j n2))
  refine ⟨hb h.env.jm (by decide) (by decide), hb h.env.jt (by decide) (by decide), hb h.env.jf (by decide) (by decide), hb h.env.jp (by decide) (by decide), h.env.rl.keep fun p hp => ?_, Nat.le_trans h.env.hB x.size⟩
  unfold World.cell?
  rw [x.oth p.block (by have := h.env.hB; omega) (fun e => by
    rcases e with e | e | e
    · omega
    · omega
    · have := (World.ownsRow.lt h.gr.row _ e).1; omega)]
theorem EnvL.mapd {W W' : World} {B gmb gtb gcb gpb gg gm : Nat} {s0 : Int} {TA : Option Addr} {tn tc : Nat} {Tt : List Brn} {M : Int → Option Value} (h : EnvL W B gmb gtb gcb gpb gg gm s0 TA tn tc Tt) (m : MapI W gm M) (h3 : B ≤ gm) (x : W.grownBy W' (some gm)) : EnvL W' B gmb gtb gcb gpb gg gm s0 TA tn tc Tt := by
  have hb : ∀ {b : Nat} {t : TypeId} {cs : Array Value}, Blk W b t cs → Blk W' b t cs := fun j => j.grown x (fun e => m.ne_blk j (by injection e))
  refine ⟨hb h.jm, hb h.jt, hb h.jf, hb h.jp, h.rl.keep fun p hp => ?_, Nat.le_trans h.hB x.size⟩
  unfold World.cell?
  rw [x.block p.block (by have := h.hB; omega) (fun e => by injection e with e; omega)]
def ComeRet (B gmb gtb gcb gpb gg gk gm : Nat) (s0 : Int) (TA : Option Addr) (tn tc : Nat) (Tt : List Brn) (st : Int) (v : Value) (X : List Brn × Int) (w : World) (e : Ending) (w' : World) : Prop := ∃ v' M', e = .returned (.int .i64 X.2) ∧ LSt w' B gmb gtb gcb gpb gg gk gm s0 TA tn tc Tt st v' X.1 M' ∧ M' (-1) = some (.int .i64 (-1)) ∧ Grw gg gk gm v v' w w'
end Go.Proofs.Ytikphbgfcpamgaa
