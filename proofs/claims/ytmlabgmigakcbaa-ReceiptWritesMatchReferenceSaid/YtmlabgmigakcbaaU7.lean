/- made: the inputs of a case. -/
import Derived.Test.YtmlabgmigakcbaaU6
namespace Go.Proofs.Ytmlabgmigakcbaa
open Go.RowKit

theorem passL_bd : ∀ (l : List Tri) (a : Int) (m : Int), 0 ≤ a → a + 701 * l.length ≤ m → ∀ p ∈ passL a l, 0 ≤ p.can.fr ∧ p.can.fr ≤ m ∧ p.sure.fr = p.can.fr + 2 ∧ p.can.fr + 8 ≤ p.can.tt ∧ p.can.tt ≤ p.can.fr + 27 ∧ p.sure.tt = p.can.tt - 2 ∧ (0 ≤ p.sat ∧ p.sat < 3) ∧ (0 ≤ p.station ∧ p.station < 3)
  | [], _, _, _, _ => fun p hp => by cases hp
  | t :: r, a, m, ha, hm => by
    rw [passL_cons]
    simp only [List.length_cons] at hm
    have h0 := pickI_bd t.a 700 (by omega)
    have h1 := pickI_bd t.b 3 (by omega)
    have h2 := pickI_bd (t.b.tdiv 3) 3 (by omega)
    have h3 := pickI_bd t.c 20 (by omega)
    intro p hp
    rcases List.mem_cons.1 hp with rfl | hp
    · unfold passOf
      dsimp only
      omega
    · exact passL_bd r (a + 1 + pickI t.a 700) m (by omega) (by omega) p hp
theorem passL_len : ∀ (l : List Tri) (a : Int), (passL a l).length = l.length
  | [], _ => rfl
  | t :: r, a => by rw [passL_cons, List.length_cons, List.length_cons, passL_len r]
theorem passP_len (xs : List Tri) : (passP xs).length ≤ 12 := by unfold passP; rw [passL_len, List.length_take]; omega
theorem passP_bd (xs : List Tri) : ∀ p ∈ passP xs, 0 ≤ p.can.fr ∧ p.can.fr ≤ 8500 ∧ p.sure.fr = p.can.fr + 2 ∧ p.can.fr + 8 ≤ p.can.tt ∧ p.can.tt ≤ p.can.fr + 27 ∧ p.sure.tt = p.can.tt - 2 ∧ (0 ≤ p.sat ∧ p.sat < 3) ∧ (0 ≤ p.station ∧ p.station < 3) :=
  passL_bd _ 5 8500 (by omega) (by rw [List.length_take]; omega)
theorem passP_psb (xs : List Tri) : PsB (passP xs) := fun p hp => by have := passP_bd xs p hp; omega
/-- A case: the numbers that determine passes, options and stations. -/
structure Cas where
  ps : List Tri
  os : List Rw
  sk : Tri
  lost : Int
  wr : List Int
  pa : Option Addr
  pn : Nat
  pc : Nat
  oa : Option Addr
  on : Nat
  oc : Nat
  wa : Option Addr
  wn : Nat
  wc : Nat
def casV (c : Cas) : Value := .agg #[.slice c.pa c.pn c.pc, .slice c.oa c.on c.oc, .int .i64 c.sk.a, .int .i64 c.sk.b, .int .i64 c.sk.c, .int .i64 c.lost, .slice c.wa c.wn c.wc]
structure CasR (w : World) (B : Nat) (c : Cas) : Prop where
  ps : RA triCells 3 w B c.pa c.pn c.pc c.ps
  psOk : ∀ t ∈ c.ps, t.ok
  os : Rws w B c.oa c.on c.oc c.os
  sk : c.sk.ok
  lost : I64ok c.lost
  wr : RA intCells 1 w B c.wa c.wn c.wc c.wr
theorem CasR.ext {w w' : World} {c : Cas} (h : CasR w w.heap.size c) (hx : Ext w w') : CasR w' w'.heap.size c := ⟨ra_ext h.ps hx, h.psOk, h.os.ext hx, h.sk, h.lost, ra_ext h.wr hx⟩
def casP (c : Cas) : List Pas := passP c.ps
def casO (c : Cas) : List Opp := if (casP c).length = 0 then [] else optsP (casP c) (c.os.map (·.l))
def casS (c : Cas) : List Stn := stnK c.sk 3
def MadeRet (c : Cas) (w : World) (e : Ending) (w' : World) : Prop := ∃ v vp vs os, e = .returned (.tuple #[v, vp, vs]) ∧ OwnOs w' w.heap.size v os ∧ os.map Opt.p = casO c ∧ OwnP w' w.heap.size vp (casP c) ∧ OwnT w' w.heap.size vs (casS c) ∧ Ext w w'

set_option maxRecDepth 100000 in
set_option maxHeartbeats 8000000 in
theorem made_any (c : Cas) (w : World) (hc : CasR w w.heap.size c) : Calls Try.prog 11 #[casV c] w (MadeRet c w) := by
  have HPA := Lib.hid (fun (W : World) (hW : Ext w W) => passes_any c.ps c.pa c.pn c.pc W (ra_ext hc.ps hW) hc.psOk)
  have HST := Lib.hid (fun (W : World) => stations_any c.sk W hc.sk)
  have HOP : Hid (∀ (W : World) (A : Option Addr) (n cc : Nat), Ext w W → OwnP W w.heap.size (.slice A n cc) (passP c.ps) → Calls Try.prog 37 #[.slice A n cc, .slice c.oa c.on c.oc] W fun e w' => ∃ v os, e = .returned v ∧ OwnOs w' W.heap.size v os ∧ os.map Opt.p = casO c ∧ Ext W w') := Lib.hid (fun W A n cc hW ho => by
    have hn : n = (passP c.ps).length := by
      obtain ⟨_, _, hv, _, _⟩ := own_slice ho
      injection hv
    subst hn
    have hl := passP_len c.ps
    exact options_any (passP c.ps) c.os A c.oa _ cc c.on c.oc W (RA.of_own ho rfl (by omega)) (hc.os.ext hW) (by omega) (passP_psb c.ps))
  unfold MadeRet
  have hP : casP c = passP c.ps := rfl
  rw [hP]
  generalize passP c.ps = PP at HPA HOP ⊢
  generalize casO c = OO at HOP ⊢
  have hS : casS c = stnK c.sk 3 := rfl
  rw [hS]
  generalize stnK c.sk 3 = SS at HST ⊢
  clear hP hS hc
  obtain ⟨ps, os, ⟨sa, sb, sc⟩, lost, wr_, pa, pn, pc, oa, on, oc, wa, wn, wc⟩ := c
  dsimp only at HPA HOP
  have HST2 : Hid (∀ W : World, Calls Try.prog 38 #[.agg #[.int .i64 sa, .int .i64 sb, .int .i64 sc]] W fun e w' => ∃ v, e = .returned v ∧ OwnT w' W.heap.size v SS ∧ Ext W w') := HST
  clear HST
  show Calls Try.prog 11 #[.agg #[.slice pa pn pc, .slice oa on oc, .int .i64 sa, .int .i64 sb, .int .i64 sc, .int .i64 lost, .slice wa wn wc]] w _
  go_enter Try.func11, Try.ntmps11
  go_upto_region 1 with (fail)
  have hx1 : Ext w (w.alloc (.cells #[.slice pa pn pc, .slice oa on oc, .int .i64 sa, .int .i64 sb, .int .i64 sc, .int .i64 lost, .slice wa wn wc] 27)) := bl_alloc (Below.refl _ _) _
  have J := Blk.new w 27 #[.slice pa pn pc, .slice oa on oc, .int .i64 sa, .int .i64 sb, .int .i64 sc, .int .i64 lost, .slice wa wn wc]
  obtain ⟨g1, hg1⟩ : ∃ g, g = w.heap.size := ⟨_, rfl⟩
  rw [← hg1] at J ⊢
  clear hg1
  generalize w.alloc (.cells #[.slice pa pn pc, .slice oa on oc, .int .i64 sa, .int .i64 sb, .int .i64 sc, .int .i64 lost, .slice wa wn wc] 27) = W1 at hx1 J ⊢
  have d0 : W1.cell? ⟨g1, 0, none⟩ = some (.slice pa pn pc) := J.cell 0
  have HJ := Lib.hid J
  clear J
  go_wp2_with fail
  refine (HPA.out _ hx1).mono ?_
  rintro e W2 ⟨vp, rfl, hop, hy⟩
  have hx2 := Ext.trans hx1 hy
  obtain ⟨PA, PC, hvp, _, _⟩ := own_slice hop
  subst hvp
  have d1 : W2.cell? ⟨g1, 1, none⟩ = some (.slice oa on oc) := (HJ.out.ext hy).cell 1
  have d2 : W2.cell? ⟨g1, 2, none⟩ = some (.int .i64 sa) := (HJ.out.ext hy).cell 2
  have d3 : W2.cell? ⟨g1, 3, none⟩ = some (.int .i64 sb) := (HJ.out.ext hy).cell 3
  have d4 : W2.cell? ⟨g1, 4, none⟩ = some (.int .i64 sc) := (HJ.out.ext hy).cell 4
  have HOPP := Lib.hid (own_base hop (Below.size hx1))
  have hz2 := Below.size hx2
  clear d0 hop hy hx1 HPA
  go_upto_region 2 with (fail)
  refine wp_region_obl 11 (fun ix vals v w1 => match ix with | 0 => v = .slice PA PP.length PC | 1 => v = .pointer (some ⟨g1, 1, none⟩) | 2 => v = .slice oa on oc | 3 => ∃ os, OwnOs w1 w.heap.size v os ∧ os.map Opt.p = OO | 4 => v = .slice PA PP.length PC | 5 => v = .pointer (some ⟨g1, 2, none⟩) | 6 => v = .agg #[.int .i64 sa, .int .i64 sb, .int .i64 sc] | 7 => OwnT w1 w.heap.size v SS | 8 => ∃ os, OwnOs w1 w.heap.size v os ∧ os.map Opt.p = OO | 9 => v = .slice PA PP.length PC | _ => OwnT w1 w.heap.size v SS) (by kernel_rfl) (by kernel_rfl) ?_ ?_ ?_ ?_
  · intro ix vals v w1 w2 hi hr hx
    match ix, hr with
    | 0, hr => exact hr
    | 1, hr => exact hr
    | 2, hr => exact hr
    | 3, hr => obtain ⟨os, h1, h2⟩ := hr; exact ⟨os, h1.ext hx, h2⟩
    | 4, hr => exact hr
    | 5, hr => exact hr
    | 6, hr => exact hr
    | 7, hr => exact OwnT.ext hr hx
    | 8, hr => obtain ⟨os, h1, h2⟩ := hr; exact ⟨os, h1.ext hx, h2⟩
    | 9, hr => exact hr
    | (kx + 10), hr => exact OwnT.ext hr hx
  · intro ix vals vals_ v w1 hi hv hr
    exact hr
  · refine ⟨?_, ?_, ?_, ?_, ?_, ?_, ?_, ?_, ?_, ?_, ?_, trivial⟩
    · intro vals w1 hx hd ha
      clear hd ha
      simp only [Lf]
      go_wp2
      exact ⟨rfl, Ext.refl _, rfl⟩
    · intro vals w1 hx hd ha
      clear hd ha
      simp only [Lf, dstAt, Act.put, List.getElem?_toArray, List.getElem?_cons_zero, Option.bind_some, List.setIfInBounds_toArray, List.set_cons_zero, List.set_cons_succ]
      go_wp2
      exact ⟨rfl, Ext.refl _, rfl⟩
    · intro vals w1 hx hd ha
      have e1 : vals 1 = .pointer (some ⟨g1, 1, none⟩) := hd 1 (by decide)
      clear hd ha
      simp only [Lf, dstAt, Act.put, List.getElem?_toArray, List.getElem?_cons_zero, List.getElem?_cons_succ, Option.bind_some, List.setIfInBounds_toArray, List.set_cons_zero, List.set_cons_succ]
      simp only [e1]
      clear e1
      have d1 := ext_cell hx d1
      go_wp2
      exact ⟨rfl, Ext.refl _, rfl⟩
    · intro vals w1 hx hd ha
      have e0 : vals 0 = .slice PA PP.length PC := hd 0 (by decide)
      have e2 : vals 2 = .slice oa on oc := hd 2 (by decide)
      clear hd ha
      simp only [Lf, dstAt, Act.put, List.getElem?_toArray, List.getElem?_cons_zero, List.getElem?_cons_succ, Option.bind_some, List.setIfInBounds_toArray, List.set_cons_zero, List.set_cons_succ]
      simp only [e0]
      simp only [e2]
      clear e0 e2
      have hz := Below.size hx.undrew
      go_wp2_with fail
      refine (HOP.out w1 PA _ PC (Ext.trans hx2 hx.undrew) (own_ext HOPP.out hx.undrew)).mono ?_
      rintro e w2 ⟨v, os, rfl, h1, h2, hb2⟩
      have h1 := Lib.hid (h1.base (Nat.le_trans hz2 hz))
      have h2 := Lib.hid h2
      go_wp2
      exact ⟨rfl, hb2, os, h1.out, h2.out⟩
    · intro vals w1 hx hd ha
      clear hd ha
      simp only [Lf, dstAt, Act.put, List.getElem?_toArray, List.getElem?_cons_zero, List.getElem?_cons_succ, Option.bind_some, List.setIfInBounds_toArray, List.set_cons_zero, List.set_cons_succ]
      go_wp2
      exact ⟨rfl, Ext.refl _, rfl⟩
    · intro vals w1 hx hd ha
      clear hd ha
      simp only [Lf, dstAt, Act.put, List.getElem?_toArray, List.getElem?_cons_zero, List.getElem?_cons_succ, Option.bind_some, List.setIfInBounds_toArray, List.set_cons_zero, List.set_cons_succ]
      go_wp2
      exact ⟨rfl, Ext.refl _, rfl⟩
    · intro vals w1 hx hd ha
      have e5 : vals 5 = .pointer (some ⟨g1, 2, none⟩) := hd 5 (by decide)
      clear hd ha
      simp only [Lf, dstAt, Act.put, List.getElem?_toArray, List.getElem?_cons_zero, List.getElem?_cons_succ, Option.bind_some, List.setIfInBounds_toArray, List.set_cons_zero, List.set_cons_succ]
      simp only [e5]
      clear e5
      have d2 := ext_cell hx d2; have d3 := ext_cell hx d3; have d4 := ext_cell hx d4
      go_wp2
      exact ⟨rfl, Ext.refl _, rfl⟩
    · intro vals w1 hx hd ha
      have r3 : (fun v w1 => ∃ os, OwnOs w1 w.heap.size v os ∧ os.map Opt.p = OO) (vals 3) w1 := hd 3 (by decide)
      dsimp only at r3
      have e6 : vals 6 = .agg #[.int .i64 sa, .int .i64 sb, .int .i64 sc] := hd 6 (by decide)
      clear hd ha
      simp only [Lf, dstAt, Act.put, List.getElem?_toArray, List.getElem?_cons_zero, List.getElem?_cons_succ, Option.bind_some, List.setIfInBounds_toArray, List.set_cons_zero, List.set_cons_succ]
      simp only [e6]
      clear e6
      have hz := Below.size hx.undrew
      go_wp2_with fail
      refine (HST2.out w1).mono ?_
      rintro e w2 ⟨v, rfl, h1, hb2⟩
      have h1 := Lib.hid (own_base h1 (Nat.le_trans hz2 hz))
      go_wp2
      exact ⟨rfl, hb2, h1.out⟩
    · intro vals w1 hx hd ha
      have e0 : vals 0 = .slice PA PP.length PC := hd 0 (by decide)
      have e1 : vals 1 = .pointer (some ⟨g1, 1, none⟩) := hd 1 (by decide)
      have e2 : vals 2 = .slice oa on oc := hd 2 (by decide)
      have r3 : (fun v w1 => ∃ os, OwnOs w1 w.heap.size v os ∧ os.map Opt.p = OO) (vals 3) w1 := hd 3 (by decide)
      dsimp only at r3
      have r7 : (fun v w1 => OwnT w1 w.heap.size v SS) (vals 7) w1 := hd 7 (by decide)
      dsimp only at r7
      clear hd ha
      simp only [Lf, dstAt, Act.put, List.getElem?_toArray, List.getElem?_cons_zero, List.getElem?_cons_succ, Option.bind_some, List.setIfInBounds_toArray, List.set_cons_zero, List.set_cons_succ]
      have r3 := Lib.hid r3
      go_wp2
      exact ⟨rfl, Ext.refl _, r3.out⟩
    · intro vals w1 hx hd ha
      have e0 : vals 0 = .slice PA PP.length PC := hd 0 (by decide)
      have e1 : vals 1 = .pointer (some ⟨g1, 1, none⟩) := hd 1 (by decide)
      have e2 : vals 2 = .slice oa on oc := hd 2 (by decide)
      have r3 : (fun v w1 => ∃ os, OwnOs w1 w.heap.size v os ∧ os.map Opt.p = OO) (vals 3) w1 := hd 3 (by decide)
      dsimp only at r3
      have e4 : vals 4 = .slice PA PP.length PC := hd 4 (by decide)
      have r8 : (fun v w1 => ∃ os, OwnOs w1 w.heap.size v os ∧ os.map Opt.p = OO) (vals 8) w1 := hd 8 (by decide)
      dsimp only at r8
      clear hd ha
      simp only [Lf, dstAt, Act.put, List.getElem?_toArray, List.getElem?_cons_zero, List.getElem?_cons_succ, Option.bind_some, List.setIfInBounds_toArray, List.set_cons_zero, List.set_cons_succ]
      simp only [e0, e1, e2, e4]
      clear e0 e1 e2 e4
      go_wp2
      exact ⟨rfl, Ext.refl _, rfl⟩
    · intro vals w1 hx hd ha
      have e0 : vals 0 = .slice PA PP.length PC := hd 0 (by decide)
      have e1 : vals 1 = .pointer (some ⟨g1, 1, none⟩) := hd 1 (by decide)
      have e2 : vals 2 = .slice oa on oc := hd 2 (by decide)
      have r3 : (fun v w1 => ∃ os, OwnOs w1 w.heap.size v os ∧ os.map Opt.p = OO) (vals 3) w1 := hd 3 (by decide)
      dsimp only at r3
      have e4 : vals 4 = .slice PA PP.length PC := hd 4 (by decide)
      have e5 : vals 5 = .pointer (some ⟨g1, 2, none⟩) := hd 5 (by decide)
      have e6 : vals 6 = .agg #[.int .i64 sa, .int .i64 sb, .int .i64 sc] := hd 6 (by decide)
      have r7 : (fun v w1 => OwnT w1 w.heap.size v SS) (vals 7) w1 := hd 7 (by decide)
      dsimp only at r7
      have r8 : (fun v w1 => ∃ os, OwnOs w1 w.heap.size v os ∧ os.map Opt.p = OO) (vals 8) w1 := hd 8 (by decide)
      dsimp only at r8
      have e9 : vals 9 = .slice PA PP.length PC := hd 9 (by decide)
      clear hd ha
      simp only [Lf, dstAt, Act.put, List.getElem?_toArray, List.getElem?_cons_zero, List.getElem?_cons_succ, Option.bind_some, List.setIfInBounds_toArray, List.set_cons_zero, List.set_cons_succ]
      have r7 := Lib.hid r7
      go_wp2
      exact ⟨rfl, Ext.refl _, r7.out⟩
  intro vals W5 hy hf
  obtain ⟨os5, h8, h8b⟩ : ∃ os, OwnOs W5 w.heap.size (vals 8) os ∧ os.map Opt.p = OO := hf 8 (by omega)
  have h9 : vals 9 = .slice PA PP.length PC := hf 9 (by omega)
  have h10 : OwnT W5 w.heap.size (vals 10) SS := hf 10 (by omega)
  have hy := hy.undrew
  have HOPF : Hid (OwnP W5 w.heap.size (.slice PA PP.length PC) PP) := Lib.hid (own_ext HOPP.out hy)
  have HX := Lib.hid (Ext.trans hx2 hy)
  have H8 := Lib.hid h8
  have H8B := Lib.hid h8b
  have H10 := Lib.hid h10
  clear hf h8 h8b h10 d1 d2 d3 d4 hy hx2 HOP
  refine tail0 (by kernel_rfl) ?_
  simp only [Lf, dstAt, Act.put, List.getElem?_toArray, List.getElem?_cons_zero, List.getElem?_cons_succ, Option.bind_some, List.setIfInBounds_toArray, List.set_cons_zero, List.set_cons_succ]
  rw [h9]
  clear h9
  generalize vals 8 = v8 at H8 ⊢
  generalize vals 10 = v10 at H10 ⊢
  go_wp2
  exact bodyPost_ret (v := .tuple #[v8, .slice PA PP.length PC, v10]) (by simp [results, Try.results11, go_sem]) rfl ⟨_, _, _, os5, rfl, H8.out, H8B.out, HOPF.out, H10.out, HX.out⟩
end Go.Proofs.Ytmlabgmigakcbaa
