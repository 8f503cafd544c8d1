/- The reference: what is stored at worst. -/
import Derived.Test.YtikphbgfcpamgaaP27
import Derived.Test.YtikphbgfcpamgaaP25
import Derived.Test.YtikphbgfcpamgaaP21
import Derived.Test.YtikphbgfcpamgaaP07
namespace Go.Proofs.Ytikphbgfcpamgaa
open Go.RowKit

def wayC (C : List Int) (k : Int) : Int := if k = -1 then 1 else C.getD k.toNat 0
def cntR : List Int → List Brn → List Int
  | C, [] => C
  | C, b :: r => cntR (C ++ [wrap64 (wayC C b.no + wayC C b.yes)]) r
def cntD : DT → Int
  | .leaf => 1
  | .node _ _ _ n y => wrap64 (cntD n + cntD y)
def pathsP (l : List Op) (T : List Brn) (k : Int) : Option Int := if validP l T k = true then some (cntD (unf T k)) else none
theorem cnt_rep {T : List Brn} (hd : Down T) : ∀ (r : List Brn) (C : List Int), T.drop C.length = r → (∀ i : Nat, i < C.length → ∀ D, Rep T (i : Int) D → C.getD i 0 = cntD D) → ∀ (k : Int) (D : DT), Rep T k D → wayC (cntR C r) k = cntD D := by
  intro r
  induction r with
  | nil =>
    intro C hr hC k D h
    have hl : T.length ≤ C.length := by
      have := congrArg List.length hr
      simp at this
      omega
    rw [cntR]
    unfold wayC
    by_cases hk : k = -1
    · rw [if_pos hk]
      rw [hk] at h
      rw [h.neg]
      rfl
    · rw [if_neg hk]
      have := h.lo
      exact hC k.toNat (by omega) D (by rw [Int.toNat_of_nonneg (by omega)]; exact h)
  | cons b r ih =>
    intro C hr hC
    have hlen : C.length < T.length := by
      have := congrArg List.length hr
      simp at this
      omega
    have hb : T[C.length]? = some b := by
      have := congrArg (·[0]?) hr
      simpa using this
    have hdn := hd _ _ hb
    have sub : ∀ (k : Int) (D : DT), -1 ≤ k → k < C.length → Rep T k D → wayC C k = cntD D := fun k D h1 h2 h => by
      unfold wayC
      by_cases hk : k = -1
      · rw [if_pos hk]
        rw [hk] at h
        rw [h.neg]
        rfl
      · rw [if_neg hk]
        exact hC k.toNat (by omega) D (by rw [Int.toNat_of_nonneg (by omega)]; exact h)
    rw [cntR]
    refine ih _ (by rw [List.length_append, List.length_singleton, ← List.drop_drop, hr]; rfl) fun i hi D h => ?_
    by_cases hil : i < C.length
    · rw [← hC i hil D h]
      simp only [List.getD_eq_getElem?_getD]
      rw [List.getElem?_append_left hil]
    · have : i = C.length := by simp at hi; omega
      subst this
      obtain ⟨b', n, y, e1, rn, ry, rfl⟩ := h.inv
      rw [hb] at e1
      injection e1 with e1
      subst e1
      rw [cntD, sub _ _ hdn.1.1 hdn.1.2 rn, sub _ _ hdn.2.1 hdn.2.2 ry]
      simp
def waysM (C : List Int) : Int → Option Value := fun k => if k = -1 then some (.int .i64 1) else if 0 ≤ k ∧ k < C.length then some (.int .i64 (C.getD k.toNat 0)) else none
theorem waysM_get {C : List Int} {k : Int} (h1 : -1 ≤ k) (h2 : k < C.length) : (waysM C k).getD (.int .i64 0) = .int .i64 (wayC C k) := by
  unfold waysM wayC
  by_cases hk : k = -1
  · rw [if_pos hk, if_pos hk]; rfl
  · rw [if_neg hk, if_neg hk, if_pos (by omega)]; rfl
theorem waysM_put (C : List Int) (x : Int) : ∀ k, (if k = (C.length : Int) then some (Value.int .i64 x) else waysM C k) = waysM (C ++ [x]) k := fun k => by
  unfold waysM
  by_cases hk : k = (C.length : Int)
  · subst hk
    rw [if_pos rfl, if_neg (by omega), if_pos (by simp; omega)]
    simp
  · rw [if_neg hk]
    by_cases h1 : k = -1
    · rw [if_pos h1, if_pos h1]
    · rw [if_neg h1, if_neg h1]
      by_cases h2 : 0 ≤ k ∧ k < C.length
      · rw [if_pos h2, if_pos (by simp; omega)]
        simp only [List.getD_eq_getElem?_getD]
        rw [List.getElem?_append_left (by omega)]
      · rw [if_neg h2, if_neg (by simp; omega)]
theorem waysM_nil : ∀ k, (if k = (-1 : Int) then some (Value.int .i64 1) else none) = waysM [] k := fun k => by
  unfold waysM
  by_cases h1 : k = -1
  · rw [if_pos h1, if_pos h1]
  · rw [if_neg h1, if_neg h1, if_neg (by simp)]
def pthR (r : Option Int) : Int × Int := match r with
  | none => (0, 200)
  | some x => (x, 0)
set_option maxRecDepth 100000 in
set_option maxHeartbeats 1000000 in
theorem paths_any (T : List Brn) (TA : Option Addr) (tn tc : Nat) (k : Int) (os : List Opt) (A : Option Addr) (n c : Nat) (w : World)
    (hT : RA brnCells 5 w w.heap.size TA tn tc T) (hO : Ops w w.heap.size A n c os) :
    Calls Try.prog 22 #[.agg #[.int .i64 k, .slice TA tn tc], .slice A n c] w fun e w' => e = .returned (.tuple #[.int .i64 (pthR (pathsP (opsP os) T k)).1, .int .i64 (pthR (pathsP (opsP os) T k)).2]) ∧ Ext w w' := by
  have hval := fun (W : World) (hx : Ext w W) => valid_any T TA tn tc k os A n c W (ra_ext hT hx) (hO.ext hx)
  have hfac := fun (h : validP (opsP os) T k = true) => valid_facts h
  obtain ⟨R, hR⟩ : ∃ R, R = pathsP (opsP os) T k := ⟨_, rfl⟩
  rw [← hR]
  unfold pathsP at hR
  generalize validP (opsP os) T k = vv at hval hfac hR
  have HV := Lib.hid hval
  have HFAC := Lib.hid hfac
  have HR := Lib.hid hR
  have HT := Lib.hid hT
  have htl := hT.len
  have HTL := Lib.hid htl
  clear hval hfac hR hT hO htl
  go_enter Try.func22, Try.ntmps22
  go_wp2_with fail
  have hx : Ext w (w.alloc (.cells #[.int .i64 k, .slice TA tn tc] 33)) := bl_alloc (Below.refl _ _) _
  have J1 := Blk.new w 33 #[.int .i64 k, .slice TA tn tc]
  generalize w.heap.size = gb at J1 ⊢
  generalize w.alloc (.cells #[.int .i64 k, .slice TA tn tc] 33) = W1 at hx J1 ⊢
  have hc := HV.out W1 hx
  refine hc.mono ?_
  clear hc HV
  rintro e W2 ⟨rfl, hy⟩
  have hx2 := Ext.trans hx hy
  have J2 := J1.ext hy
  clear hx hy J1
  cases vv
  · obtain rfl : R = none := by rw [HR.out]; rfl
    go_wp2
    exact bodyPost_ret (v := .tuple #[.int .i64 0, .int .i64 200]) (by simp [results, Try.results22, go_sem]) rfl ⟨rfl, hx2⟩
  · have hfc := HFAC.out rfl
    have hRs : R = some (cntD (unf T k)) := by rw [HR.out]; rfl
    obtain ⟨Y, hY⟩ : ∃ Y, Y = cntD (unf T k) := ⟨_, rfl⟩
    rw [← hY] at hRs
    subst hRs
    have HY := Lib.hid hY
    have HFC := Lib.hid hfc
    have ht15 := hfc.2.1
    rw [HTL.out] at ht15
    have hmm : (Instr.makeMap 95 none).run Try.prog W2 = .ok (.map (some W2.heap.size)) (W2.alloc (.map #[] 0)) := by simp [Instr.makeMap]
    have hxm : Ext W2 (W2.alloc (.map #[] 0)) := bl_alloc (Below.refl _ _) _
    have M0 := MapI.new W2
    obtain ⟨Wb, hub, hmb, hgrb⟩ := M0.update (P := Try.prog) (t := 95) Try.underlying95 Try.underlying3 (-1) (.int .i64 1)
    have hgw : w.heap.size ≤ W2.heap.size := Below.size hx2
    have hgbm : gb < W2.heap.size := J2.lt
    have Jb : Blk Wb gb 33 #[.int .i64 k, .slice TA tn tc] := (J2.ext hxm).grown hgrb (fun e => by injection e with e; omega)
    have hxb : Ext w Wb := (Ext.trans hx2 hxm).grown hgrb (Below.size (Ext.trans hx2 hxm)) (fun q e => by injection e with e; omega)
    have hmb2 : MapI Wb W2.heap.size (waysM []) := hmb.congr waysM_nil
    generalize W2.heap.size = gm at hmm hub hgrb hgw hgbm hmb2 ⊢
    have HUB := Lib.hid hub
    have HM := Lib.hid hmb2
    obtain ⟨XC, hxc⟩ : ∃ XC : Array Value, XC = #[.int .i64 k, .slice TA tn tc] := ⟨_, rfl⟩
    have HXC := Lib.hid hxc
    have HJ := Lib.hid (hxc ▸ Jb : Blk Wb gb 33 XC)
    clear hxc
    have b1 : Wb.cell? ⟨gb, 1, none⟩ = some (.slice TA tn tc) := Jb.cell 1
    clear hY hfc M0 hub hmb hgrb hmb2 Jb HR HFAC hx2 J2 hxm
    go_upto_region 4 with (refine wpList_insert_run rfl _ _ _ _ rfl rfl rfl rfl HUB.out ?_)
    clear hmm HUB
    go_wp2_with fail
    clear b1
    obtain ⟨F, hF⟩ : ∃ F, F = cntR [] T := ⟨_, rfl⟩
    have HF := Lib.hid hF
    have HF0 : Hid (cntR [] (T.drop 0) = F) := Lib.hid (by rw [hF]; rfl)
    clear hF
    go_loopw [18] (fun x wr => ∃ (j : Nat) (C : List Int), j ≤ tn ∧ x = .int .i64 j ∧ C.length = j ∧ Hid (cntR C (T.drop j) = F) ∧ Hid (MapI wr gm (waysM C)) ∧ Hid (Blk wr gb 33 XC) ∧ Ext w wr) (fun x _ => tn - (intOf x).toNat)
    case atStart => exact ⟨0, [], Nat.zero_le _, rfl, rfl, HF0, HM, HJ, hxb⟩
    case round =>
      clear HF0 HM HJ hxb
      obtain ⟨j, C, hj, rfl, hcl, HC, HMR, HJR, hxq⟩ := hrel
      by_cases hjt : j < tn
      · obtain ⟨b, o, hz, hA, _, hcell⟩ := (ra_ext HT.out hxq).at_ brn_len hjt
        have hc := HC.out
        rw [List.drop_eq_getElem_cons hz, cntR] at hc
        have hdn := HFC.out.1 _ _ (List.getElem?_eq_getElem hz)
        generalize T[j] = br at hcell hc hdn
        obtain ⟨bat, bopt, bslot, byes, bno⟩ := br
        dsimp only at hdn hc
        have a0 : wr.cell? ⟨b, o + j * 5, none⟩ = some (.int .i64 bat) := hcell 0 (by omega)
        have a1 : wr.cell? ⟨b, o + j * 5 + 1, none⟩ = some (.int .i64 bopt) := hcell 1 (by omega)
        have a2 : wr.cell? ⟨b, o + j * 5 + 2, none⟩ = some (.int .i64 bslot) := hcell 2 (by omega)
        have a3 : wr.cell? ⟨b, o + j * 5 + 3, none⟩ = some (.int .i64 byes) := hcell 3 (by omega)
        have a4 : wr.cell? ⟨b, o + j * 5 + 4, none⟩ = some (.int .i64 bno) := hcell 4 (by omega)
        have hjz : (j : Int) < (tn : Int) := by omega
        have hx5 : Ext wr (wr.alloc (.cells #[.int .i64 bat, .int .i64 bopt, .int .i64 bslot, .int .i64 byes, .int .i64 bno] 30)) := bl_alloc (Below.refl _ _) _
        have J5 := Blk.new wr 30 #[.int .i64 bat, .int .i64 bopt, .int .i64 bslot, .int .i64 byes, .int .i64 bno]
        subst hA
        have HC2 := Lib.hid hc
        clear hcell hz hc HC
        go_upto_region 7 with (fail)
        have hgm5 : gm < wr.heap.size := HMR.out.lt
        generalize wr.heap.size = g5 at J5 hgm5 ⊢
        generalize wr.alloc (.cells #[.int .i64 bat, .int .i64 bopt, .int .i64 bslot, .int .i64 byes, .int .i64 bno] 30) = W5 at hx5 J5 ⊢
        have d3 : W5.cell? ⟨g5, 3, none⟩ = some (.int .i64 byes) := J5.cell 3
        have d4 : W5.cell? ⟨g5, 4, none⟩ = some (.int .i64 bno) := J5.cell 4
        have hM5 := HMR.out.ext hx5
        have l1 := hM5.look (P := Try.prog) (t := 95) Try.underlying95 Try.underlying3 (zero_int W5) bno
        have l2 := hM5.look (P := Try.prog) (t := 95) Try.underlying95 Try.underlying3 (zero_int W5) byes
        rw [waysM_get hdn.1.1 (by omega)] at l1
        rw [waysM_get hdn.2.1 (by omega)] at l2
        generalize wayC C bno = x1 at l1 HC2
        generalize wayC C byes = x2 at l2 HC2
        obtain ⟨W6, hu6, hm6, hg6⟩ := hM5.update (P := Try.prog) (t := 95) Try.underlying95 Try.underlying3 (j : Int) (.int .i64 (wrap64 (x1 + x2)))
        have hm7 : MapI W6 gm (waysM (C ++ [wrap64 (x1 + x2)])) := hm6.congr (by subst hcl; exact waysM_put C _)
        have hx6 : Ext w W6 := (Ext.trans hxq hx5).grown hg6 (Below.size (Ext.trans hxq hx5)) (fun q e => by injection e with e; omega)
        have j6 : Blk W6 gb 33 XC := (HJR.out.ext hx5).grown hg6 (fun e => by injection e with e; omega)
        have hcl2 : (C ++ [wrap64 (x1 + x2)]).length = j + 1 := by simp [hcl]
        generalize C ++ [wrap64 (x1 + x2)] = C2 at HC2 hm7 hcl2
        have HU := Lib.hid hu6
        have HM7 := Lib.hid hm7
        have HJ6 := Lib.hid j6
        clear hM5 hu6 hm6 hm7 j6 hg6 a0 a1 a2 a3 a4 J5 hx5 hxq HMR HJR hdn hcl
        go_upto_region 8 with (refine wpList_mapUpdate_run rfl _ _ _ _ rfl rfl rfl rfl HU.out ?_)
        go_wp2_with fail
        go_roundw
        case rel => exact ⟨j + 1, C2, by omega, by go_num, hcl2, HC2, HM7, HJ6, hx6⟩
        case measure => simp [intOf]; omega
      · have hCF : C = F := by have := HC.out; rwa [List.drop_of_length_le (by rw [HTL.out]; omega)] at this
        have hyc : wayC F k = Y := by rw [HY.out, HF.out]; exact cnt_rep HFC.out.1 T [] rfl (fun i hi => by simp at hi) k _ HFC.out.2.2.2.2.1
        have b0 : wr.cell? ⟨gb, 0, none⟩ = some (.int .i64 k) := by have h := HJR.out.cell 0; rw [HXC.out] at h; exact h
        have l1 := HMR.out.look (P := Try.prog) (t := 95) Try.underlying95 Try.underlying3 (zero_int wr) k
        rw [waysM_get HFC.out.2.2.1 (by have := HFC.out.2.2.2.1; have := HTL.out; omega), hCF, hyc] at l1
        have hjz : ¬ (j : Int) < (tn : Int) := by omega
        clear hCF hyc HC
        go_wp2
        exact bodyPost_ret (v := .tuple #[.int .i64 Y, .int .i64 0]) (by simp [results, Try.results22, go_sem]) rfl ⟨rfl, hxq⟩
end Go.Proofs.Ytikphbgfcpamgaa
namespace Go.Proofs.Ytikphbgfcpamgaa
open Go.RowKit

def exL : List Op := [⟨0, 0, 0, 5, 1, [⟨1, 10, 12⟩, ⟨2, 30, 32⟩]⟩, ⟨1, 0, 5, 8, 1, [⟨1, 20, 22⟩]⟩]
def exT : List Brn := [⟨30, 0, 1, -1, -1⟩, ⟨20, 1, 0, 0, 0⟩, ⟨20, 1, 0, -1, -1⟩, ⟨10, 0, 0, 2, 1⟩]
def exP : List Brn := [⟨20, 1, 0, -1, -1⟩]
def exA : List Ack := [⟨0, 0, false⟩, ⟨1, 0, false⟩, ⟨0, 1, true⟩]
theorem ev_build : buildP exL = (exT, 3, 0) := by decide +kernel
theorem ev_twice : buildP (exL ++ [⟨0, 0, 0, 5, 1, [⟨1, 10, 12⟩, ⟨2, 30, 32⟩]⟩]) = ([], 0, 200) := by decide +kernel
theorem ev_fol : folP exL exT 3 [1] = some exA := by decide +kernel
theorem ev_del1 : delP (folP exL exT 3 [1]) = (1, 0) := by decide +kernel
theorem ev_del2 : delP (folP exL exT 3 []) = (3, 0) := by decide +kernel
theorem ev_paths : pathsP exL exT 3 = some 6 := by decide +kernel
theorem ev_prune : prunP exL exT 3 [⟨0, 0, true⟩] = some (exP, 0) := by decide +kernel
theorem ev_none : prunP exL exT 3 [⟨1, 0, false⟩] = none := by decide +kernel
theorem ev_valid : validP exL exT 3 = true := by decide +kernel
theorem ev_valid0 : validP exL [] 0 = false := by decide +kernel
theorem ev_same : decide ((3 : Int) = 3 ∧ exT = exT) = true := by decide +kernel
theorem ev_same2 : decide ((0 : Int) = 0 ∧ exP = exP) = true := by decide +kernel
theorem ev_diff : decide ((3 : Int) = 0 ∧ exT = exP) = false := by decide +kernel
end Go.Proofs.Ytikphbgfcpamgaa
namespace Go.Proofs.Ytikphbgfcpamgaa
open Go.RowKit

set_option maxRecDepth 100000 in
set_option maxHeartbeats 800000 in
theorem rfreed_any (o : Opt) (w : World) (hr : RA sltCells 3 w w.heap.size o.a o.n o.c o.l) :
    Calls Try.prog 59 #[.agg (optCells o).toArray, .int .i64 ((o.n : Int) - 1)] w (WorstRet (errW (canP o.op)) w) := by
  have HCAN := Lib.hid (fun (W : World) (hx : Ext w W) => rcan_any o W (ra_ext hr hx))
  have hn0 : canP o.op = true → 0 < o.n := by
    intro h
    have hl := hr.len
    have := can_chain h
    unfold Opt.op at this
    dsimp only at this
    omega
  have hle := hr.le
  obtain ⟨id, i1, i2, sat, sf, st, i6, size, a, n, c, l⟩ := o
  dsimp only at hr hn0 hle
  generalize canP (Opt.op ⟨id, i1, i2, sat, sf, st, i6, size, a, n, c, l⟩) = cv at HCAN hn0 ⊢
  change Hid (∀ (W : World), Ext w W → Calls Try.prog 65 #[.agg #[.int .i64 id, .int .i64 i1, .int .i64 i2, .int .i64 sat, .int .i64 sf, .int .i64 st, .int .i64 i6, .int .i64 size, .slice a n c]] W fun e w' => e = .returned (.bool cv) ∧ Ext W w') at HCAN
  show Calls Try.prog 59 #[.agg #[.int .i64 id, .int .i64 i1, .int .i64 i2, .int .i64 sat, .int .i64 sf, .int .i64 st, .int .i64 i6, .int .i64 size, .slice a n c], .int .i64 ((n : Int) - 1)] w _
  have hw1 : IntKind.i64.wrap ((n : Int) - 1) = (n : Int) - 1 := IntWalk.i64_in _ (by omega)
  cases cv
  · clear hr hn0 hle
    show Calls _ _ _ _ (WorstRet 110 w)
    go_enter Try.func59, Try.ntmps59
    go_wp2_with fail
    have J1 : OBlk (w.alloc (.cells #[.int .i64 id, .int .i64 i1, .int .i64 i2, .int .i64 sat, .int .i64 sf, .int .i64 st, .int .i64 i6, .int .i64 size, .slice a n c] 27)) w.heap.size id i1 i2 sat sf st i6 size a n c := Blk.new _ _ _
    have J1 := J1.alloc (.cells #[.int .i64 0, .int .i64 0, .int .i64 0, .int .i64 0] 101)
    have J2 := Blk.new_at (g := w.heap.size + 1) (w.alloc (.cells #[.int .i64 id, .int .i64 i1, .int .i64 i2, .int .i64 sat, .int .i64 sf, .int .i64 st, .int .i64 i6, .int .i64 size, .slice a n c] 27)) 101 #[.int .i64 0, .int .i64 0, .int .i64 0, .int .i64 0] (by simp)
    have hx1 : Ext w ((w.alloc (.cells #[.int .i64 id, .int .i64 i1, .int .i64 i2, .int .i64 sat, .int .i64 sf, .int .i64 st, .int .i64 i6, .int .i64 size, .slice a n c] 27)).alloc (.cells #[.int .i64 0, .int .i64 0, .int .i64 0, .int .i64 0] 101)) := (by repeat (first | exact Below.refl _ _ | assumption | refine Below.drew ?_ | refine below_drewN ?_ _ | refine bl_alloc ?_ _ | refine Below.setCell ?_ (by first | (simp; done) | omega | (simp; omega)) _ | refine bl_then ?_ (by assumption)))
    generalize (w.alloc (.cells #[.int .i64 id, .int .i64 i1, .int .i64 i2, .int .i64 sat, .int .i64 sf, .int .i64 st, .int .i64 i6, .int .i64 size, .slice a n c] 27)).alloc (.cells #[.int .i64 0, .int .i64 0, .int .i64 0, .int .i64 0] 101) = W1 at J1 J2 hx1 ⊢
    have hgw : w.heap.size ≤ w.heap.size + 1 := by omega
    have hc := HCAN.out _ hx1
    clear HCAN
    refine hc.mono ?_
    clear hc
    rintro e w3 ⟨rfl, hy⟩
    have hx := Ext.trans hx1 hy
    have J1 := J1.ext hy
    have J2 := J2.ext hy
    generalize w.heap.size + 1 = g2 at J2 hgw ⊢
    generalize hg1 : w.heap.size = g1 at J1 hgw ⊢
    have HG1 := Lib.hid hg1
    have q0 : w3.cell? ⟨g2, 0, none⟩ = some (.int .i64 0) := J2.cell 0
    have q1 : w3.cell? ⟨g2, 1, none⟩ = some (.int .i64 0) := J2.cell 1
    have q2 : w3.cell? ⟨g2, 2, none⟩ = some (.int .i64 0) := J2.cell 2
    have q3 : w3.cell? ⟨g2, 3, none⟩ = some (.int .i64 0) := J2.cell 3
    have f0 := J2.frozen 0
    have f1 := J2.frozen 1
    have f2 := J2.frozen 2
    have f3 := J2.frozen 3
    clear hy hx1 hg1
    go_wp2
    have hx3 : Ext w ((((w3.setCell ⟨g2, 0, none⟩ (.int .i64 0)).setCell ⟨g2, 1, none⟩ (.int .i64 0)).setCell ⟨g2, 2, none⟩ (.int .i64 0)).setCell ⟨g2, 3, none⟩ (.int .i64 0)) := by
      have := HG1.out
      subst this
      exact (((hx.setCell hgw _).setCell hgw _).setCell hgw _).setCell hgw _
    exact bodyPost_ret (results_rt Try.results59 _ _ g2 _ _ rfl rfl (J2.set4 (.int .i64 0) (.int .i64 0) (.int .i64 0) (.int .i64 0)) _ Try.underlying101 rfl sto_size) rfl ⟨_, _, _, _, rfl, hx3⟩
  · show Calls _ _ _ _ (WorstRet 0 w)
    obtain ⟨k, hk⟩ : ∃ k : Nat, (n : Int) - 1 = (k : Int) := ⟨n - 1, by have := hn0 rfl; omega⟩
    have hkn : k < n := by omega
    obtain ⟨b, off, hz, hA, _, hcell⟩ := hr.at_ slt_len hkn
    generalize l[k] = s at hcell
    obtain ⟨p, fr, tt⟩ := s
    have c2 : w.cell? ⟨b, off + k * 3 + 2, none⟩ = some (.int .i64 tt) := hcell 2 (by omega)
    have c1 : w.cell? ⟨b, off + k * 3 + 1, none⟩ = some (.int .i64 fr) := hcell 1 (by omega)
    have c0 : w.cell? ⟨b, off + k * 3, none⟩ = some (.int .i64 p) := hcell 0 (by omega)
    have hk2 : (k : Int) < (n : Int) := by omega
    replace hw1 : IntKind.i64.wrap ((n : Int) - 1) = (k : Int) := hw1.trans hk
    rw [hk]
    subst hA
    clear hr hcell hz hk hn0 hle
    go_enter Try.func59, Try.ntmps59
    go_wp2_with fail
    have J1 : OBlk (w.alloc (.cells #[.int .i64 id, .int .i64 i1, .int .i64 i2, .int .i64 sat, .int .i64 sf, .int .i64 st, .int .i64 i6, .int .i64 size, .slice (some ⟨b, off, none⟩) n c] 27)) w.heap.size id i1 i2 sat sf st i6 size (some ⟨b, off, none⟩) n c := Blk.new _ _ _
    have J1 := J1.alloc (.cells #[.int .i64 0, .int .i64 0, .int .i64 0, .int .i64 0] 101)
    have J2 := Blk.new_at (g := w.heap.size + 1) (w.alloc (.cells #[.int .i64 id, .int .i64 i1, .int .i64 i2, .int .i64 sat, .int .i64 sf, .int .i64 st, .int .i64 i6, .int .i64 size, .slice (some ⟨b, off, none⟩) n c] 27)) 101 #[.int .i64 0, .int .i64 0, .int .i64 0, .int .i64 0] (by simp)
    have hx1 : Ext w ((w.alloc (.cells #[.int .i64 id, .int .i64 i1, .int .i64 i2, .int .i64 sat, .int .i64 sf, .int .i64 st, .int .i64 i6, .int .i64 size, .slice (some ⟨b, off, none⟩) n c] 27)).alloc (.cells #[.int .i64 0, .int .i64 0, .int .i64 0, .int .i64 0] 101)) := (by repeat (first | exact Below.refl _ _ | assumption | refine Below.drew ?_ | refine below_drewN ?_ _ | refine bl_alloc ?_ _ | refine Below.setCell ?_ (by first | (simp; done) | omega | (simp; omega)) _ | refine bl_then ?_ (by assumption)))
    generalize (w.alloc (.cells #[.int .i64 id, .int .i64 i1, .int .i64 i2, .int .i64 sat, .int .i64 sf, .int .i64 st, .int .i64 i6, .int .i64 size, .slice (some ⟨b, off, none⟩) n c] 27)).alloc (.cells #[.int .i64 0, .int .i64 0, .int .i64 0, .int .i64 0] 101) = W1 at J1 J2 hx1 ⊢
    have hgw : w.heap.size ≤ w.heap.size + 1 := by omega
    have hc := HCAN.out _ hx1
    clear HCAN
    refine hc.mono ?_
    clear hc
    rintro e w3 ⟨rfl, hy⟩
    have hx := Ext.trans hx1 hy
    have J1 := J1.ext hy
    have J2 := J2.ext hy
    generalize w.heap.size + 1 = g2 at J2 hgw ⊢
    generalize hg1 : w.heap.size = g1 at J1 hgw ⊢
    have HG1 := Lib.hid hg1
    have q0 : w3.cell? ⟨g2, 0, none⟩ = some (.int .i64 0) := J2.cell 0
    have q1 : w3.cell? ⟨g2, 1, none⟩ = some (.int .i64 0) := J2.cell 1
    have q2 : w3.cell? ⟨g2, 2, none⟩ = some (.int .i64 0) := J2.cell 2
    have q3 : w3.cell? ⟨g2, 3, none⟩ = some (.int .i64 0) := J2.cell 3
    have f0 := J2.frozen 0
    have f1 := J2.frozen 1
    have f2 := J2.frozen 2
    have f3 := J2.frozen 3
    clear hy hx1 hg1
    have c0 := ext_cell hx c0
    have c1 := ext_cell hx c1
    have c2 := ext_cell hx c2
    have d0 : w3.cell? ⟨g1, 0, none⟩ = some (.int .i64 id) := J1.cell 0
    have d4 : w3.cell? ⟨g1, 4, none⟩ = some (.int .i64 sf) := J1.cell 4
    have d6 : w3.cell? ⟨g1, 7, none⟩ = some (.int .i64 size) := J1.cell 7
    have d8 : w3.cell? ⟨g1, 8, none⟩ = some (.slice (some ⟨b, off, none⟩) n c) := J1.cell 8
    go_wp2_with fail
    go_region
    have J3 := J2.set4 (.int .i64 id) (.int .i64 size) (.int .i64 sf) (.int .i64 tt)
    have hx3 : Ext w ((((w3.setCell ⟨g2, 0, none⟩ (.int .i64 id)).setCell ⟨g2, 1, none⟩ (.int .i64 size)).setCell ⟨g2, 2, none⟩ (.int .i64 sf)).setCell ⟨g2, 3, none⟩ (.int .i64 tt)).drew := by
      have := HG1.out
      subst this
      exact ((((hx.setCell hgw _).setCell hgw _).setCell hgw _).setCell hgw _).drew
    generalize (((w3.setCell ⟨g2, 0, none⟩ (.int .i64 id)).setCell ⟨g2, 1, none⟩ (.int .i64 size)).setCell ⟨g2, 2, none⟩ (.int .i64 sf)).setCell ⟨g2, 3, none⟩ (.int .i64 tt) = W5 at J3 hx3 ⊢
    have J3 := J3.drew
    generalize W5.drew = W6 at J3 hx3 ⊢
    go_wp2
    exact bodyPost_ret (results_rt Try.results59 _ _ g2 _ _ rfl rfl J3 _ Try.underlying101 rfl sto_size) rfl ⟨_, _, _, _, rfl, hx3⟩
set_option maxRecDepth 100000 in
set_option maxHeartbeats 800000 in
theorem rworst_any (o : Opt) (w : World) (hr : RA sltCells 3 w w.heap.size o.a o.n o.c o.l) :
    Calls Try.prog 50 #[.agg (optCells o).toArray] w (WorstRet (errW (canP o.op)) w) := by
  have hle := hr.le
  have HFR := Lib.hid (fun (W : World) (hx : Ext w W) => rfreed_any o W (ra_ext hr hx))
  obtain ⟨id, i1, i2, sat, sf, st, i6, size, a, n, c, l⟩ := o
  dsimp only at hle
  generalize errW (canP (Opt.op ⟨id, i1, i2, sat, sf, st, i6, size, a, n, c, l⟩)) = ev at HFR ⊢
  change Hid (∀ (W : World), Ext w W → Calls Try.prog 59 #[.agg #[.int .i64 id, .int .i64 i1, .int .i64 i2, .int .i64 sat, .int .i64 sf, .int .i64 st, .int .i64 i6, .int .i64 size, .slice a n c], .int .i64 ((n : Int) - 1)] W (WorstRet ev W)) at HFR
  show Calls Try.prog 50 #[.agg #[.int .i64 id, .int .i64 i1, .int .i64 i2, .int .i64 sat, .int .i64 sf, .int .i64 st, .int .i64 i6, .int .i64 size, .slice a n c]] w _
  have hw1 : IntKind.i64.wrap ((n : Int) - 1) = (n : Int) - 1 := IntWalk.i64_in _ (by omega)
  clear hr hle
  go_enter Try.func50, Try.ntmps50
  go_wp2_with fail
  have J1 : OBlk (w.alloc (.cells #[.int .i64 id, .int .i64 i1, .int .i64 i2, .int .i64 sat, .int .i64 sf, .int .i64 st, .int .i64 i6, .int .i64 size, .slice a n c] 27)) w.heap.size id i1 i2 sat sf st i6 size a n c := Blk.new _ _ _
  have J1 := J1.alloc (.cells #[.int .i64 0, .int .i64 0, .int .i64 0, .int .i64 0] 101)
  have J2 := Blk.new_at (g := w.heap.size + 1) (w.alloc (.cells #[.int .i64 id, .int .i64 i1, .int .i64 i2, .int .i64 sat, .int .i64 sf, .int .i64 st, .int .i64 i6, .int .i64 size, .slice a n c] 27)) 101 #[.int .i64 0, .int .i64 0, .int .i64 0, .int .i64 0] (by simp)
  have hx1 : Ext w ((w.alloc (.cells #[.int .i64 id, .int .i64 i1, .int .i64 i2, .int .i64 sat, .int .i64 sf, .int .i64 st, .int .i64 i6, .int .i64 size, .slice a n c] 27)).alloc (.cells #[.int .i64 0, .int .i64 0, .int .i64 0, .int .i64 0] 101)) := (by repeat (first | exact Below.refl _ _ | assumption | refine Below.drew ?_ | refine below_drewN ?_ _ | refine bl_alloc ?_ _ | refine Below.setCell ?_ (by first | (simp; done) | omega | (simp; omega)) _ | refine bl_then ?_ (by assumption)))
  generalize (w.alloc (.cells #[.int .i64 id, .int .i64 i1, .int .i64 i2, .int .i64 sat, .int .i64 sf, .int .i64 st, .int .i64 i6, .int .i64 size, .slice a n c] 27)).alloc (.cells #[.int .i64 0, .int .i64 0, .int .i64 0, .int .i64 0] 101) = W1 at J1 J2 hx1 ⊢
  have hgw : w.heap.size ≤ w.heap.size + 1 := by omega
  have hc := HFR.out _ hx1
  clear HFR
  refine hc.mono ?_
  clear hc
  rintro e w3 ⟨s0, s1, s2, s3, rfl, hy⟩
  have hx := Ext.trans hx1 hy
  have J2 := J2.ext hy
  generalize w.heap.size + 1 = g2 at J2 hgw ⊢
  have q0 : w3.cell? ⟨g2, 0, none⟩ = some (.int .i64 0) := J2.cell 0
  have q1 : w3.cell? ⟨g2, 1, none⟩ = some (.int .i64 0) := J2.cell 1
  have q2 : w3.cell? ⟨g2, 2, none⟩ = some (.int .i64 0) := J2.cell 2
  have q3 : w3.cell? ⟨g2, 3, none⟩ = some (.int .i64 0) := J2.cell 3
  have f0 := J2.frozen 0
  have f1 := J2.frozen 1
  have f2 := J2.frozen 2
  have f3 := J2.frozen 3
  clear hy hx1
  go_wp2
  have hx3 : Ext w ((((w3.setCell ⟨g2, 0, none⟩ (.int .i64 s0)).setCell ⟨g2, 1, none⟩ (.int .i64 s1)).setCell ⟨g2, 2, none⟩ (.int .i64 s2)).setCell ⟨g2, 3, none⟩ (.int .i64 s3)) := (((hx.setCell hgw _).setCell hgw _).setCell hgw _).setCell hgw _
  exact bodyPost_ret (results_rt Try.results50 _ _ g2 _ _ rfl rfl (J2.set4 (.int .i64 s0) (.int .i64 s1) (.int .i64 s2) (.int .i64 s3)) _ Try.underlying101 rfl sto_size) rfl ⟨_, _, _, _, rfl, hx3⟩
end Go.Proofs.Ytikphbgfcpamgaa
