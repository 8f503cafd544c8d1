/- The region rule inside a round of a range over a function (printed by mk_reg6.py). -/
import Derived.Test.YtikphbgfcpamgaaP25
import Derived.ArgAppend
import Derived.Test.YtikphbgfcpamgaaP03
import Derived.Test.YtikphbgfcpamgaaP21
import Derived.Test.YtikphbgfcpamgaaP06
import Derived.RangeFuncNested
import Derived.RangeFuncCalls
import Derived.OrdersIn
import Derived.OwnWalkIn
namespace Go.Proofs.Ytikphbgfcpamgaa
open Go.RowKit Go.Shelf
attribute [local go_sem] Oper.semAt_some

def lostR : Int → List Int → Bool
  | _, [] => true
  | e, p :: r => inB p 0 63 && decide (e < p) && lostR p r
def lostP (l : List Int) : Bool := lostR (-1) l
def prvL (l : List Int) : Nat → Int
  | 0 => -1
  | j + 1 => l.getD j 0
theorem prvL_succ {l : List Int} {j : Nat} {p : Int} (h : l[j]? = some p) : prvL l (j + 1) = p := by
  show l.getD j 0 = p
  rw [List.getD_eq_getElem?_getD, h]
  rfl
def folP (l : List Op) (T : List Brn) (k : Int) (lost : List Int) : Option (List Ack) := if (validP l T k && lostP lost) = true then some (folD (qP l lost) (unf T k)) else none
def AcksRet (r : Option (List Ack)) (w : World) (e : Ending) (w' : World) : Prop := match r with
  | none => e = .returned (.tuple #[.slice none 0 0, .int .i64 200]) ∧ Ext w w'
  | some l => ∃ v, e = .returned (.tuple #[v, .int .i64 0]) ∧ w'.ownsRow w.heap.size 60 3 v l.length (l.flatMap ackCells) ∧ Ext w w'
theorem chk_slot {l : List Op} {T : List Brn} : ∀ (r : List Brn) (O : List Nat), chkR l T O r = true → ∀ b ∈ r, slotB l b = true := by
  intro r
  induction r with
  | nil => intro O _ b hb; cases hb
  | cons x r ih =>
    intro O h b hb
    rw [chkR, Bool.and_eq_true] at h
    rcases List.mem_cons.1 hb with rfl | hb
    · have h1 := h.1
      unfold okB at h1
      simp only [Bool.and_eq_true] at h1
      exact h1.1.1
    · exact ih _ h.2 b hb
structure FlI (w : World) (B0 gu : Nat) (pre : List (Ack × Int)) (W : World) : Prop where
  row : ∃ v, Blk W gu 35 #[v] ∧ W.ownsRow B0 60 3 v pre.length ((pre.map (·.1)).flatMap ackCells)
  below : Below w.heap.size w W
  size : B0 ≤ W.heap.size
theorem flI_own {w : World} {B0 gu : Nat} (h : w.heap.size ≤ B0) : OwnFrom B0 (FlI w B0 gu) := by
  rintro pre X Y row ⟨⟨v, k1, k2⟩, hb, hz⟩ hgr hr
  exact ⟨⟨v, blk_kept k1 hgr hr, own_kept k2 hgr hr⟩, hb.grown hgr hb.size (fun k e => Nat.le_trans h (hr k e).1), Nat.le_trans hz hgr.size⟩
theorem info_ack : (Try.prog.info? 60).map (fun i => (i.zero, i.size, i.bytes)) = some (some (.agg #[.int .i64 0, .int .i64 0, .bool false]), 3, 24) := by kernel_rfl
theorem valid_facts {l : List Op} {T : List Brn} {k : Int} (h : validP l T k = true) : Down T ∧ T.length ≤ 1500 ∧ -1 ≤ k ∧ k < T.length ∧ Rep T k (unf T k) ∧ bld [] (unf T k) = (T, k) ∧ (∀ b ∈ T, slotB l b = true) ∧ carP l = true := by
  unfold validP at h
  simp only [Bool.and_eq_true, decide_eq_true_eq] at h
  obtain ⟨⟨⟨⟨h1, h2⟩, h3⟩, h4⟩, h5⟩ := h
  have h3 := inB_iff.1 h3
  exact ⟨chk_down h4, h2, h3.1, by omega, unf_of (chk_down h4) h3.1 (by omega), h5, chk_slot T [] h4, h1⟩
set_option maxRecDepth 100000 in
set_option maxHeartbeats 2000000 in
theorem Follow_in (T : List Brn) (TA : Option Addr) (tn tc : Nat) (k : Int) (os : List Opt) (A : Option Addr) (n c : Nat) (LA : Option Addr) (ln lc : Nat) (lost : List Int) (w : World)
    (hT : RA brnCells 5 w w.heap.size TA tn tc T) (hO : Ops w w.heap.size A n c os) (hL : RA intCells 1 w w.heap.size LA ln lc lost) :
    CallsIn Fence.wide 10 Try.prog 24 #[.agg #[.int .i64 k, .slice TA tn tc], .slice A n c, .slice LA ln lc] w (AcksRet (folP (opsP os) T k lost) w) := by
  have hval := fun (W : World) (hx : Ext w W) => valid_any T TA tn tc k os A n c W (ra_ext hT hx) (hO.ext hx)
  have hfac := fun (h : validP (opsP os) T k = true) => valid_facts h
  obtain ⟨R, hR⟩ : ∃ R, R = folP (opsP os) T k lost := ⟨_, rfl⟩
  rw [← hR]
  unfold folP at hR
  generalize validP (opsP os) T k = vv at hval hfac hR
  have HV := Lib.hid hval
  have HFAC := Lib.hid hfac
  have HR := Lib.hid hR
  have HT := Lib.hid hT
  have HO := Lib.hid hO
  have HL := Lib.hid hL
  have hll := hL.len
  have hlle := hL.le
  have HLL := Lib.hid hll
  clear hval hfac hR hT hO hL hll
  refine callsIn_of_wp_marks Try.func24 rfl trivial ?_ rfl
  simp only [Try.ntmps24, List.size_toArray, List.length_cons, List.length_nil, Nat.reduceAdd, Nat.reduceSub, Array.replicate_succ, Array.replicate_zero, List.push_toArray, List.append_toArray, List.nil_append, List.cons_append]
  gi_wp2_with fail
  generalize hW0 : ((w.alloc (.cells #[.int .i64 k, .slice TA tn tc] 33)).alloc (.cells #[.slice A n c] 28)).alloc (.cells #[.slice LA ln lc] 34) = W0
  obtain ⟨gt, hgt⟩ : ∃ k, k = w.heap.size := ⟨_, rfl⟩
  obtain ⟨go, hgo⟩ : ∃ k, k = w.heap.size + 1 := ⟨_, rfl⟩
  obtain ⟨gl, hgl⟩ : ∃ k, k = w.heap.size + 1 + 1 := ⟨_, rfl⟩
  have Kgt : Blk W0 gt 33 #[.int .i64 k, .slice TA tn tc] := by subst hW0; exact ((Blk.new_at _ _ _ (by simp [hgt])).alloc _).alloc _
  have Kgo : Blk W0 go 28 #[.slice A n c] := by subst hW0; exact (Blk.new_at _ _ _ (by simp [hgo])).alloc _
  have Kgl : Blk W0 gl 34 #[.slice LA ln lc] := by subst hW0; exact Blk.new_at _ _ _ (by simp [hgl])
  have hB : Ext w W0 := by subst hW0; exact bl_alloc (bl_alloc (bl_alloc (Below.refl _ _) _) _) _
  rw [← hgl, ← hgo, ← hgt]
  have HGT := Lib.hid hgt
  have HGO := Lib.hid hgo
  have HGL := Lib.hid hgl
  clear hW0 hgt hgo hgl
  refine ⟨trivial, (callsIn_wide.2 (HV.out W0 hB)).mono ?_⟩
  rintro e W1 ⟨rfl, hx⟩
  have Kgt := Kgt.ext hx
  have Kgo := Kgo.ext hx
  have Kgl := Kgl.ext hx
  have hB := Ext.trans hB hx
  clear hx
  cases vv
  · obtain rfl : R = none := by rw [HR.out]; rfl
    gi_wp2_with fail
    exact ⟨.tuple #[.slice none 0 0, .int .i64 200], by simp [results, Try.results24, go_sem], ⟨rfl, hB⟩⟩
  · have hfc := HFAC.out rfl
    have HFC := Lib.hid hfc
    have c5 : W1.cell? ⟨gl, 0, none⟩ = some (.slice LA ln lc) := Kgl.cell 0
    clear hfc HFAC HV
    obtain ⟨LO, hlo⟩ : ∃ LO, LO = lostP lost := ⟨_, rfl⟩
    have hR2 : R = if LO = true then some (folD (qP (opsP os) lost) (unf T k)) else none := by rw [HR.out, hlo]; simp
    have HR2 := Lib.hid hR2
    have HLO0 : Hid (LO = lostR (prvL lost 0) (lost.drop 0)) := Lib.hid hlo
    have HIN := Lib.hid (fun (x : Int) (W : World) => isIn_any x 0 63 W)
    clear hR2 hlo HR
    gi_wp2_with fail
    gi_loopw [18] (fun v wr => ∃ j : Nat, j ≤ ln ∧ v = .int .i64 j ∧ Hid (LO = lostR (prvL lost j) (lost.drop j)) ∧ wr = W1) (fun v _ => ln - (intOf v).toNat)
    case atStart => exact ⟨0, Nat.zero_le _, rfl, HLO0, rfl⟩
    case round =>
      clear HLO0
      obtain ⟨j, hj, rfl, HLO, rfl⟩ := hrel
      by_cases hjl : j < ln
      · obtain ⟨b, o, hz, hA, _, hc⟩ := (ra_ext HL.out hB).at_ int_len hjl
        have hlj : lost[j]? = some lost[j] := List.getElem?_eq_getElem hz
        have hdr : lost.drop j = lost[j] :: lost.drop (j + 1) := List.drop_eq_getElem_cons hz
        have hstep := HLO.out
        rw [hdr, lostR] at hstep
        have hpv : prvL lost (j + 1) = lost[j] := prvL_succ hlj
        generalize lost[j] = p at hc hlj hstep hpv
        have a0 : wr.cell? ⟨b, o + j, none⟩ = some (.int .i64 p) := by have := hc 0 (by omega); rw [Nat.mul_one] at this; exact this
        have hjz : (j : Int) < (ln : Int) := by omega
        have HI := Lib.hid (HIN.out p)
        subst hA
        clear hc hdr hz hlj
        cases hin : inB p 0 63
        · have hLO : LO = false := by rw [hstep, hin]; rfl
          rw [hin] at HI
          obtain rfl : R = none := by rw [HR2.out, hLO]; rfl
          clear hstep hin hpv hLO
          gi_wp2_with fail
          refine ⟨trivial, (callsIn_wide.2 (HI.out _)).mono ?_⟩
          rintro e W2 ⟨rfl, rfl⟩
          gi_wp2_with fail
          exact ⟨.tuple #[.slice none 0 0, .int .i64 200], by simp [results, Try.results24, go_sem], ⟨rfl, hB⟩⟩
        · rw [hin] at HI
          rw [hin, Bool.true_and] at hstep
          by_cases hj0 : 0 < j
          · have hjz0 : (0 : Int) < (j : Int) := by omega
            obtain ⟨i, hi⟩ : ∃ i, j = i + 1 := ⟨j - 1, by omega⟩
            have hil : i < ln := by omega
            obtain ⟨b2, o2, hz2, hA2, _, hc2⟩ := (ra_ext HL.out hB).at_ int_len hil
            injection hA2 with hA2
            injection hA2 with q1 q2
            subst q1 q2
            have hpi : prvL lost j = lost[i] := by rw [hi]; exact prvL_succ (List.getElem?_eq_getElem hz2)
            generalize lost[i] = p0 at hc2 hpi
            have a1 : wr.cell? ⟨b, o + i, none⟩ = some (.int .i64 p0) := by have := hc2 0 (by omega); rw [Nat.mul_one] at this; exact this
            have hwj : IntKind.i64.wrap ((j : Int) - 1) = (i : Int) := by
              rw [show (j : Int) - 1 = (i : Int) by omega]
              exact IntWalk.i64_in _ (by omega)
            have hiz : (i : Int) < (ln : Int) := by omega
            rw [hpi] at hstep
            clear hc2 hpi hz2 hi hin
            by_cases hpp : p0 < p
            · have hle : decide (p ≤ p0) = false := by simpa using hpp
              rw [decide_eq_true hpp, Bool.true_and, ← hpv] at hstep
              have HS := Lib.hid hstep
              clear hstep hpv
              gi_wp2_with fail
              refine ⟨trivial, (callsIn_wide.2 (HI.out _)).mono ?_⟩
              rintro e W2 ⟨rfl, rfl⟩
              gi_wp2_with fail
              go_roundw
              case rel => exact ⟨j + 1, by omega, by go_num, HS, by first | rfl | trivial⟩
              case measure => simp [intOf]; omega
            · have hle : decide (p ≤ p0) = true := by simpa using hpp
              have hLO : LO = false := by rw [hstep, decide_eq_false hpp]; rfl
              obtain rfl : R = none := by rw [HR2.out, hLO]; rfl
              clear hstep hpv hLO
              gi_wp2_with fail
              refine ⟨trivial, (callsIn_wide.2 (HI.out _)).mono ?_⟩
              rintro e W2 ⟨rfl, rfl⟩
              gi_wp2_with fail
              exact ⟨.tuple #[.slice none 0 0, .int .i64 200], by simp [results, Try.results24, go_sem], ⟨rfl, hB⟩⟩
          · have hjn0 : ¬ (0 : Int) < (j : Int) := by omega
            have hpp : decide (prvL lost j < p) = true := by
              have := inB_iff.1 hin
              rw [show j = 0 by omega]
              exact decide_eq_true (by show (-1 : Int) < p; omega)
            rw [hpp, Bool.true_and, ← hpv] at hstep
            have HS := Lib.hid hstep
            clear hstep hin hpv hpp
            gi_wp2_with fail
            refine ⟨trivial, (callsIn_wide.2 (HI.out _)).mono ?_⟩
            rintro e W2 ⟨rfl, rfl⟩
            gi_wp2_with fail
            go_roundw
            case rel => exact ⟨j + 1, by omega, by go_num, HS, by first | rfl | trivial⟩
            case measure => simp [intOf]; omega
      · have hLO : LO = true := by rw [HLO.out, List.drop_of_length_le (by rw [HLL.out]; omega)]; rfl
        have hR3 : R = some (folD (qP (opsP os) lost) (unf T k)) := by rw [HR2.out, if_pos hLO]
        have HR3 := Lib.hid hR3
        have hjz : ¬ (j : Int) < (ln : Int) := by omega
        have hx1 : Ext wr (wr.alloc (.cells #[.slice none 0 0] 35)) := bl_alloc (Below.refl _ _) _
        have t0 := ext_cell hx1 (show wr.cell? ⟨gt, 0, none⟩ = some (.int .i64 k) from Kgt.cell 0)
        have t1 := ext_cell hx1 (show wr.cell? ⟨gt, 1, none⟩ = some (.slice TA tn tc) from Kgt.cell 1)
        have hglu : gl < wr.heap.size := Kgl.lt
        have hgou : go < wr.heap.size := Kgo.lt
        have Kgo := Kgo.ext hx1
        have Kgl := Kgl.ext hx1
        have Kgu := Blk.new wr 35 #[.slice none 0 0]
        have hB4 := Ext.trans hB hx1
        have hgu : w.heap.size ≤ wr.heap.size := Below.size hB
        clear hR3 hLO HLO HR2 HIN hB c5 Kgt
        gi_wp2_with fail
        refine ⟨trivial, (callsIn_wide.2 (way_any k TA tn tc 46 _ _)).mono ?_⟩
        rintro e W5 ⟨rfl, hW5⟩
        generalize wr.heap.size = gu at Kgu hgu hglu hgou ⊢
        generalize wr.alloc (.cells #[.slice none 0 0] 35) = W4 at hW5 Kgo Kgl Kgu hB4 hx1 t0 t1 ⊢
        have hx5 : Ext W4 W5 := by subst hW5; exact bl_alloc (bl_alloc (Below.refl _ _) _) _
        have kt : Blk W5 W4.heap.size 33 #[.int .i64 k, .slice TA tn tc] := by subst hW5; exact (Blk.new _ _ _).alloc _
        have kc : Blk W5 (W4.heap.size + 1) 99 #[.func (.func 46) #[] #[.pointer (some ⟨gl, 0, none⟩), .pointer (some ⟨go, 0, none⟩)]] := by subst hW5; exact Blk.new_at _ _ _ (by simp)
        have hg4 := Kgu.lt
        have Kgo := Kgo.ext hx5
        have Kgl := Kgl.ext hx5
        have Kgu := Kgu.ext hx5
        have hB5 := Ext.trans hB4 hx5
        have hfc := HFC.out
        clear hW5 t0 t1 hB4 hx1 hx5
        gi_wp2_with fail
        have hb15 : w.heap.size ≤ W5.heap.size := Below.size hB5
        refine wp_range_way (fun k => k = gu) w.heap.size W4.heap.size (W4.heap.size + 1) 46 #[.pointer (some ⟨gl, 0, none⟩), .pointer (some ⟨go, 0, none⟩)] T TA tn tc k (fun _ b => qP (opsP os) lost b.opt b.slot) 10 (by omega) (fun _ _ => True) hb15 (enters_of Try.func46 (by kernel_rfl) rfl) (HT.out.below hB5) hfc.1 ⟨hfc.2.2.1, hfc.2.2.2.1⟩
          kt kc (by omega) (by omega) ?hp rfl (p1 := 43) (p2 := 44) (FlI w W5.heap.size gu) (fun _ _ _ => False) (fun _ _ _ => trivial) (flI_own hb15) (fun _ _ _ _ _ h _ _ => h) (fun _ _ h => h.size) ⟨⟨_, Kgu, World.ownsRow_nil _ _ _ _⟩, hB5, Nat.le_refl _⟩
          (fun t x Bx => ((t.setIfInBounds 43 (.agg #[.int .i64 x.1.opt, .int .i64 x.1.slot, .bool x.1.is_])).setIfInBounds 44 (.int .i64 x.2)).setIfInBounds 11 (.pointer (some ⟨Bx, 0, none⟩))) ?hassign ?hbody ?hdone (fun _ _ _ _ _ _ h _ => h.elim)
        case hp =>
          intro pre b W hbm _ _ hk
          exact follow1_any b gl go w.heap.size LA ln lc lost A n c os W (Nat.le_trans hb15 hk.low.size) (hk.blk_ Kgl ⟨by omega, Kgl.lt⟩) (hk.blk_ Kgo ⟨by omega, Kgo.lt⟩) ((HL.out.below hB5).below hk.low) ((HO.out.below hB5).below hk.low) (hfc.2.2.2.2.2.2.1 b hbm)
        case hassign =>
          intro l x W K hK
          simp only [List.setIfInBounds_toArray, List.set_cons_zero, List.set_cons_succ] at hK ⊢
          gi_wp2
          exact hK
        case hbody =>
          intro l pre x Bx W hI hBx KX hlen
          simp only [List.setIfInBounds_toArray, List.set_cons_zero, List.set_cons_succ]
          obtain ⟨⟨v, k1, k2⟩, hb, hz⟩ := hI
          obtain ⟨⟨ao, as_, ai⟩, xn⟩ := x
          obtain ⟨A', c', hv, _, _⟩ := own_slice k2
          subst hv
          have hlen2 := way_len T (fun _ b => qP (opsP os) lost b.opt b.slot) (k + 1).toNat 0 k
          have hlen3 : pre.length < 1500 := by have := hfc.2.2.2.1; have := hfc.2.1; unfold way at hlen; omega
          obtain ⟨i0, hi0, hz0, hz1, hz2⟩ := info_parts info_ack
          have hx1 : Ext W (W.alloc (.cells #[.int .i64 ao, .int .i64 as_, .bool ai] 60)) := bl_alloc (Below.refl _ _) _
          have KN := Blk.new W 60 #[.int .i64 ao, .int .i64 as_, .bool ai]
          have k2x := own_ext k2 hx1
          obtain ⟨v2, W2, hr, hrow2, hg2, -⟩ := run_append_own (P := Try.prog) (W.alloc (.cells #[.int .i64 ao, .int .i64 as_, .bool ai] 60)) W5.heap.size 35 35 60 i0 _ 3 24 Try.underlying35 hi0 hz0 hz1 hz2 rfl (by omega) _ pre.length _ k2x ⟨W.heap.size, 0, none⟩ 1 1 (ackCells ⟨ao, as_, ai⟩) rfl
            (by intro i u hu; rw [Addr.add_lit, Nat.zero_add, KN.cell]; simpa [ackCells] using hu) (by simp [ackCells, Value.oneCell']) (by unfold maxLen; omega) (by omega) (by rw [World.size_alloc]; omega)
          obtain ⟨A2, c2, hv, _, _⟩ := own_slice hrow2
          subst hv
          have hne : gu < W5.heap.size := Kgu.lt
          have hrow : ∀ r, (Value.slice A' pre.length c').ownBlock = some r → W5.heap.size ≤ r := fun r e => (World.ownsRow.lt k2 r e).1
          have k1' := (k1.ext hx1).grown hg2 (fun e => by have := hrow gu e.symm; omega)
          have u0 : W.cell? ⟨gu, 0, none⟩ = some (.slice A' pre.length c') := k1.cell 0
          have x0 : W.cell? ⟨Bx, 0, none⟩ = some (.int .i64 ao) := KX.cell 0
          have x1 : W.cell? ⟨Bx, 1, none⟩ = some (.int .i64 as_) := KX.cell 1
          have x2 : W.cell? ⟨Bx, 2, none⟩ = some (.bool ai) := KX.cell 2
          have u1 : W2.frozen? ⟨gu, 0, none⟩ = false := k1'.frozen 0
          have u2 : W2.cell? ⟨gu, 0, none⟩ = some (.slice A' pre.length c') := k1'.cell 0
          have hzx : W5.heap.size ≤ (W.alloc (.cells #[.int .i64 ao, .int .i64 as_, .bool ai] 60)).heap.size := by rw [World.size_alloc]; omega
          have HK : Hid (KeepsOthers W (W2.setCell ⟨gu, 0, none⟩ (.slice A2 (pre.length + 1) c2))) := Lib.hid (((KeepsOthers.alloc W _).trans (keeps_own k2x hg2)).trans (KeepsOthers.setCell _ _ _))
          have HP : Hid (KpB (fun k => k = gu) w.heap.size W5.heap.size W (W2.setCell ⟨gu, 0, none⟩ (.slice A2 (pre.length + 1) c2))) := Lib.hid (((KpB.ext hx1 hb15 hz).trans (KpB.step hg2 hb15 hzx (fun r e => .inr (hrow r e)))).trans (KpB.step (grownBy_setCell' W2 gu _) hb15 (Nat.le_trans hzx hg2.size) (fun r e => by cases e; exact .inl ⟨rfl, hgu⟩)))
          have HI : Hid (FlI w W5.heap.size gu (pre ++ [(⟨ao, as_, ai⟩, xn)]) (W2.setCell ⟨gu, 0, none⟩ (.slice A2 (pre.length + 1) c2))) := by
            refine Lib.hid ⟨⟨_, k1'.set_ 0 _, ?_⟩, ?_, ?_⟩
            · have := own_set hrow2 (p := ⟨gu, 0, none⟩) (fun e => by have := (World.ownsRow.lt hrow2 gu e).1; omega) (.slice A2 (pre.length + 1) c2)
              simpa using this
            · have h2 : Below w.heap.size w W2 := (bl_then hb hx1).grown hg2 (Nat.le_trans hb.size hx1.size) (fun k e => Nat.le_trans hb15 (hrow k e))
              exact h2.setCell (p := ⟨gu, 0, none⟩) hgu _
            · have := hg2.size; simp at this ⊢; omega
          have HR := Lib.hid hr
          clear k1 k2 KX hrow2 hg2 k1' hx1 KN hlen2 hlen3 hr k2x hzx hrow hb hz
          gi_wp2_with (gi_at_builtin; refine wpListIn_append_run rfl _ _ _ rfl rfl rfl HR.out ?_)
          exact ⟨HK.out.from _, HP.out, HI.out⟩
        case hdone =>
          intro D xs W hD hxs hI hK
          obtain ⟨⟨v, k1, k2⟩, hb, hz⟩ := hI
          have hfs : xs.map (·.1) = folD (qP (opsP os) lost) (unf T k) := by rw [hxs]; exact way_folD (qP (opsP os) lost) hfc.1 hfc.2.2.2.2.1 0
          have hln : xs.length = (folD (qP (opsP os) lost) (unf T k)).length := by rw [← hfs, List.length_map]
          rw [hfs, hln] at k2
          clear hxs hfs hln
          generalize folD (qP (opsP os) lost) (unf T k) = S at HR3 k2
          obtain rfl : R = some S := HR3.out
          obtain ⟨A', c', hv, _, _⟩ := own_slice k2
          subst hv
          have u0 : W.cell? ⟨gu, 0, none⟩ = some (.slice A' S.length c') := k1.cell 0
          have hgr := grownBy_putObj' W D (.deferred none)
          have hrr : ∀ r, some D = some r → w.heap.size ≤ r ∧ ∃ o : Obj, W.heap[r]? = some o ∧ o.isCells = false := fun r e => by cases e; exact ⟨by omega, _, hK, rfl⟩
          have HR2 := Lib.hid (own_base (own_kept k2 hgr hrr) hb15)
          have HB := Lib.hid (hb.grown hgr hb.size (fun k e => by cases e; omega))
          have HK := Lib.hid hK
          clear k1 k2 hb hz hK hgr hrr
          gi_wp2
          refine ⟨by simp, .inl ⟨_, _, rfl, run_takeDeferred HK.out, ?_⟩⟩
          exact ⟨.tuple #[.slice A' S.length c', .int .i64 0], by simp [results, Try.results24, go_sem], ⟨_, rfl, HR2.out, HB.out⟩⟩
end Go.Proofs.Ytikphbgfcpamgaa
namespace Go.Proofs.Ytikphbgfcpamgaa

theorem made_build (xs : List Six) : buildP (madeP xs) = ((treeP (madeP xs)).1, (treeP (madeP xs)).2, 0) := by
  unfold buildP
  rw [made_car, decide_eq_true (made_len xs)]
  rfl
theorem car_good {l : List Op} (h : carP l = true) : Good l (dt (srt l) 0) := by
  obtain ⟨hok, ha⟩ := carP_iff.1 h
  exact dt_good ha fun p hp => ⟨(plc_ok hok (mem_srt.1 hp)).2.1, mem_srt.1 hp⟩
theorem made_valid (xs : List Six) : validP (madeP xs) (treeP (madeP xs)).1 (treeP (madeP xs)).2 = true :=
  built_valid (made_car xs) (car_good (made_car xs)) (made_len xs)
theorem made_unf (l : List Op) : unf (treeP l).1 (treeP l).2 = dt (srt l) 0 := unf_rep (bld_down _ [] down_nil) (bld_rep _ [])
theorem lostR_app : ∀ (a : List Int) (e x : Int), lostR e a = true → (∀ y ∈ a, y < x) → e < x → 0 ≤ x → x ≤ 63 → lostR e (a ++ [x]) = true := by
  intro a
  induction a with
  | nil => intro e x _ _ h1 h2 h3; simp [lostR, inB_iff.2 ⟨h2, h3⟩, h1]
  | cons y r ih =>
    intro e x h h0 h1 h2 h3
    rw [lostR, Bool.and_eq_true] at h
    rw [List.cons_append, lostR, h.1, ih y x h.2 (fun z hz => h0 z (by simp [hz])) (h0 y (by simp)) h2 h3]
    rfl
theorem loss_ok (x : Int) : lostP (lossP x) = true := by
  unfold lostP lossP
  have H : ∀ n, n ≤ 64 → lostR (-1) (lossL (pickP x 64).toNat n) = true := by
    intro n
    induction n with
    | zero => intro _; rfl
    | succ n ih =>
      intro hn
      rw [lossL]
      split
      · exact lostR_app _ _ _ (ih (by omega)) (fun y hy => (lossL_mem _ _ _ hy).2) (by omega) (by omega) (by omega)
      · rw [List.append_nil]; exact ih (by omega)
  exact H 6 (by omega)
theorem made_fol (xs : List Six) (x : Int) : folP (madeP xs) (treeP (madeP xs)).1 (treeP (madeP xs)).2 (lossP x) = some (runP (qP (madeP xs) (lossP x)) (srt (madeP xs)) 0) := by
  unfold folP
  rw [made_valid, loss_ok, made_unf, folD_dt]
  rfl
theorem made_few (xs : List Six) : (madeP xs).length ≤ 8 := (srt_len (carP_iff.1 (made_car xs)).1).2
theorem runP_len (q : Int → Int → Bool) : ∀ (ps : List Plc) (d : Nat), (runP q ps d).length ≤ ps.length := by
  intro ps
  induction ps with
  | nil => intro d; simp [runP]
  | cons p r ih =>
    intro d
    rw [runP]
    split
    · exact Nat.le_trans (ih d) (by simp)
    · rw [List.length_cons, List.length_cons]; exact Nat.succ_le_succ (ih _)
theorem made_acks (xs : List Six) (x : Int) : (runP (qP (madeP xs) (lossP x)) (srt (madeP xs)) 0).length ≤ 48 := by
  have h1 := runP_len (qP (madeP xs) (lossP x)) (srt (madeP xs)) 0
  have h2 := srt_len (carP_iff.1 (made_car xs)).1
  omega
end Go.Proofs.Ytikphbgfcpamgaa
namespace Go.Proofs.Ytikphbgfcpamgaa
open Go.RowKit

def qK (known : List Ack) (j : Nat) (_ : Brn) : Bool := match known[j]? with
  | some a => a.is_
  | none => false
def nxtW (k : Int) (pre : List (Ack × Int)) : Int := match pre.getLast? with
  | some x => x.2
  | none => k
theorem nxtW_snoc (k : Int) (pre : List (Ack × Int)) (x : Ack × Int) : nxtW k (pre ++ [x]) = x.2 := by simp [nxtW]
theorem nxtW_cons (k : Int) (x : Ack × Int) (pre : List (Ack × Int)) : nxtW k (x :: pre) = nxtW x.2 pre := by
  unfold nxtW
  cases h : pre.getLast? with
  | none => rw [List.getLast?_eq_none_iff.1 h]; rfl
  | some y =>
    rw [List.getLast?_cons, h]
    rfl
theorem way_split {T : List Brn} {q : Nat → Brn → Bool} (hd : Down T) : ∀ (pre : List (Ack × Int)) (j : Nat) (k : Int), -1 ≤ k → k < T.length → pre <+: way T q j k → way T q j k = pre ++ way T q (j + pre.length) (nxtW k pre) ∧ -1 ≤ nxtW k pre ∧ nxtW k pre < T.length := by
  intro pre
  induction pre with
  | nil => intro j k h1 h2 _; exact ⟨rfl, h1, h2⟩
  | cons x pre ih =>
    intro j k h1 h2 h
    by_cases hk : k = -1
    · subst hk; rw [way_end] at h; simp at h
    · obtain ⟨r, rfl⟩ : ∃ r : Nat, k = r := ⟨k.toNat, by omega⟩
      have hb : T[r]? = some (T[r]'(by omega)) := List.getElem?_eq_getElem _
      generalize T[r]'(by omega) = b at hb
      have hdn := hd _ _ hb
      rw [way_node q hd hb] at h ⊢
      obtain ⟨rfl, h'⟩ := List.cons_prefix_cons.1 h
      rw [nxtW_cons]
      dsimp only
      have hz : -1 ≤ (if q j b = true then b.yes else b.no) ∧ (if q j b = true then b.yes else b.no) < T.length := by split <;> omega
      obtain ⟨e1, e2, e3⟩ := ih (j + 1) _ hz.1 hz.2 h'
      refine ⟨?_, e2, e3⟩
      rw [List.cons_append, List.length_cons, show j + (pre.length + 1) = j + 1 + pre.length by omega, ← e1]
theorem prn_pre {T : List Brn} {known : List Ack} (hd : Down T) : ∀ (pre : List (Ack × Int)) (j : Nat) (k : Int), -1 ≤ k → k < T.length → pre <+: way T (qK known) j k → pre.map (·.1) = (known.drop j).take pre.length → j + pre.length ≤ known.length → prnT T (known.drop j) k = prnT T (known.drop (j + pre.length)) (nxtW k pre) := by
  intro pre
  induction pre with
  | nil => intro j k _ _ _ _ _; rfl
  | cons x pre ih =>
    intro j k h1 h2 h hm hl
    by_cases hk : k = -1
    · subst hk; rw [way_end] at h; simp at h
    · obtain ⟨r, rfl⟩ : ∃ r : Nat, k = r := ⟨k.toNat, by omega⟩
      have hb : T[r]? = some (T[r]'(by omega)) := List.getElem?_eq_getElem _
      generalize T[r]'(by omega) = b at hb
      have hdn := hd _ _ hb
      rw [way_node _ hd hb] at h
      obtain ⟨rfl, h'⟩ := List.cons_prefix_cons.1 h
      rw [List.length_cons] at hl hm
      have hj : j < known.length := by omega
      have hdj : known.drop j = known[j] :: known.drop (j + 1) := List.drop_eq_getElem_cons hj
      rw [hdj] at hm ⊢
      rw [List.map_cons, List.take_succ_cons] at hm
      injection hm with hm1 hm2
      dsimp only at hm1
      have hz : -1 ≤ (if qK known j b = true then b.yes else b.no) ∧ (if qK known j b = true then b.yes else b.no) < T.length := by split <;> omega
      have e := ih (j + 1) _ hz.1 hz.2 h' hm2 (by omega)
      rw [prnT, if_neg hk, Int.toNat_natCast, hb, nxtW_cons]
      dsimp only
      rw [← hm1, if_pos ⟨rfl, rfl⟩, List.length_cons, show j + (pre.length + 1) = j + 1 + pre.length by omega, ← e]
theorem prn_all {T : List Brn} {known : List Ack} {k : Int} (hd : Down T) (h1 : -1 ≤ k) (h2 : k < T.length) {pre : List (Ack × Int)} (hp : pre <+: way T (qK known) 0 k) (hm : pre.map (·.1) = known.take pre.length) (hl : pre.length = known.length) : prnT T known k = some (nxtW k pre) := by
  have h := prn_pre hd pre 0 k h1 h2 hp hm (by omega)
  rw [List.drop_zero, Nat.zero_add, hl, List.drop_length] at h
  exact h
theorem prn_short {T : List Brn} {known : List Ack} {k : Int} (hd : Down T) (h1 : -1 ≤ k) (h2 : k < T.length) {pre : List (Ack × Int)} (hp : pre = way T (qK known) 0 k) (hm : pre.map (·.1) = known.take pre.length) (hl : pre.length < known.length) : prnT T known k = none := by
  have hpp : pre <+: way T (qK known) 0 k := by rw [hp]; exact List.prefix_refl _
  have h := prn_pre hd pre 0 k h1 h2 hpp hm (by omega)
  obtain ⟨e1, e2, e3⟩ := way_split hd pre 0 k h1 h2 hpp
  rw [List.drop_zero, Nat.zero_add] at h
  rw [h, List.drop_eq_getElem_cons hl]
  have he : way T (qK known) (0 + pre.length) (nxtW k pre) = [] := by
    have := e1.symm.trans hp.symm
    exact List.append_cancel_left (this.trans (List.append_nil pre).symm)
  by_cases hk : nxtW k pre = -1
  · rw [prnT, if_pos hk]
  · obtain ⟨r, hr⟩ : ∃ r : Nat, nxtW k pre = r := ⟨(nxtW k pre).toNat, by omega⟩
    rw [hr, way_node _ hd (List.getElem?_eq_getElem (show r < T.length by omega))] at he
    cases he
theorem prn_other {T : List Brn} {known : List Ack} {k : Int} (hd : Down T) (h1 : -1 ≤ k) (h2 : k < T.length) {pre : List (Ack × Int)} {x : Ack × Int} (hp : pre ++ [x] <+: way T (qK known) 0 k) (hm : pre.map (·.1) = known.take pre.length) (hl : pre.length < known.length) (hx : x.1 ≠ known[pre.length]) : prnT T known k = none := by
  have hpp : pre <+: way T (qK known) 0 k := (List.prefix_append pre [x]).trans hp
  have h := prn_pre hd pre 0 k h1 h2 hpp hm (by omega)
  obtain ⟨e1, e2, e3⟩ := way_split hd pre 0 k h1 h2 hpp
  rw [List.drop_zero, Nat.zero_add] at h
  rw [h, List.drop_eq_getElem_cons hl]
  rw [Nat.zero_add] at e1
  rw [e1] at hp
  have hq := (List.prefix_append_right_inj pre).1 hp
  by_cases hk : nxtW k pre = -1
  · rw [prnT, if_pos hk]
  · obtain ⟨r, hr⟩ : ∃ r : Nat, nxtW k pre = r := ⟨(nxtW k pre).toNat, by omega⟩
    have hb : T[r]? = some (T[r]'(by omega)) := List.getElem?_eq_getElem _
    rw [hr] at hq ⊢
    generalize T[r]'(by omega) = b at hb
    rw [way_node _ hd hb] at hq
    obtain ⟨rfl, _⟩ := List.cons_prefix_cons.1 hq
    have hqk : qK known pre.length b = known[pre.length].is_ := by unfold qK; rw [List.getElem?_eq_getElem hl]
    rw [prnT, if_neg (by omega), Int.toNat_natCast, hb]
    dsimp only at hx ⊢
    rw [if_neg]
    rintro ⟨a1, a2⟩
    refine hx ?_
    rw [hqk, ← a1, ← a2]
def prunP (l : List Op) (T : List Brn) (k : Int) (known : List Ack) : Option (List Brn × Int) := if validP l T k = true then (prnT T known k).map fun k' => bld [] (unf T k') else none
set_option maxRecDepth 100000 in
set_option maxHeartbeats 1000000 in
theorem prune1_any (b : Brn) (gi gk B i : Nat) (KA : Option Addr) (kn kc : Nat) (known : List Ack) (w : World)
    (kI : Blk w gi 3 #[.int .i64 i]) (kK : Blk w gk 35 #[.slice KA kn kc]) (hK : RA ackCells 3 w B KA kn kc known) :
    Calls Try.prog 48 #[.agg #[.int .i64 b.at_, .int .i64 b.opt, .int .i64 b.slot, .int .i64 b.yes, .int .i64 b.no], .pointer (some ⟨gi, 0, none⟩), .pointer (some ⟨gk, 0, none⟩)] w
      fun e w' => e = .returned (.bool (qK known i b)) ∧ Ext w w' := by
  have hln := hK.len
  have hx : Ext w (w.alloc (.cells #[.int .i64 b.at_, .int .i64 b.opt, .int .i64 b.slot, .int .i64 b.yes, .int .i64 b.no] 30)) := bl_alloc (Below.refl _ _) _
  have c1 := ext_cell hx (show w.cell? ⟨gi, 0, none⟩ = some (.int .i64 i) from kI.cell 0)
  have c2 := ext_cell hx (show w.cell? ⟨gk, 0, none⟩ = some (.slice KA kn kc) from kK.cell 0)
  by_cases hi : i < kn
  · obtain ⟨b1, o1, hz, hA, _, hc⟩ := hK.at_ ack_len hi
    have hq : qK known i b = known[i].is_ := by unfold qK; rw [List.getElem?_eq_getElem hz]
    have a2 := ext_cell hx (show w.cell? ⟨b1, o1 + i * 3 + 2, none⟩ = some (.bool known[i].is_) from hc 2 (by omega))
    generalize known[i].is_ = z at hq a2
    have hiz : (i : Int) < (kn : Int) := by omega
    rw [hq]
    have HX := Lib.hid hx
    subst hA
    clear hc hz hq hx kI kK hK hln
    go_enter Try.func48, Try.ntmps48
    go_wp2
    go_ret
    exact ⟨rfl, HX.out⟩
  · have hq : qK known i b = false := by unfold qK; rw [List.getElem?_eq_none (by omega)]
    have hiz : ¬ (i : Int) < (kn : Int) := by omega
    rw [hq]
    have HX := Lib.hid hx
    clear hx kI kK hK hln hq
    go_enter Try.func48, Try.ntmps48
    go_wp2
    go_ret
    exact ⟨rfl, HX.out⟩
end Go.Proofs.Ytikphbgfcpamgaa
namespace Go.Proofs.Ytikphbgfcpamgaa
open Go.RowKit

section
variable {P : Program} {ops : Array Oper} {Q : Exit → Act → World → Prop} {a0 : Act} {w0 : World} {R : Nat → (Nat → Value) → Value → World → Prop} {m : Nat}
theorem wpAny_start {a : Act} {w : World} (m : Nat) (R : Nat → (Nat → Value) → Value → World → Prop) (hc : regChk ops m = true) (hst : ∀ i vals v w w', i < m → R i vals v w → Ext w w' → R i vals v w') (hloc : ∀ i vals vals' v w, i < m → (∀ d, anc ops i d = true → vals d = vals' d) → R i vals v w → R i vals' v w)
    (hob : Obls P ops a w.drew R 0 (ops.toList.take m))
    (hfin : ∀ (vals : Nat → Value) (w' : World), Ext w.drew w' → (∀ i, i < m → R i vals (vals i) w') → wpAny P .any ops Q (ops.size - m) (litL ops.size m) (Lf ops a vals m) w') : wpAny P .any ops Q ops.size (Array.replicate ops.size false) a w.drew := by
  have hsz := chk_size hc
  have hunl : unl (Array.replicate ops.size false) m = m := by
    unfold unl
    rw [List.filter_eq_self.2 (fun i hi => by simp [Array.getD_eq_getD_getElem?, Array.getElem?_replicate]; split <;> rfl)]
    simp
  have h := wpAny_of_obl (P := P) (Q := Q) (a0 := a) (w0 := w.drew) hc hst hloc (fun i o hi ho => by
    have := obls_at (P := P) (ops := ops) (a0 := a) (w0 := w.drew) (R := R) _ 0 hob i o (by rw [List.getElem?_take, if_pos hi]; simpa using ho)
    simpa using this) hfin m (Array.replicate ops.size false) (fun _ => undef) a w.drew hunl ?_
  · rw [show ops.size - m + m = ops.size by omega] at h
    exact h
  · have hf : ∀ i, (Array.replicate ops.size false).getD i false = false := fun i => by simp [Array.getD_eq_getD_getElem?, Array.getElem?_replicate]; split <;> rfl
    constructor
    · exact Ext.refl _
    · simp
    · intro i _; exact hf i
    · intro i _ h; rw [hf] at h; cases h
    · intro i _ h; rw [hf] at h; cases h
    · rfl
    · rfl
    · intro t _; rfl
    · intro i t _ h; rw [hf] at h; cases h

end
theorem rowsIn_wide_ {n : Nat} {P : Program} {row : String} {args : Array Value} {w : World} {R : Value → World → Prop} (h : Rows P row args w R) : RowsIn Fence.wide n P row args w R :=
  fun c cs _ => let ⟨v, w', r, s⟩ := h c cs; ⟨v, w', r, stepsIn_wide.2 s⟩
def noDefer (ops : Array Oper) : Bool := ops.all fun o => match o.op with | .defer _ => false | _ => true
theorem noDefer_spec {ops : Array Oper} (h : noDefer ops = true) {i : Nat} {o : Oper} (ho : ops[i]? = some o) : ∀ c, o.op ≠ .defer c := by
  intro c hc
  have := Array.all_eq_true_iff_forall_mem.1 h o (Array.mem_of_getElem? ho)
  simp [hc] at this
theorem wpAny_round {P : Program} {ops : Array Oper} {Q : Exit → Act → World → Prop} {K : Act → World → Prop} {l n : Nat} (hnd : noDefer ops = true) (hK : ∀ a w, K a w → Q .normal a w) :
    ∀ (fuel : Nat) (listed : Array Bool) (a : Act) (w : World), wpAny P .any ops (Qn K) fuel listed a w → wpAnyIn (Fence.wide.inRound l) n P .any ops Q fuel listed a w := by
  intro fuel
  induction fuel with
  | zero => intro listed a w h; exact ⟨h.1, hK _ _ h.2⟩
  | succ f ih =>
    intro listed a w h
    unfold wpAny at h
    unfold wpAnyIn
    refine ⟨fun e => hK _ _ (h.1 e), fun i hi => ?_⟩
    have h2 := h.2 i hi
    unfold wpOp at h2
    unfold wpOpIn
    cases ho : ops[i]? with
    | none => rw [ho] at h2; exact ih _ _ _ h2
    | some o =>
      rw [ho] at h2
      simp only at h2 ⊢
      by_cases hw : Region.wanted o (yielded ops a.tmps) = true
      · rw [if_pos hw] at h2 ⊢
        rcases h2 with h2 | h2
        · refine ⟨fun _ _ => trivial, ?_⟩
          rw [Oper.semAt_plain _ _ _ (noDefer_spec hnd ho)]
          unfold Oper.wp at h2
          generalize (execOp a.eval o).run P w = r at h2
          cases r with
          | ok x w' =>
            cases x <;> simp only [Oper.upon] at h2 <;> simp only [Oper.uponIn]
            case value v => exact ih _ _ _ h2
            case skip => exact ih _ _ _ h2
            case defer d => exact ih _ _ _ h2
            case enter g args =>
              refine ⟨fun h => (by cases h), CallsIn.inRound l (callsIn_wide.2 (Calls.mono h2 fun e w'' hq => ?_))⟩
              cases e with
              | returned v => exact ih _ _ _ hq
              | panicked ch => exact absurd hq (by simp [Qn])
              | outgrown => exact absurd hq (Qn_notOut _)
            case row row args => exact ⟨fun h => (by cases h), rowsIn_wide_ (Rows.mono h2 fun v w'' hq => ih _ _ _ hq)⟩
            all_goals exact h2.elim
          | halt x w' => cases x <;> simp only [Oper.upon] at h2 <;> simp only [Oper.uponIn] <;> first | exact h2.elim | exact absurd h2 (by simp [Qn])
        · exact absurd h2.2 (Qn_notOut _)
      · rw [if_neg hw] at h2 ⊢
        exact ⟨fun _ _ => trivial, ih _ _ _ h2⟩
theorem wpIn_region_round {P : Program} {ops : Array Oper} {Q : Exit → Act → World → Prop} {a : Act} {w : World} {l n id : Nat} (m : Nat) (R : Nat → (Nat → Value) → Value → World → Prop) (hm : P.follows .mixedOrders = true) (hnd : noDefer ops = true) (hc : regChk ops m = true)
    (hst : ∀ i vals v w w', i < m → R i vals v w → Ext w w' → R i vals v w') (hloc : ∀ i vals vals' v w, i < m → (∀ d, anc ops i d = true → vals d = vals' d) → R i vals v w → R i vals' v w)
    (hob : Obls P ops a w.drew R 0 (ops.toList.take m))
    (hfin : ∀ (vals : Nat → Value) (w' : World), Ext w.drew w' → (∀ i, i < m → R i vals (vals i) w') → wpAny P .any ops (Qn (Q .normal)) (ops.size - m) (litL ops.size m) (Lf ops a vals m) w') : (Code.region id ops true).wpIn (Fence.wide.inRound l) n P Q a w :=
  wpIn_region_any hm (wpAny_round (K := Q .normal) hnd (fun _ _ h => h) _ _ _ _ (wpAny_start m R hc hst hloc hob hfin))
theorem wpList_append_run6_ {P : Program} {w : World} {ops : Array Oper} {rest : List Oper} {o : Oper} {a : Act} {Q : Exit → Act → World → Prop}
    (hg : o.guard = none) (s x : Operand) (t : TypeId) (hop : o.op = Op.call { callee := Callee.builtin Builtin.append, args := #[s, x], argTypes := #[t, t] })
    {v1 v2 v' : Value} {w' : World} (hs : a.eval s = v1) (hx : a.eval x = v2) (hrun : (Builtin.append_ #[t, t] o.type #[v1, v2]).run P w = .ok v' w')
    (hK : wpList P ops Q rest (a.put o.dst v') w') : wpList P ops Q (o :: rest) a w := by
  refine wpList_plain hg fun K hK' => ?_
  unfold Oper.wp
  simp [execOp, hop, resolve, invoke, builtin, hs, hx, hrun, Result.andThen]
  exact hK' _ _ hK
end Go.Proofs.Ytikphbgfcpamgaa
