/- A range over a way, for its callers. -/
import Derived.Test.YtikphbgfcpamgaaP08
import Derived.Test.YtikphbgfcpamgaaP24
import Derived.Test.YtikphbgfcpamgaaP23
import Derived.Test.YtikphbgfcpamgaaP07
import Derived.Test.YtikphbgfcpamgaaP15
import Derived.Test.YtikphbgfcpamgaaP16
import Derived.ArgAppend
namespace Go.Proofs.Ytikphbgfcpamgaa
open Go.RowKit

theorem take_snoc {α : Type} {l : List α} {k : Nat} (h : k < l.length) : l.take (k + 1) = l.take k ++ [l[k]] := List.take_succ_eq_append_getElem h
def ixR (l : List Int) (x : Int) (e : Ending) : Prop := ∃ j : Int, e = .returned (.int .i64 j) ∧ decide (0 ≤ j) = decide (x ∈ l)
set_option maxRecDepth 100000 in
set_option maxHeartbeats 1000000 in
theorem index_int (A : Option Addr) (n c : Nat) (l : List Int) (x : Int) (B : Nat) (w : World) (h : RA intCells 1 w B A n c l) :
    Calls Try.prog 58 #[.slice A n c, .int .i64 x] w fun e w' => ixR l x e ∧ w' = w := by
  have hn := h.le
  have hln := h.len
  have H := Lib.hid h
  have HL := Lib.hid hln
  clear h hln
  go_enter Try.func58, Try.ntmps58
  go_wp2
  go_loopw [8] (fun i wr => ∃ k : Nat, k ≤ n ∧ i = .int .i64 k ∧ Hid (x ∉ l.take k) ∧ wr = w) (fun i _ => n - (intOf i).toNat)
  case atStart => exact ⟨0, Nat.zero_le _, rfl, Lib.hid (by simp), rfl⟩
  case round =>
    obtain ⟨k, hk, rfl, HM, rfl⟩ := hrel
    by_cases hlt : k < n
    · obtain ⟨b, o, hz, hA, _, hc⟩ := H.out.at_ int_len hlt
      have hst := take_snoc hz
      have hmem : l[k] ∈ l := List.getElem_mem hz
      generalize l[k] = y at hc hst hmem
      have a0 : wr.cell? ⟨b, o + k, none⟩ = some (.int .i64 y) := by have := hc 0 (by omega); rw [Nat.mul_one] at this; exact this
      have hkz : (k : Int) < (n : Int) := by omega
      subst hA
      have HST := Lib.hid hst
      have HME := Lib.hid hmem
      clear hc hz hst hmem
      by_cases hxy : x = y
      · have hxb : (x == y) = true := by simpa using hxy
        go_wp2
        go_ret
        exact ⟨⟨(k : Int), rfl, by rw [hxy, decide_eq_true HME.out]; exact decide_eq_true (by omega)⟩, rfl⟩
      · have hxb : (x == y) = false := by simpa using hxy
        have HM2 : Hid (x ∉ l.take (k + 1)) := Lib.hid (by rw [HST.out, List.mem_append]; rintro (h | h); exact HM.out h; exact hxy (by simpa using h))
        go_wp2
        go_roundw
        case rel => exact ⟨k + 1, by omega, by go_num, HM2, by first | rfl | trivial⟩
        case measure => simp [intOf]; omega
    · have hkn : k = n := by omega
      have hall : x ∉ l := by have := HM.out; rwa [List.take_of_length_le (by rw [HL.out]; omega)] at this
      have hkz : ¬ (k : Int) < (n : Int) := by omega
      have HA := Lib.hid hall
      clear hall
      go_wp2
      go_ret
      exact ⟨⟨-1, rfl, (decide_eq_false (p := (0 : Int) ≤ -1) (by omega)).trans (decide_eq_false HA.out).symm⟩, rfl⟩
set_option maxRecDepth 100000 in
theorem contains_int (A : Option Addr) (n c : Nat) (l : List Int) (x : Int) (B : Nat) (w : World) (h : RA intCells 1 w B A n c l) :
    Calls Try.prog 47 #[.slice A n c, .int .i64 x] w fun e w' => e = .returned (.bool (decide (x ∈ l))) ∧ w' = w := by
  have H := Lib.hid (index_int A n c l x B w h)
  clear h
  go_enter Try.func47, Try.ntmps47
  go_wp2_with fail
  refine H.out.mono ?_
  rintro e w2 ⟨⟨j, rfl, hj⟩, rfl⟩
  have HJ := Lib.hid hj
  clear hj
  go_wp2
  go_ret
  exact ⟨congrArg (fun b => Ending.returned (.bool b)) HJ.out, rfl⟩
theorem slotB_cases {os : List Opt} {b : Brn} (h : slotB (opsP os) b = true) : ∃ (p q : Nat) (hp : p < os.length) (hq : q < os[p].l.length), b.opt = p ∧ b.slot = q ∧ slotAt (opsP os) b.opt b.slot = some os[p].l[q] := by
  unfold slotB at h
  rw [Bool.and_eq_true] at h
  obtain ⟨hp0, hp1⟩ := inB_iff.1 h.1
  have h2 := h.2
  have hl : (opsP os).length = os.length := by simp [opsP]
  have hp : b.opt.toNat < os.length := by omega
  have ho : (opsP os)[b.opt.toNat]? = some os[b.opt.toNat].op := by simp [opsP, hp]
  rw [ho] at h2
  dsimp only at h2
  rw [Bool.and_eq_true] at h2
  obtain ⟨hq0, hq1⟩ := inB_iff.1 h2.1
  have he : os[b.opt.toNat].op.l = os[b.opt.toNat].l := rfl
  rw [he] at hq1
  have hq : b.slot.toNat < os[b.opt.toNat].l.length := by omega
  refine ⟨b.opt.toNat, b.slot.toNat, hp, hq, by omega, by omega, ?_⟩
  unfold slotAt
  rw [if_pos ⟨hp0, hq0⟩, ho]
  dsimp only
  rw [he, List.getElem?_eq_getElem hq]
set_option maxRecDepth 100000 in
set_option maxHeartbeats 1000000 in
theorem follow1_any (b : Brn) (gL gO B : Nat) (LA : Option Addr) (ln lc : Nat) (lost : List Int) (A : Option Addr) (n c : Nat) (os : List Opt) (w : World) (hB : B ≤ w.heap.size)
    (kL : Blk w gL 34 #[.slice LA ln lc]) (kO : Blk w gO 28 #[.slice A n c]) (hL : RA intCells 1 w B LA ln lc lost) (hO : Ops w B A n c os) (hsb : slotB (opsP os) b = true) :
    Calls Try.prog 46 #[.agg #[.int .i64 b.at_, .int .i64 b.opt, .int .i64 b.slot, .int .i64 b.yes, .int .i64 b.no], .pointer (some ⟨gL, 0, none⟩), .pointer (some ⟨gO, 0, none⟩)] w
      fun e w' => e = .returned (.bool (qP (opsP os) lost b.opt b.slot)) ∧ Ext w w' := by
  obtain ⟨p, q, hp, hq, hbo, hbs, hsl⟩ := slotB_cases hsb
  have hqp : qP (opsP os) lost b.opt b.slot = !decide (os[p].l[q].p ∈ lost) := by
    unfold qP
    rw [hsl]
  have hln := hO.out.len
  have hpn : p < n := by omega
  obtain ⟨b1, o1, hz, hA, _, hcell⟩ := hO.out.at_ opt_len hpn
  have hS := hO.each os[p] (List.getElem_mem hp)
  have hml := hS.len
  obtain ⟨b2, o2, hz2, hA2, _, hcell2⟩ := hS.at_ slt_len (show q < os[p].n by omega)
  generalize os[p].l[q] = s at hqp hcell2
  have hqm : q < os[p].n := by omega
  generalize os[p] = o at hcell hA2 hqm
  obtain ⟨id, i1, i2, sat, sf, st, i6, size, a, m, d, l⟩ := o
  dsimp only at hA2 hqm
  have hxb : Ext w (w.alloc (.cells #[.int .i64 b.at_, .int .i64 b.opt, .int .i64 b.slot, .int .i64 b.yes, .int .i64 b.no] 30)) := bl_alloc (Below.refl _ _) _
  have kB := Blk.new w 30 #[.int .i64 b.at_, .int .i64 b.opt, .int .i64 b.slot, .int .i64 b.yes, .int .i64 b.no]
  have c1 : w.cell? ⟨gL, 0, none⟩ = some (.slice LA ln lc) := kL.cell 0
  have c2 : w.cell? ⟨gO, 0, none⟩ = some (.slice A n c) := kO.cell 0
  have c8 : w.cell? ⟨b1, o1 + p * 9 + 8, none⟩ = some (.slice a m d) := hcell 8 (by omega)
  have s0 : w.cell? ⟨b2, o2 + q * 3, none⟩ = some (.int .i64 s.p) := hcell2 0 (by omega)
  have c1 := ext_cell hxb c1
  have c2 := ext_cell hxb c2
  have c8 := ext_cell hxb c8
  have s0 := ext_cell hxb s0
  have d1 : (w.alloc (.cells #[.int .i64 b.at_, .int .i64 b.opt, .int .i64 b.slot, .int .i64 b.yes, .int .i64 b.no] 30)).cell? ⟨w.heap.size, 1, none⟩ = some (.int .i64 p) := by rw [← hbo]; exact kB.cell 1
  have d2 : (w.alloc (.cells #[.int .i64 b.at_, .int .i64 b.opt, .int .i64 b.slot, .int .i64 b.yes, .int .i64 b.no] 30)).cell? ⟨w.heap.size, 2, none⟩ = some (.int .i64 q) := by rw [← hbs]; exact kB.cell 2
  rw [hqp]
  have hpz : (p : Int) < (n : Int) := by omega
  have hqz : (q : Int) < (m : Int) := by omega
  have HL := Lib.hid hL
  have HB := Lib.hid hB
  have HX := Lib.hid hxb
  subst hA hA2
  clear hqp hsl hbo hbs hcell hcell2 hS hml hln hz hz2 hp hq hO hL hxb kB kL kO hsb hB
  go_enter Try.func46, Try.ntmps46
  go_upto_region 1 with (fail)
  have HC : Hid (∀ W, Ext w W → Calls Try.prog 47 #[.slice LA ln lc, .int .i64 s.p] W fun e w' => e = .returned (.bool (decide (s.p ∈ lost))) ∧ w' = W) := Lib.hid (fun W hx => contains_int LA ln lc lost s.p B W (HL.out.below (hx.mono HB.out)))
  generalize w.heap.size = gb at d1 d2 ⊢
  generalize w.alloc (.cells #[.int .i64 b.at_, .int .i64 b.opt, .int .i64 b.slot, .int .i64 b.yes, .int .i64 b.no] 30) = W1 at d1 d2 c1 c2 c8 s0 HX ⊢
  go_quiet (exact Calls.quiet_of_same (HC.out _ (below_drewN HX.out _)))
  go_wp2
  go_ret
  exact ⟨rfl, below_drewN HX.out _⟩
end Go.Proofs.Ytikphbgfcpamgaa
namespace Go.Proofs.Ytikphbgfcpamgaa
open Go.RowKit

theorem eqF_bool {P : Program} {w : World} {d : Nat} {xs ys : Array Value} {f : Field} {fs : List Field} {a b : Bool} (hn : f.name ≠ "_") (ha : (part f.type xs f.offset).run P w = .ok (.bool a) w) (hb : (part f.type ys f.offset).run P w = .ok (.bool b) w) (hi : (Op.equalIn (d + 1) f.type (.bool a) (.bool b)).run P w = .ok (a == b) w) :
    (Op.eqFields (d + 1) xs ys (f :: fs)).run P w = if a = b then (Op.eqFields (d + 1) xs ys fs).run P w else .ok false w := by
  rw [Op.eqFields, if_pos hn]
  simp only [Sem.run_bind, ha, Result.andThen_ok, hb, hi]
  by_cases h : a = b
  · rw [if_pos h, if_neg (by simp [h])]
  · rw [if_neg h, if_pos (by simpa using h)]
    rfl
set_option maxRecDepth 100000 in
theorem eq_ack (s t : Ack) (w : World) : (Op.equal 60 (.agg (ackCells s).toArray) (.agg (ackCells t).toArray)).run Try.prog w = .ok (decide (s = t)) w := by
  have hu := Try.underlying60
  have hi := Try.underlying3
  obtain ⟨a0, a1, a2⟩ := s
  obtain ⟨b0, b1, b2⟩ := t
  have hst : Try.prog.stoodInHeld 60 = false := by kernel_rfl
  have ht : Try.prog.underlying 60 = some (.struct (Try.prog.fieldsOf 60)) := by kernel_rfl
  have hF := congrArg (fun x => match x with | some (TypeDesc.struct fs) => fs | _ => #[]) (ht.symm.trans hu)
  dsimp only at hF
  rw [Op.equal, Op.maxDepth, run_equalIn_agg w 9999 _ _ _ ht hst, hF]
  refine Eq.trans (eqF_int (a := a0) (b := b0) (by decide) (by kernel_rfl) (by kernel_rfl) hi) ?_
  by_cases h0 : a0 = b0
  · rw [if_pos h0]
    refine Eq.trans (eqF_int (a := a1) (b := b1) (by decide) (by kernel_rfl) (by kernel_rfl) hi) ?_
    by_cases h1 : a1 = b1
    · rw [if_pos h1]
      refine Eq.trans (eqF_bool (a := a2) (b := b2) (by decide) (by kernel_rfl) (by kernel_rfl) (by cases a2 <;> cases b2 <;> kernel_rfl)) ?_
      by_cases h2 : a2 = b2
      · rw [if_pos h2]
        rw [decide_eq_true (by simp [h0, h1, h2])]; rfl
      · rw [if_neg h2, decide_eq_false (fun h => h2 (by simp at h; exact h.2.2))]
    · rw [if_neg h1, decide_eq_false (fun h => h1 (by simp at h; exact h.2.1))]
  · rw [if_neg h0, decide_eq_false (fun h => h0 (by simp at h; exact h.1))]
theorem neq_ack (a b : Ack) (w : World) : (binOp .neq 60 (.agg #[.int .i64 a.opt, .int .i64 a.slot, .bool a.is_]) (.agg #[.int .i64 b.opt, .int .i64 b.slot, .bool b.is_])).run Try.prog w = .ok (.bool (!decide (a = b))) w := by
  have h := eq_ack a b w
  rw [run_neq_struct]
  exact (congrArg (fun r => Result.andThen r fun b w' => .ok (Value.bool (!b)) w') h)
end Go.Proofs.Ytikphbgfcpamgaa
namespace Go.Proofs.Ytikphbgfcpamgaa
open Go.RowKit

set_option maxRecDepth 100000 in
set_option maxHeartbeats 1000000 in
theorem rsame_any (s1 s2 : Int) (A1 A2 : Option Addr) (n1 n2 c1 c2 : Nat) (xs ys : List Brn) (w : World) (h1 : RA brnCells 5 w w.heap.size A1 n1 c1 xs) (h2 : RA brnCells 5 w w.heap.size A2 n2 c2 ys) :
    Calls Try.prog 15 #[.agg #[.int .i64 s1, .slice A1 n1 c1], .agg #[.int .i64 s2, .slice A2 n2 c2]] w fun e w' => e = .returned (.bool (decide (s1 = s2 ∧ xs = ys))) ∧ Ext w w' := by
  have hl1 := h1.len
  have hl2 := h2.len
  have hle1 := h1.le
  obtain ⟨V, hV⟩ : ∃ V, V = decide (s1 = s2 ∧ xs = ys) := ⟨_, rfl⟩
  rw [← hV]
  have HV := Lib.hid hV
  have H1 := Lib.hid h1
  have H2 := Lib.hid h2
  have HL1 := Lib.hid hl1
  have HL2 := Lib.hid hl2
  clear hV h1 h2 hl1 hl2
  have hx : Ext w ((w.alloc (.cells #[.int .i64 s1, .slice A1 n1 c1] 33)).alloc (.cells #[.int .i64 s2, .slice A2 n2 c2] 33)) := bl_alloc (bl_alloc (Below.refl _ _) _) _
  have J1 := (Blk.new w 33 #[.int .i64 s1, .slice A1 n1 c1]).alloc (.cells #[.int .i64 s2, .slice A2 n2 c2] 33)
  have J2 := Blk.new_at (g := w.heap.size + 1) (w.alloc (.cells #[.int .i64 s1, .slice A1 n1 c1] 33)) 33 #[.int .i64 s2, .slice A2 n2 c2] (by simp)
  by_cases hs : s1 = s2
  · subst hs
    have hbs : (s1 != s1) = false := by simp
    by_cases hne : n1 = n2
    · subst hne
      have hd : ((n1 : Int) != (n1 : Int)) = false := by simp
      go_enter Try.func15, Try.ntmps15
      go_upto_region 1 with (fail)
      obtain ⟨g2, hg2⟩ : ∃ g, g = w.heap.size + 1 := ⟨_, rfl⟩
      rw [← hg2] at J2 ⊢
      clear hg2
      generalize w.heap.size = g1 at J1 ⊢
      generalize (w.alloc (.cells #[.int .i64 s1, .slice A1 n1 c1] 33)).alloc (.cells #[.int .i64 s1, .slice A2 n1 c2] 33) = W0 at hx J1 J2 ⊢
      have t10 : W0.cell? ⟨g1, 0, none⟩ = some (.int .i64 s1) := J1.cell 0
      have t20 : W0.cell? ⟨g2, 0, none⟩ = some (.int .i64 s1) := J2.cell 0
      have t1 : W0.cell? ⟨g1, 1, none⟩ = some (.slice A1 n1 c1) := J1.cell 1
      have t2 : W0.cell? ⟨g2, 1, none⟩ = some (.slice A2 n1 c2) := J2.cell 1
      go_wp2_with fail
      clear t10 t20 J1 J2
      go_loopw [5] (fun i wr => ∃ k : Nat, k ≤ n1 ∧ i = .int .i64 k ∧ Hid (xs.take k = ys.take k) ∧ Ext W0 wr) (fun i _ => n1 - (intOf i).toNat)
      case atStart => exact ⟨0, Nat.zero_le _, rfl, rfl, Ext.refl _⟩
      case round =>
        obtain ⟨k, hk, rfl, H, hxq⟩ := hrel
        have t1 := ext_cell hxq t1
        have t2 := ext_cell hxq t2
        by_cases hlt : k < n1
        · obtain ⟨b, o, hz, hA, _, hc⟩ := (ra_ext H1.out (Ext.trans hx hxq)).at_ brn_len hlt
          obtain ⟨b2, o2, hz2, hA2, _, hc2⟩ := (ra_ext H2.out (Ext.trans hx hxq)).at_ brn_len hlt
          have hstep := take_succ_eq (k := k) H.out hz hz2
          have hstop := ne_of_get (k := k) hz hz2
          generalize xs[k] = x at hc hstep hstop
          generalize ys[k] = y at hc2 hstep hstop
          have a0 : wr.cell? ⟨b, o + k * 5, none⟩ = some (.int .i64 x.at_) := hc 0 (by omega)
          have a1 : wr.cell? ⟨b, o + k * 5 + 1, none⟩ = some (.int .i64 x.opt) := hc 1 (by omega)
          have a2 : wr.cell? ⟨b, o + k * 5 + 2, none⟩ = some (.int .i64 x.slot) := hc 2 (by omega)
          have a3 : wr.cell? ⟨b, o + k * 5 + 3, none⟩ = some (.int .i64 x.yes) := hc 3 (by omega)
          have a4 : wr.cell? ⟨b, o + k * 5 + 4, none⟩ = some (.int .i64 x.no) := hc 4 (by omega)
          have b0 : wr.cell? ⟨b2, o2 + k * 5, none⟩ = some (.int .i64 y.at_) := hc2 0 (by omega)
          have b1 : wr.cell? ⟨b2, o2 + k * 5 + 1, none⟩ = some (.int .i64 y.opt) := hc2 1 (by omega)
          have b2_ : wr.cell? ⟨b2, o2 + k * 5 + 2, none⟩ = some (.int .i64 y.slot) := hc2 2 (by omega)
          have b3 : wr.cell? ⟨b2, o2 + k * 5 + 3, none⟩ = some (.int .i64 y.yes) := hc2 3 (by omega)
          have b4 : wr.cell? ⟨b2, o2 + k * 5 + 4, none⟩ = some (.int .i64 y.no) := hc2 4 (by omega)
          have hkz : (k : Int) < (n1 : Int) := by omega
          have hnq := neq_brn x y
          subst hA hA2
          clear hc hc2 hz hz2
          go_upto_region 6 with (fail)
          by_cases hxy : x = y
          · have HS := Lib.hid (hstep hxy)
            rw [decide_eq_true hxy, Bool.not_true] at hnq
            clear hstep hstop hxy
            go_quiet (fail)
            have hxn : Ext W0 (wr.drewN nq) := below_drewN hxq nq
            go_wp2
            go_roundw
            case rel => exact ⟨k + 1, by omega, by go_num, HS, hxn⟩
            case measure => simp [intOf]; omega
          · rw [decide_eq_false hxy, Bool.not_false] at hnq
            obtain rfl : V = false := by rw [HV.out]; exact decide_eq_false (fun e => hstop hxy e.2)
            clear hstep hstop hxy
            go_quiet (fail)
            go_wp2
            go_ret
            exact ⟨rfl, below_drewN (Ext.trans hx hxq) _⟩
        · have hkn : k = n1 := by omega
          have hall : xs = ys := by have h := H.out; rwa [List.take_of_length_le (by rw [HL1.out]; omega), List.take_of_length_le (by rw [HL2.out]; omega)] at h
          obtain rfl : V = true := by rw [HV.out]; first | exact decide_eq_true ⟨rfl, hall⟩ | simp [hall]
          have hkz : ¬ (k : Int) < (n1 : Int) := by omega
          clear hall
          go_wp2
          go_ret
          exact ⟨rfl, Ext.trans hx hxq⟩
    · have hd : ((n1 : Int) != (n2 : Int)) = true := by simp; omega
      obtain rfl : V = false := by rw [HV.out]; exact decide_eq_false (fun e => hne (by rw [← HL1.out, ← HL2.out, e.2]))
      go_enter Try.func15, Try.ntmps15
      go_wp2
      go_ret
      exact ⟨rfl, hx⟩
  · have hbs : (s1 != s2) = true := by simpa using hs
    obtain rfl : V = false := by rw [HV.out]; exact decide_eq_false (fun e => hs e.1)
    go_enter Try.func15, Try.ntmps15
    go_wp2
    go_ret
    exact ⟨rfl, hx⟩
set_option maxRecDepth 100000 in
set_option maxHeartbeats 1000000 in
theorem rsameA_any (A1 A2 : Option Addr) (n1 n2 c1 c2 : Nat) (xs ys : List Ack) (w : World) (h1 : RA ackCells 3 w w.heap.size A1 n1 c1 xs) (h2 : RA ackCells 3 w w.heap.size A2 n2 c2 ys) :
    Calls Try.prog 27 #[.slice A1 n1 c1, .slice A2 n2 c2] w fun e w' => e = .returned (.bool (decide (xs = ys))) ∧ Ext w w' := by
  have hle1 := h1.le
  have L1 : Hid (xs.length = n1) := h1.len
  have L2 : Hid (ys.length = n2) := h2.len
  have H1 := Lib.hid h1
  have H2 := Lib.hid h2
  clear h1 h2
  obtain ⟨V, hV⟩ : ∃ V, V = decide (xs = ys) := ⟨_, rfl⟩
  rw [← hV]
  have HV := Lib.hid hV
  clear hV
  by_cases hne : n1 = n2
  · subst hne
    have hd : ((n1 : Int) != (n1 : Int)) = false := by simp
    go_enter Try.func27, Try.ntmps27
    go_wp2
    go_loopw [5] (fun i wr => ∃ k : Nat, k ≤ n1 ∧ i = .int .i64 k ∧ Hid (xs.take k = ys.take k) ∧ Ext w wr) (fun i _ => n1 - (intOf i).toNat)
    case atStart => exact ⟨0, Nat.zero_le _, rfl, rfl, Ext.refl _⟩
    case round =>
      obtain ⟨k, hk, rfl, H, hx⟩ := hrel
      by_cases hlt : k < n1
      · obtain ⟨b, o, hz, hA, _, hc⟩ := (ra_ext H1.out hx).at_ ack_len hlt
        obtain ⟨b2, o2, hz2, hA2, _, hc2⟩ := (ra_ext H2.out hx).at_ ack_len hlt
        have hstep := take_succ_eq (k := k) H.out hz hz2
        have hstop := ne_of_get (k := k) hz hz2
        generalize xs[k] = x at hc hstep hstop
        generalize ys[k] = y at hc2 hstep hstop
        have a0 : wr.cell? ⟨b, o + k * 3, none⟩ = some (.int .i64 x.opt) := hc 0 (by omega)
        have a1 : wr.cell? ⟨b, o + k * 3 + 1, none⟩ = some (.int .i64 x.slot) := hc 1 (by omega)
        have a2 : wr.cell? ⟨b, o + k * 3 + 2, none⟩ = some (.bool x.is_) := hc 2 (by omega)
        have b0 : wr.cell? ⟨b2, o2 + k * 3, none⟩ = some (.int .i64 y.opt) := hc2 0 (by omega)
        have b1 : wr.cell? ⟨b2, o2 + k * 3 + 1, none⟩ = some (.int .i64 y.slot) := hc2 1 (by omega)
        have b2_ : wr.cell? ⟨b2, o2 + k * 3 + 2, none⟩ = some (.bool y.is_) := hc2 2 (by omega)
        have hkz : (k : Int) < (n1 : Int) := by omega
        have hnq := neq_ack x y
        subst hA hA2
        clear hc hc2 hz hz2
        go_upto_region 6 with (fail)
        by_cases hxy : x = y
        · have HS := Lib.hid (hstep hxy)
          rw [decide_eq_true hxy, Bool.not_true] at hnq
          clear hstep hstop hxy
          go_quiet (fail)
          have hxn : Ext w (wr.drewN nq) := below_drewN hx nq
          go_wp2
          go_roundw
          case rel => exact ⟨k + 1, by omega, by go_num, HS, hxn⟩
          case measure => simp [intOf]; omega
        · rw [decide_eq_false hxy, Bool.not_false] at hnq
          obtain rfl : V = false := by rw [HV.out]; exact decide_eq_false (hstop hxy)
          clear hstep hstop hxy
          go_quiet (fail)
          go_wp2
          go_ret
          exact ⟨rfl, below_drewN hx _⟩
      · have hkn : k = n1 := by omega
        have hall : xs = ys := by have h := H.out; rwa [List.take_of_length_le (by rw [L1.out]; omega), List.take_of_length_le (by rw [L2.out]; omega)] at h
        obtain rfl : V = true := by rw [HV.out]; exact decide_eq_true hall
        have hkz : ¬ (k : Int) < (n1 : Int) := by omega
        clear hall
        go_wp2
        go_ret
        exact ⟨rfl, hx⟩
  · have hd : ((n1 : Int) != (n2 : Int)) = true := by simp; omega
    obtain rfl : V = false := by rw [HV.out]; exact decide_eq_false (fun e => hne (by rw [← L1.out, ← L2.out, e]))
    go_enter Try.func27, Try.ntmps27
    go_wp2
    go_ret
    exact ⟨rfl, Ext.refl _⟩
set_option maxRecDepth 100000 in
set_option maxHeartbeats 1000000 in
theorem isLost_any (A : Option Addr) (n c : Nat) (l : List Int) (x : Int) (B : Nat) (w : World) (h : RA intCells 1 w B A n c l) :
    Calls Try.prog 30 #[.slice A n c, .int .i64 x] w fun e w' => e = .returned (.bool (decide (x ∈ l))) ∧ w' = w := by
  have hn := h.le
  have hln := h.len
  obtain ⟨V, hV⟩ : ∃ V, V = decide (x ∈ l) := ⟨_, rfl⟩
  rw [← hV]
  have HV := Lib.hid hV
  have H := Lib.hid h
  have HL := Lib.hid hln
  clear h hln hV
  go_enter Try.func30, Try.ntmps30
  go_wp2
  go_loopw [5] (fun i wr => ∃ k : Nat, k ≤ n ∧ i = .int .i64 k ∧ Hid (x ∉ l.take k) ∧ wr = w) (fun i _ => n - (intOf i).toNat)
  case atStart => exact ⟨0, Nat.zero_le _, rfl, Lib.hid (by simp), rfl⟩
  case round =>
    obtain ⟨k, hk, rfl, HM, rfl⟩ := hrel
    by_cases hlt : k < n
    · obtain ⟨b, o, hz, hA, _, hc⟩ := H.out.at_ int_len hlt
      have hst := take_snoc hz
      have hmem : l[k] ∈ l := List.getElem_mem hz
      generalize l[k] = y at hc hst hmem
      have a0 : wr.cell? ⟨b, o + k, none⟩ = some (.int .i64 y) := by have := hc 0 (by omega); rw [Nat.mul_one] at this; exact this
      have hkz : (k : Int) < (n : Int) := by omega
      subst hA
      have HST := Lib.hid hst
      have HME := Lib.hid hmem
      clear hc hz hst hmem
      by_cases hxy : y = x
      · have hxb : (y == x) = true := by simpa using hxy
        obtain rfl : V = true := by rw [HV.out, ← hxy]; exact decide_eq_true HME.out
        go_wp2
        go_ret
        exact ⟨rfl, rfl⟩
      · have hxb : (y == x) = false := by simpa using hxy
        have HM2 : Hid (x ∉ l.take (k + 1)) := Lib.hid (by rw [HST.out, List.mem_append]; rintro (h | h); exact HM.out h; exact hxy (List.mem_singleton.1 h).symm)
        go_wp2
        go_roundw
        case rel => exact ⟨k + 1, by omega, by go_num, HM2, by first | rfl | trivial⟩
        case measure => simp [intOf]; omega
    · have hkn : k = n := by omega
      have hall : x ∉ l := by have := HM.out; rwa [List.take_of_length_le (by rw [HL.out]; omega)] at this
      have hkz : ¬ (k : Int) < (n : Int) := by omega
      obtain rfl : V = false := by rw [HV.out]; exact decide_eq_false hall
      clear hall
      go_wp2
      go_ret
      exact ⟨rfl, rfl⟩
def lossL (S : Nat) : Nat → List Int
  | 0 => []
  | i + 1 => lossL S i ++ (if S.testBit i then [(i : Int)] else [])
def lossP (x : Int) : List Int := lossL (pickP x 64).toNat 6
theorem bit6 : ∀ (S : Fin 64) (i : Fin 6), (((S.val : Int) / 2 ^ i.val).tmod 2 == 1) = S.val.testBit i.val := by decide +kernel
theorem lossL_mem (S : Nat) : ∀ (n : Nat) (x : Int), x ∈ lossL S n → 0 ≤ x ∧ x < n := by
  intro n
  induction n with
  | zero => intro x h; cases h
  | succ n ih =>
    intro x h
    rw [lossL] at h
    rcases List.mem_append.1 h with h | h
    · have := ih x h; omega
    · split at h
      · have := List.mem_singleton.1 h; omega
      · cases h
theorem lossL_len (S : Nat) : ∀ n, (lossL S n).length ≤ n := by
  intro n
  induction n with
  | zero => simp [lossL]
  | succ n ih => rw [lossL, List.length_append]; split <;> simp <;> omega
def OwnI (W : World) (b : Nat) (v : Value) (l : List Int) : Prop := W.ownsRow b 3 1 v l.length (l.flatMap intCells)
theorem info_int9 : (Try.prog.info? 3).map (fun i => (i.zero, i.size, i.bytes)) = some (some (.int .i64 0), 1, 8) := by kernel_rfl
theorem int_snoc {w : World} (ty : TypeId) (l : List Int) (v : Value) (x : Int) (base gx : Nat) (jx : Blk w gx 3 #[.int .i64 x]) (h : OwnI w base v l) (hl : l.length ≤ 900) (hb : base ≤ w.heap.size) :
    ∃ v' w', (Builtin.append_ #[34, 34] ty #[v, .slice (some ⟨gx, 0, none⟩) 1 1]).run Try.prog w = .ok v' w' ∧ w.grownBy w' v.ownBlock ∧ OwnI w' base v' (l ++ [x]) := by
  obtain ⟨i0, hi0, hz0, hz1, hz2⟩ := info_parts info_int9
  obtain ⟨v2, W7, hr, hrow2, hg2, -⟩ := run_append_own (P := Try.prog) w base 34 ty 3 i0 _ 1 8 Try.underlying34 hi0 hz0 hz1 hz2 rfl (by omega) _ _ _ h ⟨gx, 0, none⟩ 1 1 (intCells x) rfl (by intro i u hu; rw [Addr.add_lit, Nat.zero_add, jx.cell]; simpa [intCells] using hu) (by simp [intCells, Value.oneCell']) (by unfold maxLen; omega) (by omega) hb
  refine ⟨v2, W7, hr, hg2, ?_⟩
  unfold OwnI
  rw [List.length_append, List.flatMap_append]
  simpa using hrow2
def LossRet (l : List Int) (w : World) (e : Ending) (w' : World) : Prop := ∃ v, e = .returned v ∧ OwnI w' w.heap.size v l ∧ Ext w w'
set_option maxRecDepth 100000 in
set_option maxHeartbeats 1000000 in
theorem losses_any (x : Int) (w : World) (h1 : -9223372036854775808 ≤ x) (h2 : x ≤ 9223372036854775807) : Calls Try.prog 17 #[.int .i64 x] w (LossRet (lossP x) w) := by
  have hp := fun W => pickl_any x 64 W h1 h2 (by omega) (by omega)
  have hpb := pickP_bd x 64 (by omega)
  obtain ⟨L, hL⟩ : ∃ L, L = lossP x := ⟨_, rfl⟩
  rw [← hL]
  unfold lossP at hL
  obtain ⟨S, hS⟩ : ∃ S : Nat, pickP x 64 = S := ⟨(pickP x 64).toNat, by omega⟩
  rw [hS] at hp hpb hL
  rw [Int.toNat_natCast] at hL
  have HP := Lib.hid hp
  have HL := Lib.hid hL
  have hS64 : S < 64 := by omega
  clear hp hL hS hpb
  go_enter Try.func17, Try.ntmps17
  go_wp2
  go_loopw [3, 4] (fun u y wr => ∃ i : Nat, i ≤ 6 ∧ y = .int .i64 i ∧ Hid (OwnI wr w.heap.size u (lossL S i)) ∧ Ext w wr) (fun _ y _ => 6 - (intOf y).toNat)
  case atStart => exact ⟨0, by omega, rfl, Lib.hid (World.ownsRow_nil _ _ _ _), Ext.refl _⟩
  case round =>
    obtain ⟨i, hi, rfl, HO, hx⟩ := hrel
    obtain ⟨A4, c4, hv4, _, _⟩ := own_slice HO.out
    subst hv4
    by_cases hi6 : i < 6
    · have hiz : (i : Int) < 6 := by omega
      have hb := bit6 ⟨S, hS64⟩ ⟨i, hi6⟩
      dsimp only at hb
      have hst : lossL S (i + 1) = lossL S i ++ (if S.testBit i then [(i : Int)] else []) := rfl
      cases hbt : S.testBit i
      · rw [hbt] at hb
        have HO2 : Hid (OwnI wr w.heap.size (.slice A4 (lossL S i).length c4) (lossL S (i + 1))) := Lib.hid (by rw [hst, hbt]; simpa using HO.out)
        have hlen : (lossL S (i + 1)).length = (lossL S i).length := by rw [hst, hbt]; simp
        clear hst
        go_wp2_with fail
        refine (HP.out _).mono ?_
        rintro e w2 ⟨rfl, rfl⟩
        go_wp2_with fail
        go_roundw
        case rel => exact ⟨i + 1, by omega, by go_num, HO2, hx⟩
        case measure => simp [intOf]; omega
      · rw [hbt] at hb
        have hll := lossL_len S i
        have hxa : Ext wr (wr.alloc (.cells #[.int .i64 (i : Int)] 3)) := bl_alloc (Below.refl _ _) _
        obtain ⟨v9, W9, hrun, hg9, hos9⟩ := int_snoc (w := wr.alloc (.cells #[.int .i64 (i : Int)] 3)) 34 (lossL S i) (.slice A4 (lossL S i).length c4) i w.heap.size wr.heap.size (Blk.new _ _ _) (own_ext HO.out hxa) (by omega) (by rw [World.size_alloc]; have := Below.size hx; omega)
        have hx9 : Ext w W9 := (Ext.trans hx hxa).grown hg9 (Below.size (Ext.trans hx hxa)) (fun z ee => (World.ownsRow.lt HO.out z ee).1)
        have HO9 : Hid (OwnI W9 w.heap.size v9 (lossL S (i + 1))) := Lib.hid (by rw [hst, hbt]; exact hos9)
        have HRUN := Lib.hid hrun
        clear hst hrun hg9 hos9 hxa
        go_wp2_with fail
        refine (HP.out _).mono ?_
        rintro e w2 ⟨rfl, rfl⟩
        go_wp2_with (refine wpList_append_run_ rfl _ _ _ rfl rfl rfl HRUN.out ?_)
        go_roundw
        case rel => exact ⟨i + 1, by omega, by go_num, HO9, hx9⟩
        case measure => simp [intOf]; omega
    · obtain rfl : i = 6 := by omega
      have HO2 : Hid (OwnI wr w.heap.size (.slice A4 (lossL S 6).length c4) L) := Lib.hid (by rw [HL.out]; exact HO.out)
      go_wp2
      go_ret
      exact ⟨_, rfl, HO2.out, hx⟩
end Go.Proofs.Ytikphbgfcpamgaa
namespace Go.Proofs.Ytikphbgfcpamgaa
open Go.RowKit Go.Shelf
attribute [local go_sem] Oper.semAt_some

theorem keeps_own {W W' : World} {base : Nat} {e : TypeId} {size k : Nat} {v : Value} {xs : List Value} (h : W.ownsRow base e size v k xs) (hg : W.grownBy W' v.ownBlock) : KeepsOthers W W' :=
  ⟨hg.size, fun j o hj ho => by
    refine (hg.block j (Array.getElem?_eq_some_iff.1 hj).1 fun e' => ?_).trans hj
    rcases h.2 with ⟨rfl, _⟩ | ⟨g, cap, cur, rfl, _, hh, _⟩
    · simp [Value.ownBlock] at e'
    · have e2 : j = g := by simpa [Value.ownBlock] using e'
      subst e2
      rw [hh] at hj
      injection hj with hj
      subst hj
      cases ho⟩
theorem own_kept {B : Nat} {W W' : World} {row : Option Nat} {base : Nat} {e : TypeId} {size k : Nat} {v : Value} {xs : List Value} (h : W.ownsRow base e size v k xs) (hg : W.grownBy W' row) (hr : ∀ r, row = some r → B ≤ r ∧ ∃ o : Obj, W.heap[r]? = some o ∧ o.isCells = false) : W'.ownsRow base e size v k xs := by
  refine ⟨h.1, ?_⟩
  rcases h.2 with hn | ⟨g, cap, cur, rfl, hb, hh, r⟩
  · exact .inl hn
  · refine .inr ⟨g, cap, cur, rfl, hb, ?_, r⟩
    refine (hg.block g (Array.getElem?_eq_some_iff.1 hh).1 fun e' => ?_).trans hh
    obtain ⟨_, o, ho, hc⟩ := hr g e'.symm
    rw [hh] at ho
    injection ho with ho
    subst ho
    cases hc
theorem blk_kept {B : Nat} {W W' : World} {row : Option Nat} {g : Nat} {t : TypeId} {cs : Array Value} (h : Blk W g t cs) (hg : W.grownBy W' row) (hr : ∀ r, row = some r → B ≤ r ∧ ∃ o : Obj, W.heap[r]? = some o ∧ o.isCells = false) : Blk W' g t cs := by
  refine (hg.block g h.lt fun e' => ?_).trans h
  obtain ⟨_, o, ho, hc⟩ := hr g e'.symm
  have hh : W.heap[g]? = _ := h
  rw [hh] at ho
  injection ho with ho
  subst ho
  cases hc
theorem KpB.step {ex : Nat → Prop} {B1 B0 : Nat} {X Y : World} {row : Option Nat} (hg : X.grownBy Y row) (h1 : B1 ≤ B0) (h0 : B0 ≤ X.heap.size) (hr : ∀ r, row = some r → (ex r ∧ B1 ≤ r) ∨ B0 ≤ r) : KpB ex B1 B0 X Y :=
  ⟨⟨hg.os, hg.tape, hg.output, hg.size, fun k hk => hg.block k (by omega) fun e => by rcases hr k e.symm with h | h <;> omega⟩,
    fun k _ hk hx => hg.block k (by omega) fun e => by rcases hr k e.symm with h | h; exact hx h.1; omega⟩
theorem way_any (k : Int) (TA : Option Addr) (tn tc g : Nat) (caps : Array Value) (w : World) :
    Calls Try.prog 45 #[.agg #[.int .i64 k, .slice TA tn tc], .func (.func g) #[] caps] w fun e w' => e = .returned (.func (.func 57) #[] #[.pointer (some ⟨w.heap.size, 0, none⟩), .pointer (some ⟨w.heap.size + 1, 0, none⟩)]) ∧
      w' = (w.alloc (.cells #[.int .i64 k, .slice TA tn tc] 33)).alloc (.cells #[.func (.func g) #[] caps] 99) := by
  go_enter Try.func45, Try.ntmps45
  go_wp2
  go_ret
  exact ⟨rfl, rfl⟩
theorem wpListIn_append_run {F : Fence} {n : Nat} {P : Program} {w : World} {ops : Array Oper} {rest : List Oper} {o : Oper} {a : Act} {Q : Exit → Act → World → Prop}
    (hg : o.guard = none) (s x : Operand) (t : TypeId) (hop : o.op = Op.call { callee := Callee.builtin Builtin.append, args := #[s, x], argTypes := #[t, t] })
    {v1 v2 v' : Value} {w' : World} (hs : a.eval s = v1) (hx : a.eval x = v2) (hrun : (Builtin.append_ #[t, t] o.type #[v1, v2]).run P w = .ok v' w')
    (hK : wpListIn F n P ops Q rest (a.put o.dst v') w') : wpListIn F n P ops Q (o :: rest) a w := by
  refine wpListIn_plain hg fun K hK' => ?_
  unfold Oper.wpIn
  refine ⟨?_, ?_⟩
  · simp [Oper.about, hop, resolve, Target.leads, Sem.run_pure]
  · rw [Oper.semAt_plain F _ _ (by rw [hop]; intro c hc'; cases hc')]
    simp [execOp, hop, resolve, invoke, builtin, hs, hx, hrun, Result.andThen]
    exact hK' _ _ hK
theorem putObj_kept {B0 B1 : Nat} {ex : Nat → Prop} (h1 : B1 ≤ B0) (W : World) (l : Nat) (o o' : Obj) (hl : B0 ≤ l) (ho : W.heap[l]? = some o) : KpB ex B1 B0 W (W.putObj l o') :=
  KpB.step (grownBy_putObj' W l o') h1 (by have := (Array.getElem?_eq_some_iff.1 ho).1; omega) (fun r e => by cases e; exact .inr hl)
theorem wp_range_way (ex : Nat → Prop) (B1 bt bc cg : Nat) (caps : Array Value) (T : List Brn) (TA : Option Addr) (tn tc : Nat) (k0 : Int) (q : Nat → Brn → Bool) (n : Nat) (hn : 1 ≤ n) (G : List (Ack × Int) → World → Prop) {w : World} (hB1 : B1 ≤ w.heap.size)
    (eg : ∀ args w, (callFunc cg args).run Try.prog w = .ok (.enter cg args) w)
    (hT : RA brnCells 5 w B1 TA tn tc T) (hd : Down T) (hk0 : -1 ≤ k0 ∧ k0 < T.length)
    (kt : Blk w bt 33 #[.int .i64 k0, .slice TA tn tc]) (kc : Blk w bc 99 #[.func (.func cg) #[] caps]) (ht : ¬ ex bt) (hc : ¬ ex bc)
    (hp : ∀ pre b W, b ∈ T → pre.length < (way T q 0 k0).length → G pre W → KpB ex B1 w.heap.size w W → Calls Try.prog cg (#[.agg #[.int .i64 b.at_, .int .i64 b.opt, .int .i64 b.slot, .int .i64 b.yes, .int .i64 b.no]] ++ caps) W fun e W' => e = .returned (.bool (q pre.length b)) ∧ Ext W W')
    {op : Operand} {p1 p2 : Nat} {assign body : Code} {Q : Exit → Act → World → Prop} {a : Act} (hg : a.eval op = .func (.func 57) #[] #[.pointer (some ⟨bt, 0, none⟩), .pointer (some ⟨bc, 0, none⟩)])
    (I : List (Ack × Int) → World → Prop) (Ix : Code → List (Ack × Int) → World → Prop) (hIG : ∀ pre W, I pre W → G pre W) (hI : OwnFrom w.heap.size I) (hIx : ∀ c, OwnFrom w.heap.size (Ix c)) (hIs : ∀ pre W, I pre W → w.heap.size ≤ W.heap.size) (h0 : I [] w)
    (fr : Array Value → Ack × Int → Nat → Array Value)
    (hassign : ∀ (l : Nat) (x : Ack × Int) (W : World) (K : Act → World → Prop), K { tmps := fr a.tmps x W.heap.size, defers := [] } (W.alloc (.cells #[.int .i64 x.1.opt, .int .i64 x.1.slot, .bool x.1.is_] 60)) →
      assign.wpIn (Fence.wide.inRound l) (n - 1 - 1) Try.prog (Exit.then K (fun _ _ _ => False)) { tmps := (a.tmps.setIfInBounds p1 (.agg #[.int .i64 x.1.opt, .int .i64 x.1.slot, .bool x.1.is_])).setIfInBounds p2 (.int .i64 x.2), defers := [] } W)
    (hbody : ∀ (l : Nat) (pre : List (Ack × Int)) (x : Ack × Int) (Bx : Nat) (W : World), I pre W → w.heap.size ≤ Bx → Blk W Bx 60 #[.int .i64 x.1.opt, .int .i64 x.1.slot, .bool x.1.is_] → pre.length < (way T q 0 k0).length →
      body.wpIn (Fence.wide.inRound l) (n - 1 - 1) Try.prog (ownPostG w.heap.size (KpB ex B1 w.heap.size) I Ix (pre ++ [x]) W) { tmps := fr a.tmps x Bx, defers := [] } W)
    (hdone : ∀ (D : Nat) (xs : List (Ack × Int)) (W : World), w.heap.size ≤ D → xs = way T q 0 k0 → I xs W → W.heap[D]? = some (.deferred (some [])) → Q .normal { a with defers := { target := .collected D, args := #[] } :: a.defers } W)
    (hstop : ∀ (D : Nat) (c : Code) (pre : List (Ack × Int)) (W : World), w.heap.size ≤ D → pre <+: way T q 0 k0 → Ix c pre W → W.heap[D]? = some (.deferred (some [])) → c.wpIn Fence.wide n Try.prog Q { a with defers := { target := .collected D, args := #[] } :: a.defers } W) :
    (Code.rangeFunc op #[p1, p2] assign body).wpIn Fence.wide n Try.prog Q a w := by
  refine wp_range_seqG hn hg (enters_of Try.func57 (by kernel_rfl) rfl) (way1_in ex B1 w.heap.size bt bc cg caps T TA tn tc k0 q G (n - 1) w hB1 (Nat.le_refl _) eg hT hd hk0 kt kc ⟨ht, kt.lt⟩ ⟨hc, kc.lt⟩ hp)
    (fun h k => h.trans k) (fun W l o o' hl ho _ => putObj_kept hB1 W l o o' hl ho) (fun _ => rfl) I Ix hIG hI hIx h0
    (fun x a' W => ∃ Bx, w.heap.size ≤ Bx ∧ Blk W Bx 60 #[.int .i64 x.1.opt, .int .i64 x.1.slot, .bool x.1.is_] ∧ a' = { tmps := fr a.tmps x Bx, defers := [] }) ?_ ?_ ?_ hdone hstop
  · rintro x a' _ X Y row ⟨Bx, h1, h2, h3⟩ hgr hr
    exact ⟨Bx, h1, blk_kept h2 hgr hr, h3⟩
  · intro l pre x W K hIp hK
    have hz : ((#[p1, p2].zip (encW x)).foldl (fun t (p, v) => t.setIfInBounds p v) a.tmps) = (a.tmps.setIfInBounds p1 (.agg #[.int .i64 x.1.opt, .int .i64 x.1.slot, .bool x.1.is_])).setIfInBounds p2 (.int .i64 x.2) := by simp [encW]
    rw [hz]
    have hs := hIs _ _ hIp
    exact hassign l x W _ (hK _ _ ((KeepsOthers.alloc W _).from _) (KpB.ext (bl_alloc (Below.refl _ _) _) hB1 hs) (hI.alloc _ hIp) ⟨W.heap.size, hs, Blk.new _ _ _, rfl⟩)
  · rintro l pre x a' W hIp ⟨Bx, h1, h2, rfl⟩ hlen
    exact hbody l pre x Bx W hIp h1 h2 hlen
end Go.Proofs.Ytikphbgfcpamgaa
