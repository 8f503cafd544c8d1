/- The reference: Asked. -/
import Derived.Test.YtgbfhkildbhhoaaR3
import Derived.Test.YtgbfhkildbhhoaaK4
import Derived.Test.YtgbfhkildbhhoaaQ6
namespace Go.Proofs.Ytgbfhkildbhhoaa
open Go.RowKit

theorem bit_md (S k : Nat) : ((S : Int) / 2 ^ k) % 2 = (if bitP S k then 1 else 0) ∧ ((S : Int) / 2 ^ k).tmod 2 = (if bitP S k then 1 else 0) := by
  have hc : ((S : Int) / 2 ^ k) = ((S / 2 ^ k : Nat) : Int) := by simp
  have h1 : (((S / 2 ^ k : Nat) : Int)) % 2 = (if bitP S k then 1 else 0) := by
    unfold bitP
    have h2 : S / 2 ^ k % 2 = 0 ∨ S / 2 ^ k % 2 = 1 := by omega
    rcases h2 with h2 | h2
    · simp [h2]; omega
    · simp [h2]; omega
  rw [hc]
  exact ⟨h1, by rw [Int.tmod_eq_emod_of_nonneg (Int.natCast_nonneg _)]; exact h1⟩
theorem info_req : (Try.prog.info? 30).map (fun i => (i.zero, i.size, i.bytes)) = some (some (.agg #[.int .i64 0, .slice none 0 0]), 2, 32) := by kernel_rfl
/-- A list of integers of one's own. -/
def OwnI (W : World) (b : Nat) (v : Value) (l : List Int) : Prop := W.ownsRow b 3 1 v l.length (l.flatMap intCells)
theorem OwnI.ext {W W' : World} {b : Nat} {v : Value} {l : List Int} (h : OwnI W b v l) (hx : Ext W W') : OwnI W' b v l := own_ext h hx
/-- Requests of one's own. -/
structure RqI (w : World) (b : Nat) (v : Value) (rs : List Req) : Prop where
  out : w.ownsRow b 30 2 v rs.length (rs.flatMap reqCells)
  each : ∀ x ∈ rs, w.ownsRow b 3 1 (.slice x.a x.n x.c) x.l.length (x.l.flatMap intCells) ∧ x.l.length ≤ 1000
theorem RqI.ext {w w' : World} {b : Nat} {v : Value} {rs : List Req} (h : RqI w b v rs) (hx : Ext w w') : RqI w' b v rs := ⟨own_ext h.out hx, fun x hr => ⟨own_ext (h.each x hr).1 hx, (h.each x hr).2⟩⟩
theorem RqI.base {w : World} {b b' : Nat} {v : Value} {rs : List Req} (h : RqI w b v rs) (hb : b' ≤ b) : RqI w b' v rs := ⟨own_base h.out hb, fun x hr => ⟨own_base (h.each x hr).1 hb, (h.each x hr).2⟩⟩
theorem RqI.nil (w : World) (b : Nat) : RqI w b (.slice none 0 0) [] := ⟨World.ownsRow_nil _ _ _ _, fun _ h => by cases h⟩
theorem RqI.rqs {w : World} {b : Nat} {A : Option Addr} {n c : Nat} {rs : List Req} (h : RqI w b (.slice A n c) rs) (hn : rs.length ≤ 1000) : Rqs w w.heap.size A n c rs := by
  have e := own_n h.out
  subst e
  refine ⟨RA.of_own h.out rfl (by omega), fun x hr => ?_⟩
  obtain ⟨h1, h2⟩ := h.each x hr
  have e := own_n h1
  obtain ⟨xi, xa, xn, xc, xl⟩ := x
  dsimp only at h1 h2 e ⊢
  subst e
  exact ⟨RA.of_own h1 rfl (by omega), h2⟩
/-- A further request behind requests. -/
theorem req_snoc {w : World} {b : Nat} {v : Value} {rs : List Req} (h : RqI w b v rs) (hl : rs.length ≤ 900) (ty : TypeId) (gx : Nat) (x : Req) (jx : Blk w gx 30 #[.int .i64 x.im, .slice x.a x.n x.c]) (hx : OwnI w b (.slice x.a x.n x.c) x.l) (hxl : x.l.length ≤ 1000) (hb : b ≤ w.heap.size) :
    ∃ v' w', (Builtin.append_ #[31, 31] ty #[v, .slice (some ⟨gx, 0, none⟩) 1 1]).run Try.prog w = .ok v' w' ∧ RqI w' b v' (rs ++ [x]) ∧ w.grownBy w' v.ownBlock := by
  obtain ⟨i0, hi0, hz0, hz1, hz2⟩ := info_parts info_req
  obtain ⟨v2, W7, hr, hrow2, hg2, -⟩ := run_append_own (P := Try.prog) w b 31 ty 30 i0 _ 2 32 Try.underlying31 hi0 hz0 hz1 hz2 rfl (by omega) _ _ _ h.out ⟨gx, 0, none⟩ 1 1 [.int .i64 x.im, .slice x.a x.n x.c] rfl (by intro i u hu; rw [Addr.add_lit, Nat.zero_add, jx.cell]; simpa using hu) (by simp [Value.oneCell']) (by unfold maxLen; omega) (by omega) (by omega)
  refine ⟨v2, W7, hr, ⟨by rw [List.length_append, List.flatMap_append]; simpa [reqCells] using hrow2, fun y hy => ?_⟩, hg2⟩
  rcases List.mem_append.1 hy with hy | hy
  · exact ⟨own_other (h.each y hy).1 h.out (by decide) hg2, (h.each y hy).2⟩
  · rw [List.mem_singleton.1 hy]
    exact ⟨own_other hx h.out (by decide) hg2, hxl⟩
/-- One integer more. -/
theorem snoc_int {w : World} (ty : TypeId) (xs : List Int) (v : Value) (x : Int) (base gx : Nat) (jx : Blk w gx 3 #[.int .i64 x]) (hx : OwnI w base v xs) (hn : xs.length ≤ 900) (hb : base ≤ w.heap.size) :
    ∃ v' w', (Builtin.append_ #[28, 28] ty #[v, .slice (some ⟨gx, 0, none⟩) 1 1]).run Try.prog w = .ok v' w' ∧ w.grownBy w' v.ownBlock ∧ OwnI w' base v' (xs ++ [x]) := by
  obtain ⟨i0, hi0, hz0, hz1, hz2⟩ := info_parts info_int
  obtain ⟨v2, W7, hr, hrow2, hg2, -⟩ := run_append_own (P := Try.prog) w base 28 ty 3 i0 _ 1 8 Try.underlying28 hi0 hz0 hz1 hz2 rfl (by omega) _ _ _ hx ⟨gx, 0, none⟩ 1 1 [.int .i64 x] rfl (by intro i u hu; rw [Addr.add_lit, Nat.zero_add, jx.cell]; simpa using hu) (by simp [Value.oneCell']) (by unfold maxLen; omega) (by omega) hb
  refine ⟨v2, W7, hr, hg2, ?_⟩
  unfold OwnI
  rw [List.length_append, List.flatMap_append]
  simpa [intCells] using hrow2
theorem own_off {W : World} {b s : Nat} {t : TypeId} {v : Value} {n : Nat} {xs : List Value} (h : W.ownsRow b t s v n xs) {p : Addr} (hp : ∀ q, v.ownBlock = some q → q ≠ p.block) (u : Value) : (W.setCell p u).ownsRow b t s v n xs := by
  refine ⟨h.1, ?_⟩
  rcases h.2 with hn | ⟨g, cap, cur, rfl, hb, hgg, r⟩
  · exact .inl hn
  · exact .inr ⟨g, cap, cur, rfl, hb, (Below.heap_setCell W p u g (hp g rfl)).trans hgg, r⟩
theorem Blk.set2b {w : World} {g : Nat} {t : TypeId} {a0 a1 : Value} (h : Blk w g t #[a0, a1]) (b1 : Value) : Blk (w.setCell ⟨g, 1, none⟩ b1) g t #[a0, b1] := by
  have k := h.set_ 1 b1
  simp only [List.setIfInBounds_toArray, List.set_cons_zero, List.set_cons_succ] at k
  exact k
theorem Blk.set2 {w : World} {g : Nat} {t : TypeId} {a0 a1 : Value} (h : Blk w g t #[a0, a1]) (b0 b1 : Value) : Blk ((w.setCell ⟨g, 0, none⟩ b0).setCell ⟨g, 1, none⟩ b1) g t #[b0, b1] := by
  have k := (h.set_ 0 b0).set_ 1 b1
  simp only [List.setIfInBounds_toArray, List.set_cons_zero, List.set_cons_succ] at k
  exact k
/-- What Asked hands back. -/
def AskRet (w : World) (e : Ending) (w' : World) : Prop := ∃ v rs, e = .returned v ∧ RqI w' w.heap.size v rs ∧ rightP rs = true ∧ rs.length ≤ 8 ∧ (∀ r ∈ rs, r.l.length ≤ 8) ∧ Ext w w'
/-- Requests as Asked makes them. -/
structure AskOK (rs : List Req) : Prop where
  each : ∀ r ∈ rs, okR r ∧ r.l.length ≤ 8
  im : ∀ j (h : j < rs.length), rs[j].im = 5 * j + 3
theorem AskOK.nil : AskOK [] := ⟨fun _ h => (by cases h), fun j h => absurd h (by simp)⟩
theorem AskOK.snoc {rs : List Req} (h : AskOK rs) (r : Req) (hr : okR r ∧ r.l.length ≤ 8) (him : r.im = 5 * rs.length + 3) : AskOK (rs ++ [r]) := by
  refine ⟨fun x hx => ?_, fun j hj => ?_⟩
  · rcases List.mem_append.1 hx with hx | hx
    · exact h.each x hx
    · rw [List.mem_singleton.1 hx]; exact hr
  · by_cases hjl : j < rs.length
    · rw [List.getElem_append_left hjl]; exact h.im j hjl
    · have : j = rs.length := by simp at hj; omega
      subst this
      rw [List.getElem_append_right (Nat.le_refl _)]
      simpa using him
theorem AskOK.right {rs : List Req} (h : AskOK rs) (hl : rs.length ≤ 8) : rightP rs = true := by
  rw [rightP_iff]
  refine ⟨fun r hr => (h.each r hr).1, List.pairwise_iff_getElem.2 fun a b ha hb hab => ?_, by omega⟩
  rw [h.im a ha, h.im b hb]
  omega
/-- Passes as far as they have been looked at. -/
structure PasOK (l : List Int) (p : Nat) : Prop where
  len : l.length ≤ p
  asc : l.Pairwise (· < ·)
  bd : ∀ q ∈ l, 0 ≤ q ∧ q < p
theorem PasOK.more {l : List Int} {p : Nat} (h : PasOK l p) : PasOK l (p + 1) := ⟨by have := h.len; omega, h.asc, fun q hq => by have := h.bd q hq; omega⟩
theorem PasOK.snoc {l : List Int} {p : Nat} (h : PasOK l p) : PasOK (l ++ [(p : Int)]) (p + 1) := by
  refine ⟨by have := h.len; simp; omega, List.pairwise_append.2 ⟨h.asc, List.pairwise_singleton _ _, fun a ha b hb => ?_⟩, fun q hq => ?_⟩
  · have := h.bd a ha
    rw [List.mem_singleton.1 hb]
    exact this.2
  · rcases List.mem_append.1 hq with hq | hq
    · have := h.bd q hq; omega
    · rw [List.mem_singleton.1 hq]; omega
theorem PasOK.nil : PasOK [] 0 := ⟨Nat.le_refl _, List.Pairwise.nil, fun _ h => by cases h⟩

set_option maxRecDepth 100000 in
set_option maxHeartbeats 8000000 in
theorem asked_any (x : List Int) (XA : Option Addr) (n c : Nat) (w : World) (hr : RA intCells 1 w w.heap.size XA n c x) (hok : ∀ t ∈ x, I64ok t) :
    Calls Try.prog 25 #[.slice XA n c] w (AskRet w) := by
  have hle := hr.le
  have HR := Lib.hid hr
  have HL := Lib.hid hr.len
  have HOK := Lib.hid hok
  obtain ⟨m, hm⟩ : ∃ m, m = min n 8 := ⟨_, rfl⟩
  have hm8 : m ≤ 8 := by omega
  have hmn : m ≤ n := by omega
  have HM : Hid (m = n ∨ m = 8) := Lib.hid (by omega)
  clear hr hok hm
  go_enter Try.func25, Try.ntmps25
  go_wp2
  go_loopw [3, 4] (fun y z wr => ∃ (k : Nat) (rs : List Req), k ≤ m ∧ z = .int .i64 k ∧ Hid (AskOK rs) ∧ rs.length = k ∧ Hid (RqI wr w.heap.size y rs) ∧ Ext w wr) (fun _ z _ => m - (intOf z).toNat)
  case atStart => exact ⟨0, [], Nat.zero_le _, rfl, Lib.hid AskOK.nil, rfl, Lib.hid (RqI.nil _ _), Ext.refl _⟩
  case round =>
    obtain ⟨k, rs, hk, rfl, HA, hrl, HI, hx⟩ := hrel
    by_cases hkm : k < m
    · obtain ⟨b, o, hz, hA, _, hc⟩ := (HR.out.below hx).at_ int_len (show k < n by omega)
      have hbd := (HR.out.below hx).rd.2 (by omega)
      have hokk := HOK.out x[k] (List.getElem_mem hz)
      generalize x[k] = t at hokk hc
      have c0 : wr.cell? ⟨b, o + k * 1, none⟩ = some (.int .i64 t) := hc 0 (by omega)
      rw [Nat.mul_one] at c0
      have hp0 := fun W => pickr_any t 256 W hokk.1 hokk.2 (by omega) (by omega)
      have hb0 := pickI_bd t 256 (by omega)
      obtain ⟨S, hS⟩ : ∃ S : Nat, pickI t 256 = S := ⟨(pickI t 256).toNat, by omega⟩
      rw [hS] at hp0 hb0
      have HP0 := Lib.hid hp0
      have hkn1 : (k : Int) < (n : Int) := by omega
      have hkn2 : (k : Int) < 8 := by omega
      have hw1 : IntKind.i64.wrap (5 * (k : Int)) = 5 * (k : Int) := IntWalk.i64_in _ (by omega)
      have hw2 : IntKind.i64.wrap (5 * (k : Int) + 3) = 5 * (k : Int) + 3 := IntWalk.i64_in _ (by omega)
      have hw3 : (5 * (k : Int) + 3).tmod 64 = 5 * (k : Int) + 3 := by rw [Int.tmod_eq_emod_of_nonneg (by omega)]; omega
      have hw4 : IntKind.i64.wrap ((5 * (k : Int) + 3).tmod 64) = 5 * (k : Int) + 3 := by rw [hw3]; exact hw2
      obtain ⟨b', o', hA', hbl, _⟩ := hbd
      have hbw : b < wr.heap.size := by
        rw [hA] at hA'
        injection hA' with e
        injection e with e1 e2
        have := Below.size hx
        omega
      subst hA
      clear hc hz hp0 hS hA' hbl
      go_upto_region 6 with (fail)
      obtain ⟨g, hg⟩ : ∃ g, g = wr.heap.size := ⟨_, rfl⟩
      have J0 : Blk (wr.alloc (.cells #[.int .i64 (5 * (k : Int) + 3), .slice none 0 0] 30)) g 30 #[.int .i64 (5 * (k : Int) + 3), .slice none 0 0] := by rw [hg]; exact Blk.new _ _ _
      have hx0 : Ext wr (wr.alloc (.cells #[.int .i64 (5 * (k : Int) + 3), .slice none 0 0] 30)) := bl_alloc (Below.refl _ _) _
      have hgw : w.heap.size ≤ g := by rw [hg]; exact Below.size hx
      rw [← hg]
      generalize wr.alloc (.cells #[.int .i64 (5 * (k : Int) + 3), .slice none 0 0] 30) = W1 at J0 hx0 ⊢
      obtain ⟨W0, hW0⟩ : ∃ W, W = wr := ⟨_, rfl⟩
      rw [← hW0] at hx0 HI hx c0 hg hbw
      have HJ0 := Lib.hid J0
      have HI0 := Lib.hid HI.out
      have HC0 := Lib.hid c0
      have HGW := Lib.hid hg
      clear hg hW0 J0 HI c0 hw1 hw3 hw4
      obtain ⟨im, him⟩ : ∃ im, im = 5 * (k : Int) + 3 := ⟨_, rfl⟩
      have HIM : Hid ((0 ≤ im ∧ im ≤ 63) ∧ im = 5 * (k : Int) + 3) := Lib.hid (by omega)
      rw [← him] at HJ0 ⊢
      clear him hw2
      go_wp2_with fail
      go_loopw [6] (fun y wi => ∃ (p : Nat) (l : List Int) (A3 : Option Addr) (n3 c3 : Nat), p ≤ 8 ∧ y = .int .i64 p ∧ Hid (PasOK l p) ∧ Hid (Blk wi g 30 #[.int .i64 im, .slice A3 n3 c3]) ∧ Hid (OwnI wi g (.slice A3 n3 c3) l) ∧ Ext W0 wi) (fun y _ => 8 - (intOf y).toNat)
      case atStart => exact ⟨0, [], none, 0, 0, by omega, rfl, Lib.hid PasOK.nil, HJ0, Lib.hid (World.ownsRow_nil _ _ _ _), hx0⟩
      case round =>
        clear HJ0 hx0
        obtain ⟨p, l, A3, n3, c3, hp8, rfl, HP, HJ, HO, hz⟩ := hrel
        by_cases hp : p < 8
        · have c0 := ext_cell hz HC0.out
          obtain ⟨hbm1, hbm2⟩ := bit_md S p
          generalize bitP S p = q at hbm1 hbm2
          have hk0 : (0 : Int) ≤ (k : Int) := by omega
          cases q
          · rw [if_neg (by simp)] at hbm1 hbm2
            have HPN := Lib.hid HP.out.more
            clear HP
            go_wp2_with ((refine (HP0.out _).mono ?_; rintro e w2 ⟨rfl, rfl⟩))
            go_roundw
            case rel => exact ⟨p + 1, l, A3, n3, c3, by omega, by go_num, HPN, HJ, HO, hz⟩
            case measure => simp [intOf]; omega
          · rw [if_pos rfl] at hbm1 hbm2
            have HPN := Lib.hid HP.out.snoc
            have hll := HP.out.len
            have hgr := HJ.out.lt
            have d1 : wr.cell? ⟨g, 1, none⟩ = some (.slice A3 n3 c3) := HJ.out.cell 1
            have hxa : Ext wr (wr.alloc (.cells #[.int .i64 (p : Int)] 3)) := bl_alloc (Below.refl _ _) _
            have jx : Blk (wr.alloc (.cells #[.int .i64 (p : Int)] 3)) wr.heap.size 3 #[.int .i64 (p : Int)] := Blk.new _ _ _
            have hzg := Below.size hz
            have hg := HGW.out
            have hgs : g ≤ (wr.alloc (.cells #[.int .i64 (p : Int)] 3)).heap.size := by have := Below.size hxa; omega
            obtain ⟨v7, W7, hrun, hg7, ho7⟩ := snoc_int 28 l (.slice A3 n3 c3) (p : Int) g wr.heap.size jx (HO.out.ext hxa) (by omega) hgs
            have hoa := HO.out.ext hxa
            have hja := HJ.out.ext hxa
            have hj7 := hja.grown hg7 (fun e => own_blk_ne hoa hja (by decide) e.symm)
            have hx7 : Ext W0 W7 := (Ext.trans hz hxa).grown hg7 (by have := Below.size (Ext.trans hz hxa); omega) (fun q e => by have := (World.ownsRow.lt hoa q e).1; omega)
            obtain ⟨A7, c7, hv7, _, _⟩ := own_slice ho7
            subst hv7
            have f1 : W7.frozen? ⟨g, 1, none⟩ = false := hj7.frozen 1
            have e1 : W7.cell? ⟨g, 1, none⟩ = some (.slice A3 n3 c3) := hj7.cell 1
            have hj8 := hj7.set2b (.slice A7 (l ++ [(p : Int)]).length c7)
            have ho8 : OwnI (W7.setCell ⟨g, 1, none⟩ (.slice A7 (l ++ [(p : Int)]).length c7)) g (.slice A7 (l ++ [(p : Int)]).length c7) (l ++ [(p : Int)]) := own_off ho7 (fun q e => fun e2 => own_blk_ne ho7 hj7 (by decide) (by rw [e, e2])) _
            have hx8 := hx7.setCell (p := ⟨g, 1, none⟩) (by rw [← hg]; exact Nat.le_refl _) (.slice A7 (l ++ [(p : Int)]).length c7)
            have HJ8 := Lib.hid hj8
            have HO8 := Lib.hid ho8
            have HRUN := Lib.hid hrun
            generalize (l ++ [(p : Int)]).length = n7 at HJ8 HO8 hx8 HRUN ⊢
            clear HP hrun hj8 ho8 hj7 ho7 hg7 hoa hja jx HJ HO hx7 hgs hxa hg hzg
            go_wp2_with (first | (refine (HP0.out _).mono ?_; rintro e w2 ⟨rfl, rfl⟩) | (refine wpList_append_run_ rfl _ _ _ rfl rfl rfl HRUN.out ?_))
            go_roundw
            case rel => exact ⟨p + 1, _, A7, n7, c7, by omega, by go_num, HPN, HJ8, HO8, hx8⟩
            case measure => simp [intOf]; omega
        · obtain rfl : p = 8 := by omega
          have hwf := Ext.trans hx hz
          have d0 : wr.cell? ⟨g, 0, none⟩ = some (.int .i64 im) := HJ.out.cell 0
          have d1 : wr.cell? ⟨g, 1, none⟩ = some (.slice A3 n3 c3) := HJ.out.cell 1
          have hxa : Ext wr (wr.alloc (.cells #[.int .i64 im, .slice A3 n3 c3] 30)) := bl_alloc (Below.refl _ _) _
          have jx : Blk (wr.alloc (.cells #[.int .i64 im, .slice A3 n3 c3] 30)) wr.heap.size 30 #[.int .i64 im, .slice A3 n3 c3] := Blk.new _ _ _
          obtain ⟨Ao, co, hvo, _, _⟩ := own_slice HI0.out.out
          subst hvo
          have hI1 := (HI0.out.ext hz).ext hxa
          have hxw := Ext.trans hwf hxa
          have hpl := HP.out.len
          obtain ⟨v7, W7, hrun, hI7, hg7⟩ := req_snoc hI1 (by omega) 31 wr.heap.size ⟨im, A3, n3, c3, l⟩ jx (own_base (own_ext HO.out hxa) hgw) (by dsimp only; omega) (Below.size hxw)
          have hx7 : Ext w W7 := hxw.grown hg7 (Below.size hxw) (fun q e => (World.ownsRow.lt hI1.out q e).1)
          have hA7 : AskOK (rs ++ [⟨im, A3, n3, c3, l⟩]) := HA.out.snoc _ ⟨⟨HIM.out.1, by dsimp only; omega, fun q hq => by have := HP.out.bd q hq; omega, HP.out.asc⟩, hpl⟩ (by rw [hrl]; exact HIM.out.2)
          have hrl7 : (rs ++ [(⟨im, A3, n3, c3, l⟩ : Req)]).length = k + 1 := by rw [List.length_append, hrl]; rfl
          generalize rs ++ [(⟨im, A3, n3, c3, l⟩ : Req)] = rs7 at hI7 hA7 hrl7
          obtain ⟨A7, c7, hv7, _, _⟩ := own_slice hI7.out
          subst hv7
          rw [hrl7] at hI7 hrun
          have HI7 := Lib.hid hI7
          have HA7 := Lib.hid hA7
          have HRUN := Lib.hid hrun
          clear hI7 hA7 hrun hg7 hI1 hxw hxa jx HO HJ HP HA HI0
          go_wp2_with (refine wpList_append_run_ rfl _ _ _ rfl rfl rfl HRUN.out ?_)
          clear HRUN
          go_roundw
          case rel => exact ⟨k + 1, rs7, by omega, by go_num, HA7, hrl7, HI7, hx7⟩
          case measure => simp [intOf]; omega
    · have hmm : m = n ∨ m = 8 := HM.out
      have hkk : ¬ (k : Int) < (n : Int) ∨ ¬ (k : Int) < 8 := by omega
      clear hmm
      obtain ⟨A3, c3, hv3, _, _⟩ := own_slice HI.out.out
      subst hv3
      have hfin : AskRet w (.returned (.slice A3 k c3)) wr := ⟨_, rs, rfl, by rw [← hrl]; exact HI.out, HA.out.right (by omega), by omega, fun r hr => (HA.out.each r hr).2, hx⟩
      rcases hkk with hkk | hkk
      · go_wp2
        go_ret
        exact hfin
      · go_wp2
        all_goals (
          go_ret
          exact hfin)
end Go.Proofs.Ytgbfhkildbhhoaa
