/- Inputs that integers determine: the walk. -/
import Derived.Test.YtikphbgfcpamgaaP31
import Derived.Test.YtikphbgfcpamgaaP24
namespace Go.Proofs.Ytikphbgfcpamgaa
open Go.RowKit

def MadeRet (fin : List Op) (w : World) (e : Ending) (w' : World) : Prop := ∃ v os, e = .returned v ∧ OwnOs w' w.heap.size v os ∧ os.map Opt.op = fin ∧ Ext w w'
theorem optsO_len (xs : List Six) : ∀ i, (optsO i xs).length = xs.length := by
  induction xs with
  | nil => intro i; rfl
  | cons x r ih => intro i; simp [optsO, ih]
theorem optsO_at (xs : List Six) : ∀ (i k : Nat) (h : k < xs.length), (optsO i xs)[k]? = some (optO (i + k) xs[k]) := by
  induction xs with
  | nil => intro i k h; simp at h
  | cons x r ih =>
    intro i k h
    cases k with
    | zero => rfl
    | succ k =>
      have := ih (i + 1) k (by simpa using h)
      simp only [optsO, List.getElem?_cons_succ, List.getElem_cons_succ]
      rw [this, show i + 1 + k = i + (k + 1) by omega]
theorem own_far1 {w w' : World} {b s n g : Nat} {e : TypeId} {v : Value} {xs : List Value} (h : w.ownsRow b e s v n xs) (hne : v.ownBlock ≠ some g) (hg : w.grownBy w' (some g)) : w'.ownsRow b e s v n xs := by
  refine ⟨h.1, ?_⟩
  rcases h.2 with hn | ⟨k, cap, cur, rfl, hb2, hgg, r⟩
  · exact .inl hn
  · exact .inr ⟨k, cap, cur, rfl, hb2, (hg.block k (Array.getElem?_eq_some_iff.1 hgg).1 (fun e => hne (by injection e with e; rw [← e]; rfl))).trans hgg, r⟩
theorem addr_ne {w : World} {b s n c g : Nat} {a : Option Addr} {m : Nat} {e : TypeId} {xs : List Value} (h : w.ownsRow b e s (.slice a m c) n xs) (hne : a ≠ some ⟨g, 0, none⟩) : (Value.slice a m c).ownBlock ≠ some g := by
  rcases h.2 with ⟨hv, _⟩ | ⟨k, cap, cur, hv, _⟩
  · injection hv with h1 _ _
    subst h1
    simp [Value.ownBlock]
  · injection hv with h1 _ _
    subst h1
    intro e
    have e2 : k = g := by simpa [Value.ownBlock] using e
    exact hne (by rw [e2])
theorem opt_snoc2 {w : World} (ty : TypeId) (os : List Opt) (v : Value) (x : Opt) (base B1 gx : Nat) (jx : Blk w gx 27 (optCells x).toArray) (h : OwnOs w base v os) (hB : ∀ q, v.ownBlock = some q → B1 ≤ q) (hn : x.n = x.l.length) (ho : OwnS w base (.slice x.a x.n x.c) x.l) (hl : os.length ≤ 900) (hbb : base ≤ B1) (hb : B1 ≤ w.heap.size) :
    ∃ v' w', (Builtin.append_ #[28, 28] ty #[v, .slice (some ⟨gx, 0, none⟩) 1 1]).run Try.prog w = .ok v' w' ∧ w.grownBy w' v.ownBlock ∧ OwnOs w' base v' (os ++ [x]) ∧ ∀ q, v'.ownBlock = some q → B1 ≤ q := by
  have h1 : w.ownsRow B1 27 9 v os.length (os.flatMap optCells) := by
    refine ⟨h.1.1, ?_⟩
    rcases h.1.2 with hn | ⟨g, cap, cur, rfl, _, r⟩
    · exact .inl hn
    · exact .inr ⟨g, cap, cur, rfl, hB g rfl, r⟩
  obtain ⟨i0, hi0, hz0, hz1, hz2⟩ := info_parts info_opt
  obtain ⟨v2, W7, hr, hrow2, hg2, -⟩ := run_append_own (P := Try.prog) w B1 28 ty 27 i0 _ 9 88 Try.underlying28 hi0 hz0 hz1 hz2 rfl (by omega) _ _ _ h1 ⟨gx, 0, none⟩ 1 1 (optCells x) rfl (by intro i u hu; rw [Addr.add_lit, Nat.zero_add, jx.cell]; simpa using hu) (by simp [optCells, Value.oneCell']) (by unfold maxLen; omega) (by omega) hb
  refine ⟨v2, W7, hr, hg2, ⟨?_, fun y hy => ?_⟩, fun q hq => (World.ownsRow.lt hrow2 q hq).1⟩
  · rw [List.length_append, List.flatMap_append]
    have := own_base hrow2 hbb
    simpa using this
  · rcases List.mem_append.1 hy with hy | hy
    · exact ⟨(h.2 y hy).1, own_other (h.2 y hy).2 h.1 (by decide) hg2⟩
    · rw [List.mem_singleton.1 hy]; exact ⟨hn, own_other ho h.1 (by decide) hg2⟩
theorem own_far2 {w w' : World} {b s n : Nat} {row : Option Nat} {e : TypeId} {v : Value} {xs : List Value} (h : w.ownsRow b e s v n xs) (hne : ∀ q, v.ownBlock = some q → row ≠ some q) (hg : w.grownBy w' row) : w'.ownsRow b e s v n xs := by
  refine ⟨h.1, ?_⟩
  rcases h.2 with hn | ⟨k, cap, cur, rfl, hb2, hgg, r⟩
  · exact .inl hn
  · exact .inr ⟨k, cap, cur, rfl, hb2, (hg.block k (Array.getElem?_eq_some_iff.1 hgg).1 (fun e => hne k rfl e.symm)).trans hgg, r⟩
set_option maxRecDepth 100000 in
set_option maxHeartbeats 2000000 in
theorem made_any (xs : List Six) (XA : Option Addr) (n c : Nat) (w : World) (hr : RA sixCells 6 w w.heap.size XA n c xs) (hb : ∀ x ∈ xs, x.ok) :
    Calls Try.prog 10 #[.slice XA n c] w (MadeRet (madeP xs) w) := by
  have hopt := options_any xs XA n c w hr hb
  have hxl := hr.len
  obtain ⟨ys, hys⟩ : ∃ ys, ys = xs.take 8 := ⟨_, rfl⟩
  have hyl : ys.length = min 8 n := by rw [hys, List.length_take, hxl]
  obtain ⟨fin, hfin⟩ : ∃ x : List Op, x = madeP xs := ⟨_, rfl⟩
  have hfin2 : fin = madeR ([] : List Op) 0 (ys.drop 0) := by rw [hfin, hys]; rfl
  have HYX : Hid (∀ (k : Nat) (h : k < ys.length), ∃ h2 : k < xs.length, xs[k] = ys[k]) := Lib.hid (fun k h => by
    subst hys
    have h2 : k < xs.length := by rw [List.length_take] at h; omega
    exact ⟨h2, by simp⟩)
  rw [← hfin]
  rw [← hys] at hopt
  have HR := Lib.hid hr
  have HB := Lib.hid hb
  have HF0 := Lib.hid hfin2
  have HYL := Lib.hid hyl
  have HOPT := Lib.hid hopt
  have hn9 := hr.le
  clear hr hb hopt hxl hys hyl hfin hfin2
  go_enter Try.func10, Try.ntmps10
  go_wp2_with fail
  have hc := HOPT.out
  refine hc.mono ?_
  clear hc HOPT
  rintro e W1 ⟨v, osA, rfl, hos, hmap, hnd, hx⟩
  obtain ⟨A1, c1, hv1, _, _⟩ := own_slice hos.1
  subst hv1
  have hal : osA.length = ys.length := by have h := congrArg List.length hmap; rwa [List.length_map, optsO_len] at h
  have hal8 : osA.length ≤ 8 := by rw [hal, HYL.out]; omega
  obtain ⟨m, hm⟩ : ∃ m, m = osA.length := ⟨_, rfl⟩
  have hall := hos.1
  rw [← hm] at hall hal8 hal ⊢
  have HALL := Lib.hid hall
  have HAB : Hid (∀ q, (Value.slice A1 m c1).ownBlock = some q → q < W1.heap.size) := Lib.hid (fun q hq => (World.ownsRow.lt hall q hq).2)
  have HOB0 : Hid (∀ q, (Value.slice none 0 0).ownBlock = some q → W1.heap.size ≤ q) := Lib.hid (fun q h => by simp [Value.ownBlock] at h)
  have hw1s := Below.size hx
  have hz1s : W1.heap.size ≤ W1.heap.size := Nat.le_refl _
  have HTD0 : Hid (∀ o ∈ osA.drop 0, OwnS W1 w.heap.size (.slice o.a o.n o.c) o.l) := Lib.hid (fun o ho => (hos.2 o (List.mem_of_mem_drop ho)).2)
  have HON : Hid (∀ o ∈ osA, o.n = o.l.length) := Lib.hid (fun o ho => (hos.2 o ho).1)
  have HMAP := Lib.hid hmap
  have HND := Lib.hid hnd
  have HM := Lib.hid hm
  have HAL := Lib.hid hal
  have HOUT0 : Hid (∀ p ∈ ([] : List Opt), p.a ∈ (osA.take 0).map Opt.a) := Lib.hid (fun p h => by cases h)
  clear hos hmap hnd hal hm hall
  go_wp2_with fail
  go_loopw [4, 5] (fun u x wr => ∃ (i : Nat) (outs : List Opt), i ≤ m ∧ outs.length ≤ i ∧ x = .int .i64 i ∧ Hid (fin = madeR (outs.map Opt.op) i (ys.drop i)) ∧ Hid (OwnOs wr w.heap.size u outs) ∧ Hid (wr.ownsRow w.heap.size 27 9 (.slice A1 m c1) m (osA.flatMap optCells)) ∧ Hid (∀ o ∈ osA.drop i, OwnS wr w.heap.size (.slice o.a o.n o.c) o.l) ∧ Hid (∀ p ∈ outs, p.a ∈ (osA.take i).map Opt.a) ∧ Hid (∀ q, u.ownBlock = some q → W1.heap.size ≤ q) ∧ W1.heap.size ≤ wr.heap.size ∧ Ext w wr) (fun _ x _ => m - (intOf x).toNat)
  case atStart => exact ⟨0, [], Nat.zero_le _, Nat.zero_le _, rfl, HF0, Lib.hid (OwnOs.nil _ _), HALL, HTD0, HOUT0, HOB0, hz1s, hx⟩
  case round =>
    clear HF0 HALL HTD0 HOUT0 hx HOB0 hz1s
    obtain ⟨i, outs, hi, hoi, rfl, HF, HO, HALL, HTD, HOUT, HOB, hzs, hxo⟩ := hrel
    obtain ⟨A4, c4, hv4, _, _⟩ := own_slice HO.out.1
    subst hv4
    by_cases him : i < m
    · have himz : (i : Int) < (m : Int) := by omega
      by_cases ho6 : outs.length < 6
      · have ho6z : (outs.length : Int) < 6 := by omega
        have hiy : i < ys.length := by have := HAL.out; omega
        obtain ⟨hix, hxy⟩ := HYX.out i hiy
        obtain ⟨b, ob, hzx, hAx, _, hcw⟩ := HR.out.at_ six_len (show i < n by have := HYL.out; omega)
        have hok := HB.out _ (List.getElem_mem hzx)
        obtain ⟨b5, o5, hz5, hA5, _, hc5⟩ := (RA.of_own2 HALL.out HM.out.symm).at_ opt_len him
        have hf := HF.out
        rw [List.drop_eq_getElem_cons hiy, madeR, if_pos (by rw [List.length_map]; exact ho6)] at hf
        have hop : osA[i].op = optO i ys[i] := by
          have h : (osA.map Opt.op)[i]? = (optsO 0 ys)[i]? := by rw [HMAP.out]
          rw [optsO_at ys 0 i hiy, Nat.zero_add, List.getElem?_map, List.getElem?_eq_getElem hz5] at h
          injection h
        have hon := HON.out _ (List.getElem_mem hz5)
        have hsl := HTD.out osA[i] (by rw [List.drop_eq_getElem_cons hz5]; exact List.mem_cons_self ..)
        have hdr : osA.drop i = osA[i] :: osA.drop (i + 1) := List.drop_eq_getElem_cons hz5
        have htk : osA.take (i + 1) = osA.take i ++ [osA[i]] := List.take_succ_eq_append_getElem hz5
        have hnd := HND.out
        rw [← List.take_append_drop i osA, hdr, List.map_append, List.map_cons, List.nodup_append] at hnd
        obtain ⟨_, hnd2, hnd3⟩ := hnd
        rw [List.nodup_cons] at hnd2
        rw [hxy] at hcw hok
        rw [← hop] at hf
        have HDR := Lib.hid (show ∀ o ∈ osA.drop (i + 1), o ∈ osA.drop i from fun o ho => by rw [hdr]; exact List.mem_cons_of_mem _ ho)
        have hn1 : ∀ p ∈ outs, p.a ≠ osA[i].a := fun p hp e => hnd3 _ (HOUT.out p hp) _ (List.mem_cons_self ..) e
        have hn2 : ∀ o ∈ osA.drop (i + 1), o.a ≠ osA[i].a := fun o ho e => hnd2.1 (by rw [← e]; exact List.mem_map.2 ⟨o, ho, rfl⟩)
        have HTK : Hid ((osA.take (i + 1)).map Opt.a = (osA.take i).map Opt.a ++ [osA[i].a]) := Lib.hid (by rw [htk, List.map_append]; rfl)
        have hcnt : 0 < osA[i].l.length ∧ osA[i].l.length ≤ 4 := by
          have h1 := congrArg Op.l hop
          have h2 := cntO_le ys[i]
          have h3 : 0 < cntO ys[i] := by unfold cntO; omega
          rw [show osA[i].l = slO ys[i] 0 (toO ys[i]) (cntO ys[i]) from h1, slO_len]
          exact ⟨h3, h2⟩
        generalize ys[i] = X at hcw hok hf
        generalize osA[i] = o at hc5 hf hon hsl hn1 hn2 HTK hcnt
        obtain ⟨id, i1, i2, sat, sf, st, i6, size, a, k9, d, l⟩ := o
        dsimp only at hon hsl hn1 hn2 HTK hcnt
        subst hon
        obtain ⟨ga, cap, hva, _, hgaw⟩ := hsl.form hcnt.1
        injection hva with ha _ hd
        subst ha hd
        obtain ⟨x0, x1, x2, x3, x4, x5⟩ := X
        obtain ⟨X, hX⟩ : ∃ X : Six, X = ⟨x0, x1, x2, x3, x4, x5⟩ := ⟨_, rfl⟩
        have hX1 : X.a1 = x1 := by rw [hX]
        have b1 : I64ok x1 := hok.2.1
        have w1 : w.cell? ⟨b, ob + i * 6 + 1, none⟩ = some (.int .i64 x1) := hcw 1 (by omega)
        rw [← hX] at hf
        have c0 : wr.cell? ⟨b5, o5 + i * 9, none⟩ = some (.int .i64 id) := hc5 0 (by omega)
        have c1_ : wr.cell? ⟨b5, o5 + i * 9 + 1, none⟩ = some (.int .i64 i1) := hc5 1 (by omega)
        have c2 : wr.cell? ⟨b5, o5 + i * 9 + 2, none⟩ = some (.int .i64 i2) := hc5 2 (by omega)
        have c3 : wr.cell? ⟨b5, o5 + i * 9 + 3, none⟩ = some (.int .i64 sat) := hc5 3 (by omega)
        have c4_ : wr.cell? ⟨b5, o5 + i * 9 + 4, none⟩ = some (.int .i64 sf) := hc5 4 (by omega)
        have c5 : wr.cell? ⟨b5, o5 + i * 9 + 5, none⟩ = some (.int .i64 st) := hc5 5 (by omega)
        have c6 : wr.cell? ⟨b5, o5 + i * 9 + 6, none⟩ = some (.int .i64 i6) := hc5 6 (by omega)
        have c7 : wr.cell? ⟨b5, o5 + i * 9 + 7, none⟩ = some (.int .i64 size) := hc5 7 (by omega)
        have c8 : wr.cell? ⟨b5, o5 + i * 9 + 8, none⟩ = some (.slice (some ⟨ga, 0, none⟩) l.length d) := hc5 8 (by omega)
        have hgab : w.heap.size ≤ ga := (World.ownsRow.lt hsl ga rfl).1
        obtain ⟨ln, hln⟩ : ∃ ln, ln = l.length := ⟨_, rfl⟩
        rw [← hln] at c8 hsl hcnt
        have HX1 := Lib.hid hX1
        have HW1 := Lib.hid w1
        have HFF := Lib.hid hf
        have HSL := Lib.hid hsl
        have HLN := Lib.hid hln
        have HN1 := Lib.hid hn1
        have HN2 := Lib.hid hn2
        have hlnl : ln ≤ 4 := hcnt.2
        have hx1 : Ext wr (wr.alloc (.cells #[.int .i64 id, .int .i64 i1, .int .i64 i2, .int .i64 sat, .int .i64 sf, .int .i64 st, .int .i64 i6, .int .i64 size, .slice (some ⟨ga, 0, none⟩) ln d] 27)) := bl_alloc (Below.refl _ _) _
        have JB : OBlk (wr.alloc (.cells #[.int .i64 id, .int .i64 i1, .int .i64 i2, .int .i64 sat, .int .i64 sf, .int .i64 st, .int .i64 i6, .int .i64 size, .slice (some ⟨ga, 0, none⟩) ln d] 27)) wr.heap.size id i1 i2 sat sf st i6 size (some ⟨ga, 0, none⟩) ln d := Blk.new _ _ _
        subst hA5 hAx
        clear hX hX1 w1 hf hsl hln hn1 hn2 hok hcw hc5 hzx hz5 hdr htk hnd2 hnd3 hop hxy hix
        go_upto_region 7 with (fail)
        have hgag : ga < wr.heap.size := hgaw
        have hgw : w.heap.size ≤ wr.heap.size := Below.size hxo
        generalize wr.heap.size = g6 at JB hgag hgw ⊢
        obtain ⟨Wo, hwo⟩ : ∃ Wo, Wo = wr := ⟨_, rfl⟩
        rw [← hwo] at hx1 JB ⊢
        generalize Wo.alloc (.cells #[.int .i64 id, .int .i64 i1, .int .i64 i2, .int .i64 sat, .int .i64 sf, .int .i64 st, .int .i64 i6, .int .i64 size, .slice (some ⟨ga, 0, none⟩) ln d] 27) = W2 at hx1 JB ⊢
        have HSL2 : Hid (OwnS W2 w.heap.size (.slice (some ⟨ga, 0, none⟩) ln d) (mixS X l 0)) := Lib.hid (by rw [mixS_zero]; exact own_ext HSL.out (hwo ▸ hx1))
        have HJB := Lib.hid JB
        have HX2 : Hid (Ext wr W2) := Lib.hid (hwo ▸ hx1)
        clear c0 c1_ c2 c3 c4_ c5 c6 c7 c8 hx1 JB hwo
        go_wp2_with fail
        go_loopw [7] (fun x wq => ∃ k : Nat, k ≤ ln ∧ x = .int .i64 k ∧ Hid (OwnS wq w.heap.size (.slice (some ⟨ga, 0, none⟩) ln d) (mixS X l k)) ∧ Hid (OBlk wq g6 id i1 i2 sat sf st i6 size (some ⟨ga, 0, none⟩) ln d) ∧ Hid (W2.grownBy wq (some ga))) (fun x _ => ln - (intOf x).toNat)
        case atStart => exact ⟨0, Nat.zero_le _, rfl, HSL2, HJB, Lib.hid (World.grownBy.refl _ _)⟩
        case round =>
          clear HSL2 HJB
          obtain ⟨k, hk, rfl, HSLK, HJB, HGR⟩ := hrel
          obtain ⟨Wq, hwq⟩ : ∃ Wq, Wq = wr := ⟨_, rfl⟩
          subst hwq
          have d8 : Wq.cell? ⟨g6, 8, none⟩ = some (.slice (some ⟨ga, 0, none⟩) ln d) := HJB.out.cell 8
          have hxw2 := Ext.trans hxo HX2.out
          have hxq : Ext w Wq := hxw2.grown HGR.out (Below.size hxw2) (fun q e => by injection e with e; omega)
          by_cases hkn : k < ln
          · have hkz : (k : Int) < (ln : Int) := by omega
            have wx1 := ext_cell hxq HW1.out
            have hinz : (i : Int) < (n : Int) := by have := HYL.out; omega
            have hml9 : (mixS X l k).length = ln := by rw [mixS_len X l (by have := HLN.out; omega)]; exact HLN.out.symm
            have HML := Lib.hid hml9
            clear hml9
            obtain ⟨t1, t2⟩ := tdiv_ok (x := x1) (n := 1 + 3 * (k : Int)) b1 (by omega)
            have P4 := fun W => pick20_any (x1.tdiv (1 + 3 * (k : Int))) 4 W t1.1 t1.2 (by omega) (by omega)
            obtain ⟨hmk, hmk1, hmk2⟩ := mixS_step X l (k := k) (by have := HLN.out; omega)
            rw [HX1.out] at hmk2
            have hm1 : IntKind.i64.wrap (3 * (k : Int)) = 3 * (k : Int) := IntWalk.i64_in _ (by omega)
            have hm2 : IntKind.i64.wrap (1 + 3 * (k : Int)) = 1 + 3 * (k : Int) := IntWalk.i64_in _ (by omega)
            have hn1 : ¬ 1 + 3 * (k : Int) = 0 := by omega
            have hn3 : (1 + 3 * (k : Int) == 0) = false := by simpa using hn1
            generalize pickP (x1.tdiv (1 + 3 * (k : Int))) 4 = pp at P4 hmk2
            have HP4 := Lib.hid P4
            have HSET : Hid (∀ W, OwnS W w.heap.size (.slice (some ⟨ga, 0, none⟩) ln d) (mixS X l k) → OwnS (W.setCell ⟨ga, k * 3, none⟩ (.int .i64 pp)) w.heap.size (.slice (some ⟨ga, 0, none⟩) ln d) (mixS X l (k + 1)) ∧ W.grownBy (W.setCell ⟨ga, k * 3, none⟩ (.int .i64 pp)) (some ga)) := Lib.hid (fun W h => by
              have := slt_set h hmk pp
              rw [hmk1, hmk2] at this
              exact this)
            have HC0 : Hid (∃ u, Wq.cell? ⟨ga, k * 3, none⟩ = some u) := Lib.hid ⟨.int .i64 (mixS X l k)[k].p, by
              have h := World.ownsRow.cells HSLK.out (g := ga) rfl (k * 3) (.int .i64 (mixS X l k)[k].p) (flat_at slt_len _ k hmk 0 (by omega))
              rw [Addr.add_lit, Nat.zero_add] at h
              exact h⟩
            clear P4 hmk hmk1 hmk2 t1
            go_upto_region 10 with (fail)
            refine wp_region_obl 15 (fun ix vals v w1 => match ix with | 0 => v = .pointer (some ⟨g6, 8, none⟩) | 1 => v = .slice (some ⟨ga, 0, none⟩) ln d | 2 => v = .int .i64 (k : Int) | 3 => v = .slice (some ⟨b, ob, none⟩) n c | 4 => v = .int .i64 (i : Int) | 5 => v = .pointer (some ⟨b, ob + i * 6, none⟩) | 6 => v = .pointer (some ⟨b, ob + i * 6 + 1, none⟩) | 7 => v = .int .i64 x1 | 8 => v = .int .i64 (k : Int) | 9 => v = .int .i64 (3 * (k : Int)) | 10 => v = .int .i64 (1 + 3 * (k : Int)) | 11 => v = .int .i64 (x1.tdiv (1 + 3 * (k : Int))) | 12 => v = .int .i64 pp | 13 => v = .pointer (some ⟨ga, k * 3, none⟩) | _ => v = .pointer (some ⟨ga, k * 3, none⟩)) (by kernel_rfl) (by kernel_rfl) ?_ ?_ ?_ ?_
            · intro ix vals v w1 w2 hi hr hx
              match ix, hr with
              | 0, hr => exact hr
              | 1, hr => exact hr
              | 2, hr => exact hr
              | 3, hr => exact hr
              | 4, hr => exact hr
              | 5, hr => exact hr
              | 6, hr => exact hr
              | 7, hr => exact hr
              | 8, hr => exact hr
              | 9, hr => exact hr
              | 10, hr => exact hr
              | 11, hr => exact hr
              | 12, hr => exact hr
              | 13, hr => exact hr
              | (kx + 14), hr => exact hr
            · intro ix vals vals_ v w1 hi hv hr
              exact hr
            · refine obls_ofT [some 32, some 33, some 34, some 35, some 36, some 37, some 38, some 39, some 40, some 41, some 42, some 43, some 44, some 45, some 46, none] [(6, .pointer (some ⟨g6, 0, none⟩)), (7, .int .i64 (k : Int)), (0, .slice (some ⟨b, ob, none⟩) n c), (5, .int .i64 (i : Int))] 59 (by kernel_rfl) (by kernel_rfl) ⟨by kernel_rfl, by kernel_rfl, by kernel_rfl, by kernel_rfl, trivial⟩ ?_
              refine ⟨?_, ?_, ?_, ?_, ?_, ?_, ?_, ?_, ?_, ?_, ?_, ?_, ?_, ?_, ?_, trivial⟩
              · intro vals w1 hx hd
                refine .r [(6, .pointer (some ⟨g6, 0, none⟩))] (Op.fieldAddr 27 (Operand.const (.pointer (some ⟨g6, 0, none⟩))) 7) 0 32 ⟨.out (by kernel_rfl) (by kernel_rfl), trivial⟩ ?_
                clear hd
                go_wp2
                exact ⟨rfl, Ext.refl _, rfl⟩
              · intro vals w1 hx hd
                refine .r [(32, .pointer (some ⟨g6, 8, none⟩))] (Op.load 25 (Operand.const (.pointer (some ⟨g6, 8, none⟩)))) 25 33 ⟨.inn 0 (by kernel_rfl) (hd 0 (by decide)), trivial⟩ ?_
                clear hd
                have d8 := ext_cell hx d8
                go_wp2
                exact ⟨rfl, Ext.refl _, rfl⟩
              · intro vals w1 hx hd
                refine .r [(7, .int .i64 (k : Int))] (Op.move (Operand.const (.int .i64 (k : Int)))) 3 34 ⟨.out (by kernel_rfl) (by kernel_rfl), trivial⟩ ?_
                clear hd
                go_wp2
                exact ⟨rfl, Ext.refl _, rfl⟩
              · intro vals w1 hx hd
                refine .r [(0, .slice (some ⟨b, ob, none⟩) n c)] (Op.move (Operand.const (.slice (some ⟨b, ob, none⟩) n c))) 22 35 ⟨.out (by kernel_rfl) (by kernel_rfl), trivial⟩ ?_
                clear hd
                go_wp2
                exact ⟨rfl, Ext.refl _, rfl⟩
              · intro vals w1 hx hd
                refine .r [(5, .int .i64 (i : Int))] (Op.move (Operand.const (.int .i64 (i : Int)))) 3 36 ⟨.out (by kernel_rfl) (by kernel_rfl), trivial⟩ ?_
                clear hd
                go_wp2
                exact ⟨rfl, Ext.refl _, rfl⟩
              · intro vals w1 hx hd
                refine .r [(35, .slice (some ⟨b, ob, none⟩) n c), (36, .int .i64 (i : Int))] (Op.indexAddr 22 (Operand.const (.slice (some ⟨b, ob, none⟩) n c)) (Operand.const (.int .i64 (i : Int)))) 0 37 ⟨.inn 3 (by kernel_rfl) (hd 3 (by decide)), .inn 4 (by kernel_rfl) (hd 4 (by decide)), trivial⟩ ?_
                clear hd
                go_wp2
                exact ⟨rfl, Ext.refl _, rfl⟩
              · intro vals w1 hx hd
                refine .r [(37, .pointer (some ⟨b, ob + i * 6, none⟩))] (Op.indexAddr 71 (Operand.const (.pointer (some ⟨b, ob + i * 6, none⟩))) (Operand.const (Value.int IntKind.i64 1))) 0 38 ⟨.inn 5 (by kernel_rfl) (hd 5 (by decide)), trivial⟩ ?_
                clear hd
                go_wp2
                exact ⟨rfl, Ext.refl _, rfl⟩
              · intro vals w1 hx hd
                refine .r [(38, .pointer (some ⟨b, ob + i * 6 + 1, none⟩))] (Op.load 3 (Operand.const (.pointer (some ⟨b, ob + i * 6 + 1, none⟩)))) 3 39 ⟨.inn 6 (by kernel_rfl) (hd 6 (by decide)), trivial⟩ ?_
                clear hd
                have wx1 := ext_cell hx wx1
                go_wp2
                exact ⟨rfl, Ext.refl _, rfl⟩
              · intro vals w1 hx hd
                refine .r [(7, .int .i64 (k : Int))] (Op.move (Operand.const (.int .i64 (k : Int)))) 3 40 ⟨.out (by kernel_rfl) (by kernel_rfl), trivial⟩ ?_
                clear hd
                go_wp2
                exact ⟨rfl, Ext.refl _, rfl⟩
              · intro vals w1 hx hd
                refine .r [(40, .int .i64 (k : Int))] (Op.binOp BinOp.mul 3 (Operand.const (Value.int IntKind.i64 3)) (Operand.const (.int .i64 (k : Int))) 3) 3 41 ⟨.inn 8 (by kernel_rfl) (hd 8 (by decide)), trivial⟩ ?_
                clear hd
                go_wp2
                exact ⟨rfl, Ext.refl _, rfl⟩
              · intro vals w1 hx hd
                refine .r [(41, .int .i64 (3 * (k : Int)))] (Op.binOp BinOp.add 3 (Operand.const (Value.int IntKind.i64 1)) (Operand.const (.int .i64 (3 * (k : Int)))) 3) 3 42 ⟨.inn 9 (by kernel_rfl) (hd 9 (by decide)), trivial⟩ ?_
                clear hd
                go_wp2
                exact ⟨rfl, Ext.refl _, rfl⟩
              · intro vals w1 hx hd
                refine .r [(39, .int .i64 x1), (42, .int .i64 (1 + 3 * (k : Int)))] (Op.binOp BinOp.quo 3 (Operand.const (.int .i64 x1)) (Operand.const (.int .i64 (1 + 3 * (k : Int)))) 3) 3 43 ⟨.inn 7 (by kernel_rfl) (hd 7 (by decide)), .inn 10 (by kernel_rfl) (hd 10 (by decide)), trivial⟩ ?_
                clear hd
                go_wp2
                exact ⟨rfl, Ext.refl _, rfl⟩
              · intro vals w1 hx hd
                refine .r [(43, .int .i64 (x1.tdiv (1 + 3 * (k : Int))))] (Op.call { callee := Callee.value (Operand.func 34), args := #[(Operand.const (.int .i64 (x1.tdiv (1 + 3 * (k : Int))))), Operand.const (Value.int IntKind.i64 4)], argTypes := #[3, 3] }) 3 44 ⟨.inn 11 (by kernel_rfl) (hd 11 (by decide)), trivial⟩ ?_
                clear hd
                go_wp2_with fail
                refine (HP4.out _).mono ?_
                rintro e w2 ⟨rfl, rfl⟩
                go_wp2
                exact ⟨rfl, Ext.refl _, rfl⟩
              · intro vals w1 hx hd
                refine .r [(33, .slice (some ⟨ga, 0, none⟩) ln d), (34, .int .i64 (k : Int))] (Op.indexAddr 25 (Operand.const (.slice (some ⟨ga, 0, none⟩) ln d)) (Operand.const (.int .i64 (k : Int)))) 0 45 ⟨.inn 1 (by kernel_rfl) (hd 1 (by decide)), .inn 2 (by kernel_rfl) (hd 2 (by decide)), trivial⟩ ?_
                clear hd
                go_wp2
                exact ⟨rfl, Ext.refl _, rfl⟩
              · intro vals w1 hx hd
                refine .r [(45, .pointer (some ⟨ga, k * 3, none⟩))] (Op.fieldAddr 62 (Operand.const (.pointer (some ⟨ga, k * 3, none⟩))) 0) 0 46 ⟨.inn 13 (by kernel_rfl) (hd 13 (by decide)), trivial⟩ ?_
                clear hd
                go_wp2
                exact ⟨rfl, Ext.refl _, rfl⟩
            intro vals W5 hy hf
            have v12 : vals 12 = .int .i64 pp := hf 12 (by omega)
            have v14 : vals 14 = .pointer (some ⟨ga, k * 3, none⟩) := hf 14 (by omega)
            have hy := hy.undrew
            have hs5 := own_ext HSLK.out hy
            obtain ⟨u, hu⟩ := HC0.out
            have u5 := ext_cell hy hu
            have hs7 : W5.ownsRow w.heap.size 62 3 (.slice (some ⟨ga, 0, none⟩) ln d) ln ((mixS X l k).flatMap sltCells) := by
              have h := hs5
              unfold OwnS at h
              rw [HML.out] at h
              exact h
            have f5 : W5.frozen? ⟨ga, k * 3, none⟩ = false := hs7.frozenAt _
            obtain ⟨hs6, hg6⟩ := HSET.out W5 hs5
            have HSL6 := Lib.hid hs6
            have HJ6 := Lib.hid ((HJB.out.ext hy).far (p := ⟨ga, k * 3, none⟩) (show g6 ≠ ga by omega) (.int .i64 pp))
            have HG6 := Lib.hid (gb_trans (gb_trans HGR.out (grown_ext hy)) hg6)
            clear hf hy hs5 hs7 hu hs6 hg6 HSET HC0 d8 wx1
            refine tail1 15 _ (by kernel_rfl) (by kernel_rfl) rfl ?_
            simp only [Lf, dstAt, Act.put, List.getElem?_toArray, List.getElem?_cons_zero, List.getElem?_cons_succ, Option.bind_some, List.setIfInBounds_toArray, List.set_cons_zero, List.set_cons_succ]
            rw [v12, v14]
            clear v12 v14
            go_wp2_with fail
            go_roundw
            case rel => exact ⟨k + 1, by omega, by go_num, HSL6, HJ6, HG6⟩
            case measure => simp [intOf]; omega
          · have hke : k = l.length := by have := HLN.out; omega
            have hkz : ¬ (k : Int) < (ln : Int) := by omega
            have hsq : OwnS Wq w.heap.size (.slice (some ⟨ga, 0, none⟩) ln d) (psO X 0 l) := by have h := HSLK.out; rw [hke, mixS_all] at h; exact h
            obtain ⟨o', ho'⟩ : ∃ o' : Opt, o' = ⟨id, i1, i2, sat, sf, st, i6, size, some ⟨ga, 0, none⟩, ln, d, psO X 0 l⟩ := ⟨_, rfl⟩
            have hslw2 := own_ext HSL.out HX2.out
            have HALLq : Hid (Wq.ownsRow w.heap.size 27 9 (.slice (some ⟨b5, o5, none⟩) m c1) m (osA.flatMap optCells)) := Lib.hid (own_other (own_ext HALL.out HX2.out) hslw2 (by decide) HGR.out)
            have HOq : Hid (OwnOs Wq w.heap.size (.slice A4 outs.length c4) outs) := Lib.hid ⟨own_other (own_ext HO.out.1 HX2.out) hslw2 (by decide) HGR.out, fun p hp => ⟨(HO.out.2 p hp).1, own_far1 (own_ext (HO.out.2 p hp).2 HX2.out) (addr_ne (HO.out.2 p hp).2 (HN1.out p hp)) HGR.out⟩⟩
            have HTDq : Hid (∀ o ∈ osA.drop (i + 1), OwnS Wq w.heap.size (.slice o.a o.n o.c) o.l) := Lib.hid (fun o ho => own_far1 (own_ext (HTD.out o (HDR.out o ho)) HX2.out) (addr_ne (HTD.out o (HDR.out o ho)) (HN2.out o ho)) HGR.out)
            have hn' : o'.n = o'.l.length := by rw [ho']; show ln = (psO X 0 l).length; rw [psO_len]; exact HLN.out
            have hs' : OwnS Wq w.heap.size (.slice o'.a o'.n o'.c) o'.l := by rw [ho']; exact hsq
            have hop' : o'.op = pasO X (⟨id, i1, i2, sat, sf, st, i6, size, some ⟨ga, 0, none⟩, l.length, d, l⟩ : Opt).op := by rw [ho']; rfl
            have hcc : optCells o' = [.int .i64 id, .int .i64 i1, .int .i64 i2, .int .i64 sat, .int .i64 sf, .int .i64 st, .int .i64 i6, .int .i64 size, .slice (some ⟨ga, 0, none⟩) ln d] := by rw [ho']; rfl
            obtain ⟨N0, hN0⟩ : ∃ N0, N0 = Wq.heap.size := ⟨_, rfl⟩
            have HEACH : Hid (∀ W, Below N0 Wq W → ∀ p ∈ outs ++ [o'], RA sltCells 3 W W.heap.size p.a p.n p.c p.l) := Lib.hid (fun W hbl p hp => by
              have hh : p.n = p.l.length ∧ OwnS Wq w.heap.size (.slice p.a p.n p.c) p.l := by
                rcases List.mem_append.1 hp with hp | hp
                · exact HOq.out.2 p hp
                · rw [List.mem_singleton.1 hp]; exact ⟨hn', hs'⟩
              have h2 := hh.2
              unfold OwnS at h2
              rw [← hh.1] at h2
              have hbl2 : Ext Wq W := by rw [hN0] at hbl; exact hbl
              exact ra_ext (RA.of_own2 h2 hh.1.symm) hbl2)
            obtain ⟨cb, hcb⟩ : ∃ cb, cb = refL ((outs ++ [o']).map Opt.op) := ⟨_, rfl⟩
            have HCAR : Hid (∀ (W : World) (A : Option Addr) (kk : Nat), Below N0 Wq W → W.ownsRow N0 27 9 (.slice A (outs.length + 1) kk) (outs.length + 1) ((outs ++ [o']).flatMap optCells) → Calls Try.prog 35 #[.slice A (outs.length + 1) kk] W fun e w' => e = .returned (.bool cb) ∧ Ext W w') := Lib.hid (fun W A kk hbl ho => by
              rw [hcb]
              exact carried_any (outs ++ [o']) A (outs.length + 1) kk W ⟨RA.of_own2 ho (by simp), HEACH.out W hbl⟩)
            have HCC := Lib.hid hcc
            have HCB := Lib.hid hcb
            have HOP' := Lib.hid hop'
            have HN' := Lib.hid hn'
            have HS' := Lib.hid hs'
            have d0 : Wq.cell? ⟨g6, 0, none⟩ = some (.int .i64 id) := HJB.out.cell 0
            have d1 : Wq.cell? ⟨g6, 1, none⟩ = some (.int .i64 i1) := HJB.out.cell 1
            have d2 : Wq.cell? ⟨g6, 2, none⟩ = some (.int .i64 i2) := HJB.out.cell 2
            have d3 : Wq.cell? ⟨g6, 3, none⟩ = some (.int .i64 sat) := HJB.out.cell 3
            have d4 : Wq.cell? ⟨g6, 4, none⟩ = some (.int .i64 sf) := HJB.out.cell 4
            have d5 : Wq.cell? ⟨g6, 5, none⟩ = some (.int .i64 st) := HJB.out.cell 5
            have d6 : Wq.cell? ⟨g6, 6, none⟩ = some (.int .i64 i6) := HJB.out.cell 6
            have d7 : Wq.cell? ⟨g6, 7, none⟩ = some (.int .i64 size) := HJB.out.cell 7
            have hgN : g6 < N0 := by rw [hN0]; exact HJB.out.lt
            have hT := tp_tr N0 (outs.flatMap optCells ++ optCells o') 9
            have HRAQ : Hid (∀ W, Below N0 Wq W → RA optCells 9 W N0 A4 outs.length c4 outs) := Lib.hid (fun W hbl => by
              have h := RA.of_own2 HOq.out.1 rfl
              rw [← hN0] at h
              exact h.below hbl)
            have HNW : Hid (∀ W, TP N0 (outs.flatMap optCells ++ optCells o') 9 Wq W → N0 ≤ W.heap.size) := Lib.hid (fun W h => by rw [hN0]; exact h.size)
            have HG : Hid ((outs ++ [o']).flatMap optCells = outs.flatMap optCells ++ optCells o') := Lib.hid (by simp)
            have hol5 : outs.length ≤ 2000 := by omega
            obtain ⟨i0, hi0, hz0, hz1, hz2⟩ := info_parts info_opt
            have HN0 := Lib.hid hN0
            clear hke hsq ho' hslw2 hn' hs' hop' hcc hcb hN0
            go_upto_region 11 with (fail)
            refine RB.wp_region_obl (T := _) hT 7 (fun ix vals v w1 => match ix with | 0 => ∃ gx, v = .slice (some ⟨gx, 0, none⟩) 0 0 ∧ N0 ≤ gx ∧ Blk w1 gx 27 #[] | 1 => v = .slice A4 outs.length c4 | 2 => ∃ g k, v = .slice (some ⟨g, 0, none⟩) outs.length k ∧ (outs.length = 0 → k = 0) ∧ w1.ownsRow N0 27 9 (.slice (some ⟨g, 0, none⟩) outs.length k) outs.length (outs.flatMap optCells) | 3 => v = .agg #[.int .i64 id, .int .i64 i1, .int .i64 i2, .int .i64 sat, .int .i64 sf, .int .i64 st, .int .i64 i6, .int .i64 size, .slice (some ⟨ga, 0, none⟩) ln d] | 4 => ∃ gx, v = .slice (some ⟨gx, 0, none⟩) 1 1 ∧ N0 ≤ gx ∧ Blk w1 gx 27 #[.int .i64 id, .int .i64 i1, .int .i64 i2, .int .i64 sat, .int .i64 sf, .int .i64 st, .int .i64 i6, .int .i64 size, .slice (some ⟨ga, 0, none⟩) ln d] | 5 => ∃ g k, v = .slice (some ⟨g, 0, none⟩) (outs.length + 1) k ∧ w1.ownsRow N0 27 9 (.slice (some ⟨g, 0, none⟩) (outs.length + 1) k) (outs.length + 1) (outs.flatMap optCells ++ optCells o') | _ => v = .bool cb) (by kernel_rfl) (by kernel_rfl) ?_ ?_ ?_ ?_
            · intro ix vals v w1 w2 hi hr hx
              match ix, hr with
              | 0, hr => obtain ⟨gx, h1, h2, h3⟩ := hr; exact ⟨gx, h1, h2, hx.blk h3 (by simp)⟩
              | 1, hr => exact hr
              | 2, hr => obtain ⟨g, k, h1, h2, h3⟩ := hr; exact ⟨g, k, h1, h2, hx.own h3 (List.prefix_append _ _)⟩
              | 3, hr => exact hr
              | 4, hr => obtain ⟨gx, h1, h2, h3⟩ := hr; exact ⟨gx, h1, h2, hx.blk h3 (by simp)⟩
              | 5, hr => obtain ⟨g, k, h1, h3⟩ := hr; exact ⟨g, k, h1, hx.own h3 (List.prefix_refl _)⟩
              | (kx + 6), hr => exact hr
            · intro ix vals vals_ v w1 hi hv hr
              exact hr
            · refine ⟨?_, ?_, ?_, ?_, ?_, ?_, ?_, trivial⟩
              · intro vals w1 hx hd ha
                clear hd ha
                simp only [Lf]
                have hz := HNW.out _ hx.undrew
                go_wp2
                exact ⟨rfl, TP.ext (bl_alloc (Below.refl _ _) _) hz, _, rfl, hz, Blk.new _ _ _⟩
              · intro vals w1 hx hd ha
                clear hd ha
                simp only [Lf, dstAt, Act.put, List.getElem?_toArray, List.getElem?_cons_zero, Option.bind_some, List.setIfInBounds_toArray, List.set_cons_zero, List.set_cons_succ]
                go_wp2
                exact ⟨rfl, hT.refl _, rfl⟩
              · intro vals w1 hx hd ha
                have r0 : (fun v w1 => ∃ gx, v = .slice (some ⟨gx, 0, none⟩) 0 0 ∧ N0 ≤ gx ∧ Blk w1 gx 27 #[]) (vals 0) w1 := hd 0 (by decide)
                dsimp only at r0
                have e1 : vals 1 = .slice A4 outs.length c4 := hd 1 (by decide)
                clear hd ha
                simp only [Lf, dstAt, Act.put, List.getElem?_toArray, List.getElem?_cons_zero, List.getElem?_cons_succ, Option.bind_some, List.setIfInBounds_toArray, List.set_cons_zero, List.set_cons_succ]
                simp only [e1]
                clear e1
                obtain ⟨gx, e_0, hgx, jx⟩ := r0
                rw [e_0]
                have hz := HNW.out _ hx.undrew
                obtain ⟨g, k, w9, hrun, hxe, _, hk0, hown⟩ := copy_row (by decide) Try.underlying28 hi0 hz0 hz1 hz2 rfl (by decide) 28 outs N0 gx outs.length c4 A4 N0 jx hgx hol5 (HRAQ.out w1 hx.undrew.low)
                have hown := Lib.hid hown
                clear jx
                refine wpList_append_run_ rfl _ _ _ rfl rfl rfl hrun ?_
                clear hrun
                go_wp2
                exact ⟨rfl, TP.ext hxe hz, g, k, rfl, (by intro h; exact hk0 (by first | exact h | (rw [h]; rfl))), hown.out⟩
              · intro vals w1 hx hd ha
                clear hd ha
                simp only [Lf, dstAt, Act.put, List.getElem?_toArray, List.getElem?_cons_zero, List.getElem?_cons_succ, Option.bind_some, List.setIfInBounds_toArray, List.set_cons_zero, List.set_cons_succ]
                have d0 := hx.undrew.cell d0 hgN
                have d1 := hx.undrew.cell d1 hgN
                have d2 := hx.undrew.cell d2 hgN
                have d3 := hx.undrew.cell d3 hgN
                have d4 := hx.undrew.cell d4 hgN
                have d5 := hx.undrew.cell d5 hgN
                have d6 := hx.undrew.cell d6 hgN
                have d7 := hx.undrew.cell d7 hgN
                have d8 := hx.undrew.cell d8 hgN
                go_wp2
                exact ⟨rfl, hT.refl _, rfl⟩
              · intro vals w1 hx hd ha
                have e3 : vals 3 = .agg #[.int .i64 id, .int .i64 i1, .int .i64 i2, .int .i64 sat, .int .i64 sf, .int .i64 st, .int .i64 i6, .int .i64 size, .slice (some ⟨ga, 0, none⟩) ln d] := hd 3 (by decide)
                clear hd ha
                simp only [Lf, dstAt, Act.put, List.getElem?_toArray, List.getElem?_cons_zero, List.getElem?_cons_succ, Option.bind_some, List.setIfInBounds_toArray, List.set_cons_zero, List.set_cons_succ]
                simp only [e3]
                clear e3
                have hz := HNW.out _ hx.undrew
                go_wp2
                exact ⟨rfl, TP.ext (bl_alloc (Below.refl _ _) _) hz, _, rfl, hz, Blk.new _ _ _⟩
              · intro vals w1 hx hd ha
                have r2 : (fun v w1 => ∃ g k, v = .slice (some ⟨g, 0, none⟩) outs.length k ∧ (outs.length = 0 → k = 0) ∧ w1.ownsRow N0 27 9 (.slice (some ⟨g, 0, none⟩) outs.length k) outs.length (outs.flatMap optCells)) (vals 2) w1 := hd 2 (by decide)
                dsimp only at r2
                have r4 : (fun v w1 => ∃ gx, v = .slice (some ⟨gx, 0, none⟩) 1 1 ∧ N0 ≤ gx ∧ Blk w1 gx 27 #[.int .i64 id, .int .i64 i1, .int .i64 i2, .int .i64 sat, .int .i64 sf, .int .i64 st, .int .i64 i6, .int .i64 size, .slice (some ⟨ga, 0, none⟩) ln d]) (vals 4) w1 := hd 4 (by decide)
                dsimp only at r4
                clear hd ha
                simp only [Lf, dstAt, Act.put, List.getElem?_toArray, List.getElem?_cons_zero, List.getElem?_cons_succ, Option.bind_some, List.setIfInBounds_toArray, List.set_cons_zero, List.set_cons_succ]
                obtain ⟨g2, k2, e_2, hk2, ho2⟩ := r2
                obtain ⟨gx, e_4, hgx, jx⟩ := r4
                rw [e_2, e_4]
                have hz := HNW.out _ hx.undrew
                obtain ⟨g9, k9, w9, hrun, hown, htp⟩ := join_row (by decide) Try.underlying28 hi0 hz0 hz1 hz2 rfl (by decide) 28 (news := optCells o') ho2 hk2 hol5 hz (some ⟨gx, 0, none⟩) 1 1 (by omega) rfl (fun _ => ⟨⟨gx, 0, none⟩, rfl, fun j u hu => by rw [Addr.add_lit, Nat.zero_add, jx.cell]; rw [HCC.out] at hu; simpa using hu⟩) (by rw [HCC.out]; simp [Value.oneCell'])
                have hown := Lib.hid hown
                have htp := Lib.hid htp
                clear jx ho2
                refine wpList_append_run_ rfl _ _ _ rfl rfl rfl hrun ?_
                clear hrun
                go_wp2
                exact ⟨rfl, htp.out, g9, k9, rfl, hown.out⟩
              · intro vals w1 hx hd ha
                have r5 : (fun v w1 => ∃ g k, v = .slice (some ⟨g, 0, none⟩) (outs.length + 1) k ∧ w1.ownsRow N0 27 9 (.slice (some ⟨g, 0, none⟩) (outs.length + 1) k) (outs.length + 1) (outs.flatMap optCells ++ optCells o')) (vals 5) w1 := hd 5 (by decide)
                dsimp only at r5
                clear hd ha
                simp only [Lf, dstAt, Act.put, List.getElem?_toArray, List.getElem?_cons_zero, List.getElem?_cons_succ, Option.bind_some, List.setIfInBounds_toArray, List.set_cons_zero, List.set_cons_succ]
                obtain ⟨g9, k9, e_5, ho9⟩ := r5
                rw [e_5]
                have hz := HNW.out _ hx.undrew
                rw [← HG.out] at ho9
                have hc := Lib.hid (HCAR.out w1 _ k9 hx.undrew.low ho9)
                clear ho9
                go_wp2_with fail
                refine hc.out.mono ?_
                rintro e w2 ⟨rfl, hy⟩
                go_wp2
                exact ⟨rfl, TP.ext hy hz, rfl⟩
            intro vals W9 hy hf
            have v6 : vals 6 = .bool cb := hf 6 (by omega)
            have hy9 : Ext Wq W9 := by have h := hy.undrew.low; rw [HN0.out] at h; exact h
            refine tail0 (by kernel_rfl) ?_
            simp only [Lf, dstAt, Act.put, List.getElem?_toArray, List.getElem?_cons_zero, List.getElem?_cons_succ, Option.bind_some, List.setIfInBounds_toArray, List.set_cons_zero, List.set_cons_succ]
            rw [v6]
            have hff := HFF.out
            rw [show (outs.map Opt.op ++ [pasO X (⟨id, i1, i2, sat, sf, st, i6, size, some ⟨ga, 0, none⟩, l.length, d, l⟩ : Opt).op]) = (outs ++ [o']).map Opt.op from by rw [List.map_append, ← HOP'.out]; rfl, ← HCB.out] at hff
            have hx9 := Ext.trans hxq hy9
            have hzs9 : W1.heap.size ≤ W9.heap.size := Nat.le_trans hzs (Nat.le_trans HX2.out.size (Nat.le_trans HGR.out.size hy9.size))
            have HALL9 := Lib.hid (own_ext HALLq.out hy9)
            have HTD9 := Lib.hid (fun o ho => own_ext (HTDq.out o ho) hy9)
            have HOUT9 : Hid (∀ p ∈ outs, p.a ∈ (osA.take (i + 1)).map Opt.a) := Lib.hid (fun p hp => by rw [HTK.out]; exact List.mem_append.2 (.inl (HOUT.out p hp)))
            have d0 := ext_cell hy9 d0
            have d1 := ext_cell hy9 d1
            have d2 := ext_cell hy9 d2
            have d3 := ext_cell hy9 d3
            have d4 := ext_cell hy9 d4
            have d5 := ext_cell hy9 d5
            have d6 := ext_cell hy9 d6
            have d7 := ext_cell hy9 d7
            have d8 := ext_cell hy9 d8
            have HO9 := Lib.hid (HOq.out.ext hy9)
            have HS9 := Lib.hid (own_ext HS'.out hy9)
            clear hf hy v6 hT hi0 hz0 hz1 hz2
            cases cb
            · rw [if_neg (by simp)] at hff
              have HFN := Lib.hid hff
              clear hff
              go_wp2_with fail
              go_roundw
              case rel => exact ⟨i + 1, outs, by omega, by omega, by go_num, HFN, HO9, HALL9, HTD9, HOUT9, HOB, hzs9, hx9⟩
              case measure => simp [intOf]; omega
            · rw [if_pos rfl] at hff
              have HFN := Lib.hid hff
              have hxa : Ext W9 (W9.alloc (.cells #[.int .i64 id, .int .i64 i1, .int .i64 i2, .int .i64 sat, .int .i64 sf, .int .i64 st, .int .i64 i6, .int .i64 size, .slice (some ⟨ga, 0, none⟩) ln d] 27)) := bl_alloc (Below.refl _ _) _
              obtain ⟨v10, W10, hrun, hg10, hos10, hob10⟩ := opt_snoc2 (w := W9.alloc (.cells #[.int .i64 id, .int .i64 i1, .int .i64 i2, .int .i64 sat, .int .i64 sf, .int .i64 st, .int .i64 i6, .int .i64 size, .slice (some ⟨ga, 0, none⟩) ln d] 27)) 28 outs (.slice A4 outs.length c4) o' w.heap.size W1.heap.size W9.heap.size (by rw [HCC.out]; exact Blk.new _ _ _) (HO9.out.ext hxa) HOB.out HN'.out (own_ext HS9.out hxa) (by omega) hw1s (by rw [World.size_alloc]; omega)
              have hx10 : Ext w W10 := (Ext.trans hx9 hxa).grown hg10 (Below.size (Ext.trans hx9 hxa)) (fun q e => Nat.le_trans hw1s (HOB.out q e))
              have hzs10 : W1.heap.size ≤ W10.heap.size := Nat.le_trans hzs9 (Nat.le_trans hxa.size hg10.size)
              have HALL10 := Lib.hid (own_far2 (own_ext HALL9.out hxa) (fun q hq e => by have h1 := HAB.out q hq; have h2 := HOB.out q e; omega) hg10)
              have hopt9 := own_ext HO9.out.1 hxa
              have HTD10 : Hid (∀ o ∈ osA.drop (i + 1), OwnS W10 w.heap.size (.slice o.a o.n o.c) o.l) := Lib.hid (fun o ho => own_other (own_ext (HTD9.out o ho) hxa) hopt9 (by decide) hg10)
              have HOUT10 : Hid (∀ p ∈ outs ++ [o'], p.a ∈ (osA.take (i + 1)).map Opt.a) := Lib.hid (fun p hp => by
                rcases List.mem_append.1 hp with hp | hp
                · exact HOUT9.out p hp
                · rw [List.mem_singleton.1 hp, HTK.out]
                  have : o'.a = some ⟨ga, 0, none⟩ := by
                    have h := HCC.out
                    unfold optCells at h
                    simp at h
                    exact h.2.2.2.2.2.2.2.2.1
                  rw [this]
                  simp)
              have hol10 : (outs ++ [o']).length ≤ i + 1 := by simp; omega
              have HRUN := Lib.hid hrun
              have HO10 := Lib.hid hos10
              have HOB10 := Lib.hid hob10
              have HOL := Lib.hid hol10
              clear hff hrun hg10 hos10 hob10 hxa hopt9 hol10
              go_wp2_with (refine wpList_append_run_ rfl _ _ _ rfl rfl rfl HRUN.out ?_)
              go_roundw
              case rel => exact ⟨i + 1, outs ++ [o'], by omega, HOL.out, by go_num, HFN, HO10, HALL10, HTD10, HOUT10, HOB10, hzs10, hx10⟩
              case measure => simp [intOf]; omega
      · have ho6z : ¬ (outs.length : Int) < 6 := by omega
        have hfo : outs.map Opt.op = fin := by
          rw [HF.out]
          have hiy : i < ys.length := by have := HAL.out; omega
          rw [List.drop_eq_getElem_cons hiy, madeR, if_neg (by rw [List.length_map]; exact ho6)]
        go_wp2
        go_ret
        exact ⟨_, outs, rfl, HO.out, hfo, hxo⟩
    · have himz : ¬ (i : Int) < (m : Int) := by omega
      have hfo : outs.map Opt.op = fin := by rw [HF.out, List.drop_of_length_le (by have := HAL.out; omega), madeR]
      go_wp2
      go_ret
      exact ⟨_, outs, rfl, HO.out, hfo, hxo⟩
end Go.Proofs.Ytikphbgfcpamgaa
