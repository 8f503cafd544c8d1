/- Delivered, Units. -/
import Derived.Test.YtikphbgfcpamgaaP26
import Derived.Test.YtikphbgfcpamgaaP25
namespace Go.Proofs.Ytikphbgfcpamgaa
open Go.RowKit Go.Shelf
attribute [local go_sem] Oper.semAt_some

theorem results_2 {P : Program} {fn : Func} {p q : Tmp} {t u : TypeId} (h : fn.results = #[.cell p t, .cell q u]) (tmps : Array Value) (w : World) (g g' : Nat) (X : Array Value) (v : Value) (hp : tmps.getD p undef = .pointer (some ⟨g, 0, none⟩)) (hq : tmps.getD q undef = .pointer (some ⟨g', 0, none⟩)) (J : Blk w g t X) (d : TypeDesc) (hu : P.underlying t = some d) (hd : d.isRow = true) (hi : (P.info? t).map (·.size) = some X.size)
    (hv : (loadVar u ⟨g', 0, none⟩).run P w = .ok v w) : (results fn tmps).run P w = .ok (.tuple #[.agg X, v]) w := by
  have hl := load_blk J d hu hd hi
  have hp' : tmps[p]?.getD undef = .pointer (some ⟨g, 0, none⟩) := by simpa using hp
  have hq' : tmps[q]?.getD undef = .pointer (some ⟨g', 0, none⟩) := by simpa using hq
  simp only [results, h]
  simp [hp', hq', asAddr, hl, hv]
def PruneRet (r : Option (List Brn × Int)) (w : World) (e : Ending) (w' : World) : Prop := match r with
  | none => e = .returned (.tuple #[.agg #[.int .i64 0, .slice none 0 0], .int .i64 200]) ∧ Ext w w'
  | some X => ∃ v, e = .returned (.tuple #[.agg #[.int .i64 X.2, v], .int .i64 0]) ∧ OwnB w' w.heap.size v X.1 ∧ Ext w w'
theorem stores3 {w W : World} {g6 g7 : Nat} {a b c : Value} (x y z : Value) (K6 : Blk W g6 33 #[a, b]) (K7 : Blk W g7 41 #[c]) (h6 : w.heap.size ≤ g6) (h7 : w.heap.size ≤ g7) (hne : g6 ≠ g7) (hB : Ext w W) :
    Blk (((W.setCell ⟨g6, 0, none⟩ x).setCell ⟨g6, 1, none⟩ y).setCell ⟨g7, 0, none⟩ z) g6 33 #[x, y] ∧ Blk (((W.setCell ⟨g6, 0, none⟩ x).setCell ⟨g6, 1, none⟩ y).setCell ⟨g7, 0, none⟩ z) g7 41 #[z] ∧ Ext w (((W.setCell ⟨g6, 0, none⟩ x).setCell ⟨g6, 1, none⟩ y).setCell ⟨g7, 0, none⟩ z) := by
  refine ⟨?_, ?_, ((hB.setCell (p := ⟨g6, 0, none⟩) h6 x).setCell (p := ⟨g6, 1, none⟩) h6 y).setCell (p := ⟨g7, 0, none⟩) h7 z⟩
  · have h := (((K6.set_ 0 x).set_ 1 y).far (p := ⟨g7, 0, none⟩) hne z)
    exact h
  · have h := ((K7.far (p := ⟨g6, 0, none⟩) (Ne.symm hne) x).far (p := ⟨g6, 1, none⟩) (Ne.symm hne) y).set_ 0 z
    exact h
theorem stores3_at {W : World} {g6 g7 : Nat} {a b c : Value} (x y : Value) (K6 : Blk W g6 33 #[a, b]) (K7 : Blk W g7 41 #[c]) (hne : g6 ≠ g7) :
    (W.frozen? ⟨g6, 0, none⟩ = false ∧ W.cell? ⟨g6, 0, none⟩ = some a) ∧ ((W.setCell ⟨g6, 0, none⟩ x).frozen? ⟨g6, 1, none⟩ = false ∧ (W.setCell ⟨g6, 0, none⟩ x).cell? ⟨g6, 1, none⟩ = some b) ∧
    (((W.setCell ⟨g6, 0, none⟩ x).setCell ⟨g6, 1, none⟩ y).frozen? ⟨g7, 0, none⟩ = false ∧ ((W.setCell ⟨g6, 0, none⟩ x).setCell ⟨g6, 1, none⟩ y).cell? ⟨g7, 0, none⟩ = some c) := by
  have h1 := K6.set_ 0 x
  have h2 := (K7.far (p := ⟨g6, 0, none⟩) (Ne.symm hne) x).far (p := ⟨g6, 1, none⟩) (Ne.symm hne) y
  exact ⟨⟨K6.frozen 0, K6.cell 0⟩, ⟨h1.frozen 1, h1.cell 1⟩, h2.frozen 0, h2.cell 0⟩
theorem load_errno {W : World} {g : Nat} {z : Int} (K : Blk W g 41 #[.int .i64 z]) : (loadVar 41 ⟨g, 0, none⟩).run Try.prog W = .ok (.int .i64 z) W := by
  have c : W.cell? ⟨g, 0, none⟩ = some (.int .i64 z) := K.cell 0
  simp [go_sem, c]
theorem tre_size2 : (Try.prog.info? 33).map (·.size) = some 2 := by kernel_rfl
theorem take_snoc_get {α : Type} {l : List α} {j : Nat} {a : α} (h : l[j]? = some a) : l.take (j + 1) = l.take j ++ [a] := by
  obtain ⟨h1, h2⟩ := List.getElem?_eq_some_iff.1 h
  rw [take_snoc h1, h2]
theorem World.grownBy_setCell_ (W : World) (p : Addr) (u : Value) : W.grownBy (W.setCell p u) (some p.block) := ⟨rfl, rfl, rfl, by simp, fun k _ hne => Below.heap_setCell W p u k (fun e => hne (by rw [e]))⟩
structure PrI (w : World) (B0 gi gs g6 g7 gt gk : Nat) (k : Int) (TA : Option Addr) (tn tc : Nat) (KA : Option Addr) (kn kc : Nat) (known : List Ack) (pre : List (Ack × Int)) (W : World) : Prop where
  ji : Blk W gi 3 #[.int .i64 (pre.length : Nat)]
  js : Blk W gs 3 #[.int .i64 (nxtW k pre)]
  j6 : Blk W g6 33 #[.int .i64 0, .slice none 0 0]
  j7 : Blk W g7 41 #[.int .i64 0]
  jt : Blk W gt 33 #[.int .i64 k, .slice TA tn tc]
  jk : Blk W gk 35 #[.slice KA kn kc]
  eq : pre.map (·.1) = known.take pre.length
  le : pre.length ≤ known.length
  below : Below w.heap.size w W
  size : B0 ≤ W.heap.size
def PrX (w : World) (B0 gi gs g6 g7 gt gk : Nat) (k : Int) (TA : Option Addr) (tn tc : Nat) (KA : Option Addr) (kn kc : Nat) (known : List Ack) (c : Code) (pre : List (Ack × Int)) (W : World) : Prop :=
  (c = .ret ∧ (∃ p x a, pre = p ++ [x] ∧ p.map (·.1) = known.take p.length ∧ known[p.length]? = some a ∧ x.1 ≠ a) ∧ Blk W g6 33 #[.int .i64 0, .slice none 0 0] ∧ Blk W g7 41 #[.int .i64 200] ∧ Below w.heap.size w W) ∨
  (c = .exit 0 ∧ ∃ p x, pre = p ++ [x] ∧ p.length = known.length ∧ PrI w B0 gi gs g6 g7 gt gk k TA tn tc KA kn kc known p W)
section
variable {w : World} {B0 gi gs g6 g7 gt gk : Nat} {k : Int} {TA : Option Addr} {tn tc : Nat} {KA : Option Addr} {kn kc : Nat} {known : List Ack}
theorem prI_own (h : w.heap.size ≤ B0) : OwnFrom B0 (PrI w B0 gi gs g6 g7 gt gk k TA tn tc KA kn kc known) := by
  rintro pre X Y row H hgr hr
  exact ⟨blk_kept H.ji hgr hr, blk_kept H.js hgr hr, blk_kept H.j6 hgr hr, blk_kept H.j7 hgr hr, blk_kept H.jt hgr hr, blk_kept H.jk hgr hr, H.eq, H.le, H.below.grown hgr H.below.size (fun k e => Nat.le_trans h (hr k e).1), Nat.le_trans H.size hgr.size⟩
theorem prX_own (h : w.heap.size ≤ B0) (c : Code) : OwnFrom B0 (PrX w B0 gi gs g6 g7 gt gk k TA tn tc KA kn kc known c) := by
  rintro pre X Y row H hgr hr
  rcases H with ⟨e, hp, h6, h7, hb⟩ | ⟨e, p, x, e2, hl, hI⟩
  · exact .inl ⟨e, hp, blk_kept h6 hgr hr, blk_kept h7 hgr hr, hb.grown hgr hb.size (fun k e => Nat.le_trans h (hr k e).1)⟩
  · exact .inr ⟨e, p, x, e2, hl, prI_own h p X Y row hI hgr hr⟩
end
set_option maxRecDepth 100000 in
set_option maxHeartbeats 2000000 in
theorem Prune_in (T : List Brn) (TA : Option Addr) (tn tc : Nat) (k : Int) (os : List Opt) (A : Option Addr) (n c : Nat) (KA : Option Addr) (kn kc : Nat) (known : List Ack) (w : World)
    (hT : RA brnCells 5 w w.heap.size TA tn tc T) (hO : Ops w w.heap.size A n c os) (hK : RA ackCells 3 w w.heap.size KA kn kc known) :
    CallsIn Fence.wide 10 Try.prog 28 #[.agg #[.int .i64 k, .slice TA tn tc], .slice A n c, .slice KA kn kc] w (PruneRet (prunP (opsP os) T k known) w) := by
  have hval := fun (W : World) (hx : Ext w W) => valid_any T TA tn tc k os A n c W (ra_ext hT hx) (hO.ext hx)
  have hfac := fun (h : validP (opsP os) T k = true) => valid_facts h
  obtain ⟨R, hR⟩ : ∃ R, R = prunP (opsP os) T k known := ⟨_, rfl⟩
  rw [← hR]
  unfold prunP at hR
  generalize validP (opsP os) T k = vv at hval hfac hR
  have HV := Lib.hid hval
  have HFAC := Lib.hid hfac
  have HR := Lib.hid hR
  have HT := Lib.hid hT
  have HK := Lib.hid hK
  have hkl := hK.len
  have hkle := hK.le
  have HKL := Lib.hid hkl
  clear hval hfac hR hT hO hK hkl
  refine callsIn_of_wp_marks Try.func28 rfl trivial ?_ rfl
  simp only [Try.ntmps28, List.size_toArray, List.length_cons, List.length_nil, Nat.reduceAdd, Nat.reduceSub, Array.replicate_succ, Array.replicate_zero, List.push_toArray, List.append_toArray, List.nil_append, List.cons_append]
  gi_wp2_with fail
  generalize hW0 : (((w.alloc (.cells #[.int .i64 k, .slice TA tn tc] 33)).alloc (.cells #[.slice KA kn kc] 35)).alloc (.cells #[.int .i64 0, .slice none 0 0] 33)).alloc (.cells #[.int .i64 0] 41) = W0
  obtain ⟨gt, hgt⟩ : ∃ k, k = w.heap.size := ⟨_, rfl⟩
  obtain ⟨gk, hgk⟩ : ∃ k, k = w.heap.size + 1 := ⟨_, rfl⟩
  obtain ⟨g6, hg6⟩ : ∃ k, k = w.heap.size + 1 + 1 := ⟨_, rfl⟩
  obtain ⟨g7, hg7⟩ : ∃ k, k = w.heap.size + 1 + 1 + 1 := ⟨_, rfl⟩
  have Kgt : Blk W0 gt 33 #[.int .i64 k, .slice TA tn tc] := by subst hW0; exact (((Blk.new_at _ _ _ (by simp [hgt])).alloc _).alloc _).alloc _
  have Kgk : Blk W0 gk 35 #[.slice KA kn kc] := by subst hW0; exact ((Blk.new_at _ _ _ (by simp [hgk])).alloc _).alloc _
  have Kg6 : Blk W0 g6 33 #[.int .i64 0, .slice none 0 0] := by subst hW0; exact (Blk.new_at _ _ _ (by simp [hg6])).alloc _
  have Kg7 : Blk W0 g7 41 #[.int .i64 0] := by subst hW0; exact Blk.new_at _ _ _ (by simp [hg7])
  have hB : Ext w W0 := by subst hW0; exact bl_alloc (bl_alloc (bl_alloc (bl_alloc (Below.refl _ _) _) _) _) _
  rw [← hg7, ← hg6, ← hgk, ← hgt]
  have h6w : w.heap.size ≤ g6 := by omega
  have h7w : w.heap.size ≤ g7 := by omega
  have h67 : g6 < g7 := by omega
  have hk6 : gk < g6 := by omega
  have htk : gt < gk := by omega
  have htw : w.heap.size ≤ gt := by omega
  clear hW0 hgt hgk hg6 hg7
  refine ⟨trivial, (callsIn_wide.2 (HV.out W0 hB)).mono ?_⟩
  rintro e W1 ⟨rfl, hx⟩
  have Kgt := Kgt.ext hx
  have Kgk := Kgk.ext hx
  have Kg6 := Kg6.ext hx
  have Kg7 := Kg7.ext hx
  have hB := Ext.trans hB hx
  clear hx
  cases vv
  · obtain rfl : R = none := by rw [HR.out]; rfl
    obtain ⟨⟨f1, f2⟩, ⟨f3, f4⟩, f5, f6⟩ := stores3_at (.int .i64 0) (.slice none 0 0) Kg6 Kg7 (by omega)
    obtain ⟨k6, k7, hB2⟩ := stores3 (.int .i64 0) (.slice none 0 0) (.int .i64 200) Kg6 Kg7 h6w h7w (by omega) hB
    have HB2 := Lib.hid hB2
    have HK6 := Lib.hid k6
    have HK7 := Lib.hid k7
    clear k6 k7 hB2 Kg6 Kg7 hB
    gi_wp2_with fail
    exact ⟨_, results_2 Try.results28 _ _ g6 g7 _ _ rfl rfl HK6.out _ Try.underlying33 rfl tre_size2 (load_errno HK7.out), rfl, HB2.out⟩
  · have hfc := HFAC.out rfl
    have HFAC2 := Lib.hid hfc
    have hR2 : R = (prnT T known k).map fun k' => bld [] (unf T k') := by rw [HR.out]; rfl
    have HR2 := Lib.hid hR2
    have hxa : Ext W1 (W1.alloc (.cells #[.int .i64 0] 3)) := bl_alloc (Below.refl _ _) _
    have hxb : Ext W1 ((W1.alloc (.cells #[.int .i64 0] 3)).alloc (.cells #[.int .i64 k] 3)) := bl_alloc hxa _
    have t0 := ext_cell hxa (show W1.cell? ⟨gt, 0, none⟩ = some (.int .i64 k) from Kgt.cell 0)
    have t0b := ext_cell hxb (show W1.cell? ⟨gt, 0, none⟩ = some (.int .i64 k) from Kgt.cell 0)
    have t1b := ext_cell hxb (show W1.cell? ⟨gt, 1, none⟩ = some (.slice TA tn tc) from Kgt.cell 1)
    have Kgi := (Blk.new W1 3 #[.int .i64 0]).alloc (.cells #[.int .i64 k] 3)
    have Kgs := Blk.new_at (g := W1.heap.size + 1) (W1.alloc (.cells #[.int .i64 0] 3)) 3 #[.int .i64 k] (by simp)
    have h7i : g7 < W1.heap.size := Kg7.lt
    have Kgt := Kgt.ext hxb
    have Kgk := Kgk.ext hxb
    have Kg6 := Kg6.ext hxb
    have Kg7 := Kg7.ext hxb
    have hB4 := Ext.trans hB hxb
    clear hR2 hfc HFAC HV HR hB
    gi_wp2_with fail
    refine ⟨trivial, (callsIn_wide.2 (way_any k TA tn tc 48 _ _)).mono ?_⟩
    rintro e W5 ⟨rfl, hW5⟩
    obtain ⟨gs, hgs⟩ : ∃ g, g = W1.heap.size + 1 := ⟨_, rfl⟩
    rw [← hgs] at Kgs ⊢
    have his : W1.heap.size < gs := by omega
    clear hgs
    generalize W1.heap.size = gi at Kgi h7i his hW5 ⊢
    generalize (W1.alloc (.cells #[.int .i64 0] 3)).alloc (.cells #[.int .i64 k] 3) = W4 at hW5 Kgt Kgk Kg6 Kg7 Kgi Kgs hB4 hxb t0b t1b ⊢
    have hx5 : Ext W4 W5 := by subst hW5; exact bl_alloc (bl_alloc (Below.refl _ _) _) _
    have kt : Blk W5 W4.heap.size 33 #[.int .i64 k, .slice TA tn tc] := by subst hW5; exact (Blk.new _ _ _).alloc _
    have kcf : Blk W5 (W4.heap.size + 1) 99 #[.func (.func 48) #[] #[.pointer (some ⟨gi, 0, none⟩), .pointer (some ⟨gk, 0, none⟩)]] := by subst hW5; exact Blk.new_at _ _ _ (by simp)
    have hgs4 := Kgs.lt
    have Kgt := Kgt.ext hx5
    have Kgk := Kgk.ext hx5
    have Kg6 := Kg6.ext hx5
    have Kg7 := Kg7.ext hx5
    have Kgi := Kgi.ext hx5
    have Kgs := Kgs.ext hx5
    have hB5 := Ext.trans hB4 hx5
    have hfc := HFAC2.out
    clear hW5 t0 t0b t1b hB4 hxa hxb hx5
    gi_wp2_with fail
    have hb15 : w.heap.size ≤ W5.heap.size := Below.size hB5
    have hw45 : W4.heap.size < W5.heap.size := kt.lt
    refine wp_range_way (fun x => x = gi ∨ x = gs) w.heap.size W4.heap.size (W4.heap.size + 1) 48 #[.pointer (some ⟨gi, 0, none⟩), .pointer (some ⟨gk, 0, none⟩)] T TA tn tc k (qK known) 10 (by omega) (fun pre W => Blk W gi 3 #[.int .i64 (pre.length : Nat)]) hb15 (enters_of Try.func48 (by kernel_rfl) rfl) (HT.out.below hB5) hfc.1 ⟨hfc.2.2.1, hfc.2.2.2.1⟩
      kt kcf (by omega) (by omega) ?hp rfl (p1 := 22) (p2 := 23) (PrI w W5.heap.size gi gs g6 g7 gt gk k TA tn tc KA kn kc known) (PrX w W5.heap.size gi gs g6 g7 gt gk k TA tn tc KA kn kc known) (fun _ _ h => h.ji) (prI_own hb15) (prX_own hb15) (fun _ _ h => h.size) ⟨Kgi, Kgs, Kg6, Kg7, Kgt, Kgk, rfl, Nat.zero_le _, hB5, Nat.le_refl _⟩
      (fun t x Bx => (((t.setIfInBounds 22 (.agg #[.int .i64 x.1.opt, .int .i64 x.1.slot, .bool x.1.is_])).setIfInBounds 23 (.int .i64 x.2)).setIfInBounds 10 (.pointer (some ⟨Bx, 0, none⟩))).setIfInBounds 11 (.int .i64 x.2)) ?hassign ?hbody ?hdone ?hstop
    case hp =>
      intro pre b W hbm _ hG hk
      exact prune1_any b gi gk w.heap.size pre.length KA kn kc known W hG (hk.blk_ Kgk ⟨by omega, Kgk.lt⟩) ((HK.out.below hB5).below hk.low)
    case hassign =>
      intro l x W K hK
      simp only [List.setIfInBounds_toArray, List.set_cons_zero, List.set_cons_succ] at hK ⊢
      gi_wp2
      exact hK
    case hbody =>
      intro l pre x Bx W hI hBx KX hlen
      simp only [List.setIfInBounds_toArray, List.set_cons_zero, List.set_cons_succ]
      obtain ⟨⟨ao, as_, ai⟩, xn⟩ := x
      have ui : W.cell? ⟨gi, 0, none⟩ = some (.int .i64 (pre.length : Nat)) := hI.ji.cell 0
      have uk : W.cell? ⟨gk, 0, none⟩ = some (.slice KA kn kc) := hI.jk.cell 0
      have hple : pre.length ≤ kn := by have := hI.le; have := HKL.out; omega
      have HI := Lib.hid hI
      obtain ⟨j, hj⟩ : ∃ j, pre.length = j := ⟨_, rfl⟩
      rw [hj] at ui hple
      have HJ := Lib.hid hj
      clear hI hj hlen
      by_cases hpk : j = kn
      · have hb : ((j : Int) == (kn : Int)) = true := by simp [hpk]
        have HPK := Lib.hid hpk
        clear hpk
        gi_wp2_with fail
        exact ⟨KeepsFrom.refl _ _, .inr ⟨rfl, pre, _, rfl, by rw [HJ.out, HKL.out]; exact HPK.out, HI.out⟩⟩
      · have hb : ((j : Int) == (kn : Int)) = false := by
          have : ¬ (j : Int) = (kn : Int) := by omega
          simpa using this
        have hjk : j < kn := by omega
        obtain ⟨b2, o2, hz, hA, _, hc⟩ := (HK.out.below HI.out.below).at_ ack_len hjk
        have hka : known[j]? = some known[j] := List.getElem?_eq_getElem hz
        generalize known[j] = a at hc hka
        obtain ⟨bo, bs, bi⟩ := a
        have y0 : W.cell? ⟨b2, o2 + j * 3, none⟩ = some (.int .i64 bo) := hc 0 (by omega)
        have y1 : W.cell? ⟨b2, o2 + j * 3 + 1, none⟩ = some (.int .i64 bs) := hc 1 (by omega)
        have y2 : W.cell? ⟨b2, o2 + j * 3 + 2, none⟩ = some (.bool bi) := hc 2 (by omega)
        have x0 : W.cell? ⟨Bx, 0, none⟩ = some (.int .i64 ao) := KX.cell 0
        have x1 : W.cell? ⟨Bx, 1, none⟩ = some (.int .i64 as_) := KX.cell 1
        have x2 : W.cell? ⟨Bx, 2, none⟩ = some (.bool ai) := KX.cell 2
        have hnq := neq_ack ⟨ao, as_, ai⟩ ⟨bo, bs, bi⟩
        dsimp only at hnq
        obtain ⟨z, hz⟩ : ∃ z, z = !decide ((⟨ao, as_, ai⟩ : Ack) = ⟨bo, bs, bi⟩) := ⟨_, rfl⟩
        rw [← hz] at hnq
        have HNQ := Lib.hid hnq
        have HZ := Lib.hid hz
        have HKA := Lib.hid hka
        have hjz : (j : Int) < (kn : Int) := by omega
        have hwj : IntKind.i64.wrap ((j : Int) + 1) = ((j + 1 : Nat) : Int) := by
          rw [show (j : Int) + 1 = ((j + 1 : Nat) : Int) by omega]
          exact IntWalk.i64_in _ (by omega)
        subst hA
        clear hc hka hnq hz hpk
        gi_wp2_with fail
        refine wpIn_region_round 6 (fun ix vals v w1 => match ix with | 0 => v = .agg #[.int .i64 ao, .int .i64 as_, .bool ai] | 1 => v = .slice (some ⟨b2, o2, none⟩) kn kc | 2 => v = .int .i64 j | 3 => v = .pointer (some ⟨b2, o2 + j * 3, none⟩) | 4 => v = .agg #[.int .i64 bo, .int .i64 bs, .bool bi] | _ => v = .bool z) (by kernel_rfl) (by kernel_rfl) (by kernel_rfl) ?_ ?_ ?_ ?_
        · intro ix vals v w1 w2 hi hr hx
          match ix, hr with
          | 0, hr => exact hr
          | 1, hr => exact hr
          | 2, hr => exact hr
          | 3, hr => exact hr
          | 4, hr => exact hr
          | (kx + 5), hr => exact hr
        · intro ix vals vals_ v w1 hi hv hr
          exact hr
        · refine ⟨?_, ?_, ?_, ?_, ?_, ?_, trivial⟩
          · intro vals w1 hx hd ha
            clear hd ha
            simp only [Lf]
            have x0 := ext_cell hx x0
            have x1 := ext_cell hx x1
            have x2 := ext_cell hx x2
            go_wp2
            exact ⟨rfl, Ext.refl _, rfl⟩
          · intro vals w1 hx hd ha
            clear hd ha
            simp only [Lf, dstAt, Act.put, List.getElem?_toArray, List.getElem?_cons_zero, Option.bind_some, List.setIfInBounds_toArray, List.set_cons_zero, List.set_cons_succ]
            have uk := ext_cell hx uk
            go_wp2
            exact ⟨rfl, Ext.refl _, rfl⟩
          · intro vals w1 hx hd ha
            clear hd ha
            simp only [Lf, dstAt, Act.put, List.getElem?_toArray, List.getElem?_cons_zero, List.getElem?_cons_succ, Option.bind_some, List.setIfInBounds_toArray, List.set_cons_zero, List.set_cons_succ]
            have ui := ext_cell hx ui
            go_wp2
            exact ⟨rfl, Ext.refl _, rfl⟩
          · intro vals w1 hx hd ha
            have e1 : vals 1 = .slice (some ⟨b2, o2, none⟩) kn kc := hd 1 (by decide)
            have e2 : vals 2 = .int .i64 j := hd 2 (by decide)
            clear hd ha
            simp only [Lf, dstAt, Act.put, List.getElem?_toArray, List.getElem?_cons_zero, List.getElem?_cons_succ, Option.bind_some, List.setIfInBounds_toArray, List.set_cons_zero, List.set_cons_succ]
            simp only [e1, e2]
            clear e1 e2
            go_wp2
            exact ⟨rfl, Ext.refl _, rfl⟩
          · intro vals w1 hx hd ha
            have e3 : vals 3 = .pointer (some ⟨b2, o2 + j * 3, none⟩) := hd 3 (by decide)
            clear hd ha
            simp only [Lf, dstAt, Act.put, List.getElem?_toArray, List.getElem?_cons_zero, List.getElem?_cons_succ, Option.bind_some, List.setIfInBounds_toArray, List.set_cons_zero, List.set_cons_succ]
            simp only [e3]
            clear e3
            have y0 := ext_cell hx y0
            have y1 := ext_cell hx y1
            have y2 := ext_cell hx y2
            go_wp2
            exact ⟨rfl, Ext.refl _, rfl⟩
          · intro vals w1 hx hd ha
            have e0 : vals 0 = .agg #[.int .i64 ao, .int .i64 as_, .bool ai] := hd 0 (by decide)
            have e4 : vals 4 = .agg #[.int .i64 bo, .int .i64 bs, .bool bi] := hd 4 (by decide)
            clear hd ha
            simp only [Lf, dstAt, Act.put, List.getElem?_toArray, List.getElem?_cons_zero, List.getElem?_cons_succ, Option.bind_some, List.setIfInBounds_toArray, List.set_cons_zero, List.set_cons_succ]
            simp only [e0]
            simp only [e4]
            clear e0 e4
            have hq := HNQ.out
            go_wp2
            exact ⟨rfl, Ext.refl _, rfl⟩
        intro vals w5 hx5 hf
        have e5 : vals 5 = .bool z := hf 5 (by omega)
        clear hf x0 x1 x2 y0 y1 y2 uk ui
        have hx5 := hx5.undrew
        refine tail0 (by kernel_rfl) ?_
        simp only [Lf, dstAt, Act.put, List.getElem?_toArray, List.getElem?_cons_zero, List.getElem?_cons_succ, Option.bind_some, List.setIfInBounds_toArray, List.set_cons_zero, List.set_cons_succ]
        rw [e5]
        clear e5
        have ui : w5.cell? ⟨gi, 0, none⟩ = some (.int .i64 j) := by rw [← HJ.out]; exact (HI.out.ji.ext hx5).cell 0
        have HX5 := Lib.hid hx5
        clear hx5
        cases z
        · have hxa : (⟨ao, as_, ai⟩ : Ack) = ⟨bo, bs, bi⟩ := by
            have h := HZ.out
            simpa using h
          have HXA := Lib.hid hxa
          obtain ⟨j1, hj1⟩ : ∃ j1 : Int, j1 = ((j + 1 : Nat) : Int) := ⟨_, rfl⟩
          rw [← hj1] at hwj
          have HJ1 := Lib.hid hj1
          have hgs5 := (HI.out.js.ext HX5.out)
          have hgi5 := (HI.out.ji.ext HX5.out)
          have f1 : w5.frozen? ⟨gi, 0, none⟩ = false := hgi5.frozen 0
          have f2 : (w5.setCell ⟨gi, 0, none⟩ (.int .i64 j1)).frozen? ⟨gs, 0, none⟩ = false := (hgs5.far (p := ⟨gi, 0, none⟩) (show gs ≠ gi by omega) _).frozen 0
          have f3 : (w5.setCell ⟨gi, 0, none⟩ (.int .i64 j1)).cell? ⟨gs, 0, none⟩ = some (.int .i64 (nxtW k pre)) := (hgs5.far (p := ⟨gi, 0, none⟩) (show gs ≠ gi by omega) _).cell 0
          clear hxa hj1 hgs5 hgi5
          dsimp only [Qn]
          gi_wp2_with fail
          have hI := HI.out
          have hx5 := HX5.out
          have hsz5 : W5.heap.size ≤ w5.heap.size := Nat.le_trans hI.size hx5.size
          have hgi : gi < W5.heap.size := by omega
          have hgs : gs < W5.heap.size := by omega
          have kfar : ∀ {g : Nat} {t : TypeId} {cs : Array Value}, Blk W g t cs → g ≠ gi → g ≠ gs → Blk ((w5.setCell ⟨gi, 0, none⟩ (.int .i64 j1)).setCell ⟨gs, 0, none⟩ (.int .i64 xn)) g t cs := fun K h1 h2 => ((K.ext hx5).far (p := ⟨gi, 0, none⟩) h1 _).far (p := ⟨gs, 0, none⟩) h2 _
          refine ⟨((KeepsFrom.of_grownBy (ext_grown hx5) (fun _ e => by cases e)).trans (KeepsFrom.of_grownBy (grownBy_setCell' w5 gi _) (fun _ e => by cases e; exact hgi))).trans (KeepsFrom.of_grownBy (grownBy_setCell' _ gs _) (fun _ e => by cases e; exact hgs)),
            ((KpB.ext hx5 hb15 hI.size).trans (KpB.step (grownBy_setCell' w5 gi _) hb15 hsz5 (fun r e => by cases e; exact .inl ⟨.inl rfl, by omega⟩))).trans (KpB.step (grownBy_setCell' _ gs _) hb15 (by simpa using hsz5) (fun r e => by cases e; exact .inl ⟨.inr rfl, by omega⟩)), ?_⟩
          have hjl : (pre ++ [((⟨ao, as_, ai⟩, xn) : Ack × Int)]).length = j + 1 := by rw [List.length_append, HJ.out]; rfl
          refine ⟨?_, ?_, kfar hI.j6 (by omega) (by omega), kfar hI.j7 (by omega) (by omega), kfar hI.jt (by omega) (by omega), kfar hI.jk (by omega) (by omega), ?_, by rw [hjl, HKL.out]; omega, ?_, by simpa using hsz5⟩
          · rw [hjl, ← HJ1.out]
            exact ((hI.ji.ext hx5).set_ 0 _).far (p := ⟨gs, 0, none⟩) (show gi ≠ gs by omega) _
          · rw [nxtW_snoc]
            exact ((hI.js.ext hx5).far (p := ⟨gi, 0, none⟩) (show gs ≠ gi by omega) _).set_ 0 _
          · rw [hjl, take_snoc_get HKA.out, List.map_append, hI.eq, HJ.out, ← HXA.out]
            rfl
          · exact ((Below.trans hI.below (hx5.mono (Nat.le_trans hb15 hI.size))).setCell (p := ⟨gi, 0, none⟩) (show w.heap.size ≤ gi by omega) _).setCell (p := ⟨gs, 0, none⟩) (show w.heap.size ≤ gs by omega) _
        · have hxa : ¬ (⟨ao, as_, ai⟩ : Ack) = ⟨bo, bs, bi⟩ := by
            intro he
            have h := HZ.out
            rw [decide_eq_true he] at h
            cases h
          have HXA := Lib.hid hxa
          have hB5w := Below.trans HI.out.below (HX5.out.mono (Nat.le_trans hb15 HI.out.size))
          obtain ⟨⟨f1, f2⟩, ⟨f3, f4⟩, f5, f6⟩ := stores3_at (.int .i64 0) (.slice none 0 0) (HI.out.j6.ext HX5.out) (HI.out.j7.ext HX5.out) (by omega)
          obtain ⟨k6, k7, hB6⟩ := stores3 (.int .i64 0) (.slice none 0 0) (.int .i64 200) (HI.out.j6.ext HX5.out) (HI.out.j7.ext HX5.out) h6w h7w (by omega) hB5w
          have HB6 := Lib.hid hB6
          have HK6 := Lib.hid k6
          have HK7 := Lib.hid k7
          clear hxa hB5w k6 k7 hB6
          dsimp only [Qn]
          gi_wp2_with fail
          have hx5 := HX5.out
          refine ⟨(((KeepsFrom.of_grownBy (ext_grown hx5) (fun _ e => by cases e)).trans (KeepsFrom.of_grownBy (World.grownBy_setCell_ w5 ⟨g6, 0, none⟩ _) (fun _ e => by cases e; show g6 < _; omega))).trans (KeepsFrom.of_grownBy (World.grownBy_setCell_ _ ⟨g6, 1, none⟩ _) (fun _ e => by cases e; show g6 < _; omega))).trans (KeepsFrom.of_grownBy (World.grownBy_setCell_ _ ⟨g7, 0, none⟩ _) (fun _ e => by cases e; show g7 < _; omega)),
            .inl ⟨rfl, ⟨pre, _, _, rfl, HI.out.eq, by rw [HJ.out]; exact HKA.out, HXA.out⟩, HK6.out, HK7.out, HB6.out⟩⟩
    case hdone =>
      intro D xs W hD hxs hI hK9
      have hpp : xs <+: way T (qK known) 0 k := by rw [hxs]; exact List.prefix_refl _
      by_cases hpl : xs.length = known.length
      · clear hxs
        have hpr := prn_all hfc.1 hfc.2.2.1 hfc.2.2.2.1 hpp hI.eq hpl
        obtain ⟨_, n1, n2⟩ := way_split hfc.1 xs 0 k hfc.2.2.1 hfc.2.2.2.1 hpp
        have ui : W.cell? ⟨gi, 0, none⟩ = some (.int .i64 (kn : Int)) := by
          have h : W.cell? ⟨gi, 0, none⟩ = some (.int .i64 ((xs).length : Nat)) := hI.ji.cell 0
          rw [hpl, HKL.out] at h
          exact h
        have us : W.cell? ⟨gs, 0, none⟩ = some (.int .i64 (nxtW k xs)) := hI.js.cell 0
        generalize nxtW k xs = k2 at hpr n1 n2 us
        have uk : W.cell? ⟨gk, 0, none⟩ = some (.slice KA kn kc) := hI.jk.cell 0
        have u0 : W.cell? ⟨gt, 0, none⟩ = some (.int .i64 k) := hI.jt.cell 0
        have u1 : W.cell? ⟨gt, 1, none⟩ = some (.slice TA tn tc) := hI.jt.cell 1
        have hlf := left_any T TA tn tc k k2 (unf T k2) W ((HT.out.below hI.below).more (Below.size hI.below)) hfc.1 hfc.2.1 (unf_of hfc.1 n1 n2)
        have hRX : R = some (bld [] (unf T k2)) := by rw [HR2.out, hpr]; rfl
        generalize bld [] (unf T k2) = X at hlf hRX
        obtain rfl : R = some X := hRX
        obtain ⟨X1, X2⟩ := X
        have hD6 : g6 < W.heap.size := hI.j6.lt
        have hD7 : g7 < W.heap.size := hI.j7.lt
        have hDl : D < W.heap.size := (Array.getElem?_eq_some_iff.1 hK9).1
        have HI := Lib.hid hI
        have HK9 := Lib.hid hK9
        have HLF := Lib.hid hlf
        clear hpr hpl hpp hI hK9 hlf n1 n2
        gi_wp2_with fail
        refine ⟨trivial, (callsIn_wide.2 HLF.out).mono ?_⟩
        rintro e W8 ⟨v, rfl, ho, hy⟩
        have ho' : W8.ownsRow W.heap.size 30 5 v X1.length (X1.flatMap brnCells) := ho
        obtain ⟨A8, c8, rfl, _, _⟩ := own_slice ho'
        dsimp only
        have hk8 : W8.heap[D]? = some (.deferred (some [])) := (hy.block D hDl).trans HK9.out
        have j6 := HI.out.j6.ext hy
        have j7 := HI.out.j7.ext hy
        have hbw : Ext w W8 := bl_then HI.out.below hy
        obtain ⟨⟨f1, f2⟩, ⟨f3, f4⟩, f5, f6⟩ := stores3_at (.int .i64 X2) (.slice A8 X1.length c8) j6 j7 (by omega)
        obtain ⟨k6, k7, hB6⟩ := stores3 (.int .i64 X2) (.slice A8 X1.length c8) (.int .i64 0) j6 j7 h6w h7w (by omega) hbw
        have hne6 : (Value.slice A8 X1.length c8).ownBlock ≠ some g6 := fun e => by have := (World.ownsRow.lt ho' g6 e).1; omega
        have hne7 : (Value.slice A8 X1.length c8).ownBlock ≠ some g7 := fun e => by have := (World.ownsRow.lt ho' g7 e).1; omega
        have hown := own_set (own_set (own_set ho' (p := ⟨g6, 0, none⟩) hne6 (.int .i64 X2)) (p := ⟨g6, 1, none⟩) hne6 (.slice A8 X1.length c8)) (p := ⟨g7, 0, none⟩) hne7 (.int .i64 0)
        have hkd : (((W8.setCell ⟨g6, 0, none⟩ (.int .i64 X2)).setCell ⟨g6, 1, none⟩ (.slice A8 X1.length c8)).setCell ⟨g7, 0, none⟩ (.int .i64 0)).heap[D]? = some (.deferred (some [])) := (((KeepsOthers.setCell W8 ⟨g6, 0, none⟩ (.int .i64 X2)).trans (KeepsOthers.setCell _ ⟨g6, 1, none⟩ (.slice A8 X1.length c8))).trans (KeepsOthers.setCell _ ⟨g7, 0, none⟩ (.int .i64 0))).same D _ hk8 rfl
        have hgr := grownBy_putObj' (((W8.setCell ⟨g6, 0, none⟩ (.int .i64 X2)).setCell ⟨g6, 1, none⟩ (.slice A8 X1.length c8)).setCell ⟨g7, 0, none⟩ (.int .i64 0)) D (.deferred none)
        have hrr : ∀ r, some D = some r → w.heap.size ≤ r ∧ ∃ o : Obj, (((W8.setCell ⟨g6, 0, none⟩ (.int .i64 X2)).setCell ⟨g6, 1, none⟩ (.slice A8 X1.length c8)).setCell ⟨g7, 0, none⟩ (.int .i64 0)).heap[r]? = some o ∧ o.isCells = false := fun r e => by cases e; exact ⟨by omega, _, hkd, rfl⟩
        have HK6 := Lib.hid (blk_kept k6 hgr hrr)
        have HK7 := Lib.hid (blk_kept k7 hgr hrr)
        have HOW := Lib.hid (own_base (own_kept hown hgr hrr) (Below.size HI.out.below))
        have HBX := Lib.hid (hB6.grown hgr hB6.size (fun k e => by cases e; omega))
        have HKD := Lib.hid hkd
        clear ho ho' hk8 j6 j7 hbw k6 k7 hB6 hne6 hne7 hown hkd hgr hrr
        gi_wp2_with fail
        refine ⟨by simp, .inl ⟨_, _, rfl, run_takeDeferred HKD.out, ?_⟩⟩
        exact ⟨_, results_2 Try.results28 _ _ g6 g7 _ _ rfl rfl HK6.out _ Try.underlying33 rfl tre_size2 (load_errno HK7.out), _, rfl, HOW.out, HBX.out⟩
      · have hlt : xs.length < known.length := by have := hI.le; omega
        have hpr := prn_short hfc.1 hfc.2.2.1 hfc.2.2.2.1 hxs hI.eq hlt
        obtain rfl : R = none := by rw [HR2.out, hpr]; rfl
        have ui : W.cell? ⟨gi, 0, none⟩ = some (.int .i64 (xs.length : Nat)) := hI.ji.cell 0
        have uk : W.cell? ⟨gk, 0, none⟩ = some (.slice KA kn kc) := hI.jk.cell 0
        have hlz : (xs.length : Int) < (kn : Int) := by have := HKL.out; omega
        obtain ⟨⟨f1, f2⟩, ⟨f3, f4⟩, f5, f6⟩ := stores3_at (.int .i64 0) (.slice none 0 0) hI.j6 hI.j7 (by omega)
        obtain ⟨k6, k7, hB6⟩ := stores3 (.int .i64 0) (.slice none 0 0) (.int .i64 200) hI.j6 hI.j7 h6w h7w (by omega) hI.below
        have hkd : (((W.setCell ⟨g6, 0, none⟩ (.int .i64 0)).setCell ⟨g6, 1, none⟩ (.slice none 0 0)).setCell ⟨g7, 0, none⟩ (.int .i64 200)).heap[D]? = some (.deferred (some [])) := (((KeepsOthers.setCell W ⟨g6, 0, none⟩ (.int .i64 0)).trans (KeepsOthers.setCell _ ⟨g6, 1, none⟩ (.slice none 0 0))).trans (KeepsOthers.setCell _ ⟨g7, 0, none⟩ (.int .i64 200))).same D _ hK9 rfl
        have hgr := grownBy_putObj' (((W.setCell ⟨g6, 0, none⟩ (.int .i64 0)).setCell ⟨g6, 1, none⟩ (.slice none 0 0)).setCell ⟨g7, 0, none⟩ (.int .i64 200)) D (.deferred none)
        have hrr : ∀ r, some D = some r → w.heap.size ≤ r ∧ ∃ o : Obj, (((W.setCell ⟨g6, 0, none⟩ (.int .i64 0)).setCell ⟨g6, 1, none⟩ (.slice none 0 0)).setCell ⟨g7, 0, none⟩ (.int .i64 200)).heap[r]? = some o ∧ o.isCells = false := fun r e => by cases e; exact ⟨by omega, _, hkd, rfl⟩
        have HK6 := Lib.hid (blk_kept k6 hgr hrr)
        have HK7 := Lib.hid (blk_kept k7 hgr hrr)
        have HBX := Lib.hid (hB6.grown hgr hB6.size (fun k e => by cases e; omega))
        have HKD := Lib.hid hkd
        generalize xs.length = j at ui hlz
        clear hxs hpp hpl hlt hpr hI hK9 k6 k7 hB6 hkd hgr hrr
        gi_wp2_with fail
        refine ⟨by simp, .inl ⟨_, _, rfl, run_takeDeferred HKD.out, ?_⟩⟩
        exact ⟨_, results_2 Try.results28 _ _ g6 g7 _ _ rfl rfl HK6.out _ Try.underlying33 rfl tre_size2 (load_errno HK7.out), rfl, HBX.out⟩
    case hstop =>
      intro D c0 pre W hD hpre hX hK9
      rcases hX with ⟨rfl, ⟨p, x, a, rfl, hm, ha, hxa⟩, h6, h7, hbl⟩ | ⟨rfl, p, x, rfl, hpl, hI⟩
      · obtain ⟨hlt, hka⟩ := List.getElem?_eq_some_iff.1 ha
        have hpr := prn_other hfc.1 hfc.2.2.1 hfc.2.2.2.1 hpre hm hlt (by rw [hka]; exact hxa)
        obtain rfl : R = none := by rw [HR2.out, hpr]; rfl
        have hgr := grownBy_putObj' W D (.deferred none)
        have hrr : ∀ r, some D = some r → w.heap.size ≤ r ∧ ∃ o : Obj, W.heap[r]? = some o ∧ o.isCells = false := fun r e => by cases e; exact ⟨by omega, _, hK9, rfl⟩
        have HK6 := Lib.hid (blk_kept h6 hgr hrr)
        have HK7 := Lib.hid (blk_kept h7 hgr hrr)
        have HBX := Lib.hid (hbl.grown hgr hbl.size (fun k e => by cases e; omega))
        have HKD := Lib.hid hK9
        clear hpre hm ha hxa hpr hlt hka h6 h7 hbl hK9 hgr hrr
        gi_wp2_with fail
        refine ⟨by simp, .inl ⟨_, _, rfl, run_takeDeferred HKD.out, ?_⟩⟩
        exact ⟨_, results_2 Try.results28 _ _ g6 g7 _ _ rfl rfl HK6.out _ Try.underlying33 rfl tre_size2 (load_errno HK7.out), rfl, HBX.out⟩
      · have hpp : p <+: way T (qK known) 0 k := (List.prefix_append p [x]).trans hpre
        clear hpre
        have hpr := prn_all hfc.1 hfc.2.2.1 hfc.2.2.2.1 hpp hI.eq hpl
        obtain ⟨_, n1, n2⟩ := way_split hfc.1 p 0 k hfc.2.2.1 hfc.2.2.2.1 hpp
        have ui : W.cell? ⟨gi, 0, none⟩ = some (.int .i64 (kn : Int)) := by
          have h : W.cell? ⟨gi, 0, none⟩ = some (.int .i64 ((p).length : Nat)) := hI.ji.cell 0
          rw [hpl, HKL.out] at h
          exact h
        have us : W.cell? ⟨gs, 0, none⟩ = some (.int .i64 (nxtW k p)) := hI.js.cell 0
        generalize nxtW k p = k2 at hpr n1 n2 us
        have uk : W.cell? ⟨gk, 0, none⟩ = some (.slice KA kn kc) := hI.jk.cell 0
        have u0 : W.cell? ⟨gt, 0, none⟩ = some (.int .i64 k) := hI.jt.cell 0
        have u1 : W.cell? ⟨gt, 1, none⟩ = some (.slice TA tn tc) := hI.jt.cell 1
        have hlf := left_any T TA tn tc k k2 (unf T k2) W ((HT.out.below hI.below).more (Below.size hI.below)) hfc.1 hfc.2.1 (unf_of hfc.1 n1 n2)
        have hRX : R = some (bld [] (unf T k2)) := by rw [HR2.out, hpr]; rfl
        generalize bld [] (unf T k2) = X at hlf hRX
        obtain rfl : R = some X := hRX
        obtain ⟨X1, X2⟩ := X
        have hD6 : g6 < W.heap.size := hI.j6.lt
        have hD7 : g7 < W.heap.size := hI.j7.lt
        have hDl : D < W.heap.size := (Array.getElem?_eq_some_iff.1 hK9).1
        have HI := Lib.hid hI
        have HK9 := Lib.hid hK9
        have HLF := Lib.hid hlf
        clear hpr hpl hpp hI hK9 hlf n1 n2
        gi_wp2_with fail
        refine ⟨trivial, (callsIn_wide.2 HLF.out).mono ?_⟩
        rintro e W8 ⟨v, rfl, ho, hy⟩
        have ho' : W8.ownsRow W.heap.size 30 5 v X1.length (X1.flatMap brnCells) := ho
        obtain ⟨A8, c8, rfl, _, _⟩ := own_slice ho'
        dsimp only
        have hk8 : W8.heap[D]? = some (.deferred (some [])) := (hy.block D hDl).trans HK9.out
        have j6 := HI.out.j6.ext hy
        have j7 := HI.out.j7.ext hy
        have hbw : Ext w W8 := bl_then HI.out.below hy
        obtain ⟨⟨f1, f2⟩, ⟨f3, f4⟩, f5, f6⟩ := stores3_at (.int .i64 X2) (.slice A8 X1.length c8) j6 j7 (by omega)
        obtain ⟨k6, k7, hB6⟩ := stores3 (.int .i64 X2) (.slice A8 X1.length c8) (.int .i64 0) j6 j7 h6w h7w (by omega) hbw
        have hne6 : (Value.slice A8 X1.length c8).ownBlock ≠ some g6 := fun e => by have := (World.ownsRow.lt ho' g6 e).1; omega
        have hne7 : (Value.slice A8 X1.length c8).ownBlock ≠ some g7 := fun e => by have := (World.ownsRow.lt ho' g7 e).1; omega
        have hown := own_set (own_set (own_set ho' (p := ⟨g6, 0, none⟩) hne6 (.int .i64 X2)) (p := ⟨g6, 1, none⟩) hne6 (.slice A8 X1.length c8)) (p := ⟨g7, 0, none⟩) hne7 (.int .i64 0)
        have hkd : (((W8.setCell ⟨g6, 0, none⟩ (.int .i64 X2)).setCell ⟨g6, 1, none⟩ (.slice A8 X1.length c8)).setCell ⟨g7, 0, none⟩ (.int .i64 0)).heap[D]? = some (.deferred (some [])) := (((KeepsOthers.setCell W8 ⟨g6, 0, none⟩ (.int .i64 X2)).trans (KeepsOthers.setCell _ ⟨g6, 1, none⟩ (.slice A8 X1.length c8))).trans (KeepsOthers.setCell _ ⟨g7, 0, none⟩ (.int .i64 0))).same D _ hk8 rfl
        have hgr := grownBy_putObj' (((W8.setCell ⟨g6, 0, none⟩ (.int .i64 X2)).setCell ⟨g6, 1, none⟩ (.slice A8 X1.length c8)).setCell ⟨g7, 0, none⟩ (.int .i64 0)) D (.deferred none)
        have hrr : ∀ r, some D = some r → w.heap.size ≤ r ∧ ∃ o : Obj, (((W8.setCell ⟨g6, 0, none⟩ (.int .i64 X2)).setCell ⟨g6, 1, none⟩ (.slice A8 X1.length c8)).setCell ⟨g7, 0, none⟩ (.int .i64 0)).heap[r]? = some o ∧ o.isCells = false := fun r e => by cases e; exact ⟨by omega, _, hkd, rfl⟩
        have HK6 := Lib.hid (blk_kept k6 hgr hrr)
        have HK7 := Lib.hid (blk_kept k7 hgr hrr)
        have HOW := Lib.hid (own_base (own_kept hown hgr hrr) (Below.size HI.out.below))
        have HBX := Lib.hid (hB6.grown hgr hB6.size (fun k e => by cases e; omega))
        have HKD := Lib.hid hkd
        clear ho ho' hk8 j6 j7 hbw k6 k7 hB6 hne6 hne7 hown hkd hgr hrr
        gi_wp2_with fail
        refine ⟨by simp, .inl ⟨_, _, rfl, run_takeDeferred HKD.out, ?_⟩⟩
        exact ⟨_, results_2 Try.results28 _ _ g6 g7 _ _ rfl rfl HK6.out _ Try.underlying33 rfl tre_size2 (load_errno HK7.out), _, rfl, HOW.out, HBX.out⟩
end Go.Proofs.Ytikphbgfcpamgaa
namespace Go.Proofs.Ytikphbgfcpamgaa
open Go.RowKit

theorem follow_any (T : List Brn) (TA : Option Addr) (tn tc : Nat) (k : Int) (os : List Opt) (A : Option Addr) (n c : Nat) (LA : Option Addr) (ln lc : Nat) (lost : List Int) (w : World)
    (hT : RA brnCells 5 w w.heap.size TA tn tc T) (hO : Ops w w.heap.size A n c os) (hL : RA intCells 1 w w.heap.size LA ln lc lost) :
    Calls Try.prog 24 #[.agg #[.int .i64 k, .slice TA tn tc], .slice A n c, .slice LA ln lc] w (AcksRet (folP (opsP os) T k lost) w) := callsIn_wide.1 (Follow_in T TA tn tc k os A n c LA ln lc lost w hT hO hL)
def delP (r : Option (List Ack)) : Nat × Int := match r with
  | none => (0, 200)
  | some l => (gotP l, 0)
theorem folD_opts {l : List Op} {T : List Brn} (q : Int → Int → Bool) {k : Int} {D : DT} (hs : ∀ b ∈ T, slotB l b = true) (h : Rep T k D) : ∀ a ∈ folD q D, 0 ≤ a.opt ∧ a.opt < l.length := by
  induction h with
  | leaf => intro a ha; cases ha
  | @node j b n y hk _ _ h1 h2 =>
    intro a ha
    rw [folD] at ha
    rcases List.mem_cons.1 ha with rfl | ha
    · have := hs b (List.mem_of_getElem? hk)
      unfold slotB at this
      rw [Bool.and_eq_true] at this
      have := inB_iff.1 this.1
      dsimp only
      omega
    · split at ha
      · exact h2 a ha
      · exact h1 a ha
theorem fol_opts {l : List Op} {T : List Brn} {k : Int} {lost : List Int} {L : List Ack} (h : folP l T k lost = some L) : ∀ a ∈ L, 0 ≤ a.opt ∧ a.opt < 8 := by
  unfold folP at h
  split at h
  · rename_i hv
    rw [Bool.and_eq_true] at hv
    injection h with h
    subst h
    obtain ⟨_, _, _, _, hr, _, hs, hc⟩ := valid_facts hv.1
    have hl : l.length ≤ 8 := by
      unfold carP okL at hc
      simp only [Bool.and_eq_true, decide_eq_true_eq] at hc
      exact hc.1.1
    intro a ha
    have := folD_opts _ hs hr a ha
    omega
  · cases h
set_option maxRecDepth 100000 in
set_option maxHeartbeats 1000000 in
theorem delivered_any (T : List Brn) (TA : Option Addr) (tn tc : Nat) (k : Int) (os : List Opt) (A : Option Addr) (n c : Nat) (LA : Option Addr) (ln lc : Nat) (lost : List Int) (w : World)
    (hT : RA brnCells 5 w w.heap.size TA tn tc T) (hO : Ops w w.heap.size A n c os) (hL : RA intCells 1 w w.heap.size LA ln lc lost) :
    Calls Try.prog 25 #[.agg #[.int .i64 k, .slice TA tn tc], .slice A n c, .slice LA ln lc] w fun e w' => e = .returned (.tuple #[.int .i64 ((delP (folP (opsP os) T k lost)).1 : Nat), .int .i64 (delP (folP (opsP os) T k lost)).2]) ∧ Ext w w' := by
  have HF := Lib.hid (fun (W : World) (hx : Ext w W) => follow_any T TA tn tc k os A n c LA ln lc lost W (ra_ext hT hx) (hO.ext hx) (ra_ext hL hx))
  have HOP := Lib.hid (fun (L : List Ack) (h : folP (opsP os) T k lost = some L) => fol_opts h)
  generalize folP (opsP os) T k lost = R at HF HOP ⊢
  obtain ⟨Y, hY⟩ : ∃ Y, Y = delP R := ⟨_, rfl⟩
  rw [← hY]
  obtain ⟨Y1, Y2⟩ := Y
  have HY := Lib.hid hY
  clear hT hO hL hY
  go_enter Try.func25, Try.ntmps25
  go_wp2_with fail
  have hx : Ext w (w.alloc (.cells #[.int .i64 k, .slice TA tn tc] 33)) := bl_alloc (Below.refl _ _) _
  generalize w.alloc (.cells #[.int .i64 k, .slice TA tn tc] 33) = W1 at hx ⊢
  have hc := HF.out W1 hx
  refine hc.mono ?_
  clear hc HF
  rintro e W2 hr
  have key : ∃ (A' : Option Addr) (m c' : Nat) (L : List Ack) (er : Int), e = .returned (.tuple #[.slice A' m c', .int .i64 er]) ∧ RA ackCells 3 W2 W2.heap.size A' m c' L ∧ Ext W1 W2 ∧ (Y1, Y2) = (gotP L, er) ∧ ∀ a ∈ L, 0 ≤ a.opt ∧ a.opt < 8 := by
    cases R with
    | none =>
      obtain ⟨rfl, hy⟩ := hr
      exact ⟨none, 0, 0, [], 200, rfl, ⟨⟨rfl, fun h => absurd h (by omega)⟩, rfl, Nat.le_refl _, Nat.zero_le _, Nat.zero_le _⟩, hy, HY.out, fun a h => by cases h⟩
    | some L =>
      obtain ⟨v, rfl, ho, hy⟩ := hr
      obtain ⟨A', c', rfl, _, _⟩ := own_slice ho
      exact ⟨A', L.length, c', L, 0, rfl, RA.of_own2 ho rfl, hy, HY.out, HOP.out L rfl⟩
  obtain ⟨A', m, c', L, er, rfl, hra, hy, hyy, hop⟩ := key
  injection hyy with hy1 hy2
  subst hy2
  have hx2 := Ext.trans hx hy
  have hml := hra.len
  have hmle := hra.le
  have HRA := Lib.hid hra
  have HML := Lib.hid hml
  have HOP := Lib.hid hop
  have HG0 : Hid (Y1 = gotR 0 (L.drop 0)) := Lib.hid hy1
  clear hra hml hop hy1 hr hy HY hx
  go_wp2_with fail
  go_loopw [10, 22] (fun y x wr => ∃ (j d : Nat), j ≤ m ∧ x = .int .i64 j ∧ y = .int .i64 d ∧ d < 256 ∧ Hid (Y1 = gotR d (L.drop j)) ∧ Ext W2 wr) (fun _ x _ => m - (intOf x).toNat)
  case atStart => exact ⟨0, 0, Nat.zero_le _, rfl, rfl, by omega, HG0, Ext.refl _⟩
  case round =>
    clear HG0
    obtain ⟨j, d, hj, rfl, rfl, hd, HG, hxq⟩ := hrel
    by_cases hjm : j < m
    · obtain ⟨b, o, hz, hA, _, hcell⟩ := (ra_ext HRA.out hxq).at_ ack_len hjm
      have hg := HG.out
      rw [List.drop_eq_getElem_cons hz, gotR] at hg
      have hab := HOP.out _ (List.getElem_mem hz)
      generalize L[j] = a at hcell hg hab
      obtain ⟨ao, as_, ai⟩ := a
      dsimp only at hg hab
      obtain ⟨p, rfl⟩ : ∃ p : Nat, ao = p := ⟨ao.toNat, by omega⟩
      have a0 : wr.cell? ⟨b, o + j * 3, none⟩ = some (.int .i64 p) := hcell 0 (by omega)
      have a1 : wr.cell? ⟨b, o + j * 3 + 1, none⟩ = some (.int .i64 as_) := hcell 1 (by omega)
      have a2 : wr.cell? ⟨b, o + j * 3 + 2, none⟩ = some (.bool ai) := hcell 2 (by omega)
      have hjz : (j : Int) < (m : Int) := by omega
      have hp8 : p < 8 := by omega
      rw [Int.toNat_natCast] at hg
      have hx5 : Ext W2 (wr.alloc (.cells #[.int .i64 p, .int .i64 as_, .bool ai] 60)) := bl_alloc hxq _
      have J5 := Blk.new wr 60 #[.int .i64 p, .int .i64 as_, .bool ai]
      subst hA
      have HG2 := Lib.hid hg
      clear hcell hz hg hab HG
      go_upto_region 6 with (fail)
      generalize wr.heap.size = g5 at J5 ⊢
      generalize wr.alloc (.cells #[.int .i64 p, .int .i64 as_, .bool ai] 60) = W5 at hx5 J5 ⊢
      have d0 : W5.cell? ⟨g5, 0, none⟩ = some (.int .i64 p) := J5.cell 0
      have d2 : W5.cell? ⟨g5, 2, none⟩ = some (.bool ai) := J5.cell 2
      clear a0 a1 a2 J5 hxq
      cases ai
      · have HG3 : Hid (Y1 = gotR d (L.drop (j + 1))) := Lib.hid HG2.out
        go_wp2
        go_roundw
        case rel => exact ⟨j + 1, d, by omega, by go_num, rfl, hd, HG3, hx5⟩
        case measure => simp [intOf]; omega
      · obtain ⟨z, hz⟩ : ∃ z : Nat, z = 2 ^ p := ⟨_, rfl⟩
        have hz2 : z < 256 := by
          have h1 : (2 : Nat) ^ p ≤ 128 := Nat.le_trans (Nat.pow_le_pow_right (by decide) (show p ≤ 7 by omega)) (by decide)
          omega
        have hpw : IntKind.i64.wrap ((2 : Int) ^ p) = (z : Int) := by
          have h2 : ((2 : Int) ^ p) = ((2 ^ p : Nat) : Int) := by simp
          rw [h2, ← hz]
          exact IntWalk.i64_in _ (by omega)
        have hor := or2_i64 hd hz2
        have hpo0 : (0 : Int) ≤ (p : Int) := by omega
        have hpo8 : (p : Int) ≤ 64 := by omega
        have HG3 : Hid (Y1 = gotR (d ||| z) (L.drop (j + 1))) := Lib.hid (by rw [hz]; exact HG2.out)
        have hdz : d ||| z < 256 := Nat.or_lt_two_pow (n := 8) hd hz2
        generalize d ||| z = d2 at hor HG3 hdz
        clear hz HG2
        go_wp2
        go_roundw
        case rel => exact ⟨j + 1, d2, by omega, by go_num, rfl, hdz, HG3, hx5⟩
        case measure => simp [intOf]; omega
    · have hend : Y1 = d := by rw [HG.out, List.drop_of_length_le (by rw [HML.out]; omega)]; rfl
      subst hend
      have hjz : ¬ (j : Int) < (m : Int) := by omega
      have HX := Lib.hid (Ext.trans hx2 hxq)
      go_wp2
      exact bodyPost_ret (v := .tuple #[.int .i64 (Y1 : Nat), .int .i64 Y2]) (by simp [results, Try.results25, go_sem]) rfl ⟨rfl, HX.out⟩
set_option maxRecDepth 100000 in
theorem units_any (k : Int) (TA : Option Addr) (tn tc : Nat) (w : World) (h : tn ≤ 1000000000) : Calls Try.prog 21 #[.agg #[.int .i64 k, .slice TA tn tc]] w fun e w' => e = .returned (.int .i64 (6 * tn : Nat)) ∧ Ext w w' := by
  have hw : IntKind.i64.wrap (6 * (tn : Int)) = ((6 * tn : Nat) : Int) := by
    rw [show 6 * (tn : Int) = ((6 * tn : Nat) : Int) by omega]
    exact IntWalk.i64_in _ (by omega)
  go_enter Try.func21, Try.ntmps21
  go_wp2
  go_ret
  exact ⟨rfl, (by repeat (first | exact Below.refl _ _ | assumption | refine Below.drew ?_ | refine below_drewN ?_ _ | refine bl_alloc ?_ _ | refine Below.setCell ?_ (by first | (simp; done) | omega | (simp; omega)) _ | refine bl_then ?_ (by assumption)))⟩
end Go.Proofs.Ytikphbgfcpamgaa
