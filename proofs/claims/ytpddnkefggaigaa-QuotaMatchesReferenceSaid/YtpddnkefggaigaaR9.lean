/- The reference: New. -/
import Derived.Test.YtpddnkefggaigaaR6
namespace Go.Proofs.Ytpddnkefggaigaa
open Go.RowKit

set_option maxHeartbeats 1000000 in
theorem rnew_any (A : Option Addr) (n c : Nat) (zs : List Int) (w : World) (h : RI w w.heap.size ⟨A, n, c⟩ zs) :
    Calls Try.prog 22 #[.slice A n c] w (PoolRet w (newP zs)) := by
  have hmk : ∀ w, (Instr.makeSlice 22 (.int .i64 16) (.int .i64 16)).run Try.prog w = .ok (.slice (some ⟨w.heap.size, 0, none⟩) 16 16) (w.alloc (.cells zero16 3)) := fun _ => by kernel_rfl
  have hn : n ≤ 1099511627776 := h.le
  have hnp : newP zs = if validB ⟨zs, List.replicate 16 0, [], List.replicate 16 0⟩ = true then some ⟨zs, List.replicate 16 0, [], List.replicate 16 0⟩ else none := rfl
  generalize newP zs = r at hnp ⊢
  have HN := Lib.hid hnp
  clear hnp
  go_enter Try.func22, Try.ntmps22
  go_wp2_with fail
  generalize hW : w.alloc _ = W
  have hBW : Below w.heap.size w W := by subst hW; exact (by repeat (first | exact Below.refl _ _ | assumption | refine Below.drew ?_ | refine below_drewN ?_ _ | refine bl_alloc ?_ _ | refine Below.setCell ?_ (by first | (simp; done) | omega | (simp; omega)) _ | refine bl_then ?_ (by assumption)))
  have hzW : w.heap.size + 1 ≤ W.heap.size := by subst hW; simp
  have jr : Blk W w.heap.size 26 nil4 := by subst hW; exact Blk.new_at _ _ rfl
  clear hW
  have h1 := (h.below hBW).more (show w.heap.size ≤ W.heap.size by omega)
  refine wp_region_obl 9 (fun ix vals v w1 => match ix with | 0 => ∃ g, v = .slice (some ⟨g, 0, none⟩) 0 0 ∧ w.heap.size ≤ g ∧ Blk w1 g 3 #[] | 1 => v = .slice A n c | 2 => w1.ownsRow w.heap.size 3 1 v n (zs.map I64) | 3 => ∃ g, v = .slice (some ⟨g, 0, none⟩) 16 16 ∧ w.heap.size ≤ g ∧ Blk w1 g 3 zero16 | 4 => ∃ g, v = .slice (some ⟨g, 0, none⟩) 16 16 ∧ w.heap.size ≤ g ∧ Blk w1 g 3 zero16 | 5 => ∃ t1 t2 t3 t4, v = poolV t1 t2 t3 t4 ∧ PoolOwn w1 w.heap.size t1 t2 t3 t4 ⟨zs, List.replicate 16 0, [], List.replicate 16 0⟩ | 6 => PoolGot r w.heap.size v w1 | 7 => ∃ z, vals 6 = .tuple #[v, z] | _ => ∃ z, vals 6 = .tuple #[z, v]) (by kernel_rfl) (by kernel_rfl) ?_ ?_ ?_ ?_
  · intro ix vals v w1 w2 hi hr hx
    match ix, hr with
    | 0, hr => obtain ⟨g, h1, h2, h3⟩ := hr; exact ⟨g, h1, h2, h3.ext hx⟩
    | 1, hr => exact hr
    | 2, hr => exact own_ext hr hx
    | 3, hr => obtain ⟨g, h1, h2, h3⟩ := hr; exact ⟨g, h1, h2, h3.ext hx⟩
    | 4, hr => obtain ⟨g, h1, h2, h3⟩ := hr; exact ⟨g, h1, h2, h3.ext hx⟩
    | 5, hr => obtain ⟨t1, t2, t3, t4, h1, h2⟩ := hr; exact ⟨t1, t2, t3, t4, h1, h2.ext hx⟩
    | 6, hr => exact hr.ext hx
    | 7, hr => exact hr
    | (kx + 8), hr => exact hr
  · intro ix vals vals_ v w1 hi hv hr
    match ix, hi, hv, hr with
    | 0, _, _, hr => exact hr
    | 1, _, _, hr => exact hr
    | 2, _, _, hr => exact hr
    | 3, _, _, hr => exact hr
    | 4, _, _, hr => exact hr
    | 5, _, _, hr => exact hr
    | 6, _, _, hr => exact hr
    | 7, _, hv, hr => have e6 := hv 6 (by kernel_rfl); rw [← e6]; exact hr
    | (kx + 8), hi, hv, hr => obtain rfl : kx = 0 := (by omega); have e6 := hv 6 (by kernel_rfl); rw [← e6]; exact hr
  · refine ⟨?_, ?_, ?_, ?_, ?_, ?_, ?_, ?_, ?_, trivial⟩
    · intro vals w1 hx hd ha
      clear hd ha
      simp only [Lf]
      have hz := Below.size hx.undrew
      go_wp2
      exact ⟨rfl, (by repeat (first | exact Below.refl _ _ | assumption | refine Below.drew ?_ | refine below_drewN ?_ _ | refine bl_alloc ?_ _ | refine Below.setCell ?_ (by first | (simp; done) | omega | (simp; omega)) _ | refine bl_then ?_ (by assumption))), _, rfl, by omega, Blk.new _ _ _⟩
    · intro vals w1 hx hd ha
      clear hd ha
      simp only [Lf, dstAt, Act.put, List.getElem?_toArray, List.getElem?_cons_zero, Option.bind_some, List.setIfInBounds_toArray, List.set_cons_zero, List.set_cons_succ]
      go_wp2
      exact ⟨rfl, Ext.refl _, rfl⟩
    · intro vals w1 hx hd ha
      have r0 : (fun v w1 => ∃ g, v = .slice (some ⟨g, 0, none⟩) 0 0 ∧ w.heap.size ≤ g ∧ Blk w1 g 3 #[]) (vals 0) w1 := hd 0 (by decide)
      dsimp only at r0
      have e1 : vals 1 = .slice A n c := hd 1 (by decide)
      clear hd ha
      simp only [Lf, dstAt, Act.put, List.getElem?_toArray, List.getElem?_cons_zero, List.getElem?_cons_succ, Option.bind_some, List.setIfInBounds_toArray, List.set_cons_zero, List.set_cons_succ]
      obtain ⟨g, e0, hg, jb⟩ := r0
      rw [e0, e1]
      clear e0 e1
      have hz := Below.size hx.undrew
      obtain ⟨i0, hi, hz0, hz1, hz2⟩ := info_parts infoInt
      obtain ⟨v', w', hrun, r1, r2⟩ := run_append_empty (P := Try.prog) w1 w.heap.size 22 22 3 i0 (.int .i64 0) 1 8 Try.underlying22 hi hz0 hz1 hz2 rfl (by decide) g jb hg W.heap.size A n c _ (h1.1.below hx.undrew) (ints_one zs) (by unfold maxLen; omega) (by omega) (by omega)
      refine wpList_appendK _ rfl _ _ _ _ rfl _ _ rfl rfl hrun ?_
      go_wp2
      exact ⟨rfl, r2, r1⟩
    · intro vals w1 hx hd ha
      clear hd ha
      simp only [Lf, dstAt, Act.put, List.getElem?_toArray, List.getElem?_cons_zero, List.getElem?_cons_succ, Option.bind_some, List.setIfInBounds_toArray, List.set_cons_zero, List.set_cons_succ]
      have hz := Below.size hx.undrew
      go_wp2
      exact ⟨rfl, (by repeat (first | exact Below.refl _ _ | assumption | refine Below.drew ?_ | refine below_drewN ?_ _ | refine bl_alloc ?_ _ | refine Below.setCell ?_ (by first | (simp; done) | omega | (simp; omega)) _ | refine bl_then ?_ (by assumption))), _, rfl, by omega, Blk.new _ _ _⟩
    · intro vals w1 hx hd ha
      clear hd ha
      simp only [Lf, dstAt, Act.put, List.getElem?_toArray, List.getElem?_cons_zero, List.getElem?_cons_succ, Option.bind_some, List.setIfInBounds_toArray, List.set_cons_zero, List.set_cons_succ]
      have hz := Below.size hx.undrew
      go_wp2
      exact ⟨rfl, (by repeat (first | exact Below.refl _ _ | assumption | refine Below.drew ?_ | refine below_drewN ?_ _ | refine bl_alloc ?_ _ | refine Below.setCell ?_ (by first | (simp; done) | omega | (simp; omega)) _ | refine bl_then ?_ (by assumption))), _, rfl, by omega, Blk.new _ _ _⟩
    · intro vals w1 hx hd ha
      have r2 : (fun v w1 => w1.ownsRow w.heap.size 3 1 v n (zs.map I64)) (vals 2) w1 := hd 2 (by decide)
      dsimp only at r2
      have r3 : (fun v w1 => ∃ g, v = .slice (some ⟨g, 0, none⟩) 16 16 ∧ w.heap.size ≤ g ∧ Blk w1 g 3 zero16) (vals 3) w1 := hd 3 (by decide)
      dsimp only at r3
      have r4 : (fun v w1 => ∃ g, v = .slice (some ⟨g, 0, none⟩) 16 16 ∧ w.heap.size ≤ g ∧ Blk w1 g 3 zero16) (vals 4) w1 := hd 4 (by decide)
      dsimp only at r4
      clear hd ha
      simp only [Lf, dstAt, Act.put, List.getElem?_toArray, List.getElem?_cons_zero, List.getElem?_cons_succ, Option.bind_some, List.setIfInBounds_toArray, List.set_cons_zero, List.set_cons_succ]
      obtain ⟨D1, d1, e1, _, _⟩ := own_slice r2
      obtain ⟨g, e3, k3, j3⟩ := r3
      obtain ⟨g', e4, k4, j4⟩ := r4
      rw [e1] at r2
      rw [e1, e3, e4]
      clear e1 e3 e4
      go_wp2
      exact ⟨rfl, Ext.refl _, ⟨D1, n, d1⟩, ⟨some ⟨g, 0, none⟩, 16, 16⟩, ⟨none, 0, 0⟩, ⟨some ⟨g', 0, none⟩, 16, 16⟩, rfl, r2, own_of_blk (zs := List.replicate 16 0) j3 k3 rfl (by show 16 ≤ 1099511627776; omega), World.ownsRow_nil _ _ _ _, own_of_blk (zs := List.replicate 16 0) j4 k4 rfl (by show 16 ≤ 1099511627776; omega), hn, by show 16 ≤ 1099511627776; omega, Nat.zero_le _, by show 16 ≤ 1099511627776; omega⟩
    · intro vals w1 hx hd ha
      have r2 : (fun v w1 => w1.ownsRow w.heap.size 3 1 v n (zs.map I64)) (vals 2) w1 := hd 2 (by decide)
      dsimp only at r2
      have r5 : (fun v w1 => ∃ t1 t2 t3 t4, v = poolV t1 t2 t3 t4 ∧ PoolOwn w1 w.heap.size t1 t2 t3 t4 ⟨zs, List.replicate 16 0, [], List.replicate 16 0⟩) (vals 5) w1 := hd 5 (by decide)
      dsimp only at r5
      clear hd ha
      simp only [Lf, dstAt, Act.put, List.getElem?_toArray, List.getElem?_cons_zero, List.getElem?_cons_succ, Option.bind_some, List.setIfInBounds_toArray, List.set_cons_zero, List.set_cons_succ]
      obtain ⟨t1, t2, t3, t4, e5, hp⟩ := r5
      rw [e5]
      clear e5
      go_wp2_with fail
      refine (result_any t1 t2 t3 t4 _ w1 hp.pool).mono ?_
      rintro e w2 ⟨rfl, hb⟩
      have hp2 := hp.ext hb
      have hgot : PoolGot r w.heap.size (resV (validB ⟨zs, List.replicate 16 0, [], List.replicate 16 0⟩) (poolV t1 t2 t3 t4)) w2 := (by cases hv : validB (⟨zs, List.replicate 16 0, [], List.replicate 16 0⟩ : Pool) with | false => exact .inl ⟨by rw [HN.out, hv]; rfl, rfl⟩ | true => exact .inr ⟨_, t1, t2, t3, t4, by rw [HN.out, hv]; rfl, rfl, hp2⟩)
      go_wp2
      exact ⟨rfl, hb, hgot⟩
    · intro vals w1 hx hd ha
      have r6 : (fun v w1 => PoolGot r w.heap.size v w1) (vals 6) w1 := hd 6 (by decide)
      dsimp only at r6
      clear hd ha
      simp only [Lf, dstAt, Act.put, List.getElem?_toArray, List.getElem?_cons_zero, List.getElem?_cons_succ, Option.bind_some, List.setIfInBounds_toArray, List.set_cons_zero, List.set_cons_succ]
      rcases r6 with ⟨_, e1⟩ | ⟨q, t1, t2, t3, t4, _, e1, _⟩
      · rw [e1]; go_wp2; exact ⟨rfl, Ext.refl _, _, rfl⟩
      · rw [e1]; go_wp2; exact ⟨rfl, Ext.refl _, _, rfl⟩
    · intro vals w1 hx hd ha
      have r6 : (fun v w1 => PoolGot r w.heap.size v w1) (vals 6) w1 := hd 6 (by decide)
      dsimp only at r6
      clear hd ha
      simp only [Lf, dstAt, Act.put, List.getElem?_toArray, List.getElem?_cons_zero, List.getElem?_cons_succ, Option.bind_some, List.setIfInBounds_toArray, List.set_cons_zero, List.set_cons_succ]
      rcases r6 with ⟨_, e1⟩ | ⟨q, t1, t2, t3, t4, _, e1, _⟩
      · rw [e1]; go_wp2; exact ⟨rfl, Ext.refl _, _, rfl⟩
      · rw [e1]; go_wp2; exact ⟨rfl, Ext.refl _, _, rfl⟩
  intro vals w2 hx hf
  have hgot : PoolGot r w.heap.size (vals 6) w2 := hf 6 (by omega)
  have h11 : ∃ z, vals 6 = .tuple #[vals 7, z] := hf 7 (by omega)
  have h12 : ∃ z, vals 6 = .tuple #[z, vals 8] := hf 8 (by omega)
  clear hf
  have hx := hx.undrew
  have hB2 : Below w.heap.size w w2 := hBW.trans (Below.mono hx (by omega))
  have jr2 := jr.ext hx
  clear jr hBW hx
  refine tailF 9 _ _ 1 (by kernel_rfl) rfl ?_ (fun a w q => tail1 10 _ (by kernel_rfl) (by kernel_rfl) rfl q)
  simp only [Lf, dstAt, Act.put, List.getElem?_toArray, List.getElem?_cons_zero, List.getElem?_cons_succ, Option.bind_some, List.setIfInBounds_toArray, List.set_cons_zero, List.set_cons_succ]
  have hc0 := jr2.cell 0
  have hc1 := jr2.cell 1
  have hc2 := jr2.cell 2
  have hc3 := jr2.cell 3
  have hf0 := jr2.frozen 0
  have hf1 := jr2.frozen 1
  have hf2 := jr2.frozen 2
  have hf3 := jr2.frozen 3
  rcases hgot with ⟨hr, e10⟩ | ⟨q, t1, t2, t3, t4, hr, e10, hp⟩
  · rw [tup0 e10 h11, tup1 e10 h12]
    have HR := Lib.hid hr
    clear hr e10 h11 h12
    unfold nilV
    go_wp2
    generalize hW4 : ((((w2.setCell ⟨w.heap.size, 0, none⟩ _).setCell ⟨w.heap.size, 1, none⟩ _).setCell ⟨w.heap.size, 2, none⟩ _).setCell ⟨w.heap.size, 3, none⟩ _) = w4
    have j4 : Blk w4 (w.heap.size) 26 nil4 := by subst hW4; exact jr2.set4 _ _ _ _
    have hB4 : Below w.heap.size w w4 := by subst hW4; exact below_set4 hB2 (by omega) _ _ _ _
    clear hc0 hc1 hc2 hc3
    have hc0 := j4.cell 0
    have hc1 := j4.cell 1
    have hc2 := j4.cell 2
    have hc3 := j4.cell 3
    exact bodyPost_ret (v := .tuple #[nilV, .int .i64 250]) (by simp [results, Try.results22, go_sem, hc0, hc1, hc2, hc3, nilV]) rfl ⟨_, rfl, hB4, .inl ⟨HR.out, rfl⟩⟩
  · rw [tup0 e10 h11, tup1 e10 h12]
    have HR := Lib.hid hr
    clear hr e10 h11 h12
    obtain ⟨D1, m1, d1⟩ := t1; obtain ⟨D2, m2, d2⟩ := t2; obtain ⟨D3, m3, d3⟩ := t3; obtain ⟨D4, m4, d4⟩ := t4
    simp only [poolV, Sl.v]
    go_wp2
    generalize hW4 : ((((w2.setCell ⟨w.heap.size, 0, none⟩ _).setCell ⟨w.heap.size, 1, none⟩ _).setCell ⟨w.heap.size, 2, none⟩ _).setCell ⟨w.heap.size, 3, none⟩ _) = w4
    have j4 : Blk w4 (w.heap.size) 26 #[.slice D1 m1 d1, .slice D2 m2 d2, .slice D3 m3 d3, .slice D4 m4 d4] := by subst hW4; exact jr2.set4 _ _ _ _
    have hB4 : Below w.heap.size w w4 := by subst hW4; exact below_set4 hB2 (by omega) _ _ _ _
    have hp4 := by
      have hp4 := hp.set4 jr2 (.slice D1 m1 d1) (.slice D2 m2 d2) (.slice D3 m3 d3) (.slice D4 m4 d4)
      rw [hW4] at hp4
      exact hp4
    clear hc0 hc1 hc2 hc3
    have hc0 := j4.cell 0
    have hc1 := j4.cell 1
    have hc2 := j4.cell 2
    have hc3 := j4.cell 3
    exact bodyPost_ret (v := .tuple #[poolV ⟨D1, m1, d1⟩ ⟨D2, m2, d2⟩ ⟨D3, m3, d3⟩ ⟨D4, m4, d4⟩, .int .i64 0]) (by simp [results, Try.results22, go_sem, hc0, hc1, hc2, hc3]) rfl ⟨_, rfl, hB4, .inr ⟨_, _, _, _, _, HR.out, rfl, hp4⟩⟩

end Go.Proofs.Ytpddnkefggaigaa
