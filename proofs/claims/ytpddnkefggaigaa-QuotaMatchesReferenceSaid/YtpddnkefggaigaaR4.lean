/- The reference: copied, at rows of 16 numbers: the copies lie apart. -/
import Derived.Test.YtpddnkefggaigaaR3
import Derived.Test.YtpddnkefggaigaaReg2
namespace Go.Proofs.Ytpddnkefggaigaa
open Go.RowKit


section
variable {P : Program} (w : World)
theorem run_append_fresh (t ty e : TypeId) (i : TypeInfo) (z : Value) (size bytes : Nat) (ht : P.underlying t = some (.slice e)) (hi : P.info? e = some i) (hz : i.zero = some z)
    (hsize : i.size = size) (hby : i.bytes = bytes) (hzs : z.cells.size = size) (hsz : 0 < size) (g : Nat)
    (B : Nat) (A : Option Addr) (m c : Nat) (news : List Value) (hr : Reads w B size A m news) (hm : 0 < m) (h63 : m ≤ maxLen) (hbytes : m * bytes ≤ 140737488355328) :
    ∃ v' w', (Builtin.append_ #[t, t] ty #[.slice (some ⟨g, 0, none⟩) 0 0, .slice A m c]).run P w = .ok v' w' ∧ w'.ownsRow w.heap.size e size v' m news ∧ Ext w w' := by
  obtain ⟨b, o, rfl, _, hc⟩ := hr.2 hm
  obtain ⟨v', w', hrun, r1, r2⟩ := run_append_arg_grows (P := P) w t ty e i z size bytes ht hi hz hsize hby hzs hsz ⟨g, 0, none⟩ 0 0 [] (by simp) (by simp) ⟨b, o, none⟩ m c news hr.1 (fun j u hj => by rw [Addr.add_lit]; exact hc j u hj) (by omega) (by omega) (by simpa using hbytes)
  exact ⟨v', w', hrun, by simpa using r1, Below.grown (Below.refl _ _) r2 (Nat.le_refl _) (fun k hk => by cases hk)⟩
end

set_option maxHeartbeats 1000000 in
theorem copied_apart (s1 s2 s3 s4 : Sl) (p : Pool) (w : World) (h : PoolR w w.heap.size s1 s2 s3 s4 p) (l1 : p.has.length = 16) (l2 : p.used.length = 16) (l4 : p.cents.length = 16) :
    Calls Try.prog 65 #[poolV s1 s2 s3 s4] w fun e w' => ∃ (g1 c1 g2 c2 : Nat) (t3 : Sl) (g4 c4 : Nat), e = .returned (poolV ⟨some ⟨g1, 0, none⟩, 16, c1⟩ ⟨some ⟨g2, 0, none⟩, 16, c2⟩ t3 ⟨some ⟨g4, 0, none⟩, 16, c4⟩) ∧ Ext w w' ∧ Rows3 w' w.heap.size g1 c1 g2 c2 g4 c4 p.st ∧ w'.ownsRow w.heap.size 28 3 t3.v t3.n (p.loans.flatMap loanCells) ∧ t3.n ≤ 1099511627776 := by
  obtain ⟨A1, n1, c1⟩ := s1; obtain ⟨A2, n2, c2⟩ := s2; obtain ⟨A3, n3, c3⟩ := s3; obtain ⟨A4, n4, c4⟩ := s4
  have hn1 : n1 ≤ 1099511627776 := h.1.le
  have hn2 : n2 ≤ 1099511627776 := h.2.1.le
  have hn3 : n3 ≤ 1099511627776 := h.2.2.1.le
  have hn4 : n4 ≤ 1099511627776 := h.2.2.2.le
  obtain rfl : n1 = 16 := h.1.len.symm.trans l1
  obtain rfl : n2 = 16 := h.2.1.len.symm.trans l2
  obtain rfl : n4 = 16 := h.2.2.2.len.symm.trans l4
  show Calls Try.prog 65 #[.agg #[.slice A1 16 c1, .slice A2 16 c2, .slice A3 n3 c3, .slice A4 16 c4]] w _
  generalize hQ : (fun (e : Ending) (w' : World) => ∃ (g1 c1 g2 c2 : Nat) (t3 : Sl) (g4 c4 : Nat), e = .returned (poolV ⟨some ⟨g1, 0, none⟩, 16, c1⟩ ⟨some ⟨g2, 0, none⟩, 16, c2⟩ t3 ⟨some ⟨g4, 0, none⟩, 16, c4⟩) ∧ Ext w w' ∧ Rows3 w' w.heap.size g1 c1 g2 c2 g4 c4 p.st ∧ w'.ownsRow w.heap.size 28 3 t3.v t3.n (p.loans.flatMap loanCells) ∧ t3.n ≤ 1099511627776) = QQ
  have HQ := Lib.hid hQ
  clear hQ
  go_enter Try.func65, Try.ntmps65
  go_wp2_with fail
  generalize hW : ((w.alloc _).alloc _) = W
  have hBW : Below w.heap.size w W := by subst hW; exact (by repeat (first | exact Below.refl _ _ | assumption | refine Below.drew ?_ | refine below_drewN ?_ _ | refine bl_alloc ?_ _ | refine Below.setCell ?_ (by first | (simp; done) | omega | (simp; omega)) _ | refine bl_then ?_ (by assumption)))
  have hzW : w.heap.size + 2 ≤ W.heap.size := by subst hW; simp
  have jp : Blk W w.heap.size 26 #[.slice A1 16 c1, .slice A2 16 c2, .slice A3 n3 c3, .slice A4 16 c4] := by subst hW; exact (Blk.new_at _ _ rfl).alloc _
  have jr : Blk W (w.heap.size + 1) 26 nil4 := by subst hW; exact Blk.new_at _ _ (by simp)
  clear hW
  obtain ⟨h1, h2, h3, h4⟩ := (h.below hBW).more (show w.heap.size ≤ W.heap.size by omega)
  have p0 : W.cell? ⟨w.heap.size, 0, none⟩ = some (.slice A1 16 c1) := jp.cell 0
  have p1 : W.cell? ⟨w.heap.size, 1, none⟩ = some (.slice A2 16 c2) := jp.cell 1
  have p2 : W.cell? ⟨w.heap.size, 2, none⟩ = some (.slice A3 n3 c3) := jp.cell 2
  have p3 : W.cell? ⟨w.heap.size, 3, none⟩ = some (.slice A4 16 c4) := jp.cell 3
  refine wp_region_obl2 17 (fun ix vals v w1 => match ix with | 0 => ∃ g, v = .slice (some ⟨g, 0, none⟩) 0 0 ∧ w.heap.size ≤ g ∧ Blk w1 g 3 #[] | 1 => v = .pointer (some ⟨w.heap.size, 0, none⟩) | 2 => v = .slice A1 16 c1 | 3 => w1.ownsRow w.heap.size 3 1 v 16 (p.has.map I64) | 4 => ∃ g, v = .slice (some ⟨g, 0, none⟩) 0 0 ∧ w.heap.size ≤ g ∧ Blk w1 g 3 #[] | 5 => v = .pointer (some ⟨w.heap.size, 1, none⟩) | 6 => v = .slice A2 16 c2 | 7 => w1.ownsRow w.heap.size 3 1 v 16 (p.used.map I64) | 8 => ∃ g, v = .slice (some ⟨g, 0, none⟩) 0 0 ∧ w.heap.size ≤ g ∧ Blk w1 g 28 #[] | 9 => v = .pointer (some ⟨w.heap.size, 2, none⟩) | 10 => v = .slice A3 n3 c3 | 11 => w1.ownsRow w.heap.size 28 3 v n3 (p.loans.flatMap loanCells) | 12 => ∃ g, v = .slice (some ⟨g, 0, none⟩) 0 0 ∧ w.heap.size ≤ g ∧ Blk w1 g 3 #[] | 13 => v = .pointer (some ⟨w.heap.size, 3, none⟩) | 14 => v = .slice A4 16 c4 | 15 => w1.ownsRow w.heap.size 3 1 v 16 (p.cents.map I64) | _ => ∃ d3, v = .agg #[vals 3, vals 7, d3, vals 15] ∧ d3 = vals 11) (fun ix v => match ix with | 3 => v.ownBlock | 7 => v.ownBlock | 15 => v.ownBlock | _ => none) (by kernel_rfl) (by kernel_rfl) ?_ ?_ ?_ ?_ ?_
  · intro ix vals v w1 hi hr k hk
    match ix, hr, hk with
    | 0, _, hk => cases hk
    | 1, _, hk => cases hk
    | 2, _, hk => cases hk
    | 3, hr, hk => exact (World.ownsRow.lt hr k hk).2
    | 4, _, hk => cases hk
    | 5, _, hk => cases hk
    | 6, _, hk => cases hk
    | 7, hr, hk => exact (World.ownsRow.lt hr k hk).2
    | 8, _, hk => cases hk
    | 9, _, hk => cases hk
    | 10, _, hk => cases hk
    | 11, _, hk => cases hk
    | 12, _, hk => cases hk
    | 13, _, hk => cases hk
    | 14, _, hk => cases hk
    | 15, hr, hk => exact (World.ownsRow.lt hr k hk).2
    | (kx + 16), _, hk => cases hk
  · intro ix vals v w1 w2 hi hr hx
    match ix, hr with
    | 0, hr => obtain ⟨g, h1, h2, h3⟩ := hr; exact ⟨g, h1, h2, h3.ext hx⟩
    | 1, hr => exact hr
    | 2, hr => exact hr
    | 3, hr => exact own_ext hr hx
    | 4, hr => obtain ⟨g, h1, h2, h3⟩ := hr; exact ⟨g, h1, h2, h3.ext hx⟩
    | 5, hr => exact hr
    | 6, hr => exact hr
    | 7, hr => exact own_ext hr hx
    | 8, hr => obtain ⟨g, h1, h2, h3⟩ := hr; exact ⟨g, h1, h2, h3.ext hx⟩
    | 9, hr => exact hr
    | 10, hr => exact hr
    | 11, hr => exact own_ext hr hx
    | 12, hr => obtain ⟨g, h1, h2, h3⟩ := hr; exact ⟨g, h1, h2, h3.ext hx⟩
    | 13, hr => exact hr
    | 14, hr => exact hr
    | 15, hr => exact own_ext hr hx
    | (kx + 16), hr => exact hr
  · intro ix vals vals_ v w1 hi hv hr
    match ix, hi, hv, hr with
    | 0, _, _, hr => exact hr
    | 1, _, _, hr => exact hr
    | 2, _, _, hr => exact hr
    | 3, _, _, hr => exact hr
    | 4, _, _, hr => exact hr
    | 5, _, _, hr => exact hr
    | 6, _, _, hr => exact hr
    | 7, _, _, hr => exact hr
    | 8, _, _, hr => exact hr
    | 9, _, _, hr => exact hr
    | 10, _, _, hr => exact hr
    | 11, _, _, hr => exact hr
    | 12, _, _, hr => exact hr
    | 13, _, _, hr => exact hr
    | 14, _, _, hr => exact hr
    | 15, _, _, hr => exact hr
    | (kx + 16), hi, hv, hr => obtain rfl : kx = 0 := (by omega); have e3 := hv 3 (by kernel_rfl); have e7 := hv 7 (by kernel_rfl); have e11 := hv 11 (by kernel_rfl); have e15 := hv 15 (by kernel_rfl); rw [← e3, ← e7, ← e11, ← e15]; exact hr
  · refine ⟨?_, ?_, ?_, ?_, ?_, ?_, ?_, ?_, ?_, ?_, ?_, ?_, ?_, ?_, ?_, ?_, ?_, trivial⟩
    · intro vals w1 hx hd ha
      clear hd ha
      simp only [Lf]
      have p0 := ext_cell hx p0
      have p1 := ext_cell hx p1
      have p2 := ext_cell hx p2
      have p3 := ext_cell hx p3
      have hz := Below.size hx
      go_wp2
      exact ⟨rfl, (by repeat (first | exact Below.refl _ _ | assumption | refine Below.drew ?_ | refine below_drewN ?_ _ | refine bl_alloc ?_ _ | refine Below.setCell ?_ (by first | (simp; done) | omega | (simp; omega)) _ | refine bl_then ?_ (by assumption))), ⟨_, rfl, by simp at hz; omega, Blk.new _ _ _⟩, fun k hk => by cases hk⟩
    · intro vals w1 hx hd ha
      clear hd ha
      simp only [Lf, dstAt, Act.put, List.getElem?_toArray, List.getElem?_cons_zero, Option.bind_some, List.setIfInBounds_toArray, List.set_cons_zero, List.set_cons_succ]
      have p0 := ext_cell hx p0
      have p1 := ext_cell hx p1
      have p2 := ext_cell hx p2
      have p3 := ext_cell hx p3
      go_wp2
      exact ⟨rfl, Ext.refl _, rfl, fun k hk => by cases hk⟩
    · intro vals w1 hx hd ha
      have e1 : vals 1 = .pointer (some ⟨w.heap.size, 0, none⟩) := hd 1 (by decide)
      clear hd ha
      simp only [Lf, dstAt, Act.put, List.getElem?_toArray, List.getElem?_cons_zero, List.getElem?_cons_succ, Option.bind_some, List.setIfInBounds_toArray, List.set_cons_zero, List.set_cons_succ]
      simp only [e1]
      clear e1
      have p0 := ext_cell hx p0
      have p1 := ext_cell hx p1
      have p2 := ext_cell hx p2
      have p3 := ext_cell hx p3
      go_wp2
      exact ⟨rfl, Ext.refl _, rfl, fun k hk => by cases hk⟩
    · intro vals w1 hx hd ha
      have r0 : (fun v w1 => ∃ g, v = .slice (some ⟨g, 0, none⟩) 0 0 ∧ w.heap.size ≤ g ∧ Blk w1 g 3 #[]) (vals 0) w1 := hd 0 (by decide)
      dsimp only at r0
      have e2 : vals 2 = .slice A1 16 c1 := hd 2 (by decide)
      clear hd ha
      simp only [Lf, dstAt, Act.put, List.getElem?_toArray, List.getElem?_cons_zero, List.getElem?_cons_succ, Option.bind_some, List.setIfInBounds_toArray, List.set_cons_zero, List.set_cons_succ]
      have p0 := ext_cell hx p0
      have p1 := ext_cell hx p1
      have p2 := ext_cell hx p2
      have p3 := ext_cell hx p3
      obtain ⟨g, e0, hg, jb⟩ := r0
      rw [e0, e2]
      clear e0 e2
      have hz := Below.size hx
      obtain ⟨i0, hi, hz0, hz1, hz2⟩ := info_parts infoInt
      obtain ⟨v', w', hrun, r1, r2⟩ := run_append_fresh (P := Try.prog) w1 22 22 3 i0 (.int .i64 0) 1 8 Try.underlying22 hi hz0 hz1 hz2 rfl (by decide) g W.heap.size A1 16 c1 _ (h1.1.below hx.undrew) (by omega) (by unfold maxLen; omega) (by omega)
      refine wpList_appendK _ rfl _ _ _ _ rfl _ _ rfl rfl hrun ?_
      go_wp2
      exact ⟨rfl, r2, own_base r1 (by simp at hz; omega), fun k hk => (World.ownsRow.lt r1 k hk).1⟩
    · intro vals w1 hx hd ha
      clear hd ha
      simp only [Lf, dstAt, Act.put, List.getElem?_toArray, List.getElem?_cons_zero, List.getElem?_cons_succ, Option.bind_some, List.setIfInBounds_toArray, List.set_cons_zero, List.set_cons_succ]
      have p0 := ext_cell hx p0
      have p1 := ext_cell hx p1
      have p2 := ext_cell hx p2
      have p3 := ext_cell hx p3
      have hz := Below.size hx
      go_wp2
      exact ⟨rfl, (by repeat (first | exact Below.refl _ _ | assumption | refine Below.drew ?_ | refine below_drewN ?_ _ | refine bl_alloc ?_ _ | refine Below.setCell ?_ (by first | (simp; done) | omega | (simp; omega)) _ | refine bl_then ?_ (by assumption))), ⟨_, rfl, by simp at hz; omega, Blk.new _ _ _⟩, fun k hk => by cases hk⟩
    · intro vals w1 hx hd ha
      clear hd ha
      simp only [Lf, dstAt, Act.put, List.getElem?_toArray, List.getElem?_cons_zero, List.getElem?_cons_succ, Option.bind_some, List.setIfInBounds_toArray, List.set_cons_zero, List.set_cons_succ]
      have p0 := ext_cell hx p0
      have p1 := ext_cell hx p1
      have p2 := ext_cell hx p2
      have p3 := ext_cell hx p3
      go_wp2
      exact ⟨rfl, Ext.refl _, rfl, fun k hk => by cases hk⟩
    · intro vals w1 hx hd ha
      have e5 : vals 5 = .pointer (some ⟨w.heap.size, 1, none⟩) := hd 5 (by decide)
      clear hd ha
      simp only [Lf, dstAt, Act.put, List.getElem?_toArray, List.getElem?_cons_zero, List.getElem?_cons_succ, Option.bind_some, List.setIfInBounds_toArray, List.set_cons_zero, List.set_cons_succ]
      simp only [e5]
      clear e5
      have p0 := ext_cell hx p0
      have p1 := ext_cell hx p1
      have p2 := ext_cell hx p2
      have p3 := ext_cell hx p3
      go_wp2
      exact ⟨rfl, Ext.refl _, rfl, fun k hk => by cases hk⟩
    · intro vals w1 hx hd ha
      have r3 : (fun v w1 => w1.ownsRow w.heap.size 3 1 v 16 (p.has.map I64)) (vals 3) w1 := hd 3 (by decide)
      dsimp only at r3
      have r4 : (fun v w1 => ∃ g, v = .slice (some ⟨g, 0, none⟩) 0 0 ∧ w.heap.size ≤ g ∧ Blk w1 g 3 #[]) (vals 4) w1 := hd 4 (by decide)
      dsimp only at r4
      have e6 : vals 6 = .slice A2 16 c2 := hd 6 (by decide)
      clear hd ha
      simp only [Lf, dstAt, Act.put, List.getElem?_toArray, List.getElem?_cons_zero, List.getElem?_cons_succ, Option.bind_some, List.setIfInBounds_toArray, List.set_cons_zero, List.set_cons_succ]
      have p0 := ext_cell hx p0
      have p1 := ext_cell hx p1
      have p2 := ext_cell hx p2
      have p3 := ext_cell hx p3
      obtain ⟨g, e0, hg, jb⟩ := r4
      rw [e0, e6]
      clear e0 e6
      have hz := Below.size hx
      obtain ⟨i0, hi, hz0, hz1, hz2⟩ := info_parts infoInt
      obtain ⟨v', w', hrun, r1, r2⟩ := run_append_fresh (P := Try.prog) w1 22 22 3 i0 (.int .i64 0) 1 8 Try.underlying22 hi hz0 hz1 hz2 rfl (by decide) g W.heap.size A2 16 c2 _ (h2.1.below hx.undrew) (by omega) (by unfold maxLen; omega) (by omega)
      refine wpList_appendK _ rfl _ _ _ _ rfl _ _ rfl rfl hrun ?_
      go_wp2
      exact ⟨rfl, r2, own_base r1 (by simp at hz; omega), fun k hk => (World.ownsRow.lt r1 k hk).1⟩
    · intro vals w1 hx hd ha
      clear hd ha
      simp only [Lf, dstAt, Act.put, List.getElem?_toArray, List.getElem?_cons_zero, List.getElem?_cons_succ, Option.bind_some, List.setIfInBounds_toArray, List.set_cons_zero, List.set_cons_succ]
      have p0 := ext_cell hx p0
      have p1 := ext_cell hx p1
      have p2 := ext_cell hx p2
      have p3 := ext_cell hx p3
      have hz := Below.size hx
      go_wp2
      exact ⟨rfl, (by repeat (first | exact Below.refl _ _ | assumption | refine Below.drew ?_ | refine below_drewN ?_ _ | refine bl_alloc ?_ _ | refine Below.setCell ?_ (by first | (simp; done) | omega | (simp; omega)) _ | refine bl_then ?_ (by assumption))), ⟨_, rfl, by simp at hz; omega, Blk.new _ _ _⟩, fun k hk => by cases hk⟩
    · intro vals w1 hx hd ha
      clear hd ha
      simp only [Lf, dstAt, Act.put, List.getElem?_toArray, List.getElem?_cons_zero, List.getElem?_cons_succ, Option.bind_some, List.setIfInBounds_toArray, List.set_cons_zero, List.set_cons_succ]
      have p0 := ext_cell hx p0
      have p1 := ext_cell hx p1
      have p2 := ext_cell hx p2
      have p3 := ext_cell hx p3
      go_wp2
      exact ⟨rfl, Ext.refl _, rfl, fun k hk => by cases hk⟩
    · intro vals w1 hx hd ha
      have e9 : vals 9 = .pointer (some ⟨w.heap.size, 2, none⟩) := hd 9 (by decide)
      clear hd ha
      simp only [Lf, dstAt, Act.put, List.getElem?_toArray, List.getElem?_cons_zero, List.getElem?_cons_succ, Option.bind_some, List.setIfInBounds_toArray, List.set_cons_zero, List.set_cons_succ]
      simp only [e9]
      clear e9
      have p0 := ext_cell hx p0
      have p1 := ext_cell hx p1
      have p2 := ext_cell hx p2
      have p3 := ext_cell hx p3
      go_wp2
      exact ⟨rfl, Ext.refl _, rfl, fun k hk => by cases hk⟩
    · intro vals w1 hx hd ha
      have r7 : (fun v w1 => w1.ownsRow w.heap.size 3 1 v 16 (p.used.map I64)) (vals 7) w1 := hd 7 (by decide)
      dsimp only at r7
      have r8 : (fun v w1 => ∃ g, v = .slice (some ⟨g, 0, none⟩) 0 0 ∧ w.heap.size ≤ g ∧ Blk w1 g 28 #[]) (vals 8) w1 := hd 8 (by decide)
      dsimp only at r8
      have e10 : vals 10 = .slice A3 n3 c3 := hd 10 (by decide)
      clear hd ha
      simp only [Lf, dstAt, Act.put, List.getElem?_toArray, List.getElem?_cons_zero, List.getElem?_cons_succ, Option.bind_some, List.setIfInBounds_toArray, List.set_cons_zero, List.set_cons_succ]
      have p0 := ext_cell hx p0
      have p1 := ext_cell hx p1
      have p2 := ext_cell hx p2
      have p3 := ext_cell hx p3
      obtain ⟨g, e0, hg, jb⟩ := r8
      rw [e0, e10]
      clear e0 e10
      have hz := Below.size hx
      obtain ⟨i0, hi, hz0, hz1, hz2⟩ := info_parts infoLoan
      obtain ⟨v', w', hrun, r1, r2⟩ := run_append_empty (P := Try.prog) w1 w.heap.size 24 24 28 i0 (.agg #[.int .i64 0, .int .i64 0, .int .i64 0]) 3 24 Try.underlying24 hi hz0 hz1 hz2 rfl (by decide) g jb hg W.heap.size A3 n3 c3 _ (h3.1.below hx.undrew) (loans_one p.loans) (by unfold maxLen; omega) (by omega) (by simp at hz; omega)
      refine wpList_appendK _ rfl _ _ _ _ rfl _ _ rfl rfl hrun ?_
      go_wp2
      exact ⟨rfl, r2, r1⟩
    · intro vals w1 hx hd ha
      clear hd ha
      simp only [Lf, dstAt, Act.put, List.getElem?_toArray, List.getElem?_cons_zero, List.getElem?_cons_succ, Option.bind_some, List.setIfInBounds_toArray, List.set_cons_zero, List.set_cons_succ]
      have p0 := ext_cell hx p0
      have p1 := ext_cell hx p1
      have p2 := ext_cell hx p2
      have p3 := ext_cell hx p3
      have hz := Below.size hx
      go_wp2
      exact ⟨rfl, (by repeat (first | exact Below.refl _ _ | assumption | refine Below.drew ?_ | refine below_drewN ?_ _ | refine bl_alloc ?_ _ | refine Below.setCell ?_ (by first | (simp; done) | omega | (simp; omega)) _ | refine bl_then ?_ (by assumption))), ⟨_, rfl, by simp at hz; omega, Blk.new _ _ _⟩, fun k hk => by cases hk⟩
    · intro vals w1 hx hd ha
      clear hd ha
      simp only [Lf, dstAt, Act.put, List.getElem?_toArray, List.getElem?_cons_zero, List.getElem?_cons_succ, Option.bind_some, List.setIfInBounds_toArray, List.set_cons_zero, List.set_cons_succ]
      have p0 := ext_cell hx p0
      have p1 := ext_cell hx p1
      have p2 := ext_cell hx p2
      have p3 := ext_cell hx p3
      go_wp2
      exact ⟨rfl, Ext.refl _, rfl, fun k hk => by cases hk⟩
    · intro vals w1 hx hd ha
      have e13 : vals 13 = .pointer (some ⟨w.heap.size, 3, none⟩) := hd 13 (by decide)
      clear hd ha
      simp only [Lf, dstAt, Act.put, List.getElem?_toArray, List.getElem?_cons_zero, List.getElem?_cons_succ, Option.bind_some, List.setIfInBounds_toArray, List.set_cons_zero, List.set_cons_succ]
      simp only [e13]
      clear e13
      have p0 := ext_cell hx p0
      have p1 := ext_cell hx p1
      have p2 := ext_cell hx p2
      have p3 := ext_cell hx p3
      go_wp2
      exact ⟨rfl, Ext.refl _, rfl, fun k hk => by cases hk⟩
    · intro vals w1 hx hd ha
      have r11 : (fun v w1 => w1.ownsRow w.heap.size 28 3 v n3 (p.loans.flatMap loanCells)) (vals 11) w1 := hd 11 (by decide)
      dsimp only at r11
      have r12 : (fun v w1 => ∃ g, v = .slice (some ⟨g, 0, none⟩) 0 0 ∧ w.heap.size ≤ g ∧ Blk w1 g 3 #[]) (vals 12) w1 := hd 12 (by decide)
      dsimp only at r12
      have e14 : vals 14 = .slice A4 16 c4 := hd 14 (by decide)
      clear hd ha
      simp only [Lf, dstAt, Act.put, List.getElem?_toArray, List.getElem?_cons_zero, List.getElem?_cons_succ, Option.bind_some, List.setIfInBounds_toArray, List.set_cons_zero, List.set_cons_succ]
      have p0 := ext_cell hx p0
      have p1 := ext_cell hx p1
      have p2 := ext_cell hx p2
      have p3 := ext_cell hx p3
      obtain ⟨g, e0, hg, jb⟩ := r12
      rw [e0, e14]
      clear e0 e14
      have hz := Below.size hx
      obtain ⟨i0, hi, hz0, hz1, hz2⟩ := info_parts infoInt
      obtain ⟨v', w', hrun, r1, r2⟩ := run_append_fresh (P := Try.prog) w1 22 22 3 i0 (.int .i64 0) 1 8 Try.underlying22 hi hz0 hz1 hz2 rfl (by decide) g W.heap.size A4 16 c4 _ (h4.1.below hx.undrew) (by omega) (by unfold maxLen; omega) (by omega)
      refine wpList_appendK _ rfl _ _ _ _ rfl _ _ rfl rfl hrun ?_
      go_wp2
      exact ⟨rfl, r2, own_base r1 (by simp at hz; omega), fun k hk => (World.ownsRow.lt r1 k hk).1⟩
    · intro vals w1 hx hd ha
      have r3 : (fun v w1 => w1.ownsRow w.heap.size 3 1 v 16 (p.has.map I64)) (vals 3) w1 := hd 3 (by decide)
      dsimp only at r3
      have r7 : (fun v w1 => w1.ownsRow w.heap.size 3 1 v 16 (p.used.map I64)) (vals 7) w1 := hd 7 (by decide)
      dsimp only at r7
      have r11 : (fun v w1 => w1.ownsRow w.heap.size 28 3 v n3 (p.loans.flatMap loanCells)) (vals 11) w1 := hd 11 (by decide)
      dsimp only at r11
      have r15 : (fun v w1 => w1.ownsRow w.heap.size 3 1 v 16 (p.cents.map I64)) (vals 15) w1 := hd 15 (by decide)
      dsimp only at r15
      clear hd ha
      simp only [Lf, dstAt, Act.put, List.getElem?_toArray, List.getElem?_cons_zero, List.getElem?_cons_succ, Option.bind_some, List.setIfInBounds_toArray, List.set_cons_zero, List.set_cons_succ]
      have p0 := ext_cell hx p0
      have p1 := ext_cell hx p1
      have p2 := ext_cell hx p2
      have p3 := ext_cell hx p3
      obtain ⟨D1, d1, e1, _, _⟩ := own_slice r3
      obtain ⟨D2, d2, e2, _, _⟩ := own_slice r7
      obtain ⟨D3, d3, e3, _, _⟩ := own_slice r11
      obtain ⟨D4, d4, e4, _, _⟩ := own_slice r15
      rw [e1, e2, e3, e4]
      go_wp2
      exact ⟨rfl, Ext.refl _, ⟨_, rfl, rfl⟩, fun k hk => by cases hk⟩
  intro vals w2 hx hf hap
  have o1 : w2.ownsRow w.heap.size 3 1 (vals 3) 16 (p.has.map I64) := hf 3 (by omega)
  have o2 : w2.ownsRow w.heap.size 3 1 (vals 7) 16 (p.used.map I64) := hf 7 (by omega)
  have o3 : w2.ownsRow w.heap.size 28 3 (vals 11) n3 (p.loans.flatMap loanCells) := hf 11 (by omega)
  have o4 : w2.ownsRow w.heap.size 3 1 (vals 15) 16 (p.cents.map I64) := hf 15 (by omega)
  have a12 : ∀ k, (vals 3).ownBlock = some k → (vals 7).ownBlock ≠ some k := hap 3 7 (by omega) (by omega) (by omega)
  have a14 : ∀ k, (vals 3).ownBlock = some k → (vals 15).ownBlock ≠ some k := hap 3 15 (by omega) (by omega) (by omega)
  have a24 : ∀ k, (vals 7).ownBlock = some k → (vals 15).ownBlock ≠ some k := hap 7 15 (by omega) (by omega) (by omega)
  obtain ⟨_, e16, rfl⟩ : ∃ d3, vals 16 = .agg #[vals 3, vals 7, d3, vals 15] ∧ d3 = vals 11 := hf 16 (by omega)
  clear hf hap p0 p1 p2 p3 h1 h2 h3 h4
  obtain ⟨g1, d1, e1⟩ := own16 o1
  obtain ⟨g2, d2, e2⟩ := own16 o2
  obtain ⟨g4, d4, e4⟩ := own16 o4
  obtain ⟨D3, d3, e3, _, _⟩ := own_slice o3
  rw [e1] at o1 a12 a14
  rw [e2] at o2 a12 a24
  rw [e4] at o4 a14 a24
  rw [e3] at o3
  rw [e1, e2, e3, e4] at e16
  clear e1 e2 e3 e4
  have hp : Rows3 w2 w.heap.size g1 d1 g2 d2 g4 d4 p.st := ⟨o1, o2, o4, fun e => a12 g1 rfl (by rw [e]; rfl), fun e => a14 g1 rfl (by rw [e]; rfl), fun e => a24 g2 rfl (by rw [e]; rfl)⟩
  clear o1 o2 o4 a12 a14 a24
  have hx := hx.undrew
  have hB2 : Below w.heap.size w w2 := hBW.trans (Below.mono hx (by omega))
  have jr2 := jr.ext hx
  clear jp jr hBW hx
  refine tail1 17 _ (by kernel_rfl) (by kernel_rfl) rfl ?_
  simp only [Lf, dstAt, Act.put, List.getElem?_toArray, List.getElem?_cons_zero, List.getElem?_cons_succ, Option.bind_some, List.setIfInBounds_toArray, List.set_cons_zero, List.set_cons_succ]
  rw [e16]
  clear e16
  have hc0 := jr2.cell 0
  have hc1 := jr2.cell 1
  have hc2 := jr2.cell 2
  have hc3 := jr2.cell 3
  have hf0 := jr2.frozen 0
  have hf1 := jr2.frozen 1
  have hf2 := jr2.frozen 2
  have hf3 := jr2.frozen 3
  go_wp2
  generalize hW4 : ((((w2.setCell ⟨w.heap.size + 1, 0, none⟩ _).setCell ⟨w.heap.size + 1, 1, none⟩ _).setCell ⟨w.heap.size + 1, 2, none⟩ _).setCell ⟨w.heap.size + 1, 3, none⟩ _) = w4
  have j4 : Blk w4 (w.heap.size + 1) 26 #[.slice (some ⟨g1, 0, none⟩) 16 d1, .slice (some ⟨g2, 0, none⟩) 16 d2, .slice D3 n3 d3, .slice (some ⟨g4, 0, none⟩) 16 d4] := by subst hW4; exact jr2.set4 _ _ _ _
  have hB4 : Below w.heap.size w w4 := by subst hW4; exact below_set4 hB2 (by omega) _ _ _ _
  have hp4 : Rows3 w4 w.heap.size g1 d1 g2 d2 g4 d4 p.st := by subst hW4; exact hp.set4 jr2 (by decide) _ _ _ _
  have ho4 : w4.ownsRow w.heap.size 28 3 (.slice D3 n3 d3) n3 (p.loans.flatMap loanCells) := by subst hW4; exact own_set4 o3 (own_blk_ne o3 jr2 (by decide)) _ _ _ _
  clear hc0 hc1 hc2 hc3
  have hc0 := j4.cell 0
  have hc1 := j4.cell 1
  have hc2 := j4.cell 2
  have hc3 := j4.cell 3
  exact bodyPost_ret (v := poolV ⟨some ⟨g1, 0, none⟩, 16, d1⟩ ⟨some ⟨g2, 0, none⟩, 16, d2⟩ ⟨D3, n3, d3⟩ ⟨some ⟨g4, 0, none⟩, 16, d4⟩) (by simp [results, Try.results65, go_sem, hc0, hc1, hc2, hc3]) rfl (by rw [← HQ.out]; exact ⟨g1, d1, g2, d2, ⟨D3, n3, d3⟩, g4, d4, rfl, hB4, hp4, ho4, hn3⟩)

end Go.Proofs.Ytpddnkefggaigaa
