/- The reference: result, two, copied. -/
import Derived.Test.YtpddnkefggaigaaR1
import Derived.Test.YtpddnkefggaigaaI2
import Derived.Test.YtpddnkefggaigaaC1
import Derived.Test.YtpddnkefggaigaaO1
import Derived.ArgAppend
namespace Go.Proofs.Ytpddnkefggaigaa
open Go.RowKit


/-- What 'result' hands back of a pool. -/
def resV (ok : Bool) (v : Value) : Value := if ok then .tuple #[v, .int .i64 0] else .tuple #[nilV, .int .i64 250]

theorem result_any (s1 s2 s3 s4 : Sl) (p : Pool) (w : World) (h : PoolR w w.heap.size s1 s2 s3 s4 p) :
    Calls Try.prog 46 #[poolV s1 s2 s3 s4] w fun e w' => e = .returned (resV (validB p) (poolV s1 s2 s3 s4)) ∧ Ext w w' := by
  have hv := rvalid_any s1 s2 s3 s4 p
  obtain ⟨A1, n1, c1⟩ := s1; obtain ⟨A2, n2, c2⟩ := s2; obtain ⟨A3, n3, c3⟩ := s3; obtain ⟨A4, n4, c4⟩ := s4
  have HV := Lib.hid hv
  clear hv
  show Calls Try.prog 46 #[.agg #[.slice A1 n1 c1, .slice A2 n2 c2, .slice A3 n3 c3, .slice A4 n4 c4]] w _
  generalize hvb : validB p = vb at HV
  clear hvb
  go_enter Try.func46, Try.ntmps46
  go_wp2_with fail
  generalize hW : ((w.alloc _).alloc _) = W
  have hBW : Below w.heap.size w W := by subst hW; exact (by repeat (first | exact Below.refl _ _ | assumption | refine Below.drew ?_ | refine below_drewN ?_ _ | refine bl_alloc ?_ _ | refine Below.setCell ?_ (by first | (simp; done) | omega | (simp; omega)) _ | refine bl_then ?_ (by assumption)))
  have hzW : w.heap.size + 2 ≤ W.heap.size := by subst hW; simp
  have jp : Blk W w.heap.size 26 #[.slice A1 n1 c1, .slice A2 n2 c2, .slice A3 n3 c3, .slice A4 n4 c4] := by subst hW; exact (Blk.new_at _ _ rfl).alloc _
  have jr : Blk W (w.heap.size + 1) 26 nil4 := by subst hW; exact Blk.new_at _ _ (by simp)
  clear hW
  refine (HV.out W ((h.below hBW).more (by omega))).mono ?_
  rintro e w2 ⟨rfl, hb⟩
  have hB2 : Below w.heap.size w w2 := hBW.trans (Below.mono hb (by omega))
  have jp2 := jp.ext hb
  have jr2 := jr.ext hb
  clear jp jr hBW HV hb
  have hp0 := jp2.cell 0
  have hp1 := jp2.cell 1
  have hp2 := jp2.cell 2
  have hp3 := jp2.cell 3
  have hc0 := jr2.cell 0
  have hc1 := jr2.cell 1
  have hc2 := jr2.cell 2
  have hc3 := jr2.cell 3
  have hf0 := jr2.frozen 0
  have hf1 := jr2.frozen 1
  have hf2 := jr2.frozen 2
  have hf3 := jr2.frozen 3
  cases vb
  · go_wp2
    generalize hW4 : ((((w2.setCell ⟨w.heap.size + 1, 0, none⟩ _).setCell ⟨w.heap.size + 1, 1, none⟩ _).setCell ⟨w.heap.size + 1, 2, none⟩ _).setCell ⟨w.heap.size + 1, 3, none⟩ _) = w4
    have j4 : Blk w4 (w.heap.size + 1) 26 nil4 := by subst hW4; exact jr2.set4 _ _ _ _
    have hB4 : Below w.heap.size w w4 := by subst hW4; exact below_set4 hB2 (by omega) _ _ _ _
    clear hc0 hc1 hc2 hc3
    have hc0 := j4.cell 0
    have hc1 := j4.cell 1
    have hc2 := j4.cell 2
    have hc3 := j4.cell 3
    exact bodyPost_ret (v := .tuple #[nilV, .int .i64 250]) (by simp [results, Try.results46, go_sem, hc0, hc1, hc2, hc3, nilV]) rfl ⟨rfl, hB4⟩
  · go_wp2
    generalize hW4 : ((((w2.setCell ⟨w.heap.size + 1, 0, none⟩ _).setCell ⟨w.heap.size + 1, 1, none⟩ _).setCell ⟨w.heap.size + 1, 2, none⟩ _).setCell ⟨w.heap.size + 1, 3, none⟩ _) = w4
    have j4 : Blk w4 (w.heap.size + 1) 26 #[.slice A1 n1 c1, .slice A2 n2 c2, .slice A3 n3 c3, .slice A4 n4 c4] := by subst hW4; exact jr2.set4 _ _ _ _
    have hB4 : Below w.heap.size w w4 := by subst hW4; exact below_set4 hB2 (by omega) _ _ _ _
    clear hc0 hc1 hc2 hc3
    have hc0 := j4.cell 0
    have hc1 := j4.cell 1
    have hc2 := j4.cell 2
    have hc3 := j4.cell 3
    exact bodyPost_ret (v := .tuple #[poolV ⟨A1, n1, c1⟩ ⟨A2, n2, c2⟩ ⟨A3, n3, c3⟩ ⟨A4, n4, c4⟩, .int .i64 0]) (by simp [results, Try.results46, go_sem, hc0, hc1, hc2, hc3]) rfl ⟨rfl, hB4⟩

theorem two_any (s1 s2 s3 s4 : Sl) (p : Pool) (f t u : Int) (w : World) (h : PoolR w w.heap.size s1 s2 s3 s4 p) :
    Calls Try.prog 64 #[poolV s1 s2 s3 s4, .int .i64 f, .int .i64 t, .int .i64 u] w fun e w' => e = .returned (.bool (validB p && pairB f t u)) ∧ Ext w w' := by
  have hv := rvalid_any s1 s2 s3 s4 p
  obtain ⟨A1, n1, c1⟩ := s1; obtain ⟨A2, n2, c2⟩ := s2; obtain ⟨A3, n3, c3⟩ := s3; obtain ⟨A4, n4, c4⟩ := s4
  have HV := Lib.hid hv
  clear hv
  show Calls Try.prog 64 #[.agg #[.slice A1 n1 c1, .slice A2 n2 c2, .slice A3 n3 c3, .slice A4 n4 c4], _, _, _] w _
  have hq : ∀ w1, Ext w w1 → PoolR w1 w1.heap.size ⟨A1, n1, c1⟩ ⟨A2, n2, c2⟩ ⟨A3, n3, c3⟩ ⟨A4, n4, c4⟩ p := fun w1 hx => h.next hx
  have HQ := Lib.hid hq
  clear hq h
  generalize hvb : validB p = vb at HV ⊢
  clear hvb
  have hpb : pairB f t u = (ownerB f && ownerB t && f != t && inB u 1 1000000) := by simp [pairB]
  rw [hpb]
  clear hpb
  go_enter Try.func64, Try.ntmps64
  go_wp2_with fail
  refine (HV.out _ (HQ.out _ (by repeat (first | exact Below.refl _ _ | assumption | refine Below.drew ?_ | refine below_drewN ?_ _ | refine bl_alloc ?_ _ | refine Below.setCell ?_ (by first | (simp; done) | omega | (simp; omega)) _ | refine bl_then ?_ (by assumption))))).mono ?_
  rintro e w2 ⟨rfl, hb⟩
  have hB : Below w.heap.size w w2 := (by repeat (first | exact Below.refl _ _ | assumption | refine Below.drew ?_ | refine below_drewN ?_ _ | refine bl_alloc ?_ _ | refine Below.setCell ?_ (by first | (simp; done) | omega | (simp; omega)) _ | refine bl_then ?_ (by assumption)))
  clear hb HV HQ
  cases vb
  · go_wp2_with (first | (go_at_call 41; refine (rowner_any _ _).mono ?_; rintro e w' ⟨rfl, rfl⟩) | (go_at_call 40; refine (rin_any _ _ _ _).mono ?_; rintro e w' ⟨rfl, rfl⟩))
    go_ret
    exact ⟨rfl, (by repeat (first | exact Below.refl _ _ | assumption | refine Below.drew ?_ | refine below_drewN ?_ _ | refine bl_alloc ?_ _ | refine Below.setCell ?_ (by first | (simp; done) | omega | (simp; omega)) _ | refine bl_then ?_ (by assumption)))⟩
  cases o1 : ownerB f
  · go_wp2_with (first | (go_at_call 41; refine (rowner_any _ _).mono ?_; rintro e w' ⟨rfl, rfl⟩) | (go_at_call 40; refine (rin_any _ _ _ _).mono ?_; rintro e w' ⟨rfl, rfl⟩))
    go_ret
    exact ⟨by rw [o1]; simp, (by repeat (first | exact Below.refl _ _ | assumption | refine Below.drew ?_ | refine below_drewN ?_ _ | refine bl_alloc ?_ _ | refine Below.setCell ?_ (by first | (simp; done) | omega | (simp; omega)) _ | refine bl_then ?_ (by assumption)))⟩
  cases o2 : ownerB t
  · go_wp2_with (first | (go_at_call 41; refine (rowner_any _ _).mono ?_; rintro e w' ⟨rfl, rfl⟩) | (go_at_call 40; refine (rin_any _ _ _ _).mono ?_; rintro e w' ⟨rfl, rfl⟩))
    go_ret
    exact ⟨by rw [o2]; simp, (by repeat (first | exact Below.refl _ _ | assumption | refine Below.drew ?_ | refine below_drewN ?_ _ | refine bl_alloc ?_ _ | refine Below.setCell ?_ (by first | (simp; done) | omega | (simp; omega)) _ | refine bl_then ?_ (by assumption)))⟩
  cases o3 : f != t
  · go_wp2_with (first | (go_at_call 41; refine (rowner_any _ _).mono ?_; rintro e w' ⟨rfl, rfl⟩) | (go_at_call 40; refine (rin_any _ _ _ _).mono ?_; rintro e w' ⟨rfl, rfl⟩))
    go_ret
    exact ⟨by rw [o3]; simp, (by repeat (first | exact Below.refl _ _ | assumption | refine Below.drew ?_ | refine below_drewN ?_ _ | refine bl_alloc ?_ _ | refine Below.setCell ?_ (by first | (simp; done) | omega | (simp; omega)) _ | refine bl_then ?_ (by assumption)))⟩
  go_wp2_with (first | (go_at_call 41; refine (rowner_any _ _).mono ?_; rintro e w' ⟨rfl, rfl⟩) | (go_at_call 40; refine (rin_any _ _ _ _).mono ?_; rintro e w' ⟨rfl, rfl⟩))
  go_ret
  exact ⟨by rw [o1, o2, o3]; simp, (by repeat (first | exact Below.refl _ _ | assumption | refine Below.drew ?_ | refine below_drewN ?_ _ | refine bl_alloc ?_ _ | refine Below.setCell ?_ (by first | (simp; done) | omega | (simp; omega)) _ | refine bl_then ?_ (by assumption)))⟩

section
variable {P : Program} (w : World)
/-- append to an empty row of one's own that has no room. -/
theorem run_append_empty (base : Nat) (t ty e : TypeId) (i : TypeInfo) (z : Value) (size bytes : Nat) (ht : P.underlying t = some (.slice e)) (hi : P.info? e = some i) (hz : i.zero = some z)
    (hsize : i.size = size) (hby : i.bytes = bytes) (hzs : z.cells.size = size) (hsz : 0 < size)
    (g : Nat) (hblk : Blk w g e #[]) (hg : base ≤ g)
    (B : Nat) (A : Option Addr) (m c : Nat) (news : List Value) (hr : Reads w B size A m news) (h1 : ∀ u ∈ news, u.oneCell' = true)
    (h63 : m ≤ maxLen) (hbytes : m * bytes ≤ 140737488355328) (hbase : base ≤ w.heap.size) :
    ∃ v' w', (Builtin.append_ #[t, t] ty #[.slice (some ⟨g, 0, none⟩) 0 0, .slice A m c]).run P w = .ok v' w' ∧ w'.ownsRow base e size v' m news ∧ Ext w w' := by
  have hown : w.ownsRow base e size (.slice (some ⟨g, 0, none⟩) 0 0) 0 [] := ⟨by simp, .inr ⟨g, 0, #[], rfl, hg, hblk, Nat.le_refl _, Nat.zero_le _, by simp, by simp⟩⟩
  rcases Nat.eq_zero_or_pos m with h0 | h0
  · subst h0
    have hn : news = [] := List.eq_nil_of_length_eq_zero (by simpa using hr.1)
    subst hn
    rcases A with _ | ad
    · exact ⟨_, w, run_append_of_nil w base t ty e i size ht hi _ 0 [] hown c, hown, Ext.refl _⟩
    · have hrun := run_append_room_cells (P := P) w t ty e i ht hi g 0 0 0 ad 0 c [] (by simp) (by simp) (by simp) (Nat.le_refl _) (by simp) (by simp)
      exact ⟨_, w, hrun, hown, Ext.refl _⟩
  · obtain ⟨b, o, rfl, _, hc⟩ := hr.2 h0
    obtain ⟨v', w', hrun, r1, r2⟩ := run_append_arg_grows (P := P) w t ty e i z size bytes ht hi hz hsize hby hzs hsz ⟨g, 0, none⟩ 0 0 [] (by simp) (by simp) ⟨b, o, none⟩ m c news hr.1 (fun j u hj => by rw [Addr.add_lit]; exact hc j u hj) (by omega) (by omega) (by simpa using hbytes)
    exact ⟨v', w', hrun, by simpa using own_base r1 hbase, Below.grown (Below.refl _ _) r2 (Nat.le_refl _) (fun k hk => by cases hk)⟩
end

set_option maxHeartbeats 1000000 in
theorem copied_any (s1 s2 s3 s4 : Sl) (p : Pool) (w : World) (h : PoolR w w.heap.size s1 s2 s3 s4 p) :
    Calls Try.prog 65 #[poolV s1 s2 s3 s4] w fun e w' => ∃ t1 t2 t3 t4, e = .returned (poolV t1 t2 t3 t4) ∧ Ext w w' ∧ PoolOwn w' w.heap.size t1 t2 t3 t4 p := by
  obtain ⟨A1, n1, c1⟩ := s1; obtain ⟨A2, n2, c2⟩ := s2; obtain ⟨A3, n3, c3⟩ := s3; obtain ⟨A4, n4, c4⟩ := s4
  have hn1 : n1 ≤ 1099511627776 := h.1.le
  have hn2 : n2 ≤ 1099511627776 := h.2.1.le
  have hn3 : n3 ≤ 1099511627776 := h.2.2.1.le
  have hn4 : n4 ≤ 1099511627776 := h.2.2.2.le
  show Calls Try.prog 65 #[.agg #[.slice A1 n1 c1, .slice A2 n2 c2, .slice A3 n3 c3, .slice A4 n4 c4]] w _
  generalize hQ : (fun (e : Ending) (w' : World) => ∃ t1 t2 t3 t4, e = .returned (poolV t1 t2 t3 t4) ∧ Ext w w' ∧ PoolOwn w' w.heap.size t1 t2 t3 t4 p) = QQ
  have HQ := Lib.hid hQ
  clear hQ
  go_enter Try.func65, Try.ntmps65
  go_wp2_with fail
  generalize hW : ((w.alloc _).alloc _) = W
  have hBW : Below w.heap.size w W := by subst hW; exact (by repeat (first | exact Below.refl _ _ | assumption | refine Below.drew ?_ | refine below_drewN ?_ _ | refine bl_alloc ?_ _ | refine Below.setCell ?_ (by first | (simp; done) | omega | (simp; omega)) _ | refine bl_then ?_ (by assumption)))
  have hzW : w.heap.size + 2 ≤ W.heap.size := by subst hW; simp
  have jp : Blk W w.heap.size 26 #[.slice A1 n1 c1, .slice A2 n2 c2, .slice A3 n3 c3, .slice A4 n4 c4] := by subst hW; exact (Blk.new_at _ _ rfl).alloc _
  have jr : Blk W (w.heap.size + 1) 26 nil4 := by subst hW; exact Blk.new_at _ _ (by simp)
  clear hW
  obtain ⟨h1, h2, h3, h4⟩ := (h.below hBW).more (show w.heap.size ≤ W.heap.size by omega)
  have p0 : W.cell? ⟨w.heap.size, 0, none⟩ = some (.slice A1 n1 c1) := jp.cell 0
  have p1 : W.cell? ⟨w.heap.size, 1, none⟩ = some (.slice A2 n2 c2) := jp.cell 1
  have p2 : W.cell? ⟨w.heap.size, 2, none⟩ = some (.slice A3 n3 c3) := jp.cell 2
  have p3 : W.cell? ⟨w.heap.size, 3, none⟩ = some (.slice A4 n4 c4) := jp.cell 3
  refine wp_region_obl 17 (fun ix vals v w1 => match ix with | 0 => ∃ g, v = .slice (some ⟨g, 0, none⟩) 0 0 ∧ w.heap.size ≤ g ∧ Blk w1 g 3 #[] | 1 => v = .pointer (some ⟨w.heap.size, 0, none⟩) | 2 => v = .slice A1 n1 c1 | 3 => w1.ownsRow w.heap.size 3 1 v n1 (p.has.map I64) | 4 => ∃ g, v = .slice (some ⟨g, 0, none⟩) 0 0 ∧ w.heap.size ≤ g ∧ Blk w1 g 3 #[] | 5 => v = .pointer (some ⟨w.heap.size, 1, none⟩) | 6 => v = .slice A2 n2 c2 | 7 => w1.ownsRow w.heap.size 3 1 v n2 (p.used.map I64) | 8 => ∃ g, v = .slice (some ⟨g, 0, none⟩) 0 0 ∧ w.heap.size ≤ g ∧ Blk w1 g 28 #[] | 9 => v = .pointer (some ⟨w.heap.size, 2, none⟩) | 10 => v = .slice A3 n3 c3 | 11 => w1.ownsRow w.heap.size 28 3 v n3 (p.loans.flatMap loanCells) | 12 => ∃ g, v = .slice (some ⟨g, 0, none⟩) 0 0 ∧ w.heap.size ≤ g ∧ Blk w1 g 3 #[] | 13 => v = .pointer (some ⟨w.heap.size, 3, none⟩) | 14 => v = .slice A4 n4 c4 | 15 => w1.ownsRow w.heap.size 3 1 v n4 (p.cents.map I64) | _ => ∃ t1 t2 t3 t4, v = poolV t1 t2 t3 t4 ∧ PoolOwn w1 w.heap.size t1 t2 t3 t4 p) (by kernel_rfl) (by kernel_rfl) ?_ ?_ ?_ ?_
  · intro ix vals v w1 w2 hi hr hx
    match ix, hr with
    | 0, hr => obtain ⟨g, h1, h2, h3⟩ := hr; exact ⟨g, h1, h2, h3.ext hx⟩
    | 1, hr => exact hr
    | 2, hr => exact hr
    | 3, hr => exact own_ext hr hx
    | 4, hr => obtain ⟨g, h1, h2, h3⟩ := hr; exact ⟨g, h1, h2, h3.ext hx⟩
    | 5, hr => exact hr
    | 6, hr => exact hr
    | 7, hr => exact own_ext hr hx
    | 8, hr => obtain ⟨g, h1, h2, h3⟩ := hr; exact ⟨g, h1, h2, h3.ext hx⟩
    | 9, hr => exact hr
    | 10, hr => exact hr
    | 11, hr => exact own_ext hr hx
    | 12, hr => obtain ⟨g, h1, h2, h3⟩ := hr; exact ⟨g, h1, h2, h3.ext hx⟩
    | 13, hr => exact hr
    | 14, hr => exact hr
    | 15, hr => exact own_ext hr hx
    | (kx + 16), hr => obtain ⟨t1, t2, t3, t4, h1, h2⟩ := hr; exact ⟨t1, t2, t3, t4, h1, h2.ext hx⟩
  · intro ix vals vals_ v w1 hi hv hr
    exact hr
  · refine ⟨?_, ?_, ?_, ?_, ?_, ?_, ?_, ?_, ?_, ?_, ?_, ?_, ?_, ?_, ?_, ?_, ?_, trivial⟩
    · intro vals w1 hx hd ha
      clear hd ha
      simp only [Lf]
      have p0 := ext_cell hx p0
      have p1 := ext_cell hx p1
      have p2 := ext_cell hx p2
      have p3 := ext_cell hx p3
      have hz := Below.size hx
      go_wp2
      exact ⟨rfl, (by repeat (first | exact Below.refl _ _ | assumption | refine Below.drew ?_ | refine below_drewN ?_ _ | refine bl_alloc ?_ _ | refine Below.setCell ?_ (by first | (simp; done) | omega | (simp; omega)) _ | refine bl_then ?_ (by assumption))), _, rfl, by simp at hz; omega, Blk.new _ _ _⟩
    · intro vals w1 hx hd ha
      clear hd ha
      simp only [Lf, dstAt, Act.put, List.getElem?_toArray, List.getElem?_cons_zero, Option.bind_some, List.setIfInBounds_toArray, List.set_cons_zero, List.set_cons_succ]
      have p0 := ext_cell hx p0
      have p1 := ext_cell hx p1
      have p2 := ext_cell hx p2
      have p3 := ext_cell hx p3
      go_wp2
      exact ⟨rfl, Ext.refl _, rfl⟩
    · intro vals w1 hx hd ha
      have e1 : vals 1 = .pointer (some ⟨w.heap.size, 0, none⟩) := hd 1 (by decide)
      clear hd ha
      simp only [Lf, dstAt, Act.put, List.getElem?_toArray, List.getElem?_cons_zero, List.getElem?_cons_succ, Option.bind_some, List.setIfInBounds_toArray, List.set_cons_zero, List.set_cons_succ]
      simp only [e1]
      clear e1
      have p0 := ext_cell hx p0
      have p1 := ext_cell hx p1
      have p2 := ext_cell hx p2
      have p3 := ext_cell hx p3
      go_wp2
      exact ⟨rfl, Ext.refl _, rfl⟩
    · intro vals w1 hx hd ha
      have r0 : (fun v w1 => ∃ g, v = .slice (some ⟨g, 0, none⟩) 0 0 ∧ w.heap.size ≤ g ∧ Blk w1 g 3 #[]) (vals 0) w1 := hd 0 (by decide)
      dsimp only at r0
      have e2 : vals 2 = .slice A1 n1 c1 := hd 2 (by decide)
      clear hd ha
      simp only [Lf, dstAt, Act.put, List.getElem?_toArray, List.getElem?_cons_zero, List.getElem?_cons_succ, Option.bind_some, List.setIfInBounds_toArray, List.set_cons_zero, List.set_cons_succ]
      have p0 := ext_cell hx p0
      have p1 := ext_cell hx p1
      have p2 := ext_cell hx p2
      have p3 := ext_cell hx p3
      obtain ⟨g, e0, hg, jb⟩ := r0
      rw [e0, e2]
      clear e0 e2
      have hz := Below.size hx
      obtain ⟨i0, hi, hz0, hz1, hz2⟩ := info_parts infoInt
      obtain ⟨v', w', hrun, r1, r2⟩ := run_append_empty (P := Try.prog) w1 w.heap.size 22 22 3 i0 (.int .i64 0) 1 8 Try.underlying22 hi hz0 hz1 hz2 rfl (by decide) g jb hg W.heap.size A1 n1 c1 _ (h1.1.below hx.undrew) (ints_one p.has) (by unfold maxLen; omega) (by omega) (by simp at hz; omega)
      refine wpList_appendK _ rfl _ _ _ _ rfl _ _ rfl rfl hrun ?_
      go_wp2
      exact ⟨rfl, r2, r1⟩
    · intro vals w1 hx hd ha
      clear hd ha
      simp only [Lf, dstAt, Act.put, List.getElem?_toArray, List.getElem?_cons_zero, List.getElem?_cons_succ, Option.bind_some, List.setIfInBounds_toArray, List.set_cons_zero, List.set_cons_succ]
      have p0 := ext_cell hx p0
      have p1 := ext_cell hx p1
      have p2 := ext_cell hx p2
      have p3 := ext_cell hx p3
      have hz := Below.size hx
      go_wp2
      exact ⟨rfl, (by repeat (first | exact Below.refl _ _ | assumption | refine Below.drew ?_ | refine below_drewN ?_ _ | refine bl_alloc ?_ _ | refine Below.setCell ?_ (by first | (simp; done) | omega | (simp; omega)) _ | refine bl_then ?_ (by assumption))), _, rfl, by simp at hz; omega, Blk.new _ _ _⟩
    · intro vals w1 hx hd ha
      clear hd ha
      simp only [Lf, dstAt, Act.put, List.getElem?_toArray, List.getElem?_cons_zero, List.getElem?_cons_succ, Option.bind_some, List.setIfInBounds_toArray, List.set_cons_zero, List.set_cons_succ]
      have p0 := ext_cell hx p0
      have p1 := ext_cell hx p1
      have p2 := ext_cell hx p2
      have p3 := ext_cell hx p3
      go_wp2
      exact ⟨rfl, Ext.refl _, rfl⟩
    · intro vals w1 hx hd ha
      have e5 : vals 5 = .pointer (some ⟨w.heap.size, 1, none⟩) := hd 5 (by decide)
      clear hd ha
      simp only [Lf, dstAt, Act.put, List.getElem?_toArray, List.getElem?_cons_zero, List.getElem?_cons_succ, Option.bind_some, List.setIfInBounds_toArray, List.set_cons_zero, List.set_cons_succ]
      simp only [e5]
      clear e5
      have p0 := ext_cell hx p0
      have p1 := ext_cell hx p1
      have p2 := ext_cell hx p2
      have p3 := ext_cell hx p3
      go_wp2
      exact ⟨rfl, Ext.refl _, rfl⟩
    · intro vals w1 hx hd ha
      have r3 : (fun v w1 => w1.ownsRow w.heap.size 3 1 v n1 (p.has.map I64)) (vals 3) w1 := hd 3 (by decide)
      dsimp only at r3
      have r4 : (fun v w1 => ∃ g, v = .slice (some ⟨g, 0, none⟩) 0 0 ∧ w.heap.size ≤ g ∧ Blk w1 g 3 #[]) (vals 4) w1 := hd 4 (by decide)
      dsimp only at r4
      have e6 : vals 6 = .slice A2 n2 c2 := hd 6 (by decide)
      clear hd ha
      simp only [Lf, dstAt, Act.put, List.getElem?_toArray, List.getElem?_cons_zero, List.getElem?_cons_succ, Option.bind_some, List.setIfInBounds_toArray, List.set_cons_zero, List.set_cons_succ]
      have p0 := ext_cell hx p0
      have p1 := ext_cell hx p1
      have p2 := ext_cell hx p2
      have p3 := ext_cell hx p3
      obtain ⟨g, e0, hg, jb⟩ := r4
      rw [e0, e6]
      clear e0 e6
      have hz := Below.size hx
      obtain ⟨i0, hi, hz0, hz1, hz2⟩ := info_parts infoInt
      obtain ⟨v', w', hrun, r1, r2⟩ := run_append_empty (P := Try.prog) w1 w.heap.size 22 22 3 i0 (.int .i64 0) 1 8 Try.underlying22 hi hz0 hz1 hz2 rfl (by decide) g jb hg W.heap.size A2 n2 c2 _ (h2.1.below hx.undrew) (ints_one p.used) (by unfold maxLen; omega) (by omega) (by simp at hz; omega)
      refine wpList_appendK _ rfl _ _ _ _ rfl _ _ rfl rfl hrun ?_
      go_wp2
      exact ⟨rfl, r2, r1⟩
    · intro vals w1 hx hd ha
      clear hd ha
      simp only [Lf, dstAt, Act.put, List.getElem?_toArray, List.getElem?_cons_zero, List.getElem?_cons_succ, Option.bind_some, List.setIfInBounds_toArray, List.set_cons_zero, List.set_cons_succ]
      have p0 := ext_cell hx p0
      have p1 := ext_cell hx p1
      have p2 := ext_cell hx p2
      have p3 := ext_cell hx p3
      have hz := Below.size hx
      go_wp2
      exact ⟨rfl, (by repeat (first | exact Below.refl _ _ | assumption | refine Below.drew ?_ | refine below_drewN ?_ _ | refine bl_alloc ?_ _ | refine Below.setCell ?_ (by first | (simp; done) | omega | (simp; omega)) _ | refine bl_then ?_ (by assumption))), _, rfl, by simp at hz; omega, Blk.new _ _ _⟩
    · intro vals w1 hx hd ha
      clear hd ha
      simp only [Lf, dstAt, Act.put, List.getElem?_toArray, List.getElem?_cons_zero, List.getElem?_cons_succ, Option.bind_some, List.setIfInBounds_toArray, List.set_cons_zero, List.set_cons_succ]
      have p0 := ext_cell hx p0
      have p1 := ext_cell hx p1
      have p2 := ext_cell hx p2
      have p3 := ext_cell hx p3
      go_wp2
      exact ⟨rfl, Ext.refl _, rfl⟩
    · intro vals w1 hx hd ha
      have e9 : vals 9 = .pointer (some ⟨w.heap.size, 2, none⟩) := hd 9 (by decide)
      clear hd ha
      simp only [Lf, dstAt, Act.put, List.getElem?_toArray, List.getElem?_cons_zero, List.getElem?_cons_succ, Option.bind_some, List.setIfInBounds_toArray, List.set_cons_zero, List.set_cons_succ]
      simp only [e9]
      clear e9
      have p0 := ext_cell hx p0
      have p1 := ext_cell hx p1
      have p2 := ext_cell hx p2
      have p3 := ext_cell hx p3
      go_wp2
      exact ⟨rfl, Ext.refl _, rfl⟩
    · intro vals w1 hx hd ha
      have r7 : (fun v w1 => w1.ownsRow w.heap.size 3 1 v n2 (p.used.map I64)) (vals 7) w1 := hd 7 (by decide)
      dsimp only at r7
      have r8 : (fun v w1 => ∃ g, v = .slice (some ⟨g, 0, none⟩) 0 0 ∧ w.heap.size ≤ g ∧ Blk w1 g 28 #[]) (vals 8) w1 := hd 8 (by decide)
      dsimp only at r8
      have e10 : vals 10 = .slice A3 n3 c3 := hd 10 (by decide)
      clear hd ha
      simp only [Lf, dstAt, Act.put, List.getElem?_toArray, List.getElem?_cons_zero, List.getElem?_cons_succ, Option.bind_some, List.setIfInBounds_toArray, List.set_cons_zero, List.set_cons_succ]
      have p0 := ext_cell hx p0
      have p1 := ext_cell hx p1
      have p2 := ext_cell hx p2
      have p3 := ext_cell hx p3
      obtain ⟨g, e0, hg, jb⟩ := r8
      rw [e0, e10]
      clear e0 e10
      have hz := Below.size hx
      obtain ⟨i0, hi, hz0, hz1, hz2⟩ := info_parts infoLoan
      obtain ⟨v', w', hrun, r1, r2⟩ := run_append_empty (P := Try.prog) w1 w.heap.size 24 24 28 i0 (.agg #[.int .i64 0, .int .i64 0, .int .i64 0]) 3 24 Try.underlying24 hi hz0 hz1 hz2 rfl (by decide) g jb hg W.heap.size A3 n3 c3 _ (h3.1.below hx.undrew) (loans_one p.loans) (by unfold maxLen; omega) (by omega) (by simp at hz; omega)
      refine wpList_appendK _ rfl _ _ _ _ rfl _ _ rfl rfl hrun ?_
      go_wp2
      exact ⟨rfl, r2, r1⟩
    · intro vals w1 hx hd ha
      clear hd ha
      simp only [Lf, dstAt, Act.put, List.getElem?_toArray, List.getElem?_cons_zero, List.getElem?_cons_succ, Option.bind_some, List.setIfInBounds_toArray, List.set_cons_zero, List.set_cons_succ]
      have p0 := ext_cell hx p0
      have p1 := ext_cell hx p1
      have p2 := ext_cell hx p2
      have p3 := ext_cell hx p3
      have hz := Below.size hx
      go_wp2
      exact ⟨rfl, (by repeat (first | exact Below.refl _ _ | assumption | refine Below.drew ?_ | refine below_drewN ?_ _ | refine bl_alloc ?_ _ | refine Below.setCell ?_ (by first | (simp; done) | omega | (simp; omega)) _ | refine bl_then ?_ (by assumption))), _, rfl, by simp at hz; omega, Blk.new _ _ _⟩
    · intro vals w1 hx hd ha
      clear hd ha
      simp only [Lf, dstAt, Act.put, List.getElem?_toArray, List.getElem?_cons_zero, List.getElem?_cons_succ, Option.bind_some, List.setIfInBounds_toArray, List.set_cons_zero, List.set_cons_succ]
      have p0 := ext_cell hx p0
      have p1 := ext_cell hx p1
      have p2 := ext_cell hx p2
      have p3 := ext_cell hx p3
      go_wp2
      exact ⟨rfl, Ext.refl _, rfl⟩
    · intro vals w1 hx hd ha
      have e13 : vals 13 = .pointer (some ⟨w.heap.size, 3, none⟩) := hd 13 (by decide)
      clear hd ha
      simp only [Lf, dstAt, Act.put, List.getElem?_toArray, List.getElem?_cons_zero, List.getElem?_cons_succ, Option.bind_some, List.setIfInBounds_toArray, List.set_cons_zero, List.set_cons_succ]
      simp only [e13]
      clear e13
      have p0 := ext_cell hx p0
      have p1 := ext_cell hx p1
      have p2 := ext_cell hx p2
      have p3 := ext_cell hx p3
      go_wp2
      exact ⟨rfl, Ext.refl _, rfl⟩
    · intro vals w1 hx hd ha
      have r11 : (fun v w1 => w1.ownsRow w.heap.size 28 3 v n3 (p.loans.flatMap loanCells)) (vals 11) w1 := hd 11 (by decide)
      dsimp only at r11
      have r12 : (fun v w1 => ∃ g, v = .slice (some ⟨g, 0, none⟩) 0 0 ∧ w.heap.size ≤ g ∧ Blk w1 g 3 #[]) (vals 12) w1 := hd 12 (by decide)
      dsimp only at r12
      have e14 : vals 14 = .slice A4 n4 c4 := hd 14 (by decide)
      clear hd ha
      simp only [Lf, dstAt, Act.put, List.getElem?_toArray, List.getElem?_cons_zero, List.getElem?_cons_succ, Option.bind_some, List.setIfInBounds_toArray, List.set_cons_zero, List.set_cons_succ]
      have p0 := ext_cell hx p0
      have p1 := ext_cell hx p1
      have p2 := ext_cell hx p2
      have p3 := ext_cell hx p3
      obtain ⟨g, e0, hg, jb⟩ := r12
      rw [e0, e14]
      clear e0 e14
      have hz := Below.size hx
      obtain ⟨i0, hi, hz0, hz1, hz2⟩ := info_parts infoInt
      obtain ⟨v', w', hrun, r1, r2⟩ := run_append_empty (P := Try.prog) w1 w.heap.size 22 22 3 i0 (.int .i64 0) 1 8 Try.underlying22 hi hz0 hz1 hz2 rfl (by decide) g jb hg W.heap.size A4 n4 c4 _ (h4.1.below hx.undrew) (ints_one p.cents) (by unfold maxLen; omega) (by omega) (by simp at hz; omega)
      refine wpList_appendK _ rfl _ _ _ _ rfl _ _ rfl rfl hrun ?_
      go_wp2
      exact ⟨rfl, r2, r1⟩
    · intro vals w1 hx hd ha
      have r3 : (fun v w1 => w1.ownsRow w.heap.size 3 1 v n1 (p.has.map I64)) (vals 3) w1 := hd 3 (by decide)
      dsimp only at r3
      have r7 : (fun v w1 => w1.ownsRow w.heap.size 3 1 v n2 (p.used.map I64)) (vals 7) w1 := hd 7 (by decide)
      dsimp only at r7
      have r11 : (fun v w1 => w1.ownsRow w.heap.size 28 3 v n3 (p.loans.flatMap loanCells)) (vals 11) w1 := hd 11 (by decide)
      dsimp only at r11
      have r15 : (fun v w1 => w1.ownsRow w.heap.size 3 1 v n4 (p.cents.map I64)) (vals 15) w1 := hd 15 (by decide)
      dsimp only at r15
      clear hd ha
      simp only [Lf, dstAt, Act.put, List.getElem?_toArray, List.getElem?_cons_zero, List.getElem?_cons_succ, Option.bind_some, List.setIfInBounds_toArray, List.set_cons_zero, List.set_cons_succ]
      have p0 := ext_cell hx p0
      have p1 := ext_cell hx p1
      have p2 := ext_cell hx p2
      have p3 := ext_cell hx p3
      obtain ⟨D1, d1, e1, _, _⟩ := own_slice r3
      obtain ⟨D2, d2, e2, _, _⟩ := own_slice r7
      obtain ⟨D3, d3, e3, _, _⟩ := own_slice r11
      obtain ⟨D4, d4, e4, _, _⟩ := own_slice r15
      rw [e1] at r3
      rw [e2] at r7
      rw [e3] at r11
      rw [e4] at r15
      rw [e1, e2, e3, e4]
      clear e1 e2 e3 e4
      go_wp2
      exact ⟨rfl, Ext.refl _, ⟨D1, n1, d1⟩, ⟨D2, n2, d2⟩, ⟨D3, n3, d3⟩, ⟨D4, n4, d4⟩, rfl, r3, r7, r11, r15, hn1, hn2, hn3, hn4⟩
  intro vals w2 hx hf
  obtain ⟨t1, t2, t3, t4, e16, hp⟩ := hf 16 (by omega)
  clear hf p0 p1 p2 p3 h1 h2 h3 h4
  have hx := hx.undrew
  have hB2 : Below w.heap.size w w2 := hBW.trans (Below.mono hx (by omega))
  have jr2 := jr.ext hx
  clear jp jr hBW hx
  refine tail1 17 _ (by kernel_rfl) (by kernel_rfl) rfl ?_
  simp only [Lf, dstAt, Act.put, List.getElem?_toArray, List.getElem?_cons_zero, List.getElem?_cons_succ, Option.bind_some, List.setIfInBounds_toArray, List.set_cons_zero, List.set_cons_succ]
  rw [e16]
  clear e16
  have hc0 := jr2.cell 0
  have hc1 := jr2.cell 1
  have hc2 := jr2.cell 2
  have hc3 := jr2.cell 3
  have hf0 := jr2.frozen 0
  have hf1 := jr2.frozen 1
  have hf2 := jr2.frozen 2
  have hf3 := jr2.frozen 3
  obtain ⟨D1, m1, d1⟩ := t1; obtain ⟨D2, m2, d2⟩ := t2; obtain ⟨D3, m3, d3⟩ := t3; obtain ⟨D4, m4, d4⟩ := t4
  simp only [poolV, Sl.v]
  go_wp2
  generalize hW4 : ((((w2.setCell ⟨w.heap.size + 1, 0, none⟩ _).setCell ⟨w.heap.size + 1, 1, none⟩ _).setCell ⟨w.heap.size + 1, 2, none⟩ _).setCell ⟨w.heap.size + 1, 3, none⟩ _) = w4
  have j4 : Blk w4 (w.heap.size + 1) 26 #[.slice D1 m1 d1, .slice D2 m2 d2, .slice D3 m3 d3, .slice D4 m4 d4] := by subst hW4; exact jr2.set4 _ _ _ _
  have hB4 : Below w.heap.size w w4 := by subst hW4; exact below_set4 hB2 (by omega) _ _ _ _
  have hp4 := by
    have hp4 := hp.set4 jr2 (.slice D1 m1 d1) (.slice D2 m2 d2) (.slice D3 m3 d3) (.slice D4 m4 d4)
    rw [hW4] at hp4
    exact hp4
  clear hc0 hc1 hc2 hc3
  have hc0 := j4.cell 0
  have hc1 := j4.cell 1
  have hc2 := j4.cell 2
  have hc3 := j4.cell 3
  exact bodyPost_ret (v := poolV ⟨D1, m1, d1⟩ ⟨D2, m2, d2⟩ ⟨D3, m3, d3⟩ ⟨D4, m4, d4⟩) (by simp [results, Try.results65, go_sem, hc0, hc1, hc2, hc3]) rfl (by rw [← HQ.out]; exact ⟨_, _, _, _, rfl, hB4, hp4⟩)

end Go.Proofs.Ytpddnkefggaigaa
