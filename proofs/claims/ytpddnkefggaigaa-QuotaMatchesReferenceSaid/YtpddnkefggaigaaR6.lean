/- The reference: Trade, Use, Free (printed by quota_ref.py). -/
import Derived.Test.YtpddnkefggaigaaR5
namespace Go.Proofs.Ytpddnkefggaigaa
open Go.RowKit
def rtradeP (p : Pool) (f t u c : Int) : Option Pool := refP (validB p && pairB f t u && inB c 0 1000000000) ((((p.st.upd 0 f.toNat (-u)).upd 0 t.toNat (u)).upd 3 t.toNat (-c)).upd 3 f.toNat (c)) (p.loans)
set_option maxHeartbeats 2000000 in
theorem rtrade_any (s1 s2 s3 s4 : Sl) (p : Pool) (f t u c : Int) (w : World) (h : PoolR w w.heap.size s1 s2 s3 s4 p) :
    Calls Try.prog 49 #[poolV s1 s2 s3 s4, .int .i64 f, .int .i64 t, .int .i64 u, .int .i64 c] w (PoolRetA w (rtradeP p f t u c)) := by
  have hc0 := two_any s1 s2 s3 s4 p f t u
  have hcp := copied_apart s1 s2 s3 s4 p
  obtain ⟨A1, n1, c1⟩ := s1; obtain ⟨A2, n2, c2⟩ := s2; obtain ⟨A3, n3, c3⟩ := s3; obtain ⟨A4, n4, c4⟩ := s4
  show Calls Try.prog 49 #[.agg #[.slice A1 n1 c1, .slice A2 n2 c2, .slice A3 n3 c3, .slice A4 n4 c4], .int .i64 f, .int .i64 t, .int .i64 u, .int .i64 c] w _
  have hrp : rtradeP p f t u c = refP (validB p && pairB f t u && inB c 0 1000000000) ((((p.st.upd 0 f.toNat (-u)).upd 0 t.toNat (u)).upd 3 t.toNat (-c)).upd 3 f.toNat (c)) (p.loans) := rfl
  generalize rtradeP p f t u c = r at hrp ⊢
  have HC := Lib.hid hc0
  have HCP := Lib.hid hcp
  have HR := Lib.hid hrp
  clear hc0 hcp hrp
  go_enter Try.func49, Try.ntmps49
  go_wp2_with fail
  generalize hW : ((w.alloc _).alloc _) = W
  have hBW : Below w.heap.size w W := by subst hW; exact (by repeat (first | exact Below.refl _ _ | assumption | refine Below.drew ?_ | refine below_drewN ?_ _ | refine bl_alloc ?_ _ | refine Below.setCell ?_ (by first | (simp; done) | omega | (simp; omega)) _ | refine bl_then ?_ (by assumption)))
  have hzW : w.heap.size + 2 ≤ W.heap.size := by subst hW; simp
  have jp : Blk W w.heap.size 26 #[.slice A1 n1 c1, .slice A2 n2 c2, .slice A3 n3 c3, .slice A4 n4 c4] := by subst hW; exact (Blk.new_at _ _ rfl).alloc _
  have jr : Blk W (w.heap.size + 1) 26 nil4 := by subst hW; exact Blk.new_at _ _ (by simp)
  clear hW
  refine (HC.out W ((h.below hBW).more (by omega))).mono ?_
  rintro e w1 ⟨rfl, hb⟩
  have hB1 : Below w.heap.size w w1 := hBW.trans (Below.mono hb (by omega))
  have hz1 : w.heap.size + 2 ≤ w1.heap.size := by have := Below.size hb; omega
  have jp1 := jp.ext hb
  have jr1 := jr.ext hb
  clear jp jr hBW HC hb hzW
  have hp0 := jp1.cell 0
  have hp1 := jp1.cell 1
  have hp2 := jp1.cell 2
  have hp3 := jp1.cell 3
  cases hk0 : (validB p && pairB f t u)
  · have hall : (validB p && pairB f t u && inB c 0 1000000000) = false := (by simp [hk0])
    rw [hall] at HR
    clear hall
    clear hk0
    have hc0 := jr1.cell 0
    have hc1 := jr1.cell 1
    have hc2 := jr1.cell 2
    have hc3 := jr1.cell 3
    have hf0 := jr1.frozen 0
    have hf1 := jr1.frozen 1
    have hf2 := jr1.frozen 2
    have hf3 := jr1.frozen 3
    go_wp2_with (first | (go_at_call 41; refine (rowner_any _ _).mono ?_; rintro e w' ⟨rfl, rfl⟩) | (go_at_call 40; refine (rin_any _ _ _ _).mono ?_; rintro e w' ⟨rfl, rfl⟩))
    generalize hW4 : ((((w1.setCell ⟨w.heap.size + 1, 0, none⟩ _).setCell ⟨w.heap.size + 1, 1, none⟩ _).setCell ⟨w.heap.size + 1, 2, none⟩ _).setCell ⟨w.heap.size + 1, 3, none⟩ _) = w4
    have j4 : Blk w4 (w.heap.size + 1) 26 nil4 := by subst hW4; exact jr1.set4 _ _ _ _
    have hB4 : Below w.heap.size w w4 := by subst hW4; exact below_set4 hB1 (by omega) _ _ _ _
    clear hc0 hc1 hc2 hc3
    have hc0 := j4.cell 0
    have hc1 := j4.cell 1
    have hc2 := j4.cell 2
    have hc3 := j4.cell 3
    exact bodyPost_ret (v := .tuple #[nilV, .int .i64 250]) (by simp [results, Try.results49, go_sem, hc0, hc1, hc2, hc3, nilV]) rfl ⟨_, rfl, hB4, .inl ⟨HR.out.trans rfl, rfl⟩⟩
  cases hk1 : (inB c 0 1000000000)
  · have hall : (validB p && pairB f t u && inB c 0 1000000000) = false := (by simp [hk1])
    rw [hall] at HR
    clear hall
    have hc0 := jr1.cell 0
    have hc1 := jr1.cell 1
    have hc2 := jr1.cell 2
    have hc3 := jr1.cell 3
    have hf0 := jr1.frozen 0
    have hf1 := jr1.frozen 1
    have hf2 := jr1.frozen 2
    have hf3 := jr1.frozen 3
    go_wp2_with (first | (go_at_call 41; refine (rowner_any _ _).mono ?_; rintro e w' ⟨rfl, rfl⟩) | (go_at_call 40; refine (rin_any _ _ _ _).mono ?_; rintro e w' ⟨rfl, rfl⟩))
    generalize hW4 : ((((w1.setCell ⟨w.heap.size + 1, 0, none⟩ _).setCell ⟨w.heap.size + 1, 1, none⟩ _).setCell ⟨w.heap.size + 1, 2, none⟩ _).setCell ⟨w.heap.size + 1, 3, none⟩ _) = w4
    have j4 : Blk w4 (w.heap.size + 1) 26 nil4 := by subst hW4; exact jr1.set4 _ _ _ _
    have hB4 : Below w.heap.size w w4 := by subst hW4; exact below_set4 hB1 (by omega) _ _ _ _
    clear hc0 hc1 hc2 hc3
    have hc0 := j4.cell 0
    have hc1 := j4.cell 1
    have hc2 := j4.cell 2
    have hc3 := j4.cell 3
    exact bodyPost_ret (v := .tuple #[nilV, .int .i64 250]) (by simp [results, Try.results49, go_sem, hc0, hc1, hc2, hc3, nilV]) rfl ⟨_, rfl, hB4, .inl ⟨HR.out.trans rfl, rfl⟩⟩
  have hall : (validB p && pairB f t u && inB c 0 1000000000) = true := (by simp [hk0, hk1])
  rw [hall] at HR
  clear hall
  obtain ⟨hvp, hpp⟩ := (Bool.and_eq_true _ _).mp hk0
  obtain ⟨h1, h2, h3, h4, hft, h5, h6⟩ := pairB_iff hpp
  obtain ⟨h7, h8⟩ := inB_iff.1 hk1
  obtain ⟨fn, rfl⟩ : ∃ n : Nat, f = (n : Int) := ⟨f.toNat, by omega⟩
  have lt_fn : fn < 16 := by omega
  have li_fn : (fn : Int) < 16 := by omega
  obtain ⟨tn, rfl⟩ : ∃ n : Nat, t = (n : Int) := ⟨t.toNat, by omega⟩
  have lt_tn : tn < 16 := by omega
  have li_tn : (tn : Int) < 16 := by omega
  simp only [Int.toNat_natCast] at HR
  have hvv := valid_parts hvp
  have HB := Lib.hid (st_bd ⟨hvv.1, hvv.2.1, hvv.2.2.1⟩)
  have HL := Lib.hid hvv.2.2.2.1
  go_wp2_with (first | (go_at_call 41; refine (rowner_any _ _).mono ?_; rintro e w' ⟨rfl, rfl⟩) | (go_at_call 40; refine (rin_any _ _ _ _).mono ?_; rintro e w' ⟨rfl, rfl⟩))
  refine (HCP.out w1 ((h.below hB1).more (by omega)) (within_len hvv.1) (within_len hvv.2.1) (within_len hvv.2.2.1)).mono ?_
  rintro e w2 ⟨g1, c1, g2, c2, ⟨A3, n3, c3⟩, g4, c4, rfl, hb, hrow, ho3, hn3⟩
  have hn3 : n3 ≤ 1099511627776 := hn3
  clear HCP hvv hk0 hk1 h hp0 hp1 hp2 hp3 jp1
  go_wp2_with fail
  generalize hW : w2.alloc _ = W0
  have hq : QS w W0 w2.heap.size (w.heap.size + 1) g1 c1 g2 c2 A3 n3 c3 g4 c4 p.loans p.st := by
    subst hW
    have hxa : Ext w2 (w2.alloc (.cells #[.slice (some ⟨g1, 0, none⟩) 16 c1, .slice (some ⟨g2, 0, none⟩) 16 c2, .slice A3 n3 c3, .slice (some ⟨g4, 0, none⟩) 16 c4] 26)) := (by repeat (first | exact Below.refl _ _ | assumption | refine Below.drew ?_ | refine below_drewN ?_ _ | refine bl_alloc ?_ _ | refine Below.setCell ?_ (by first | (simp; done) | omega | (simp; omega)) _ | refine bl_then ?_ (by assumption)))
    have hr2 := hrow.ext hxa
    exact ⟨⟨own_base hr2.r1 (by omega), own_base hr2.r2 (by omega), own_base hr2.r4 (by omega), hr2.d12, hr2.d14, hr2.d24⟩, own_base (own_ext ho3 hxa) (by omega), Blk.new_at _ _ rfl, (jr1.ext hb).ext hxa, (hB1.trans (Below.mono hb (by omega))).trans (Below.mono hxa (by have := Below.size hb; omega))⟩
  generalize w2.heap.size = Bq at hq ⊢
  generalize hBr : w.heap.size + 1 = Br at hq ⊢
  have hgBr : w.heap.size ≤ Br := by omega
  clear hW hb hrow ho3 hB1 jr1 hBr hz1
  obtain ⟨s0, hs⟩ : ∃ q, q = p.st := ⟨_, rfl⟩
  rw [← hs] at hq HB
  have HS := Lib.hid hs
  clear hs
  have hcx : W0.cell? ⟨g1, fn, none⟩ = some (.int .i64 ((s0.get 0).getD fn 0)) := (hq.rows.cell (f := 0) (.inl rfl) lt_fn).1
  have hfx : ∀ W', Ext W0 W' → W'.frozen? ⟨g1, fn, none⟩ = false := fun W' hx => ((hq.drew hx).rows.cell (f := 0) (.inl rfl) lt_fn).2
  have pq : W0.cell? ⟨Bq, 0, none⟩ = some (.slice (some ⟨g1, 0, none⟩) 16 c1) := hq.jq.cell 0
  have hbx := HB.out 0 (.inl rfl) fn
  have hwx : ∀ W', Ext W0 W' → QS w (W'.setCell ⟨g1, fn, none⟩ (.int .i64 ((s0.get 0).getD fn 0 + -u))) Bq Br g1 c1 g2 c2 A3 n3 c3 g4 c4 p.loans (s0.upd 0 fn (-u)) := fun W' hx => (hq.drew hx).write (f := 0) (.inl rfl) lt_fn (-u)
  have hdx : ∀ W', Ext W0 W' → QS w W' Bq Br g1 c1 g2 c2 A3 n3 c3 g4 c4 p.loans s0 := fun W' hx => hq.drew hx
  have hbs := upd_bd HB.out (D := 1000000000000) (by omega) 0 fn (-u) (.inl rfl) (by omega)
  have hne : Bq ≠ g1 := (by obtain ⟨_, hb⟩ := hq.rows.blk (f := 0) (.inl rfl); exact hq.jq.ne_ hb (by decide))
  have hs : s0.upd 0 fn (-u) = p.st.upd 0 fn (-u) := (by rw [HS.out])
  generalize (s0.get 0).getD fn 0 = xx at hcx hbx hwx
  generalize s0.upd 0 fn (-u) = s1 at hwx hbs hs
  have HWX := Lib.hid hwx
  have HDX := Lib.hid hdx
  have HFX := Lib.hid hfx
  have hx1 := hbx.1
  have hx2 := hbx.2
  clear hq hbx hwx hdx HB HS hfx
  have HB := Lib.hid hbs
  have HS := Lib.hid hs
  clear hbs hs
  refine wp_region_obl 11 (fun ix vals v w1 => match ix with | 0 => v = .pointer (some ⟨Bq, 0, none⟩) | 1 => v = .slice (some ⟨g1, 0, none⟩) 16 c1 | 2 => v = .int .i64 (fn : Int) | 3 => v = .pointer (some ⟨Bq, 0, none⟩) | 4 => v = .slice (some ⟨g1, 0, none⟩) 16 c1 | 5 => v = .int .i64 (fn : Int) | 6 => v = .pointer (some ⟨g1, fn, none⟩) | 7 => v = .int .i64 xx | 8 => v = .int .i64 u | 9 => v = .int .i64 (xx + -u) | _ => v = .pointer (some ⟨g1, fn, none⟩)) (by kernel_rfl) (by kernel_rfl) ?_ ?_ ?_ ?_
  · intro ix vals v w1 w2 hi hr hx
    match ix, hr with
    | 0, hr => exact hr
    | 1, hr => exact hr
    | 2, hr => exact hr
    | 3, hr => exact hr
    | 4, hr => exact hr
    | 5, hr => exact hr
    | 6, hr => exact hr
    | 7, hr => exact hr
    | 8, hr => exact hr
    | 9, hr => exact hr
    | (kx + 10), hr => exact hr
  · intro ix vals vals_ v w1 hi hv hr
    exact hr
  · refine ⟨?_, ?_, ?_, ?_, ?_, ?_, ?_, ?_, ?_, ?_, ?_, trivial⟩
    · intro vals w1 hx hd ha
      clear hd ha
      simp only [Lf]
      have pq := ext_cell hx pq
      have hcx := ext_cell hx hcx
      go_wp2
      exact ⟨rfl, Ext.refl _, rfl⟩
    · intro vals w1 hx hd ha
      have e0 : vals 0 = .pointer (some ⟨Bq, 0, none⟩) := hd 0 (by decide)
      clear hd ha
      simp only [Lf, dstAt, Act.put, List.getElem?_toArray, List.getElem?_cons_zero, Option.bind_some, List.setIfInBounds_toArray, List.set_cons_zero, List.set_cons_succ]
      simp only [e0]
      clear e0
      have pq := ext_cell hx pq
      have hcx := ext_cell hx hcx
      go_wp2
      exact ⟨rfl, Ext.refl _, rfl⟩
    · intro vals w1 hx hd ha
      clear hd ha
      simp only [Lf, dstAt, Act.put, List.getElem?_toArray, List.getElem?_cons_zero, List.getElem?_cons_succ, Option.bind_some, List.setIfInBounds_toArray, List.set_cons_zero, List.set_cons_succ]
      have pq := ext_cell hx pq
      have hcx := ext_cell hx hcx
      go_wp2
      exact ⟨rfl, Ext.refl _, rfl⟩
    · intro vals w1 hx hd ha
      clear hd ha
      simp only [Lf, dstAt, Act.put, List.getElem?_toArray, List.getElem?_cons_zero, List.getElem?_cons_succ, Option.bind_some, List.setIfInBounds_toArray, List.set_cons_zero, List.set_cons_succ]
      have pq := ext_cell hx pq
      have hcx := ext_cell hx hcx
      go_wp2
      exact ⟨rfl, Ext.refl _, rfl⟩
    · intro vals w1 hx hd ha
      have e3 : vals 3 = .pointer (some ⟨Bq, 0, none⟩) := hd 3 (by decide)
      clear hd ha
      simp only [Lf, dstAt, Act.put, List.getElem?_toArray, List.getElem?_cons_zero, List.getElem?_cons_succ, Option.bind_some, List.setIfInBounds_toArray, List.set_cons_zero, List.set_cons_succ]
      simp only [e3]
      clear e3
      have pq := ext_cell hx pq
      have hcx := ext_cell hx hcx
      go_wp2
      exact ⟨rfl, Ext.refl _, rfl⟩
    · intro vals w1 hx hd ha
      clear hd ha
      simp only [Lf, dstAt, Act.put, List.getElem?_toArray, List.getElem?_cons_zero, List.getElem?_cons_succ, Option.bind_some, List.setIfInBounds_toArray, List.set_cons_zero, List.set_cons_succ]
      have pq := ext_cell hx pq
      have hcx := ext_cell hx hcx
      go_wp2
      exact ⟨rfl, Ext.refl _, rfl⟩
    · intro vals w1 hx hd ha
      have e4 : vals 4 = .slice (some ⟨g1, 0, none⟩) 16 c1 := hd 4 (by decide)
      have e5 : vals 5 = .int .i64 (fn : Int) := hd 5 (by decide)
      clear hd ha
      simp only [Lf, dstAt, Act.put, List.getElem?_toArray, List.getElem?_cons_zero, List.getElem?_cons_succ, Option.bind_some, List.setIfInBounds_toArray, List.set_cons_zero, List.set_cons_succ]
      simp only [e4, e5]
      clear e4 e5
      have pq := ext_cell hx pq
      have hcx := ext_cell hx hcx
      go_wp2
      exact ⟨rfl, Ext.refl _, rfl⟩
    · intro vals w1 hx hd ha
      have e6 : vals 6 = .pointer (some ⟨g1, fn, none⟩) := hd 6 (by decide)
      clear hd ha
      simp only [Lf, dstAt, Act.put, List.getElem?_toArray, List.getElem?_cons_zero, List.getElem?_cons_succ, Option.bind_some, List.setIfInBounds_toArray, List.set_cons_zero, List.set_cons_succ]
      simp only [e6]
      clear e6
      have pq := ext_cell hx pq
      have hcx := ext_cell hx hcx
      go_wp2
      exact ⟨rfl, Ext.refl _, rfl⟩
    · intro vals w1 hx hd ha
      clear hd ha
      simp only [Lf, dstAt, Act.put, List.getElem?_toArray, List.getElem?_cons_zero, List.getElem?_cons_succ, Option.bind_some, List.setIfInBounds_toArray, List.set_cons_zero, List.set_cons_succ]
      have pq := ext_cell hx pq
      have hcx := ext_cell hx hcx
      go_wp2
      exact ⟨rfl, Ext.refl _, rfl⟩
    · intro vals w1 hx hd ha
      have e7 : vals 7 = .int .i64 xx := hd 7 (by decide)
      have e8 : vals 8 = .int .i64 u := hd 8 (by decide)
      clear hd ha
      simp only [Lf, dstAt, Act.put, List.getElem?_toArray, List.getElem?_cons_zero, List.getElem?_cons_succ, Option.bind_some, List.setIfInBounds_toArray, List.set_cons_zero, List.set_cons_succ]
      simp only [e7, e8]
      clear e7 e8
      have pq := ext_cell hx pq
      have hcx := ext_cell hx hcx
      go_wp2
      exact ⟨rfl, Ext.refl _, rfl⟩
    · intro vals w1 hx hd ha
      have e0 : vals 0 = .pointer (some ⟨Bq, 0, none⟩) := hd 0 (by decide)
      have e1 : vals 1 = .slice (some ⟨g1, 0, none⟩) 16 c1 := hd 1 (by decide)
      have e2 : vals 2 = .int .i64 (fn : Int) := hd 2 (by decide)
      have e3 : vals 3 = .pointer (some ⟨Bq, 0, none⟩) := hd 3 (by decide)
      have e4 : vals 4 = .slice (some ⟨g1, 0, none⟩) 16 c1 := hd 4 (by decide)
      have e5 : vals 5 = .int .i64 (fn : Int) := hd 5 (by decide)
      have e6 : vals 6 = .pointer (some ⟨g1, fn, none⟩) := hd 6 (by decide)
      have e7 : vals 7 = .int .i64 xx := hd 7 (by decide)
      have e8 : vals 8 = .int .i64 u := hd 8 (by decide)
      have e9 : vals 9 = .int .i64 (xx + -u) := hd 9 (by decide)
      clear hd ha
      simp only [Lf, dstAt, Act.put, List.getElem?_toArray, List.getElem?_cons_zero, List.getElem?_cons_succ, Option.bind_some, List.setIfInBounds_toArray, List.set_cons_zero, List.set_cons_succ]
      simp only [e0, e1, e2, e3, e4, e5, e6, e7, e8, e9]
      clear e0 e1 e2 e3 e4 e5 e6 e7 e8 e9
      have pq := ext_cell hx pq
      have hcx := ext_cell hx hcx
      go_wp2
      exact ⟨rfl, Ext.refl _, rfl⟩
  intro vals w9 hx hf
  have f9 : vals 9 = .int .i64 (xx + -u) := hf 9 (by omega)
  have f10 : vals 10 = .pointer (some ⟨g1, fn, none⟩) := hf 10 (by omega)
  clear hf
  have hx := hx.undrew
  have hcx := ext_cell hx hcx
  have hfx := HFX.out w9 hx
  have hq := HWX.out w9 hx
  have hq0 := HDX.out w9 hx
  have p0 := hq0.jq.cell 0
  have p1 := hq0.jq.cell 1
  have p2 := hq0.jq.cell 2
  have p3 := hq0.jq.cell 3
  clear hx HWX HDX HFX pq hq0
  refine tail1 11 _ (by kernel_rfl) (by kernel_rfl) rfl ?_
  simp only [Lf, dstAt, Act.put, List.getElem?_toArray, List.getElem?_cons_zero, List.getElem?_cons_succ, Option.bind_some, List.setIfInBounds_toArray, List.set_cons_zero, List.set_cons_succ]
  rw [f9, f10]
  clear f9 f10
  have HQ := Lib.hid hq
  clear hq
  go_wp2_with fail
  have hq := HQ.out
  clear HQ hcx hfx p0 p1 p2 p3 hne
  generalize hW9 : w9.setCell ⟨g1, fn, none⟩ (.int .i64 (xx + -u)) = W1 at hq ⊢
  clear hW9 hx1 hx2
  have hcx : W1.cell? ⟨g1, tn, none⟩ = some (.int .i64 ((s1.get 0).getD tn 0)) := (hq.rows.cell (f := 0) (.inl rfl) lt_tn).1
  have hfx : ∀ W', Ext W1 W' → W'.frozen? ⟨g1, tn, none⟩ = false := fun W' hx => ((hq.drew hx).rows.cell (f := 0) (.inl rfl) lt_tn).2
  have pq : W1.cell? ⟨Bq, 0, none⟩ = some (.slice (some ⟨g1, 0, none⟩) 16 c1) := hq.jq.cell 0
  have hbx := HB.out 0 (.inl rfl) tn
  have hwx : ∀ W', Ext W1 W' → QS w (W'.setCell ⟨g1, tn, none⟩ (.int .i64 ((s1.get 0).getD tn 0 + u))) Bq Br g1 c1 g2 c2 A3 n3 c3 g4 c4 p.loans (s1.upd 0 tn (u)) := fun W' hx => (hq.drew hx).write (f := 0) (.inl rfl) lt_tn (u)
  have hdx : ∀ W', Ext W1 W' → QS w W' Bq Br g1 c1 g2 c2 A3 n3 c3 g4 c4 p.loans s1 := fun W' hx => hq.drew hx
  have hbs := upd_bd HB.out (D := 1000000000000) (by omega) 0 tn (u) (.inl rfl) (by omega)
  have hne : Bq ≠ g1 := (by obtain ⟨_, hb⟩ := hq.rows.blk (f := 0) (.inl rfl); exact hq.jq.ne_ hb (by decide))
  have hs : s1.upd 0 tn (u) = (p.st.upd 0 fn (-u)).upd 0 tn (u) := (by rw [HS.out])
  generalize (s1.get 0).getD tn 0 = xx at hcx hbx hwx
  generalize s1.upd 0 tn (u) = s2 at hwx hbs hs
  have HWX := Lib.hid hwx
  have HDX := Lib.hid hdx
  have HFX := Lib.hid hfx
  have hx1 := hbx.1
  have hx2 := hbx.2
  clear hq hbx hwx hdx HB HS hfx
  have HB := Lib.hid hbs
  have HS := Lib.hid hs
  clear hbs hs
  refine wp_region_obl 11 (fun ix vals v w1 => match ix with | 0 => v = .pointer (some ⟨Bq, 0, none⟩) | 1 => v = .slice (some ⟨g1, 0, none⟩) 16 c1 | 2 => v = .int .i64 (tn : Int) | 3 => v = .pointer (some ⟨Bq, 0, none⟩) | 4 => v = .slice (some ⟨g1, 0, none⟩) 16 c1 | 5 => v = .int .i64 (tn : Int) | 6 => v = .pointer (some ⟨g1, tn, none⟩) | 7 => v = .int .i64 xx | 8 => v = .int .i64 u | 9 => v = .int .i64 (xx + u) | _ => v = .pointer (some ⟨g1, tn, none⟩)) (by kernel_rfl) (by kernel_rfl) ?_ ?_ ?_ ?_
  · intro ix vals v w1 w2 hi hr hx
    match ix, hr with
    | 0, hr => exact hr
    | 1, hr => exact hr
    | 2, hr => exact hr
    | 3, hr => exact hr
    | 4, hr => exact hr
    | 5, hr => exact hr
    | 6, hr => exact hr
    | 7, hr => exact hr
    | 8, hr => exact hr
    | 9, hr => exact hr
    | (kx + 10), hr => exact hr
  · intro ix vals vals_ v w1 hi hv hr
    exact hr
  · refine ⟨?_, ?_, ?_, ?_, ?_, ?_, ?_, ?_, ?_, ?_, ?_, trivial⟩
    · intro vals w1 hx hd ha
      clear hd ha
      simp only [Lf]
      have pq := ext_cell hx pq
      have hcx := ext_cell hx hcx
      go_wp2
      exact ⟨rfl, Ext.refl _, rfl⟩
    · intro vals w1 hx hd ha
      have e0 : vals 0 = .pointer (some ⟨Bq, 0, none⟩) := hd 0 (by decide)
      clear hd ha
      simp only [Lf, dstAt, Act.put, List.getElem?_toArray, List.getElem?_cons_zero, Option.bind_some, List.setIfInBounds_toArray, List.set_cons_zero, List.set_cons_succ]
      simp only [e0]
      clear e0
      have pq := ext_cell hx pq
      have hcx := ext_cell hx hcx
      go_wp2
      exact ⟨rfl, Ext.refl _, rfl⟩
    · intro vals w1 hx hd ha
      clear hd ha
      simp only [Lf, dstAt, Act.put, List.getElem?_toArray, List.getElem?_cons_zero, List.getElem?_cons_succ, Option.bind_some, List.setIfInBounds_toArray, List.set_cons_zero, List.set_cons_succ]
      have pq := ext_cell hx pq
      have hcx := ext_cell hx hcx
      go_wp2
      exact ⟨rfl, Ext.refl _, rfl⟩
    · intro vals w1 hx hd ha
      clear hd ha
      simp only [Lf, dstAt, Act.put, List.getElem?_toArray, List.getElem?_cons_zero, List.getElem?_cons_succ, Option.bind_some, List.setIfInBounds_toArray, List.set_cons_zero, List.set_cons_succ]
      have pq := ext_cell hx pq
      have hcx := ext_cell hx hcx
      go_wp2
      exact ⟨rfl, Ext.refl _, rfl⟩
    · intro vals w1 hx hd ha
      have e3 : vals 3 = .pointer (some ⟨Bq, 0, none⟩) := hd 3 (by decide)
      clear hd ha
      simp only [Lf, dstAt, Act.put, List.getElem?_toArray, List.getElem?_cons_zero, List.getElem?_cons_succ, Option.bind_some, List.setIfInBounds_toArray, List.set_cons_zero, List.set_cons_succ]
      simp only [e3]
      clear e3
      have pq := ext_cell hx pq
      have hcx := ext_cell hx hcx
      go_wp2
      exact ⟨rfl, Ext.refl _, rfl⟩
    · intro vals w1 hx hd ha
      clear hd ha
      simp only [Lf, dstAt, Act.put, List.getElem?_toArray, List.getElem?_cons_zero, List.getElem?_cons_succ, Option.bind_some, List.setIfInBounds_toArray, List.set_cons_zero, List.set_cons_succ]
      have pq := ext_cell hx pq
      have hcx := ext_cell hx hcx
      go_wp2
      exact ⟨rfl, Ext.refl _, rfl⟩
    · intro vals w1 hx hd ha
      have e4 : vals 4 = .slice (some ⟨g1, 0, none⟩) 16 c1 := hd 4 (by decide)
      have e5 : vals 5 = .int .i64 (tn : Int) := hd 5 (by decide)
      clear hd ha
      simp only [Lf, dstAt, Act.put, List.getElem?_toArray, List.getElem?_cons_zero, List.getElem?_cons_succ, Option.bind_some, List.setIfInBounds_toArray, List.set_cons_zero, List.set_cons_succ]
      simp only [e4, e5]
      clear e4 e5
      have pq := ext_cell hx pq
      have hcx := ext_cell hx hcx
      go_wp2
      exact ⟨rfl, Ext.refl _, rfl⟩
    · intro vals w1 hx hd ha
      have e6 : vals 6 = .pointer (some ⟨g1, tn, none⟩) := hd 6 (by decide)
      clear hd ha
      simp only [Lf, dstAt, Act.put, List.getElem?_toArray, List.getElem?_cons_zero, List.getElem?_cons_succ, Option.bind_some, List.setIfInBounds_toArray, List.set_cons_zero, List.set_cons_succ]
      simp only [e6]
      clear e6
      have pq := ext_cell hx pq
      have hcx := ext_cell hx hcx
      go_wp2
      exact ⟨rfl, Ext.refl _, rfl⟩
    · intro vals w1 hx hd ha
      clear hd ha
      simp only [Lf, dstAt, Act.put, List.getElem?_toArray, List.getElem?_cons_zero, List.getElem?_cons_succ, Option.bind_some, List.setIfInBounds_toArray, List.set_cons_zero, List.set_cons_succ]
      have pq := ext_cell hx pq
      have hcx := ext_cell hx hcx
      go_wp2
      exact ⟨rfl, Ext.refl _, rfl⟩
    · intro vals w1 hx hd ha
      have e7 : vals 7 = .int .i64 xx := hd 7 (by decide)
      have e8 : vals 8 = .int .i64 u := hd 8 (by decide)
      clear hd ha
      simp only [Lf, dstAt, Act.put, List.getElem?_toArray, List.getElem?_cons_zero, List.getElem?_cons_succ, Option.bind_some, List.setIfInBounds_toArray, List.set_cons_zero, List.set_cons_succ]
      simp only [e7, e8]
      clear e7 e8
      have pq := ext_cell hx pq
      have hcx := ext_cell hx hcx
      go_wp2
      exact ⟨rfl, Ext.refl _, rfl⟩
    · intro vals w1 hx hd ha
      have e0 : vals 0 = .pointer (some ⟨Bq, 0, none⟩) := hd 0 (by decide)
      have e1 : vals 1 = .slice (some ⟨g1, 0, none⟩) 16 c1 := hd 1 (by decide)
      have e2 : vals 2 = .int .i64 (tn : Int) := hd 2 (by decide)
      have e3 : vals 3 = .pointer (some ⟨Bq, 0, none⟩) := hd 3 (by decide)
      have e4 : vals 4 = .slice (some ⟨g1, 0, none⟩) 16 c1 := hd 4 (by decide)
      have e5 : vals 5 = .int .i64 (tn : Int) := hd 5 (by decide)
      have e6 : vals 6 = .pointer (some ⟨g1, tn, none⟩) := hd 6 (by decide)
      have e7 : vals 7 = .int .i64 xx := hd 7 (by decide)
      have e8 : vals 8 = .int .i64 u := hd 8 (by decide)
      have e9 : vals 9 = .int .i64 (xx + u) := hd 9 (by decide)
      clear hd ha
      simp only [Lf, dstAt, Act.put, List.getElem?_toArray, List.getElem?_cons_zero, List.getElem?_cons_succ, Option.bind_some, List.setIfInBounds_toArray, List.set_cons_zero, List.set_cons_succ]
      simp only [e0, e1, e2, e3, e4, e5, e6, e7, e8, e9]
      clear e0 e1 e2 e3 e4 e5 e6 e7 e8 e9
      have pq := ext_cell hx pq
      have hcx := ext_cell hx hcx
      go_wp2
      exact ⟨rfl, Ext.refl _, rfl⟩
  intro vals w9 hx hf
  have f9 : vals 9 = .int .i64 (xx + u) := hf 9 (by omega)
  have f10 : vals 10 = .pointer (some ⟨g1, tn, none⟩) := hf 10 (by omega)
  clear hf
  have hx := hx.undrew
  have hcx := ext_cell hx hcx
  have hfx := HFX.out w9 hx
  have hq := HWX.out w9 hx
  have hq0 := HDX.out w9 hx
  have p0 := hq0.jq.cell 0
  have p1 := hq0.jq.cell 1
  have p2 := hq0.jq.cell 2
  have p3 := hq0.jq.cell 3
  clear hx HWX HDX HFX pq hq0
  refine tail1 11 _ (by kernel_rfl) (by kernel_rfl) rfl ?_
  simp only [Lf, dstAt, Act.put, List.getElem?_toArray, List.getElem?_cons_zero, List.getElem?_cons_succ, Option.bind_some, List.setIfInBounds_toArray, List.set_cons_zero, List.set_cons_succ]
  rw [f9, f10]
  clear f9 f10
  have HQ := Lib.hid hq
  clear hq
  go_wp2_with fail
  have hq := HQ.out
  clear HQ hcx hfx p0 p1 p2 p3 hne
  generalize hW9 : w9.setCell ⟨g1, tn, none⟩ (.int .i64 (xx + u)) = W2 at hq ⊢
  clear hW9 hx1 hx2
  have hcx : W2.cell? ⟨g4, tn, none⟩ = some (.int .i64 ((s2.get 3).getD tn 0)) := (hq.rows.cell (f := 3) (.inr (.inr rfl)) lt_tn).1
  have hfx : ∀ W', Ext W2 W' → W'.frozen? ⟨g4, tn, none⟩ = false := fun W' hx => ((hq.drew hx).rows.cell (f := 3) (.inr (.inr rfl)) lt_tn).2
  have pq : W2.cell? ⟨Bq, 3, none⟩ = some (.slice (some ⟨g4, 0, none⟩) 16 c4) := hq.jq.cell 3
  have hbx := HB.out 3 (.inr (.inr rfl)) tn
  have hwx : ∀ W', Ext W2 W' → QS w (W'.setCell ⟨g4, tn, none⟩ (.int .i64 ((s2.get 3).getD tn 0 + -c))) Bq Br g1 c1 g2 c2 A3 n3 c3 g4 c4 p.loans (s2.upd 3 tn (-c)) := fun W' hx => (hq.drew hx).write (f := 3) (.inr (.inr rfl)) lt_tn (-c)
  have hdx : ∀ W', Ext W2 W' → QS w W' Bq Br g1 c1 g2 c2 A3 n3 c3 g4 c4 p.loans s2 := fun W' hx => hq.drew hx
  have hbs := upd_bd HB.out (D := 1000000000000) (by omega) 3 tn (-c) (.inr (.inr rfl)) (by omega)
  have hne : Bq ≠ g4 := (by obtain ⟨_, hb⟩ := hq.rows.blk (f := 3) (.inr (.inr rfl)); exact hq.jq.ne_ hb (by decide))
  have hs : s2.upd 3 tn (-c) = ((p.st.upd 0 fn (-u)).upd 0 tn (u)).upd 3 tn (-c) := (by rw [HS.out])
  generalize (s2.get 3).getD tn 0 = xx at hcx hbx hwx
  generalize s2.upd 3 tn (-c) = s3 at hwx hbs hs
  have HWX := Lib.hid hwx
  have HDX := Lib.hid hdx
  have HFX := Lib.hid hfx
  have hx1 := hbx.1
  have hx2 := hbx.2
  clear hq hbx hwx hdx HB HS hfx
  have HB := Lib.hid hbs
  have HS := Lib.hid hs
  clear hbs hs
  refine wp_region_obl 11 (fun ix vals v w1 => match ix with | 0 => v = .pointer (some ⟨Bq, 3, none⟩) | 1 => v = .slice (some ⟨g4, 0, none⟩) 16 c4 | 2 => v = .int .i64 (tn : Int) | 3 => v = .pointer (some ⟨Bq, 3, none⟩) | 4 => v = .slice (some ⟨g4, 0, none⟩) 16 c4 | 5 => v = .int .i64 (tn : Int) | 6 => v = .pointer (some ⟨g4, tn, none⟩) | 7 => v = .int .i64 xx | 8 => v = .int .i64 c | 9 => v = .int .i64 (xx + -c) | _ => v = .pointer (some ⟨g4, tn, none⟩)) (by kernel_rfl) (by kernel_rfl) ?_ ?_ ?_ ?_
  · intro ix vals v w1 w2 hi hr hx
    match ix, hr with
    | 0, hr => exact hr
    | 1, hr => exact hr
    | 2, hr => exact hr
    | 3, hr => exact hr
    | 4, hr => exact hr
    | 5, hr => exact hr
    | 6, hr => exact hr
    | 7, hr => exact hr
    | 8, hr => exact hr
    | 9, hr => exact hr
    | (kx + 10), hr => exact hr
  · intro ix vals vals_ v w1 hi hv hr
    exact hr
  · refine ⟨?_, ?_, ?_, ?_, ?_, ?_, ?_, ?_, ?_, ?_, ?_, trivial⟩
    · intro vals w1 hx hd ha
      clear hd ha
      simp only [Lf]
      have pq := ext_cell hx pq
      have hcx := ext_cell hx hcx
      go_wp2
      exact ⟨rfl, Ext.refl _, rfl⟩
    · intro vals w1 hx hd ha
      have e0 : vals 0 = .pointer (some ⟨Bq, 3, none⟩) := hd 0 (by decide)
      clear hd ha
      simp only [Lf, dstAt, Act.put, List.getElem?_toArray, List.getElem?_cons_zero, Option.bind_some, List.setIfInBounds_toArray, List.set_cons_zero, List.set_cons_succ]
      simp only [e0]
      clear e0
      have pq := ext_cell hx pq
      have hcx := ext_cell hx hcx
      go_wp2
      exact ⟨rfl, Ext.refl _, rfl⟩
    · intro vals w1 hx hd ha
      clear hd ha
      simp only [Lf, dstAt, Act.put, List.getElem?_toArray, List.getElem?_cons_zero, List.getElem?_cons_succ, Option.bind_some, List.setIfInBounds_toArray, List.set_cons_zero, List.set_cons_succ]
      have pq := ext_cell hx pq
      have hcx := ext_cell hx hcx
      go_wp2
      exact ⟨rfl, Ext.refl _, rfl⟩
    · intro vals w1 hx hd ha
      clear hd ha
      simp only [Lf, dstAt, Act.put, List.getElem?_toArray, List.getElem?_cons_zero, List.getElem?_cons_succ, Option.bind_some, List.setIfInBounds_toArray, List.set_cons_zero, List.set_cons_succ]
      have pq := ext_cell hx pq
      have hcx := ext_cell hx hcx
      go_wp2
      exact ⟨rfl, Ext.refl _, rfl⟩
    · intro vals w1 hx hd ha
      have e3 : vals 3 = .pointer (some ⟨Bq, 3, none⟩) := hd 3 (by decide)
      clear hd ha
      simp only [Lf, dstAt, Act.put, List.getElem?_toArray, List.getElem?_cons_zero, List.getElem?_cons_succ, Option.bind_some, List.setIfInBounds_toArray, List.set_cons_zero, List.set_cons_succ]
      simp only [e3]
      clear e3
      have pq := ext_cell hx pq
      have hcx := ext_cell hx hcx
      go_wp2
      exact ⟨rfl, Ext.refl _, rfl⟩
    · intro vals w1 hx hd ha
      clear hd ha
      simp only [Lf, dstAt, Act.put, List.getElem?_toArray, List.getElem?_cons_zero, List.getElem?_cons_succ, Option.bind_some, List.setIfInBounds_toArray, List.set_cons_zero, List.set_cons_succ]
      have pq := ext_cell hx pq
      have hcx := ext_cell hx hcx
      go_wp2
      exact ⟨rfl, Ext.refl _, rfl⟩
    · intro vals w1 hx hd ha
      have e4 : vals 4 = .slice (some ⟨g4, 0, none⟩) 16 c4 := hd 4 (by decide)
      have e5 : vals 5 = .int .i64 (tn : Int) := hd 5 (by decide)
      clear hd ha
      simp only [Lf, dstAt, Act.put, List.getElem?_toArray, List.getElem?_cons_zero, List.getElem?_cons_succ, Option.bind_some, List.setIfInBounds_toArray, List.set_cons_zero, List.set_cons_succ]
      simp only [e4, e5]
      clear e4 e5
      have pq := ext_cell hx pq
      have hcx := ext_cell hx hcx
      go_wp2
      exact ⟨rfl, Ext.refl _, rfl⟩
    · intro vals w1 hx hd ha
      have e6 : vals 6 = .pointer (some ⟨g4, tn, none⟩) := hd 6 (by decide)
      clear hd ha
      simp only [Lf, dstAt, Act.put, List.getElem?_toArray, List.getElem?_cons_zero, List.getElem?_cons_succ, Option.bind_some, List.setIfInBounds_toArray, List.set_cons_zero, List.set_cons_succ]
      simp only [e6]
      clear e6
      have pq := ext_cell hx pq
      have hcx := ext_cell hx hcx
      go_wp2
      exact ⟨rfl, Ext.refl _, rfl⟩
    · intro vals w1 hx hd ha
      clear hd ha
      simp only [Lf, dstAt, Act.put, List.getElem?_toArray, List.getElem?_cons_zero, List.getElem?_cons_succ, Option.bind_some, List.setIfInBounds_toArray, List.set_cons_zero, List.set_cons_succ]
      have pq := ext_cell hx pq
      have hcx := ext_cell hx hcx
      go_wp2
      exact ⟨rfl, Ext.refl _, rfl⟩
    · intro vals w1 hx hd ha
      have e7 : vals 7 = .int .i64 xx := hd 7 (by decide)
      have e8 : vals 8 = .int .i64 c := hd 8 (by decide)
      clear hd ha
      simp only [Lf, dstAt, Act.put, List.getElem?_toArray, List.getElem?_cons_zero, List.getElem?_cons_succ, Option.bind_some, List.setIfInBounds_toArray, List.set_cons_zero, List.set_cons_succ]
      simp only [e7, e8]
      clear e7 e8
      have pq := ext_cell hx pq
      have hcx := ext_cell hx hcx
      go_wp2
      exact ⟨rfl, Ext.refl _, rfl⟩
    · intro vals w1 hx hd ha
      have e0 : vals 0 = .pointer (some ⟨Bq, 3, none⟩) := hd 0 (by decide)
      have e1 : vals 1 = .slice (some ⟨g4, 0, none⟩) 16 c4 := hd 1 (by decide)
      have e2 : vals 2 = .int .i64 (tn : Int) := hd 2 (by decide)
      have e3 : vals 3 = .pointer (some ⟨Bq, 3, none⟩) := hd 3 (by decide)
      have e4 : vals 4 = .slice (some ⟨g4, 0, none⟩) 16 c4 := hd 4 (by decide)
      have e5 : vals 5 = .int .i64 (tn : Int) := hd 5 (by decide)
      have e6 : vals 6 = .pointer (some ⟨g4, tn, none⟩) := hd 6 (by decide)
      have e7 : vals 7 = .int .i64 xx := hd 7 (by decide)
      have e8 : vals 8 = .int .i64 c := hd 8 (by decide)
      have e9 : vals 9 = .int .i64 (xx + -c) := hd 9 (by decide)
      clear hd ha
      simp only [Lf, dstAt, Act.put, List.getElem?_toArray, List.getElem?_cons_zero, List.getElem?_cons_succ, Option.bind_some, List.setIfInBounds_toArray, List.set_cons_zero, List.set_cons_succ]
      simp only [e0, e1, e2, e3, e4, e5, e6, e7, e8, e9]
      clear e0 e1 e2 e3 e4 e5 e6 e7 e8 e9
      have pq := ext_cell hx pq
      have hcx := ext_cell hx hcx
      go_wp2
      exact ⟨rfl, Ext.refl _, rfl⟩
  intro vals w9 hx hf
  have f9 : vals 9 = .int .i64 (xx + -c) := hf 9 (by omega)
  have f10 : vals 10 = .pointer (some ⟨g4, tn, none⟩) := hf 10 (by omega)
  clear hf
  have hx := hx.undrew
  have hcx := ext_cell hx hcx
  have hfx := HFX.out w9 hx
  have hq := HWX.out w9 hx
  have hq0 := HDX.out w9 hx
  have p0 := hq0.jq.cell 0
  have p1 := hq0.jq.cell 1
  have p2 := hq0.jq.cell 2
  have p3 := hq0.jq.cell 3
  clear hx HWX HDX HFX pq hq0
  refine tail1 11 _ (by kernel_rfl) (by kernel_rfl) rfl ?_
  simp only [Lf, dstAt, Act.put, List.getElem?_toArray, List.getElem?_cons_zero, List.getElem?_cons_succ, Option.bind_some, List.setIfInBounds_toArray, List.set_cons_zero, List.set_cons_succ]
  rw [f9, f10]
  clear f9 f10
  have HQ := Lib.hid hq
  clear hq
  go_wp2_with fail
  have hq := HQ.out
  clear HQ hcx hfx p0 p1 p2 p3 hne
  generalize hW9 : w9.setCell ⟨g4, tn, none⟩ (.int .i64 (xx + -c)) = W3 at hq ⊢
  clear hW9 hx1 hx2
  have hcx : W3.cell? ⟨g4, fn, none⟩ = some (.int .i64 ((s3.get 3).getD fn 0)) := (hq.rows.cell (f := 3) (.inr (.inr rfl)) lt_fn).1
  have hfx : ∀ W', Ext W3 W' → W'.frozen? ⟨g4, fn, none⟩ = false := fun W' hx => ((hq.drew hx).rows.cell (f := 3) (.inr (.inr rfl)) lt_fn).2
  have pq : W3.cell? ⟨Bq, 3, none⟩ = some (.slice (some ⟨g4, 0, none⟩) 16 c4) := hq.jq.cell 3
  have hbx := HB.out 3 (.inr (.inr rfl)) fn
  have hwx : ∀ W', Ext W3 W' → QS w (W'.setCell ⟨g4, fn, none⟩ (.int .i64 ((s3.get 3).getD fn 0 + c))) Bq Br g1 c1 g2 c2 A3 n3 c3 g4 c4 p.loans (s3.upd 3 fn (c)) := fun W' hx => (hq.drew hx).write (f := 3) (.inr (.inr rfl)) lt_fn (c)
  have hdx : ∀ W', Ext W3 W' → QS w W' Bq Br g1 c1 g2 c2 A3 n3 c3 g4 c4 p.loans s3 := fun W' hx => hq.drew hx
  have hbs := upd_bd HB.out (D := 1000000000000) (by omega) 3 fn (c) (.inr (.inr rfl)) (by omega)
  have hne : Bq ≠ g4 := (by obtain ⟨_, hb⟩ := hq.rows.blk (f := 3) (.inr (.inr rfl)); exact hq.jq.ne_ hb (by decide))
  have hs : s3.upd 3 fn (c) = (((p.st.upd 0 fn (-u)).upd 0 tn (u)).upd 3 tn (-c)).upd 3 fn (c) := (by rw [HS.out])
  generalize (s3.get 3).getD fn 0 = xx at hcx hbx hwx
  generalize s3.upd 3 fn (c) = s4 at hwx hbs hs
  have HWX := Lib.hid hwx
  have HDX := Lib.hid hdx
  have HFX := Lib.hid hfx
  have hx1 := hbx.1
  have hx2 := hbx.2
  clear hq hbx hwx hdx HB HS hfx
  have HB := Lib.hid hbs
  have HS := Lib.hid hs
  clear hbs hs
  refine wp_region_obl 11 (fun ix vals v w1 => match ix with | 0 => v = .pointer (some ⟨Bq, 3, none⟩) | 1 => v = .slice (some ⟨g4, 0, none⟩) 16 c4 | 2 => v = .int .i64 (fn : Int) | 3 => v = .pointer (some ⟨Bq, 3, none⟩) | 4 => v = .slice (some ⟨g4, 0, none⟩) 16 c4 | 5 => v = .int .i64 (fn : Int) | 6 => v = .pointer (some ⟨g4, fn, none⟩) | 7 => v = .int .i64 xx | 8 => v = .int .i64 c | 9 => v = .int .i64 (xx + c) | _ => v = .pointer (some ⟨g4, fn, none⟩)) (by kernel_rfl) (by kernel_rfl) ?_ ?_ ?_ ?_
  · intro ix vals v w1 w2 hi hr hx
    match ix, hr with
    | 0, hr => exact hr
    | 1, hr => exact hr
    | 2, hr => exact hr
    | 3, hr => exact hr
    | 4, hr => exact hr
    | 5, hr => exact hr
    | 6, hr => exact hr
    | 7, hr => exact hr
    | 8, hr => exact hr
    | 9, hr => exact hr
    | (kx + 10), hr => exact hr
  · intro ix vals vals_ v w1 hi hv hr
    exact hr
  · refine ⟨?_, ?_, ?_, ?_, ?_, ?_, ?_, ?_, ?_, ?_, ?_, trivial⟩
    · intro vals w1 hx hd ha
      clear hd ha
      simp only [Lf]
      have pq := ext_cell hx pq
      have hcx := ext_cell hx hcx
      go_wp2
      exact ⟨rfl, Ext.refl _, rfl⟩
    · intro vals w1 hx hd ha
      have e0 : vals 0 = .pointer (some ⟨Bq, 3, none⟩) := hd 0 (by decide)
      clear hd ha
      simp only [Lf, dstAt, Act.put, List.getElem?_toArray, List.getElem?_cons_zero, Option.bind_some, List.setIfInBounds_toArray, List.set_cons_zero, List.set_cons_succ]
      simp only [e0]
      clear e0
      have pq := ext_cell hx pq
      have hcx := ext_cell hx hcx
      go_wp2
      exact ⟨rfl, Ext.refl _, rfl⟩
    · intro vals w1 hx hd ha
      clear hd ha
      simp only [Lf, dstAt, Act.put, List.getElem?_toArray, List.getElem?_cons_zero, List.getElem?_cons_succ, Option.bind_some, List.setIfInBounds_toArray, List.set_cons_zero, List.set_cons_succ]
      have pq := ext_cell hx pq
      have hcx := ext_cell hx hcx
      go_wp2
      exact ⟨rfl, Ext.refl _, rfl⟩
    · intro vals w1 hx hd ha
      clear hd ha
      simp only [Lf, dstAt, Act.put, List.getElem?_toArray, List.getElem?_cons_zero, List.getElem?_cons_succ, Option.bind_some, List.setIfInBounds_toArray, List.set_cons_zero, List.set_cons_succ]
      have pq := ext_cell hx pq
      have hcx := ext_cell hx hcx
      go_wp2
      exact ⟨rfl, Ext.refl _, rfl⟩
    · intro vals w1 hx hd ha
      have e3 : vals 3 = .pointer (some ⟨Bq, 3, none⟩) := hd 3 (by decide)
      clear hd ha
      simp only [Lf, dstAt, Act.put, List.getElem?_toArray, List.getElem?_cons_zero, List.getElem?_cons_succ, Option.bind_some, List.setIfInBounds_toArray, List.set_cons_zero, List.set_cons_succ]
      simp only [e3]
      clear e3
      have pq := ext_cell hx pq
      have hcx := ext_cell hx hcx
      go_wp2
      exact ⟨rfl, Ext.refl _, rfl⟩
    · intro vals w1 hx hd ha
      clear hd ha
      simp only [Lf, dstAt, Act.put, List.getElem?_toArray, List.getElem?_cons_zero, List.getElem?_cons_succ, Option.bind_some, List.setIfInBounds_toArray, List.set_cons_zero, List.set_cons_succ]
      have pq := ext_cell hx pq
      have hcx := ext_cell hx hcx
      go_wp2
      exact ⟨rfl, Ext.refl _, rfl⟩
    · intro vals w1 hx hd ha
      have e4 : vals 4 = .slice (some ⟨g4, 0, none⟩) 16 c4 := hd 4 (by decide)
      have e5 : vals 5 = .int .i64 (fn : Int) := hd 5 (by decide)
      clear hd ha
      simp only [Lf, dstAt, Act.put, List.getElem?_toArray, List.getElem?_cons_zero, List.getElem?_cons_succ, Option.bind_some, List.setIfInBounds_toArray, List.set_cons_zero, List.set_cons_succ]
      simp only [e4, e5]
      clear e4 e5
      have pq := ext_cell hx pq
      have hcx := ext_cell hx hcx
      go_wp2
      exact ⟨rfl, Ext.refl _, rfl⟩
    · intro vals w1 hx hd ha
      have e6 : vals 6 = .pointer (some ⟨g4, fn, none⟩) := hd 6 (by decide)
      clear hd ha
      simp only [Lf, dstAt, Act.put, List.getElem?_toArray, List.getElem?_cons_zero, List.getElem?_cons_succ, Option.bind_some, List.setIfInBounds_toArray, List.set_cons_zero, List.set_cons_succ]
      simp only [e6]
      clear e6
      have pq := ext_cell hx pq
      have hcx := ext_cell hx hcx
      go_wp2
      exact ⟨rfl, Ext.refl _, rfl⟩
    · intro vals w1 hx hd ha
      clear hd ha
      simp only [Lf, dstAt, Act.put, List.getElem?_toArray, List.getElem?_cons_zero, List.getElem?_cons_succ, Option.bind_some, List.setIfInBounds_toArray, List.set_cons_zero, List.set_cons_succ]
      have pq := ext_cell hx pq
      have hcx := ext_cell hx hcx
      go_wp2
      exact ⟨rfl, Ext.refl _, rfl⟩
    · intro vals w1 hx hd ha
      have e7 : vals 7 = .int .i64 xx := hd 7 (by decide)
      have e8 : vals 8 = .int .i64 c := hd 8 (by decide)
      clear hd ha
      simp only [Lf, dstAt, Act.put, List.getElem?_toArray, List.getElem?_cons_zero, List.getElem?_cons_succ, Option.bind_some, List.setIfInBounds_toArray, List.set_cons_zero, List.set_cons_succ]
      simp only [e7, e8]
      clear e7 e8
      have pq := ext_cell hx pq
      have hcx := ext_cell hx hcx
      go_wp2
      exact ⟨rfl, Ext.refl _, rfl⟩
    · intro vals w1 hx hd ha
      have e0 : vals 0 = .pointer (some ⟨Bq, 3, none⟩) := hd 0 (by decide)
      have e1 : vals 1 = .slice (some ⟨g4, 0, none⟩) 16 c4 := hd 1 (by decide)
      have e2 : vals 2 = .int .i64 (fn : Int) := hd 2 (by decide)
      have e3 : vals 3 = .pointer (some ⟨Bq, 3, none⟩) := hd 3 (by decide)
      have e4 : vals 4 = .slice (some ⟨g4, 0, none⟩) 16 c4 := hd 4 (by decide)
      have e5 : vals 5 = .int .i64 (fn : Int) := hd 5 (by decide)
      have e6 : vals 6 = .pointer (some ⟨g4, fn, none⟩) := hd 6 (by decide)
      have e7 : vals 7 = .int .i64 xx := hd 7 (by decide)
      have e8 : vals 8 = .int .i64 c := hd 8 (by decide)
      have e9 : vals 9 = .int .i64 (xx + c) := hd 9 (by decide)
      clear hd ha
      simp only [Lf, dstAt, Act.put, List.getElem?_toArray, List.getElem?_cons_zero, List.getElem?_cons_succ, Option.bind_some, List.setIfInBounds_toArray, List.set_cons_zero, List.set_cons_succ]
      simp only [e0, e1, e2, e3, e4, e5, e6, e7, e8, e9]
      clear e0 e1 e2 e3 e4 e5 e6 e7 e8 e9
      have pq := ext_cell hx pq
      have hcx := ext_cell hx hcx
      go_wp2
      exact ⟨rfl, Ext.refl _, rfl⟩
  intro vals w9 hx hf
  have f9 : vals 9 = .int .i64 (xx + c) := hf 9 (by omega)
  have f10 : vals 10 = .pointer (some ⟨g4, fn, none⟩) := hf 10 (by omega)
  clear hf
  have hx := hx.undrew
  have hcx := ext_cell hx hcx
  have hfx := HFX.out w9 hx
  have hq := HWX.out w9 hx
  have hq0 := HDX.out w9 hx
  have p0 := hq0.jq.cell 0
  have p1 := hq0.jq.cell 1
  have p2 := hq0.jq.cell 2
  have p3 := hq0.jq.cell 3
  clear hx HWX HDX HFX pq hq0
  refine tail1 11 _ (by kernel_rfl) (by kernel_rfl) rfl ?_
  simp only [Lf, dstAt, Act.put, List.getElem?_toArray, List.getElem?_cons_zero, List.getElem?_cons_succ, Option.bind_some, List.setIfInBounds_toArray, List.set_cons_zero, List.set_cons_succ]
  rw [f9, f10]
  clear f9 f10
  have HQ := Lib.hid hq
  clear hq
  go_wp2_with fail
  have hq := HQ.out
  clear HQ hcx hfx p0 p1 p2 p3 hne
  generalize hW9 : w9.setCell ⟨g4, fn, none⟩ (.int .i64 (xx + c)) = W4 at hq ⊢
  clear hW9 hx1 hx2
  have hsz := hq.below.size
  obtain ⟨w5, hw5⟩ : ∃ q, q = W4 := ⟨_, rfl⟩
  rw [← hw5] at hq ⊢
  clear hw5
  obtain ⟨D3, hD3⟩ : ∃ q, q = A3 := ⟨_, rfl⟩
  obtain ⟨m3, hm3⟩ : ∃ q, q = n3 := ⟨_, rfl⟩
  obtain ⟨d3, hd3⟩ : ∃ q, q = c3 := ⟨_, rfl⟩
  rw [← hD3, ← hm3, ← hd3] at hq ⊢
  rw [← hm3] at hn3
  clear hD3 hm3 hd3
  have hpo : PoolOwnA w5 w.heap.size ⟨some ⟨g1, 0, none⟩, 16, c1⟩ ⟨some ⟨g2, 0, none⟩, 16, c2⟩ ⟨D3, m3, d3⟩ ⟨some ⟨g4, 0, none⟩, 16, c4⟩ ⟨s4.h, s4.u, p.loans, s4.c⟩ := ⟨⟨hq.rows.r1, hq.rows.r2, hq.o3, hq.rows.r4, by show 16 ≤ 1099511627776; omega, by show 16 ≤ 1099511627776; omega, hn3, by show 16 ≤ 1099511627776; omega⟩, g1, g2, g4, rfl, rfl, rfl, hq.rows.d12, hq.rows.d14, hq.rows.d24⟩
  have jr5 := hq.jr
  have hB5 := hq.below
  clear hq HB HL hsz
  have hr : r = if validB ⟨s4.h, s4.u, p.loans, s4.c⟩ = true then some ⟨s4.h, s4.u, p.loans, s4.c⟩ else none := by rw [HR.out, HS.out]; rfl
  refine (result_any ⟨some ⟨g1, 0, none⟩, 16, c1⟩ ⟨some ⟨g2, 0, none⟩, 16, c2⟩ ⟨D3, m3, d3⟩ ⟨some ⟨g4, 0, none⟩, 16, c4⟩ _ w5 hpo.pool).mono ?_
  rintro e w6 ⟨rfl, hx6⟩
  have hpo6 := hpo.ext hx6
  have jr6 := jr5.ext hx6
  have hB6 := hB5.trans (Below.mono hx6 hB5.size)
  clear hpo jr5 hB5 hx6 HS HR
  generalize (⟨s4.h, s4.u, p.loans, s4.c⟩ : Pool) = q at hr hpo6 ⊢
  have hc0 := jr6.cell 0
  have hc1 := jr6.cell 1
  have hc2 := jr6.cell 2
  have hc3 := jr6.cell 3
  have hf0 := jr6.frozen 0
  have hf1 := jr6.frozen 1
  have hf2 := jr6.frozen 2
  have hf3 := jr6.frozen 3
  generalize validB q = vb at hr ⊢
  have HR := Lib.hid hr
  have HPO := Lib.hid hpo6
  clear hr hpo6
  cases vb
  · simp only [resV, Bool.false_eq_true, if_false, nilV]
    go_wp2
    generalize hW4 : ((((w6.setCell ⟨Br, 0, none⟩ _).setCell ⟨Br, 1, none⟩ _).setCell ⟨Br, 2, none⟩ _).setCell ⟨Br, 3, none⟩ _) = w4
    have j4 : Blk w4 Br 26 nil4 := by subst hW4; exact jr6.set4 _ _ _ _
    have hB4 : Below w.heap.size w w4 := by subst hW4; exact below_set4 hB6 hgBr _ _ _ _
    clear hc0 hc1 hc2 hc3
    have hc0 := j4.cell 0
    have hc1 := j4.cell 1
    have hc2 := j4.cell 2
    have hc3 := j4.cell 3
    exact bodyPost_ret (v := .tuple #[nilV, .int .i64 250]) (by simp [results, Try.results49, go_sem, hc0, hc1, hc2, hc3, nilV]) rfl ⟨_, rfl, hB4, .inl ⟨HR.out, rfl⟩⟩
  · simp only [resV, if_true]
    go_wp2
    generalize hW4 : ((((w6.setCell ⟨Br, 0, none⟩ _).setCell ⟨Br, 1, none⟩ _).setCell ⟨Br, 2, none⟩ _).setCell ⟨Br, 3, none⟩ _) = w4
    have j4 : Blk w4 Br 26 #[.slice (some ⟨g1, 0, none⟩) 16 c1, .slice (some ⟨g2, 0, none⟩) 16 c2, .slice D3 m3 d3, .slice (some ⟨g4, 0, none⟩) 16 c4] := by subst hW4; exact jr6.set4 _ _ _ _
    have hB4 : Below w.heap.size w w4 := by subst hW4; exact below_set4 hB6 hgBr _ _ _ _
    have hp4 := by
      have hp4 := HPO.out.set4 jr6 (.slice (some ⟨g1, 0, none⟩) 16 c1) (.slice (some ⟨g2, 0, none⟩) 16 c2) (.slice D3 m3 d3) (.slice (some ⟨g4, 0, none⟩) 16 c4)
      rw [hW4] at hp4
      exact hp4
    clear hc0 hc1 hc2 hc3
    have hc0 := j4.cell 0
    have hc1 := j4.cell 1
    have hc2 := j4.cell 2
    have hc3 := j4.cell 3
    exact bodyPost_ret (v := .tuple #[poolV ⟨some ⟨g1, 0, none⟩, 16, c1⟩ ⟨some ⟨g2, 0, none⟩, 16, c2⟩ ⟨D3, m3, d3⟩ ⟨some ⟨g4, 0, none⟩, 16, c4⟩, .int .i64 0]) (by simp [results, Try.results49, go_sem, hc0, hc1, hc2, hc3]) rfl ⟨_, rfl, hB4, .inr ⟨_, _, _, _, _, HR.out, rfl, hp4⟩⟩

def ruseP (p : Pool) (o u : Int) : Option Pool := refP (validB p && ownerB o && inB u 1 1000000) ((p.st.upd 0 o.toNat (-u)).upd 1 o.toNat (u)) (p.loans)
set_option maxHeartbeats 2000000 in
theorem ruse_any (s1 s2 s3 s4 : Sl) (p : Pool) (o u : Int) (w : World) (h : PoolR w w.heap.size s1 s2 s3 s4 p) :
    Calls Try.prog 50 #[poolV s1 s2 s3 s4, .int .i64 o, .int .i64 u] w (PoolRetA w (ruseP p o u)) := by
  have hc0 := rvalid_any s1 s2 s3 s4 p
  have hcp := copied_apart s1 s2 s3 s4 p
  obtain ⟨A1, n1, c1⟩ := s1; obtain ⟨A2, n2, c2⟩ := s2; obtain ⟨A3, n3, c3⟩ := s3; obtain ⟨A4, n4, c4⟩ := s4
  show Calls Try.prog 50 #[.agg #[.slice A1 n1 c1, .slice A2 n2 c2, .slice A3 n3 c3, .slice A4 n4 c4], .int .i64 o, .int .i64 u] w _
  have hrp : ruseP p o u = refP (validB p && ownerB o && inB u 1 1000000) ((p.st.upd 0 o.toNat (-u)).upd 1 o.toNat (u)) (p.loans) := rfl
  generalize ruseP p o u = r at hrp ⊢
  have HC := Lib.hid hc0
  have HCP := Lib.hid hcp
  have HR := Lib.hid hrp
  clear hc0 hcp hrp
  go_enter Try.func50, Try.ntmps50
  go_wp2_with fail
  generalize hW : ((w.alloc _).alloc _) = W
  have hBW : Below w.heap.size w W := by subst hW; exact (by repeat (first | exact Below.refl _ _ | assumption | refine Below.drew ?_ | refine below_drewN ?_ _ | refine bl_alloc ?_ _ | refine Below.setCell ?_ (by first | (simp; done) | omega | (simp; omega)) _ | refine bl_then ?_ (by assumption)))
  have hzW : w.heap.size + 2 ≤ W.heap.size := by subst hW; simp
  have jp : Blk W w.heap.size 26 #[.slice A1 n1 c1, .slice A2 n2 c2, .slice A3 n3 c3, .slice A4 n4 c4] := by subst hW; exact (Blk.new_at _ _ rfl).alloc _
  have jr : Blk W (w.heap.size + 1) 26 nil4 := by subst hW; exact Blk.new_at _ _ (by simp)
  clear hW
  refine (HC.out W ((h.below hBW).more (by omega))).mono ?_
  rintro e w1 ⟨rfl, hb⟩
  have hB1 : Below w.heap.size w w1 := hBW.trans (Below.mono hb (by omega))
  have hz1 : w.heap.size + 2 ≤ w1.heap.size := by have := Below.size hb; omega
  have jp1 := jp.ext hb
  have jr1 := jr.ext hb
  clear jp jr hBW HC hb hzW
  have hp0 := jp1.cell 0
  have hp1 := jp1.cell 1
  have hp2 := jp1.cell 2
  have hp3 := jp1.cell 3
  cases hk0 : (validB p)
  · have hall : (validB p && ownerB o && inB u 1 1000000) = false := (by simp [hk0])
    rw [hall] at HR
    clear hall
    clear hk0
    have hc0 := jr1.cell 0
    have hc1 := jr1.cell 1
    have hc2 := jr1.cell 2
    have hc3 := jr1.cell 3
    have hf0 := jr1.frozen 0
    have hf1 := jr1.frozen 1
    have hf2 := jr1.frozen 2
    have hf3 := jr1.frozen 3
    go_wp2_with (first | (go_at_call 41; refine (rowner_any _ _).mono ?_; rintro e w' ⟨rfl, rfl⟩) | (go_at_call 40; refine (rin_any _ _ _ _).mono ?_; rintro e w' ⟨rfl, rfl⟩))
    generalize hW4 : ((((w1.setCell ⟨w.heap.size + 1, 0, none⟩ _).setCell ⟨w.heap.size + 1, 1, none⟩ _).setCell ⟨w.heap.size + 1, 2, none⟩ _).setCell ⟨w.heap.size + 1, 3, none⟩ _) = w4
    have j4 : Blk w4 (w.heap.size + 1) 26 nil4 := by subst hW4; exact jr1.set4 _ _ _ _
    have hB4 : Below w.heap.size w w4 := by subst hW4; exact below_set4 hB1 (by omega) _ _ _ _
    clear hc0 hc1 hc2 hc3
    have hc0 := j4.cell 0
    have hc1 := j4.cell 1
    have hc2 := j4.cell 2
    have hc3 := j4.cell 3
    exact bodyPost_ret (v := .tuple #[nilV, .int .i64 250]) (by simp [results, Try.results50, go_sem, hc0, hc1, hc2, hc3, nilV]) rfl ⟨_, rfl, hB4, .inl ⟨HR.out.trans rfl, rfl⟩⟩
  cases hk1 : (ownerB o)
  · have hall : (validB p && ownerB o && inB u 1 1000000) = false := (by simp [hk1])
    rw [hall] at HR
    clear hall
    have hc0 := jr1.cell 0
    have hc1 := jr1.cell 1
    have hc2 := jr1.cell 2
    have hc3 := jr1.cell 3
    have hf0 := jr1.frozen 0
    have hf1 := jr1.frozen 1
    have hf2 := jr1.frozen 2
    have hf3 := jr1.frozen 3
    go_wp2_with (first | (go_at_call 41; refine (rowner_any _ _).mono ?_; rintro e w' ⟨rfl, rfl⟩) | (go_at_call 40; refine (rin_any _ _ _ _).mono ?_; rintro e w' ⟨rfl, rfl⟩))
    generalize hW4 : ((((w1.setCell ⟨w.heap.size + 1, 0, none⟩ _).setCell ⟨w.heap.size + 1, 1, none⟩ _).setCell ⟨w.heap.size + 1, 2, none⟩ _).setCell ⟨w.heap.size + 1, 3, none⟩ _) = w4
    have j4 : Blk w4 (w.heap.size + 1) 26 nil4 := by subst hW4; exact jr1.set4 _ _ _ _
    have hB4 : Below w.heap.size w w4 := by subst hW4; exact below_set4 hB1 (by omega) _ _ _ _
    clear hc0 hc1 hc2 hc3
    have hc0 := j4.cell 0
    have hc1 := j4.cell 1
    have hc2 := j4.cell 2
    have hc3 := j4.cell 3
    exact bodyPost_ret (v := .tuple #[nilV, .int .i64 250]) (by simp [results, Try.results50, go_sem, hc0, hc1, hc2, hc3, nilV]) rfl ⟨_, rfl, hB4, .inl ⟨HR.out.trans rfl, rfl⟩⟩
  cases hk2 : (inB u 1 1000000)
  · have hall : (validB p && ownerB o && inB u 1 1000000) = false := (by simp [hk2])
    rw [hall] at HR
    clear hall
    have hc0 := jr1.cell 0
    have hc1 := jr1.cell 1
    have hc2 := jr1.cell 2
    have hc3 := jr1.cell 3
    have hf0 := jr1.frozen 0
    have hf1 := jr1.frozen 1
    have hf2 := jr1.frozen 2
    have hf3 := jr1.frozen 3
    go_wp2_with (first | (go_at_call 41; refine (rowner_any _ _).mono ?_; rintro e w' ⟨rfl, rfl⟩) | (go_at_call 40; refine (rin_any _ _ _ _).mono ?_; rintro e w' ⟨rfl, rfl⟩))
    generalize hW4 : ((((w1.setCell ⟨w.heap.size + 1, 0, none⟩ _).setCell ⟨w.heap.size + 1, 1, none⟩ _).setCell ⟨w.heap.size + 1, 2, none⟩ _).setCell ⟨w.heap.size + 1, 3, none⟩ _) = w4
    have j4 : Blk w4 (w.heap.size + 1) 26 nil4 := by subst hW4; exact jr1.set4 _ _ _ _
    have hB4 : Below w.heap.size w w4 := by subst hW4; exact below_set4 hB1 (by omega) _ _ _ _
    clear hc0 hc1 hc2 hc3
    have hc0 := j4.cell 0
    have hc1 := j4.cell 1
    have hc2 := j4.cell 2
    have hc3 := j4.cell 3
    exact bodyPost_ret (v := .tuple #[nilV, .int .i64 250]) (by simp [results, Try.results50, go_sem, hc0, hc1, hc2, hc3, nilV]) rfl ⟨_, rfl, hB4, .inl ⟨HR.out.trans rfl, rfl⟩⟩
  have hall : (validB p && ownerB o && inB u 1 1000000) = true := (by simp [hk0, hk1, hk2])
  rw [hall] at HR
  clear hall
  have hvp : validB p = true := hk0
  have h12 : 0 ≤ o ∧ o ≤ 15 := inB_iff.1 hk1
  obtain ⟨h1, h2⟩ := h12
  obtain ⟨h5, h6⟩ := inB_iff.1 hk2
  obtain ⟨on, rfl⟩ : ∃ n : Nat, o = (n : Int) := ⟨o.toNat, by omega⟩
  have lt_on : on < 16 := by omega
  have li_on : (on : Int) < 16 := by omega
  simp only [Int.toNat_natCast] at HR
  have hvv := valid_parts hvp
  have HB := Lib.hid (st_bd ⟨hvv.1, hvv.2.1, hvv.2.2.1⟩)
  have HL := Lib.hid hvv.2.2.2.1
  go_wp2_with (first | (go_at_call 41; refine (rowner_any _ _).mono ?_; rintro e w' ⟨rfl, rfl⟩) | (go_at_call 40; refine (rin_any _ _ _ _).mono ?_; rintro e w' ⟨rfl, rfl⟩))
  refine (HCP.out w1 ((h.below hB1).more (by omega)) (within_len hvv.1) (within_len hvv.2.1) (within_len hvv.2.2.1)).mono ?_
  rintro e w2 ⟨g1, c1, g2, c2, ⟨A3, n3, c3⟩, g4, c4, rfl, hb, hrow, ho3, hn3⟩
  have hn3 : n3 ≤ 1099511627776 := hn3
  clear HCP hvv hk0 hk1 hk2 h hp0 hp1 hp2 hp3 jp1
  go_wp2_with fail
  generalize hW : w2.alloc _ = W0
  have hq : QS w W0 w2.heap.size (w.heap.size + 1) g1 c1 g2 c2 A3 n3 c3 g4 c4 p.loans p.st := by
    subst hW
    have hxa : Ext w2 (w2.alloc (.cells #[.slice (some ⟨g1, 0, none⟩) 16 c1, .slice (some ⟨g2, 0, none⟩) 16 c2, .slice A3 n3 c3, .slice (some ⟨g4, 0, none⟩) 16 c4] 26)) := (by repeat (first | exact Below.refl _ _ | assumption | refine Below.drew ?_ | refine below_drewN ?_ _ | refine bl_alloc ?_ _ | refine Below.setCell ?_ (by first | (simp; done) | omega | (simp; omega)) _ | refine bl_then ?_ (by assumption)))
    have hr2 := hrow.ext hxa
    exact ⟨⟨own_base hr2.r1 (by omega), own_base hr2.r2 (by omega), own_base hr2.r4 (by omega), hr2.d12, hr2.d14, hr2.d24⟩, own_base (own_ext ho3 hxa) (by omega), Blk.new_at _ _ rfl, (jr1.ext hb).ext hxa, (hB1.trans (Below.mono hb (by omega))).trans (Below.mono hxa (by have := Below.size hb; omega))⟩
  generalize w2.heap.size = Bq at hq ⊢
  generalize hBr : w.heap.size + 1 = Br at hq ⊢
  have hgBr : w.heap.size ≤ Br := by omega
  clear hW hb hrow ho3 hB1 jr1 hBr hz1
  obtain ⟨s0, hs⟩ : ∃ q, q = p.st := ⟨_, rfl⟩
  rw [← hs] at hq HB
  have HS := Lib.hid hs
  clear hs
  have hcx : W0.cell? ⟨g1, on, none⟩ = some (.int .i64 ((s0.get 0).getD on 0)) := (hq.rows.cell (f := 0) (.inl rfl) lt_on).1
  have hfx : ∀ W', Ext W0 W' → W'.frozen? ⟨g1, on, none⟩ = false := fun W' hx => ((hq.drew hx).rows.cell (f := 0) (.inl rfl) lt_on).2
  have pq : W0.cell? ⟨Bq, 0, none⟩ = some (.slice (some ⟨g1, 0, none⟩) 16 c1) := hq.jq.cell 0
  have hbx := HB.out 0 (.inl rfl) on
  have hwx : ∀ W', Ext W0 W' → QS w (W'.setCell ⟨g1, on, none⟩ (.int .i64 ((s0.get 0).getD on 0 + -u))) Bq Br g1 c1 g2 c2 A3 n3 c3 g4 c4 p.loans (s0.upd 0 on (-u)) := fun W' hx => (hq.drew hx).write (f := 0) (.inl rfl) lt_on (-u)
  have hdx : ∀ W', Ext W0 W' → QS w W' Bq Br g1 c1 g2 c2 A3 n3 c3 g4 c4 p.loans s0 := fun W' hx => hq.drew hx
  have hbs := upd_bd HB.out (D := 1000000000000) (by omega) 0 on (-u) (.inl rfl) (by omega)
  have hne : Bq ≠ g1 := (by obtain ⟨_, hb⟩ := hq.rows.blk (f := 0) (.inl rfl); exact hq.jq.ne_ hb (by decide))
  have hs : s0.upd 0 on (-u) = p.st.upd 0 on (-u) := (by rw [HS.out])
  generalize (s0.get 0).getD on 0 = xx at hcx hbx hwx
  generalize s0.upd 0 on (-u) = s1 at hwx hbs hs
  have HWX := Lib.hid hwx
  have HDX := Lib.hid hdx
  have HFX := Lib.hid hfx
  have hx1 := hbx.1
  have hx2 := hbx.2
  clear hq hbx hwx hdx HB HS hfx
  have HB := Lib.hid hbs
  have HS := Lib.hid hs
  clear hbs hs
  refine wp_region_obl 11 (fun ix vals v w1 => match ix with | 0 => v = .pointer (some ⟨Bq, 0, none⟩) | 1 => v = .slice (some ⟨g1, 0, none⟩) 16 c1 | 2 => v = .int .i64 (on : Int) | 3 => v = .pointer (some ⟨Bq, 0, none⟩) | 4 => v = .slice (some ⟨g1, 0, none⟩) 16 c1 | 5 => v = .int .i64 (on : Int) | 6 => v = .pointer (some ⟨g1, on, none⟩) | 7 => v = .int .i64 xx | 8 => v = .int .i64 u | 9 => v = .int .i64 (xx + -u) | _ => v = .pointer (some ⟨g1, on, none⟩)) (by kernel_rfl) (by kernel_rfl) ?_ ?_ ?_ ?_
  · intro ix vals v w1 w2 hi hr hx
    match ix, hr with
    | 0, hr => exact hr
    | 1, hr => exact hr
    | 2, hr => exact hr
    | 3, hr => exact hr
    | 4, hr => exact hr
    | 5, hr => exact hr
    | 6, hr => exact hr
    | 7, hr => exact hr
    | 8, hr => exact hr
    | 9, hr => exact hr
    | (kx + 10), hr => exact hr
  · intro ix vals vals_ v w1 hi hv hr
    exact hr
  · refine ⟨?_, ?_, ?_, ?_, ?_, ?_, ?_, ?_, ?_, ?_, ?_, trivial⟩
    · intro vals w1 hx hd ha
      clear hd ha
      simp only [Lf]
      have pq := ext_cell hx pq
      have hcx := ext_cell hx hcx
      go_wp2
      exact ⟨rfl, Ext.refl _, rfl⟩
    · intro vals w1 hx hd ha
      have e0 : vals 0 = .pointer (some ⟨Bq, 0, none⟩) := hd 0 (by decide)
      clear hd ha
      simp only [Lf, dstAt, Act.put, List.getElem?_toArray, List.getElem?_cons_zero, Option.bind_some, List.setIfInBounds_toArray, List.set_cons_zero, List.set_cons_succ]
      simp only [e0]
      clear e0
      have pq := ext_cell hx pq
      have hcx := ext_cell hx hcx
      go_wp2
      exact ⟨rfl, Ext.refl _, rfl⟩
    · intro vals w1 hx hd ha
      clear hd ha
      simp only [Lf, dstAt, Act.put, List.getElem?_toArray, List.getElem?_cons_zero, List.getElem?_cons_succ, Option.bind_some, List.setIfInBounds_toArray, List.set_cons_zero, List.set_cons_succ]
      have pq := ext_cell hx pq
      have hcx := ext_cell hx hcx
      go_wp2
      exact ⟨rfl, Ext.refl _, rfl⟩
    · intro vals w1 hx hd ha
      clear hd ha
      simp only [Lf, dstAt, Act.put, List.getElem?_toArray, List.getElem?_cons_zero, List.getElem?_cons_succ, Option.bind_some, List.setIfInBounds_toArray, List.set_cons_zero, List.set_cons_succ]
      have pq := ext_cell hx pq
      have hcx := ext_cell hx hcx
      go_wp2
      exact ⟨rfl, Ext.refl _, rfl⟩
    · intro vals w1 hx hd ha
      have e3 : vals 3 = .pointer (some ⟨Bq, 0, none⟩) := hd 3 (by decide)
      clear hd ha
      simp only [Lf, dstAt, Act.put, List.getElem?_toArray, List.getElem?_cons_zero, List.getElem?_cons_succ, Option.bind_some, List.setIfInBounds_toArray, List.set_cons_zero, List.set_cons_succ]
      simp only [e3]
      clear e3
      have pq := ext_cell hx pq
      have hcx := ext_cell hx hcx
      go_wp2
      exact ⟨rfl, Ext.refl _, rfl⟩
    · intro vals w1 hx hd ha
      clear hd ha
      simp only [Lf, dstAt, Act.put, List.getElem?_toArray, List.getElem?_cons_zero, List.getElem?_cons_succ, Option.bind_some, List.setIfInBounds_toArray, List.set_cons_zero, List.set_cons_succ]
      have pq := ext_cell hx pq
      have hcx := ext_cell hx hcx
      go_wp2
      exact ⟨rfl, Ext.refl _, rfl⟩
    · intro vals w1 hx hd ha
      have e4 : vals 4 = .slice (some ⟨g1, 0, none⟩) 16 c1 := hd 4 (by decide)
      have e5 : vals 5 = .int .i64 (on : Int) := hd 5 (by decide)
      clear hd ha
      simp only [Lf, dstAt, Act.put, List.getElem?_toArray, List.getElem?_cons_zero, List.getElem?_cons_succ, Option.bind_some, List.setIfInBounds_toArray, List.set_cons_zero, List.set_cons_succ]
      simp only [e4, e5]
      clear e4 e5
      have pq := ext_cell hx pq
      have hcx := ext_cell hx hcx
      go_wp2
      exact ⟨rfl, Ext.refl _, rfl⟩
    · intro vals w1 hx hd ha
      have e6 : vals 6 = .pointer (some ⟨g1, on, none⟩) := hd 6 (by decide)
      clear hd ha
      simp only [Lf, dstAt, Act.put, List.getElem?_toArray, List.getElem?_cons_zero, List.getElem?_cons_succ, Option.bind_some, List.setIfInBounds_toArray, List.set_cons_zero, List.set_cons_succ]
      simp only [e6]
      clear e6
      have pq := ext_cell hx pq
      have hcx := ext_cell hx hcx
      go_wp2
      exact ⟨rfl, Ext.refl _, rfl⟩
    · intro vals w1 hx hd ha
      clear hd ha
      simp only [Lf, dstAt, Act.put, List.getElem?_toArray, List.getElem?_cons_zero, List.getElem?_cons_succ, Option.bind_some, List.setIfInBounds_toArray, List.set_cons_zero, List.set_cons_succ]
      have pq := ext_cell hx pq
      have hcx := ext_cell hx hcx
      go_wp2
      exact ⟨rfl, Ext.refl _, rfl⟩
    · intro vals w1 hx hd ha
      have e7 : vals 7 = .int .i64 xx := hd 7 (by decide)
      have e8 : vals 8 = .int .i64 u := hd 8 (by decide)
      clear hd ha
      simp only [Lf, dstAt, Act.put, List.getElem?_toArray, List.getElem?_cons_zero, List.getElem?_cons_succ, Option.bind_some, List.setIfInBounds_toArray, List.set_cons_zero, List.set_cons_succ]
      simp only [e7, e8]
      clear e7 e8
      have pq := ext_cell hx pq
      have hcx := ext_cell hx hcx
      go_wp2
      exact ⟨rfl, Ext.refl _, rfl⟩
    · intro vals w1 hx hd ha
      have e0 : vals 0 = .pointer (some ⟨Bq, 0, none⟩) := hd 0 (by decide)
      have e1 : vals 1 = .slice (some ⟨g1, 0, none⟩) 16 c1 := hd 1 (by decide)
      have e2 : vals 2 = .int .i64 (on : Int) := hd 2 (by decide)
      have e3 : vals 3 = .pointer (some ⟨Bq, 0, none⟩) := hd 3 (by decide)
      have e4 : vals 4 = .slice (some ⟨g1, 0, none⟩) 16 c1 := hd 4 (by decide)
      have e5 : vals 5 = .int .i64 (on : Int) := hd 5 (by decide)
      have e6 : vals 6 = .pointer (some ⟨g1, on, none⟩) := hd 6 (by decide)
      have e7 : vals 7 = .int .i64 xx := hd 7 (by decide)
      have e8 : vals 8 = .int .i64 u := hd 8 (by decide)
      have e9 : vals 9 = .int .i64 (xx + -u) := hd 9 (by decide)
      clear hd ha
      simp only [Lf, dstAt, Act.put, List.getElem?_toArray, List.getElem?_cons_zero, List.getElem?_cons_succ, Option.bind_some, List.setIfInBounds_toArray, List.set_cons_zero, List.set_cons_succ]
      simp only [e0, e1, e2, e3, e4, e5, e6, e7, e8, e9]
      clear e0 e1 e2 e3 e4 e5 e6 e7 e8 e9
      have pq := ext_cell hx pq
      have hcx := ext_cell hx hcx
      go_wp2
      exact ⟨rfl, Ext.refl _, rfl⟩
  intro vals w9 hx hf
  have f9 : vals 9 = .int .i64 (xx + -u) := hf 9 (by omega)
  have f10 : vals 10 = .pointer (some ⟨g1, on, none⟩) := hf 10 (by omega)
  clear hf
  have hx := hx.undrew
  have hcx := ext_cell hx hcx
  have hfx := HFX.out w9 hx
  have hq := HWX.out w9 hx
  have hq0 := HDX.out w9 hx
  have p0 := hq0.jq.cell 0
  have p1 := hq0.jq.cell 1
  have p2 := hq0.jq.cell 2
  have p3 := hq0.jq.cell 3
  clear hx HWX HDX HFX pq hq0
  refine tail1 11 _ (by kernel_rfl) (by kernel_rfl) rfl ?_
  simp only [Lf, dstAt, Act.put, List.getElem?_toArray, List.getElem?_cons_zero, List.getElem?_cons_succ, Option.bind_some, List.setIfInBounds_toArray, List.set_cons_zero, List.set_cons_succ]
  rw [f9, f10]
  clear f9 f10
  have HQ := Lib.hid hq
  clear hq
  go_wp2_with fail
  have hq := HQ.out
  clear HQ hcx hfx p0 p1 p2 p3 hne
  generalize hW9 : w9.setCell ⟨g1, on, none⟩ (.int .i64 (xx + -u)) = W1 at hq ⊢
  clear hW9 hx1 hx2
  have hcx : W1.cell? ⟨g2, on, none⟩ = some (.int .i64 ((s1.get 1).getD on 0)) := (hq.rows.cell (f := 1) (.inr (.inl rfl)) lt_on).1
  have hfx : ∀ W', Ext W1 W' → W'.frozen? ⟨g2, on, none⟩ = false := fun W' hx => ((hq.drew hx).rows.cell (f := 1) (.inr (.inl rfl)) lt_on).2
  have pq : W1.cell? ⟨Bq, 1, none⟩ = some (.slice (some ⟨g2, 0, none⟩) 16 c2) := hq.jq.cell 1
  have hbx := HB.out 1 (.inr (.inl rfl)) on
  have hwx : ∀ W', Ext W1 W' → QS w (W'.setCell ⟨g2, on, none⟩ (.int .i64 ((s1.get 1).getD on 0 + u))) Bq Br g1 c1 g2 c2 A3 n3 c3 g4 c4 p.loans (s1.upd 1 on (u)) := fun W' hx => (hq.drew hx).write (f := 1) (.inr (.inl rfl)) lt_on (u)
  have hdx : ∀ W', Ext W1 W' → QS w W' Bq Br g1 c1 g2 c2 A3 n3 c3 g4 c4 p.loans s1 := fun W' hx => hq.drew hx
  have hbs := upd_bd HB.out (D := 1000000000000) (by omega) 1 on (u) (.inr (.inl rfl)) (by omega)
  have hne : Bq ≠ g2 := (by obtain ⟨_, hb⟩ := hq.rows.blk (f := 1) (.inr (.inl rfl)); exact hq.jq.ne_ hb (by decide))
  have hs : s1.upd 1 on (u) = (p.st.upd 0 on (-u)).upd 1 on (u) := (by rw [HS.out])
  generalize (s1.get 1).getD on 0 = xx at hcx hbx hwx
  generalize s1.upd 1 on (u) = s2 at hwx hbs hs
  have HWX := Lib.hid hwx
  have HDX := Lib.hid hdx
  have HFX := Lib.hid hfx
  have hx1 := hbx.1
  have hx2 := hbx.2
  clear hq hbx hwx hdx HB HS hfx
  have HB := Lib.hid hbs
  have HS := Lib.hid hs
  clear hbs hs
  refine wp_region_obl 11 (fun ix vals v w1 => match ix with | 0 => v = .pointer (some ⟨Bq, 1, none⟩) | 1 => v = .slice (some ⟨g2, 0, none⟩) 16 c2 | 2 => v = .int .i64 (on : Int) | 3 => v = .pointer (some ⟨Bq, 1, none⟩) | 4 => v = .slice (some ⟨g2, 0, none⟩) 16 c2 | 5 => v = .int .i64 (on : Int) | 6 => v = .pointer (some ⟨g2, on, none⟩) | 7 => v = .int .i64 xx | 8 => v = .int .i64 u | 9 => v = .int .i64 (xx + u) | _ => v = .pointer (some ⟨g2, on, none⟩)) (by kernel_rfl) (by kernel_rfl) ?_ ?_ ?_ ?_
  · intro ix vals v w1 w2 hi hr hx
    match ix, hr with
    | 0, hr => exact hr
    | 1, hr => exact hr
    | 2, hr => exact hr
    | 3, hr => exact hr
    | 4, hr => exact hr
    | 5, hr => exact hr
    | 6, hr => exact hr
    | 7, hr => exact hr
    | 8, hr => exact hr
    | 9, hr => exact hr
    | (kx + 10), hr => exact hr
  · intro ix vals vals_ v w1 hi hv hr
    exact hr
  · refine ⟨?_, ?_, ?_, ?_, ?_, ?_, ?_, ?_, ?_, ?_, ?_, trivial⟩
    · intro vals w1 hx hd ha
      clear hd ha
      simp only [Lf]
      have pq := ext_cell hx pq
      have hcx := ext_cell hx hcx
      go_wp2
      exact ⟨rfl, Ext.refl _, rfl⟩
    · intro vals w1 hx hd ha
      have e0 : vals 0 = .pointer (some ⟨Bq, 1, none⟩) := hd 0 (by decide)
      clear hd ha
      simp only [Lf, dstAt, Act.put, List.getElem?_toArray, List.getElem?_cons_zero, Option.bind_some, List.setIfInBounds_toArray, List.set_cons_zero, List.set_cons_succ]
      simp only [e0]
      clear e0
      have pq := ext_cell hx pq
      have hcx := ext_cell hx hcx
      go_wp2
      exact ⟨rfl, Ext.refl _, rfl⟩
    · intro vals w1 hx hd ha
      clear hd ha
      simp only [Lf, dstAt, Act.put, List.getElem?_toArray, List.getElem?_cons_zero, List.getElem?_cons_succ, Option.bind_some, List.setIfInBounds_toArray, List.set_cons_zero, List.set_cons_succ]
      have pq := ext_cell hx pq
      have hcx := ext_cell hx hcx
      go_wp2
      exact ⟨rfl, Ext.refl _, rfl⟩
    · intro vals w1 hx hd ha
      clear hd ha
      simp only [Lf, dstAt, Act.put, List.getElem?_toArray, List.getElem?_cons_zero, List.getElem?_cons_succ, Option.bind_some, List.setIfInBounds_toArray, List.set_cons_zero, List.set_cons_succ]
      have pq := ext_cell hx pq
      have hcx := ext_cell hx hcx
      go_wp2
      exact ⟨rfl, Ext.refl _, rfl⟩
    · intro vals w1 hx hd ha
      have e3 : vals 3 = .pointer (some ⟨Bq, 1, none⟩) := hd 3 (by decide)
      clear hd ha
      simp only [Lf, dstAt, Act.put, List.getElem?_toArray, List.getElem?_cons_zero, List.getElem?_cons_succ, Option.bind_some, List.setIfInBounds_toArray, List.set_cons_zero, List.set_cons_succ]
      simp only [e3]
      clear e3
      have pq := ext_cell hx pq
      have hcx := ext_cell hx hcx
      go_wp2
      exact ⟨rfl, Ext.refl _, rfl⟩
    · intro vals w1 hx hd ha
      clear hd ha
      simp only [Lf, dstAt, Act.put, List.getElem?_toArray, List.getElem?_cons_zero, List.getElem?_cons_succ, Option.bind_some, List.setIfInBounds_toArray, List.set_cons_zero, List.set_cons_succ]
      have pq := ext_cell hx pq
      have hcx := ext_cell hx hcx
      go_wp2
      exact ⟨rfl, Ext.refl _, rfl⟩
    · intro vals w1 hx hd ha
      have e4 : vals 4 = .slice (some ⟨g2, 0, none⟩) 16 c2 := hd 4 (by decide)
      have e5 : vals 5 = .int .i64 (on : Int) := hd 5 (by decide)
      clear hd ha
      simp only [Lf, dstAt, Act.put, List.getElem?_toArray, List.getElem?_cons_zero, List.getElem?_cons_succ, Option.bind_some, List.setIfInBounds_toArray, List.set_cons_zero, List.set_cons_succ]
      simp only [e4, e5]
      clear e4 e5
      have pq := ext_cell hx pq
      have hcx := ext_cell hx hcx
      go_wp2
      exact ⟨rfl, Ext.refl _, rfl⟩
    · intro vals w1 hx hd ha
      have e6 : vals 6 = .pointer (some ⟨g2, on, none⟩) := hd 6 (by decide)
      clear hd ha
      simp only [Lf, dstAt, Act.put, List.getElem?_toArray, List.getElem?_cons_zero, List.getElem?_cons_succ, Option.bind_some, List.setIfInBounds_toArray, List.set_cons_zero, List.set_cons_succ]
      simp only [e6]
      clear e6
      have pq := ext_cell hx pq
      have hcx := ext_cell hx hcx
      go_wp2
      exact ⟨rfl, Ext.refl _, rfl⟩
    · intro vals w1 hx hd ha
      clear hd ha
      simp only [Lf, dstAt, Act.put, List.getElem?_toArray, List.getElem?_cons_zero, List.getElem?_cons_succ, Option.bind_some, List.setIfInBounds_toArray, List.set_cons_zero, List.set_cons_succ]
      have pq := ext_cell hx pq
      have hcx := ext_cell hx hcx
      go_wp2
      exact ⟨rfl, Ext.refl _, rfl⟩
    · intro vals w1 hx hd ha
      have e7 : vals 7 = .int .i64 xx := hd 7 (by decide)
      have e8 : vals 8 = .int .i64 u := hd 8 (by decide)
      clear hd ha
      simp only [Lf, dstAt, Act.put, List.getElem?_toArray, List.getElem?_cons_zero, List.getElem?_cons_succ, Option.bind_some, List.setIfInBounds_toArray, List.set_cons_zero, List.set_cons_succ]
      simp only [e7, e8]
      clear e7 e8
      have pq := ext_cell hx pq
      have hcx := ext_cell hx hcx
      go_wp2
      exact ⟨rfl, Ext.refl _, rfl⟩
    · intro vals w1 hx hd ha
      have e0 : vals 0 = .pointer (some ⟨Bq, 1, none⟩) := hd 0 (by decide)
      have e1 : vals 1 = .slice (some ⟨g2, 0, none⟩) 16 c2 := hd 1 (by decide)
      have e2 : vals 2 = .int .i64 (on : Int) := hd 2 (by decide)
      have e3 : vals 3 = .pointer (some ⟨Bq, 1, none⟩) := hd 3 (by decide)
      have e4 : vals 4 = .slice (some ⟨g2, 0, none⟩) 16 c2 := hd 4 (by decide)
      have e5 : vals 5 = .int .i64 (on : Int) := hd 5 (by decide)
      have e6 : vals 6 = .pointer (some ⟨g2, on, none⟩) := hd 6 (by decide)
      have e7 : vals 7 = .int .i64 xx := hd 7 (by decide)
      have e8 : vals 8 = .int .i64 u := hd 8 (by decide)
      have e9 : vals 9 = .int .i64 (xx + u) := hd 9 (by decide)
      clear hd ha
      simp only [Lf, dstAt, Act.put, List.getElem?_toArray, List.getElem?_cons_zero, List.getElem?_cons_succ, Option.bind_some, List.setIfInBounds_toArray, List.set_cons_zero, List.set_cons_succ]
      simp only [e0, e1, e2, e3, e4, e5, e6, e7, e8, e9]
      clear e0 e1 e2 e3 e4 e5 e6 e7 e8 e9
      have pq := ext_cell hx pq
      have hcx := ext_cell hx hcx
      go_wp2
      exact ⟨rfl, Ext.refl _, rfl⟩
  intro vals w9 hx hf
  have f9 : vals 9 = .int .i64 (xx + u) := hf 9 (by omega)
  have f10 : vals 10 = .pointer (some ⟨g2, on, none⟩) := hf 10 (by omega)
  clear hf
  have hx := hx.undrew
  have hcx := ext_cell hx hcx
  have hfx := HFX.out w9 hx
  have hq := HWX.out w9 hx
  have hq0 := HDX.out w9 hx
  have p0 := hq0.jq.cell 0
  have p1 := hq0.jq.cell 1
  have p2 := hq0.jq.cell 2
  have p3 := hq0.jq.cell 3
  clear hx HWX HDX HFX pq hq0
  refine tail1 11 _ (by kernel_rfl) (by kernel_rfl) rfl ?_
  simp only [Lf, dstAt, Act.put, List.getElem?_toArray, List.getElem?_cons_zero, List.getElem?_cons_succ, Option.bind_some, List.setIfInBounds_toArray, List.set_cons_zero, List.set_cons_succ]
  rw [f9, f10]
  clear f9 f10
  have HQ := Lib.hid hq
  clear hq
  go_wp2_with fail
  have hq := HQ.out
  clear HQ hcx hfx p0 p1 p2 p3 hne
  generalize hW9 : w9.setCell ⟨g2, on, none⟩ (.int .i64 (xx + u)) = W2 at hq ⊢
  clear hW9 hx1 hx2
  have hsz := hq.below.size
  obtain ⟨w5, hw5⟩ : ∃ q, q = W2 := ⟨_, rfl⟩
  rw [← hw5] at hq ⊢
  clear hw5
  obtain ⟨D3, hD3⟩ : ∃ q, q = A3 := ⟨_, rfl⟩
  obtain ⟨m3, hm3⟩ : ∃ q, q = n3 := ⟨_, rfl⟩
  obtain ⟨d3, hd3⟩ : ∃ q, q = c3 := ⟨_, rfl⟩
  rw [← hD3, ← hm3, ← hd3] at hq ⊢
  rw [← hm3] at hn3
  clear hD3 hm3 hd3
  have hpo : PoolOwnA w5 w.heap.size ⟨some ⟨g1, 0, none⟩, 16, c1⟩ ⟨some ⟨g2, 0, none⟩, 16, c2⟩ ⟨D3, m3, d3⟩ ⟨some ⟨g4, 0, none⟩, 16, c4⟩ ⟨s2.h, s2.u, p.loans, s2.c⟩ := ⟨⟨hq.rows.r1, hq.rows.r2, hq.o3, hq.rows.r4, by show 16 ≤ 1099511627776; omega, by show 16 ≤ 1099511627776; omega, hn3, by show 16 ≤ 1099511627776; omega⟩, g1, g2, g4, rfl, rfl, rfl, hq.rows.d12, hq.rows.d14, hq.rows.d24⟩
  have jr5 := hq.jr
  have hB5 := hq.below
  clear hq HB HL hsz
  have hr : r = if validB ⟨s2.h, s2.u, p.loans, s2.c⟩ = true then some ⟨s2.h, s2.u, p.loans, s2.c⟩ else none := by rw [HR.out, HS.out]; rfl
  refine (result_any ⟨some ⟨g1, 0, none⟩, 16, c1⟩ ⟨some ⟨g2, 0, none⟩, 16, c2⟩ ⟨D3, m3, d3⟩ ⟨some ⟨g4, 0, none⟩, 16, c4⟩ _ w5 hpo.pool).mono ?_
  rintro e w6 ⟨rfl, hx6⟩
  have hpo6 := hpo.ext hx6
  have jr6 := jr5.ext hx6
  have hB6 := hB5.trans (Below.mono hx6 hB5.size)
  clear hpo jr5 hB5 hx6 HS HR
  generalize (⟨s2.h, s2.u, p.loans, s2.c⟩ : Pool) = q at hr hpo6 ⊢
  have hc0 := jr6.cell 0
  have hc1 := jr6.cell 1
  have hc2 := jr6.cell 2
  have hc3 := jr6.cell 3
  have hf0 := jr6.frozen 0
  have hf1 := jr6.frozen 1
  have hf2 := jr6.frozen 2
  have hf3 := jr6.frozen 3
  generalize validB q = vb at hr ⊢
  have HR := Lib.hid hr
  have HPO := Lib.hid hpo6
  clear hr hpo6
  cases vb
  · simp only [resV, Bool.false_eq_true, if_false, nilV]
    go_wp2
    generalize hW4 : ((((w6.setCell ⟨Br, 0, none⟩ _).setCell ⟨Br, 1, none⟩ _).setCell ⟨Br, 2, none⟩ _).setCell ⟨Br, 3, none⟩ _) = w4
    have j4 : Blk w4 Br 26 nil4 := by subst hW4; exact jr6.set4 _ _ _ _
    have hB4 : Below w.heap.size w w4 := by subst hW4; exact below_set4 hB6 hgBr _ _ _ _
    clear hc0 hc1 hc2 hc3
    have hc0 := j4.cell 0
    have hc1 := j4.cell 1
    have hc2 := j4.cell 2
    have hc3 := j4.cell 3
    exact bodyPost_ret (v := .tuple #[nilV, .int .i64 250]) (by simp [results, Try.results50, go_sem, hc0, hc1, hc2, hc3, nilV]) rfl ⟨_, rfl, hB4, .inl ⟨HR.out, rfl⟩⟩
  · simp only [resV, if_true]
    go_wp2
    generalize hW4 : ((((w6.setCell ⟨Br, 0, none⟩ _).setCell ⟨Br, 1, none⟩ _).setCell ⟨Br, 2, none⟩ _).setCell ⟨Br, 3, none⟩ _) = w4
    have j4 : Blk w4 Br 26 #[.slice (some ⟨g1, 0, none⟩) 16 c1, .slice (some ⟨g2, 0, none⟩) 16 c2, .slice D3 m3 d3, .slice (some ⟨g4, 0, none⟩) 16 c4] := by subst hW4; exact jr6.set4 _ _ _ _
    have hB4 : Below w.heap.size w w4 := by subst hW4; exact below_set4 hB6 hgBr _ _ _ _
    have hp4 := by
      have hp4 := HPO.out.set4 jr6 (.slice (some ⟨g1, 0, none⟩) 16 c1) (.slice (some ⟨g2, 0, none⟩) 16 c2) (.slice D3 m3 d3) (.slice (some ⟨g4, 0, none⟩) 16 c4)
      rw [hW4] at hp4
      exact hp4
    clear hc0 hc1 hc2 hc3
    have hc0 := j4.cell 0
    have hc1 := j4.cell 1
    have hc2 := j4.cell 2
    have hc3 := j4.cell 3
    exact bodyPost_ret (v := .tuple #[poolV ⟨some ⟨g1, 0, none⟩, 16, c1⟩ ⟨some ⟨g2, 0, none⟩, 16, c2⟩ ⟨D3, m3, d3⟩ ⟨some ⟨g4, 0, none⟩, 16, c4⟩, .int .i64 0]) (by simp [results, Try.results50, go_sem, hc0, hc1, hc2, hc3]) rfl ⟨_, rfl, hB4, .inr ⟨_, _, _, _, _, HR.out, rfl, hp4⟩⟩

def rfreeP (p : Pool) (o u : Int) : Option Pool := refP (validB p && ownerB o && inB u 1 1000000) ((p.st.upd 0 o.toNat (u)).upd 1 o.toNat (-u)) (p.loans)
set_option maxHeartbeats 2000000 in
theorem rfree_any (s1 s2 s3 s4 : Sl) (p : Pool) (o u : Int) (w : World) (h : PoolR w w.heap.size s1 s2 s3 s4 p) :
    Calls Try.prog 51 #[poolV s1 s2 s3 s4, .int .i64 o, .int .i64 u] w (PoolRetA w (rfreeP p o u)) := by
  have hc0 := rvalid_any s1 s2 s3 s4 p
  have hcp := copied_apart s1 s2 s3 s4 p
  obtain ⟨A1, n1, c1⟩ := s1; obtain ⟨A2, n2, c2⟩ := s2; obtain ⟨A3, n3, c3⟩ := s3; obtain ⟨A4, n4, c4⟩ := s4
  show Calls Try.prog 51 #[.agg #[.slice A1 n1 c1, .slice A2 n2 c2, .slice A3 n3 c3, .slice A4 n4 c4], .int .i64 o, .int .i64 u] w _
  have hrp : rfreeP p o u = refP (validB p && ownerB o && inB u 1 1000000) ((p.st.upd 0 o.toNat (u)).upd 1 o.toNat (-u)) (p.loans) := rfl
  generalize rfreeP p o u = r at hrp ⊢
  have HC := Lib.hid hc0
  have HCP := Lib.hid hcp
  have HR := Lib.hid hrp
  clear hc0 hcp hrp
  go_enter Try.func51, Try.ntmps51
  go_wp2_with fail
  generalize hW : ((w.alloc _).alloc _) = W
  have hBW : Below w.heap.size w W := by subst hW; exact (by repeat (first | exact Below.refl _ _ | assumption | refine Below.drew ?_ | refine below_drewN ?_ _ | refine bl_alloc ?_ _ | refine Below.setCell ?_ (by first | (simp; done) | omega | (simp; omega)) _ | refine bl_then ?_ (by assumption)))
  have hzW : w.heap.size + 2 ≤ W.heap.size := by subst hW; simp
  have jp : Blk W w.heap.size 26 #[.slice A1 n1 c1, .slice A2 n2 c2, .slice A3 n3 c3, .slice A4 n4 c4] := by subst hW; exact (Blk.new_at _ _ rfl).alloc _
  have jr : Blk W (w.heap.size + 1) 26 nil4 := by subst hW; exact Blk.new_at _ _ (by simp)
  clear hW
  refine (HC.out W ((h.below hBW).more (by omega))).mono ?_
  rintro e w1 ⟨rfl, hb⟩
  have hB1 : Below w.heap.size w w1 := hBW.trans (Below.mono hb (by omega))
  have hz1 : w.heap.size + 2 ≤ w1.heap.size := by have := Below.size hb; omega
  have jp1 := jp.ext hb
  have jr1 := jr.ext hb
  clear jp jr hBW HC hb hzW
  have hp0 := jp1.cell 0
  have hp1 := jp1.cell 1
  have hp2 := jp1.cell 2
  have hp3 := jp1.cell 3
  cases hk0 : (validB p)
  · have hall : (validB p && ownerB o && inB u 1 1000000) = false := (by simp [hk0])
    rw [hall] at HR
    clear hall
    clear hk0
    have hc0 := jr1.cell 0
    have hc1 := jr1.cell 1
    have hc2 := jr1.cell 2
    have hc3 := jr1.cell 3
    have hf0 := jr1.frozen 0
    have hf1 := jr1.frozen 1
    have hf2 := jr1.frozen 2
    have hf3 := jr1.frozen 3
    go_wp2_with (first | (go_at_call 41; refine (rowner_any _ _).mono ?_; rintro e w' ⟨rfl, rfl⟩) | (go_at_call 40; refine (rin_any _ _ _ _).mono ?_; rintro e w' ⟨rfl, rfl⟩))
    generalize hW4 : ((((w1.setCell ⟨w.heap.size + 1, 0, none⟩ _).setCell ⟨w.heap.size + 1, 1, none⟩ _).setCell ⟨w.heap.size + 1, 2, none⟩ _).setCell ⟨w.heap.size + 1, 3, none⟩ _) = w4
    have j4 : Blk w4 (w.heap.size + 1) 26 nil4 := by subst hW4; exact jr1.set4 _ _ _ _
    have hB4 : Below w.heap.size w w4 := by subst hW4; exact below_set4 hB1 (by omega) _ _ _ _
    clear hc0 hc1 hc2 hc3
    have hc0 := j4.cell 0
    have hc1 := j4.cell 1
    have hc2 := j4.cell 2
    have hc3 := j4.cell 3
    exact bodyPost_ret (v := .tuple #[nilV, .int .i64 250]) (by simp [results, Try.results51, go_sem, hc0, hc1, hc2, hc3, nilV]) rfl ⟨_, rfl, hB4, .inl ⟨HR.out.trans rfl, rfl⟩⟩
  cases hk1 : (ownerB o)
  · have hall : (validB p && ownerB o && inB u 1 1000000) = false := (by simp [hk1])
    rw [hall] at HR
    clear hall
    have hc0 := jr1.cell 0
    have hc1 := jr1.cell 1
    have hc2 := jr1.cell 2
    have hc3 := jr1.cell 3
    have hf0 := jr1.frozen 0
    have hf1 := jr1.frozen 1
    have hf2 := jr1.frozen 2
    have hf3 := jr1.frozen 3
    go_wp2_with (first | (go_at_call 41; refine (rowner_any _ _).mono ?_; rintro e w' ⟨rfl, rfl⟩) | (go_at_call 40; refine (rin_any _ _ _ _).mono ?_; rintro e w' ⟨rfl, rfl⟩))
    generalize hW4 : ((((w1.setCell ⟨w.heap.size + 1, 0, none⟩ _).setCell ⟨w.heap.size + 1, 1, none⟩ _).setCell ⟨w.heap.size + 1, 2, none⟩ _).setCell ⟨w.heap.size + 1, 3, none⟩ _) = w4
    have j4 : Blk w4 (w.heap.size + 1) 26 nil4 := by subst hW4; exact jr1.set4 _ _ _ _
    have hB4 : Below w.heap.size w w4 := by subst hW4; exact below_set4 hB1 (by omega) _ _ _ _
    clear hc0 hc1 hc2 hc3
    have hc0 := j4.cell 0
    have hc1 := j4.cell 1
    have hc2 := j4.cell 2
    have hc3 := j4.cell 3
    exact bodyPost_ret (v := .tuple #[nilV, .int .i64 250]) (by simp [results, Try.results51, go_sem, hc0, hc1, hc2, hc3, nilV]) rfl ⟨_, rfl, hB4, .inl ⟨HR.out.trans rfl, rfl⟩⟩
  cases hk2 : (inB u 1 1000000)
  · have hall : (validB p && ownerB o && inB u 1 1000000) = false := (by simp [hk2])
    rw [hall] at HR
    clear hall
    have hc0 := jr1.cell 0
    have hc1 := jr1.cell 1
    have hc2 := jr1.cell 2
    have hc3 := jr1.cell 3
    have hf0 := jr1.frozen 0
    have hf1 := jr1.frozen 1
    have hf2 := jr1.frozen 2
    have hf3 := jr1.frozen 3
    go_wp2_with (first | (go_at_call 41; refine (rowner_any _ _).mono ?_; rintro e w' ⟨rfl, rfl⟩) | (go_at_call 40; refine (rin_any _ _ _ _).mono ?_; rintro e w' ⟨rfl, rfl⟩))
    generalize hW4 : ((((w1.setCell ⟨w.heap.size + 1, 0, none⟩ _).setCell ⟨w.heap.size + 1, 1, none⟩ _).setCell ⟨w.heap.size + 1, 2, none⟩ _).setCell ⟨w.heap.size + 1, 3, none⟩ _) = w4
    have j4 : Blk w4 (w.heap.size + 1) 26 nil4 := by subst hW4; exact jr1.set4 _ _ _ _
    have hB4 : Below w.heap.size w w4 := by subst hW4; exact below_set4 hB1 (by omega) _ _ _ _
    clear hc0 hc1 hc2 hc3
    have hc0 := j4.cell 0
    have hc1 := j4.cell 1
    have hc2 := j4.cell 2
    have hc3 := j4.cell 3
    exact bodyPost_ret (v := .tuple #[nilV, .int .i64 250]) (by simp [results, Try.results51, go_sem, hc0, hc1, hc2, hc3, nilV]) rfl ⟨_, rfl, hB4, .inl ⟨HR.out.trans rfl, rfl⟩⟩
  have hall : (validB p && ownerB o && inB u 1 1000000) = true := (by simp [hk0, hk1, hk2])
  rw [hall] at HR
  clear hall
  have hvp : validB p = true := hk0
  have h12 : 0 ≤ o ∧ o ≤ 15 := inB_iff.1 hk1
  obtain ⟨h1, h2⟩ := h12
  obtain ⟨h5, h6⟩ := inB_iff.1 hk2
  obtain ⟨on, rfl⟩ : ∃ n : Nat, o = (n : Int) := ⟨o.toNat, by omega⟩
  have lt_on : on < 16 := by omega
  have li_on : (on : Int) < 16 := by omega
  simp only [Int.toNat_natCast] at HR
  have hvv := valid_parts hvp
  have HB := Lib.hid (st_bd ⟨hvv.1, hvv.2.1, hvv.2.2.1⟩)
  have HL := Lib.hid hvv.2.2.2.1
  go_wp2_with (first | (go_at_call 41; refine (rowner_any _ _).mono ?_; rintro e w' ⟨rfl, rfl⟩) | (go_at_call 40; refine (rin_any _ _ _ _).mono ?_; rintro e w' ⟨rfl, rfl⟩))
  refine (HCP.out w1 ((h.below hB1).more (by omega)) (within_len hvv.1) (within_len hvv.2.1) (within_len hvv.2.2.1)).mono ?_
  rintro e w2 ⟨g1, c1, g2, c2, ⟨A3, n3, c3⟩, g4, c4, rfl, hb, hrow, ho3, hn3⟩
  have hn3 : n3 ≤ 1099511627776 := hn3
  clear HCP hvv hk0 hk1 hk2 h hp0 hp1 hp2 hp3 jp1
  go_wp2_with fail
  generalize hW : w2.alloc _ = W0
  have hq : QS w W0 w2.heap.size (w.heap.size + 1) g1 c1 g2 c2 A3 n3 c3 g4 c4 p.loans p.st := by
    subst hW
    have hxa : Ext w2 (w2.alloc (.cells #[.slice (some ⟨g1, 0, none⟩) 16 c1, .slice (some ⟨g2, 0, none⟩) 16 c2, .slice A3 n3 c3, .slice (some ⟨g4, 0, none⟩) 16 c4] 26)) := (by repeat (first | exact Below.refl _ _ | assumption | refine Below.drew ?_ | refine below_drewN ?_ _ | refine bl_alloc ?_ _ | refine Below.setCell ?_ (by first | (simp; done) | omega | (simp; omega)) _ | refine bl_then ?_ (by assumption)))
    have hr2 := hrow.ext hxa
    exact ⟨⟨own_base hr2.r1 (by omega), own_base hr2.r2 (by omega), own_base hr2.r4 (by omega), hr2.d12, hr2.d14, hr2.d24⟩, own_base (own_ext ho3 hxa) (by omega), Blk.new_at _ _ rfl, (jr1.ext hb).ext hxa, (hB1.trans (Below.mono hb (by omega))).trans (Below.mono hxa (by have := Below.size hb; omega))⟩
  generalize w2.heap.size = Bq at hq ⊢
  generalize hBr : w.heap.size + 1 = Br at hq ⊢
  have hgBr : w.heap.size ≤ Br := by omega
  clear hW hb hrow ho3 hB1 jr1 hBr hz1
  obtain ⟨s0, hs⟩ : ∃ q, q = p.st := ⟨_, rfl⟩
  rw [← hs] at hq HB
  have HS := Lib.hid hs
  clear hs
  have hcx : W0.cell? ⟨g1, on, none⟩ = some (.int .i64 ((s0.get 0).getD on 0)) := (hq.rows.cell (f := 0) (.inl rfl) lt_on).1
  have hfx : ∀ W', Ext W0 W' → W'.frozen? ⟨g1, on, none⟩ = false := fun W' hx => ((hq.drew hx).rows.cell (f := 0) (.inl rfl) lt_on).2
  have pq : W0.cell? ⟨Bq, 0, none⟩ = some (.slice (some ⟨g1, 0, none⟩) 16 c1) := hq.jq.cell 0
  have hbx := HB.out 0 (.inl rfl) on
  have hwx : ∀ W', Ext W0 W' → QS w (W'.setCell ⟨g1, on, none⟩ (.int .i64 ((s0.get 0).getD on 0 + u))) Bq Br g1 c1 g2 c2 A3 n3 c3 g4 c4 p.loans (s0.upd 0 on (u)) := fun W' hx => (hq.drew hx).write (f := 0) (.inl rfl) lt_on (u)
  have hdx : ∀ W', Ext W0 W' → QS w W' Bq Br g1 c1 g2 c2 A3 n3 c3 g4 c4 p.loans s0 := fun W' hx => hq.drew hx
  have hbs := upd_bd HB.out (D := 1000000000000) (by omega) 0 on (u) (.inl rfl) (by omega)
  have hne : Bq ≠ g1 := (by obtain ⟨_, hb⟩ := hq.rows.blk (f := 0) (.inl rfl); exact hq.jq.ne_ hb (by decide))
  have hs : s0.upd 0 on (u) = p.st.upd 0 on (u) := (by rw [HS.out])
  generalize (s0.get 0).getD on 0 = xx at hcx hbx hwx
  generalize s0.upd 0 on (u) = s1 at hwx hbs hs
  have HWX := Lib.hid hwx
  have HDX := Lib.hid hdx
  have HFX := Lib.hid hfx
  have hx1 := hbx.1
  have hx2 := hbx.2
  clear hq hbx hwx hdx HB HS hfx
  have HB := Lib.hid hbs
  have HS := Lib.hid hs
  clear hbs hs
  refine wp_region_obl 11 (fun ix vals v w1 => match ix with | 0 => v = .pointer (some ⟨Bq, 0, none⟩) | 1 => v = .slice (some ⟨g1, 0, none⟩) 16 c1 | 2 => v = .int .i64 (on : Int) | 3 => v = .pointer (some ⟨Bq, 0, none⟩) | 4 => v = .slice (some ⟨g1, 0, none⟩) 16 c1 | 5 => v = .int .i64 (on : Int) | 6 => v = .pointer (some ⟨g1, on, none⟩) | 7 => v = .int .i64 xx | 8 => v = .int .i64 u | 9 => v = .int .i64 (xx + u) | _ => v = .pointer (some ⟨g1, on, none⟩)) (by kernel_rfl) (by kernel_rfl) ?_ ?_ ?_ ?_
  · intro ix vals v w1 w2 hi hr hx
    match ix, hr with
    | 0, hr => exact hr
    | 1, hr => exact hr
    | 2, hr => exact hr
    | 3, hr => exact hr
    | 4, hr => exact hr
    | 5, hr => exact hr
    | 6, hr => exact hr
    | 7, hr => exact hr
    | 8, hr => exact hr
    | 9, hr => exact hr
    | (kx + 10), hr => exact hr
  · intro ix vals vals_ v w1 hi hv hr
    exact hr
  · refine ⟨?_, ?_, ?_, ?_, ?_, ?_, ?_, ?_, ?_, ?_, ?_, trivial⟩
    · intro vals w1 hx hd ha
      clear hd ha
      simp only [Lf]
      have pq := ext_cell hx pq
      have hcx := ext_cell hx hcx
      go_wp2
      exact ⟨rfl, Ext.refl _, rfl⟩
    · intro vals w1 hx hd ha
      have e0 : vals 0 = .pointer (some ⟨Bq, 0, none⟩) := hd 0 (by decide)
      clear hd ha
      simp only [Lf, dstAt, Act.put, List.getElem?_toArray, List.getElem?_cons_zero, Option.bind_some, List.setIfInBounds_toArray, List.set_cons_zero, List.set_cons_succ]
      simp only [e0]
      clear e0
      have pq := ext_cell hx pq
      have hcx := ext_cell hx hcx
      go_wp2
      exact ⟨rfl, Ext.refl _, rfl⟩
    · intro vals w1 hx hd ha
      clear hd ha
      simp only [Lf, dstAt, Act.put, List.getElem?_toArray, List.getElem?_cons_zero, List.getElem?_cons_succ, Option.bind_some, List.setIfInBounds_toArray, List.set_cons_zero, List.set_cons_succ]
      have pq := ext_cell hx pq
      have hcx := ext_cell hx hcx
      go_wp2
      exact ⟨rfl, Ext.refl _, rfl⟩
    · intro vals w1 hx hd ha
      clear hd ha
      simp only [Lf, dstAt, Act.put, List.getElem?_toArray, List.getElem?_cons_zero, List.getElem?_cons_succ, Option.bind_some, List.setIfInBounds_toArray, List.set_cons_zero, List.set_cons_succ]
      have pq := ext_cell hx pq
      have hcx := ext_cell hx hcx
      go_wp2
      exact ⟨rfl, Ext.refl _, rfl⟩
    · intro vals w1 hx hd ha
      have e3 : vals 3 = .pointer (some ⟨Bq, 0, none⟩) := hd 3 (by decide)
      clear hd ha
      simp only [Lf, dstAt, Act.put, List.getElem?_toArray, List.getElem?_cons_zero, List.getElem?_cons_succ, Option.bind_some, List.setIfInBounds_toArray, List.set_cons_zero, List.set_cons_succ]
      simp only [e3]
      clear e3
      have pq := ext_cell hx pq
      have hcx := ext_cell hx hcx
      go_wp2
      exact ⟨rfl, Ext.refl _, rfl⟩
    · intro vals w1 hx hd ha
      clear hd ha
      simp only [Lf, dstAt, Act.put, List.getElem?_toArray, List.getElem?_cons_zero, List.getElem?_cons_succ, Option.bind_some, List.setIfInBounds_toArray, List.set_cons_zero, List.set_cons_succ]
      have pq := ext_cell hx pq
      have hcx := ext_cell hx hcx
      go_wp2
      exact ⟨rfl, Ext.refl _, rfl⟩
    · intro vals w1 hx hd ha
      have e4 : vals 4 = .slice (some ⟨g1, 0, none⟩) 16 c1 := hd 4 (by decide)
      have e5 : vals 5 = .int .i64 (on : Int) := hd 5 (by decide)
      clear hd ha
      simp only [Lf, dstAt, Act.put, List.getElem?_toArray, List.getElem?_cons_zero, List.getElem?_cons_succ, Option.bind_some, List.setIfInBounds_toArray, List.set_cons_zero, List.set_cons_succ]
      simp only [e4, e5]
      clear e4 e5
      have pq := ext_cell hx pq
      have hcx := ext_cell hx hcx
      go_wp2
      exact ⟨rfl, Ext.refl _, rfl⟩
    · intro vals w1 hx hd ha
      have e6 : vals 6 = .pointer (some ⟨g1, on, none⟩) := hd 6 (by decide)
      clear hd ha
      simp only [Lf, dstAt, Act.put, List.getElem?_toArray, List.getElem?_cons_zero, List.getElem?_cons_succ, Option.bind_some, List.setIfInBounds_toArray, List.set_cons_zero, List.set_cons_succ]
      simp only [e6]
      clear e6
      have pq := ext_cell hx pq
      have hcx := ext_cell hx hcx
      go_wp2
      exact ⟨rfl, Ext.refl _, rfl⟩
    · intro vals w1 hx hd ha
      clear hd ha
      simp only [Lf, dstAt, Act.put, List.getElem?_toArray, List.getElem?_cons_zero, List.getElem?_cons_succ, Option.bind_some, List.setIfInBounds_toArray, List.set_cons_zero, List.set_cons_succ]
      have pq := ext_cell hx pq
      have hcx := ext_cell hx hcx
      go_wp2
      exact ⟨rfl, Ext.refl _, rfl⟩
    · intro vals w1 hx hd ha
      have e7 : vals 7 = .int .i64 xx := hd 7 (by decide)
      have e8 : vals 8 = .int .i64 u := hd 8 (by decide)
      clear hd ha
      simp only [Lf, dstAt, Act.put, List.getElem?_toArray, List.getElem?_cons_zero, List.getElem?_cons_succ, Option.bind_some, List.setIfInBounds_toArray, List.set_cons_zero, List.set_cons_succ]
      simp only [e7, e8]
      clear e7 e8
      have pq := ext_cell hx pq
      have hcx := ext_cell hx hcx
      go_wp2
      exact ⟨rfl, Ext.refl _, rfl⟩
    · intro vals w1 hx hd ha
      have e0 : vals 0 = .pointer (some ⟨Bq, 0, none⟩) := hd 0 (by decide)
      have e1 : vals 1 = .slice (some ⟨g1, 0, none⟩) 16 c1 := hd 1 (by decide)
      have e2 : vals 2 = .int .i64 (on : Int) := hd 2 (by decide)
      have e3 : vals 3 = .pointer (some ⟨Bq, 0, none⟩) := hd 3 (by decide)
      have e4 : vals 4 = .slice (some ⟨g1, 0, none⟩) 16 c1 := hd 4 (by decide)
      have e5 : vals 5 = .int .i64 (on : Int) := hd 5 (by decide)
      have e6 : vals 6 = .pointer (some ⟨g1, on, none⟩) := hd 6 (by decide)
      have e7 : vals 7 = .int .i64 xx := hd 7 (by decide)
      have e8 : vals 8 = .int .i64 u := hd 8 (by decide)
      have e9 : vals 9 = .int .i64 (xx + u) := hd 9 (by decide)
      clear hd ha
      simp only [Lf, dstAt, Act.put, List.getElem?_toArray, List.getElem?_cons_zero, List.getElem?_cons_succ, Option.bind_some, List.setIfInBounds_toArray, List.set_cons_zero, List.set_cons_succ]
      simp only [e0, e1, e2, e3, e4, e5, e6, e7, e8, e9]
      clear e0 e1 e2 e3 e4 e5 e6 e7 e8 e9
      have pq := ext_cell hx pq
      have hcx := ext_cell hx hcx
      go_wp2
      exact ⟨rfl, Ext.refl _, rfl⟩
  intro vals w9 hx hf
  have f9 : vals 9 = .int .i64 (xx + u) := hf 9 (by omega)
  have f10 : vals 10 = .pointer (some ⟨g1, on, none⟩) := hf 10 (by omega)
  clear hf
  have hx := hx.undrew
  have hcx := ext_cell hx hcx
  have hfx := HFX.out w9 hx
  have hq := HWX.out w9 hx
  have hq0 := HDX.out w9 hx
  have p0 := hq0.jq.cell 0
  have p1 := hq0.jq.cell 1
  have p2 := hq0.jq.cell 2
  have p3 := hq0.jq.cell 3
  clear hx HWX HDX HFX pq hq0
  refine tail1 11 _ (by kernel_rfl) (by kernel_rfl) rfl ?_
  simp only [Lf, dstAt, Act.put, List.getElem?_toArray, List.getElem?_cons_zero, List.getElem?_cons_succ, Option.bind_some, List.setIfInBounds_toArray, List.set_cons_zero, List.set_cons_succ]
  rw [f9, f10]
  clear f9 f10
  have HQ := Lib.hid hq
  clear hq
  go_wp2_with fail
  have hq := HQ.out
  clear HQ hcx hfx p0 p1 p2 p3 hne
  generalize hW9 : w9.setCell ⟨g1, on, none⟩ (.int .i64 (xx + u)) = W1 at hq ⊢
  clear hW9 hx1 hx2
  have hcx : W1.cell? ⟨g2, on, none⟩ = some (.int .i64 ((s1.get 1).getD on 0)) := (hq.rows.cell (f := 1) (.inr (.inl rfl)) lt_on).1
  have hfx : ∀ W', Ext W1 W' → W'.frozen? ⟨g2, on, none⟩ = false := fun W' hx => ((hq.drew hx).rows.cell (f := 1) (.inr (.inl rfl)) lt_on).2
  have pq : W1.cell? ⟨Bq, 1, none⟩ = some (.slice (some ⟨g2, 0, none⟩) 16 c2) := hq.jq.cell 1
  have hbx := HB.out 1 (.inr (.inl rfl)) on
  have hwx : ∀ W', Ext W1 W' → QS w (W'.setCell ⟨g2, on, none⟩ (.int .i64 ((s1.get 1).getD on 0 + -u))) Bq Br g1 c1 g2 c2 A3 n3 c3 g4 c4 p.loans (s1.upd 1 on (-u)) := fun W' hx => (hq.drew hx).write (f := 1) (.inr (.inl rfl)) lt_on (-u)
  have hdx : ∀ W', Ext W1 W' → QS w W' Bq Br g1 c1 g2 c2 A3 n3 c3 g4 c4 p.loans s1 := fun W' hx => hq.drew hx
  have hbs := upd_bd HB.out (D := 1000000000000) (by omega) 1 on (-u) (.inr (.inl rfl)) (by omega)
  have hne : Bq ≠ g2 := (by obtain ⟨_, hb⟩ := hq.rows.blk (f := 1) (.inr (.inl rfl)); exact hq.jq.ne_ hb (by decide))
  have hs : s1.upd 1 on (-u) = (p.st.upd 0 on (u)).upd 1 on (-u) := (by rw [HS.out])
  generalize (s1.get 1).getD on 0 = xx at hcx hbx hwx
  generalize s1.upd 1 on (-u) = s2 at hwx hbs hs
  have HWX := Lib.hid hwx
  have HDX := Lib.hid hdx
  have HFX := Lib.hid hfx
  have hx1 := hbx.1
  have hx2 := hbx.2
  clear hq hbx hwx hdx HB HS hfx
  have HB := Lib.hid hbs
  have HS := Lib.hid hs
  clear hbs hs
  refine wp_region_obl 11 (fun ix vals v w1 => match ix with | 0 => v = .pointer (some ⟨Bq, 1, none⟩) | 1 => v = .slice (some ⟨g2, 0, none⟩) 16 c2 | 2 => v = .int .i64 (on : Int) | 3 => v = .pointer (some ⟨Bq, 1, none⟩) | 4 => v = .slice (some ⟨g2, 0, none⟩) 16 c2 | 5 => v = .int .i64 (on : Int) | 6 => v = .pointer (some ⟨g2, on, none⟩) | 7 => v = .int .i64 xx | 8 => v = .int .i64 u | 9 => v = .int .i64 (xx + -u) | _ => v = .pointer (some ⟨g2, on, none⟩)) (by kernel_rfl) (by kernel_rfl) ?_ ?_ ?_ ?_
  · intro ix vals v w1 w2 hi hr hx
    match ix, hr with
    | 0, hr => exact hr
    | 1, hr => exact hr
    | 2, hr => exact hr
    | 3, hr => exact hr
    | 4, hr => exact hr
    | 5, hr => exact hr
    | 6, hr => exact hr
    | 7, hr => exact hr
    | 8, hr => exact hr
    | 9, hr => exact hr
    | (kx + 10), hr => exact hr
  · intro ix vals vals_ v w1 hi hv hr
    exact hr
  · refine ⟨?_, ?_, ?_, ?_, ?_, ?_, ?_, ?_, ?_, ?_, ?_, trivial⟩
    · intro vals w1 hx hd ha
      clear hd ha
      simp only [Lf]
      have pq := ext_cell hx pq
      have hcx := ext_cell hx hcx
      go_wp2
      exact ⟨rfl, Ext.refl _, rfl⟩
    · intro vals w1 hx hd ha
      have e0 : vals 0 = .pointer (some ⟨Bq, 1, none⟩) := hd 0 (by decide)
      clear hd ha
      simp only [Lf, dstAt, Act.put, List.getElem?_toArray, List.getElem?_cons_zero, Option.bind_some, List.setIfInBounds_toArray, List.set_cons_zero, List.set_cons_succ]
      simp only [e0]
      clear e0
      have pq := ext_cell hx pq
      have hcx := ext_cell hx hcx
      go_wp2
      exact ⟨rfl, Ext.refl _, rfl⟩
    · intro vals w1 hx hd ha
      clear hd ha
      simp only [Lf, dstAt, Act.put, List.getElem?_toArray, List.getElem?_cons_zero, List.getElem?_cons_succ, Option.bind_some, List.setIfInBounds_toArray, List.set_cons_zero, List.set_cons_succ]
      have pq := ext_cell hx pq
      have hcx := ext_cell hx hcx
      go_wp2
      exact ⟨rfl, Ext.refl _, rfl⟩
    · intro vals w1 hx hd ha
      clear hd ha
      simp only [Lf, dstAt, Act.put, List.getElem?_toArray, List.getElem?_cons_zero, List.getElem?_cons_succ, Option.bind_some, List.setIfInBounds_toArray, List.set_cons_zero, List.set_cons_succ]
      have pq := ext_cell hx pq
      have hcx := ext_cell hx hcx
      go_wp2
      exact ⟨rfl, Ext.refl _, rfl⟩
    · intro vals w1 hx hd ha
      have e3 : vals 3 = .pointer (some ⟨Bq, 1, none⟩) := hd 3 (by decide)
      clear hd ha
      simp only [Lf, dstAt, Act.put, List.getElem?_toArray, List.getElem?_cons_zero, List.getElem?_cons_succ, Option.bind_some, List.setIfInBounds_toArray, List.set_cons_zero, List.set_cons_succ]
      simp only [e3]
      clear e3
      have pq := ext_cell hx pq
      have hcx := ext_cell hx hcx
      go_wp2
      exact ⟨rfl, Ext.refl _, rfl⟩
    · intro vals w1 hx hd ha
      clear hd ha
      simp only [Lf, dstAt, Act.put, List.getElem?_toArray, List.getElem?_cons_zero, List.getElem?_cons_succ, Option.bind_some, List.setIfInBounds_toArray, List.set_cons_zero, List.set_cons_succ]
      have pq := ext_cell hx pq
      have hcx := ext_cell hx hcx
      go_wp2
      exact ⟨rfl, Ext.refl _, rfl⟩
    · intro vals w1 hx hd ha
      have e4 : vals 4 = .slice (some ⟨g2, 0, none⟩) 16 c2 := hd 4 (by decide)
      have e5 : vals 5 = .int .i64 (on : Int) := hd 5 (by decide)
      clear hd ha
      simp only [Lf, dstAt, Act.put, List.getElem?_toArray, List.getElem?_cons_zero, List.getElem?_cons_succ, Option.bind_some, List.setIfInBounds_toArray, List.set_cons_zero, List.set_cons_succ]
      simp only [e4, e5]
      clear e4 e5
      have pq := ext_cell hx pq
      have hcx := ext_cell hx hcx
      go_wp2
      exact ⟨rfl, Ext.refl _, rfl⟩
    · intro vals w1 hx hd ha
      have e6 : vals 6 = .pointer (some ⟨g2, on, none⟩) := hd 6 (by decide)
      clear hd ha
      simp only [Lf, dstAt, Act.put, List.getElem?_toArray, List.getElem?_cons_zero, List.getElem?_cons_succ, Option.bind_some, List.setIfInBounds_toArray, List.set_cons_zero, List.set_cons_succ]
      simp only [e6]
      clear e6
      have pq := ext_cell hx pq
      have hcx := ext_cell hx hcx
      go_wp2
      exact ⟨rfl, Ext.refl _, rfl⟩
    · intro vals w1 hx hd ha
      clear hd ha
      simp only [Lf, dstAt, Act.put, List.getElem?_toArray, List.getElem?_cons_zero, List.getElem?_cons_succ, Option.bind_some, List.setIfInBounds_toArray, List.set_cons_zero, List.set_cons_succ]
      have pq := ext_cell hx pq
      have hcx := ext_cell hx hcx
      go_wp2
      exact ⟨rfl, Ext.refl _, rfl⟩
    · intro vals w1 hx hd ha
      have e7 : vals 7 = .int .i64 xx := hd 7 (by decide)
      have e8 : vals 8 = .int .i64 u := hd 8 (by decide)
      clear hd ha
      simp only [Lf, dstAt, Act.put, List.getElem?_toArray, List.getElem?_cons_zero, List.getElem?_cons_succ, Option.bind_some, List.setIfInBounds_toArray, List.set_cons_zero, List.set_cons_succ]
      simp only [e7, e8]
      clear e7 e8
      have pq := ext_cell hx pq
      have hcx := ext_cell hx hcx
      go_wp2
      exact ⟨rfl, Ext.refl _, rfl⟩
    · intro vals w1 hx hd ha
      have e0 : vals 0 = .pointer (some ⟨Bq, 1, none⟩) := hd 0 (by decide)
      have e1 : vals 1 = .slice (some ⟨g2, 0, none⟩) 16 c2 := hd 1 (by decide)
      have e2 : vals 2 = .int .i64 (on : Int) := hd 2 (by decide)
      have e3 : vals 3 = .pointer (some ⟨Bq, 1, none⟩) := hd 3 (by decide)
      have e4 : vals 4 = .slice (some ⟨g2, 0, none⟩) 16 c2 := hd 4 (by decide)
      have e5 : vals 5 = .int .i64 (on : Int) := hd 5 (by decide)
      have e6 : vals 6 = .pointer (some ⟨g2, on, none⟩) := hd 6 (by decide)
      have e7 : vals 7 = .int .i64 xx := hd 7 (by decide)
      have e8 : vals 8 = .int .i64 u := hd 8 (by decide)
      have e9 : vals 9 = .int .i64 (xx + -u) := hd 9 (by decide)
      clear hd ha
      simp only [Lf, dstAt, Act.put, List.getElem?_toArray, List.getElem?_cons_zero, List.getElem?_cons_succ, Option.bind_some, List.setIfInBounds_toArray, List.set_cons_zero, List.set_cons_succ]
      simp only [e0, e1, e2, e3, e4, e5, e6, e7, e8, e9]
      clear e0 e1 e2 e3 e4 e5 e6 e7 e8 e9
      have pq := ext_cell hx pq
      have hcx := ext_cell hx hcx
      go_wp2
      exact ⟨rfl, Ext.refl _, rfl⟩
  intro vals w9 hx hf
  have f9 : vals 9 = .int .i64 (xx + -u) := hf 9 (by omega)
  have f10 : vals 10 = .pointer (some ⟨g2, on, none⟩) := hf 10 (by omega)
  clear hf
  have hx := hx.undrew
  have hcx := ext_cell hx hcx
  have hfx := HFX.out w9 hx
  have hq := HWX.out w9 hx
  have hq0 := HDX.out w9 hx
  have p0 := hq0.jq.cell 0
  have p1 := hq0.jq.cell 1
  have p2 := hq0.jq.cell 2
  have p3 := hq0.jq.cell 3
  clear hx HWX HDX HFX pq hq0
  refine tail1 11 _ (by kernel_rfl) (by kernel_rfl) rfl ?_
  simp only [Lf, dstAt, Act.put, List.getElem?_toArray, List.getElem?_cons_zero, List.getElem?_cons_succ, Option.bind_some, List.setIfInBounds_toArray, List.set_cons_zero, List.set_cons_succ]
  rw [f9, f10]
  clear f9 f10
  have HQ := Lib.hid hq
  clear hq
  go_wp2_with fail
  have hq := HQ.out
  clear HQ hcx hfx p0 p1 p2 p3 hne
  generalize hW9 : w9.setCell ⟨g2, on, none⟩ (.int .i64 (xx + -u)) = W2 at hq ⊢
  clear hW9 hx1 hx2
  have hsz := hq.below.size
  obtain ⟨w5, hw5⟩ : ∃ q, q = W2 := ⟨_, rfl⟩
  rw [← hw5] at hq ⊢
  clear hw5
  obtain ⟨D3, hD3⟩ : ∃ q, q = A3 := ⟨_, rfl⟩
  obtain ⟨m3, hm3⟩ : ∃ q, q = n3 := ⟨_, rfl⟩
  obtain ⟨d3, hd3⟩ : ∃ q, q = c3 := ⟨_, rfl⟩
  rw [← hD3, ← hm3, ← hd3] at hq ⊢
  rw [← hm3] at hn3
  clear hD3 hm3 hd3
  have hpo : PoolOwnA w5 w.heap.size ⟨some ⟨g1, 0, none⟩, 16, c1⟩ ⟨some ⟨g2, 0, none⟩, 16, c2⟩ ⟨D3, m3, d3⟩ ⟨some ⟨g4, 0, none⟩, 16, c4⟩ ⟨s2.h, s2.u, p.loans, s2.c⟩ := ⟨⟨hq.rows.r1, hq.rows.r2, hq.o3, hq.rows.r4, by show 16 ≤ 1099511627776; omega, by show 16 ≤ 1099511627776; omega, hn3, by show 16 ≤ 1099511627776; omega⟩, g1, g2, g4, rfl, rfl, rfl, hq.rows.d12, hq.rows.d14, hq.rows.d24⟩
  have jr5 := hq.jr
  have hB5 := hq.below
  clear hq HB HL hsz
  have hr : r = if validB ⟨s2.h, s2.u, p.loans, s2.c⟩ = true then some ⟨s2.h, s2.u, p.loans, s2.c⟩ else none := by rw [HR.out, HS.out]; rfl
  refine (result_any ⟨some ⟨g1, 0, none⟩, 16, c1⟩ ⟨some ⟨g2, 0, none⟩, 16, c2⟩ ⟨D3, m3, d3⟩ ⟨some ⟨g4, 0, none⟩, 16, c4⟩ _ w5 hpo.pool).mono ?_
  rintro e w6 ⟨rfl, hx6⟩
  have hpo6 := hpo.ext hx6
  have jr6 := jr5.ext hx6
  have hB6 := hB5.trans (Below.mono hx6 hB5.size)
  clear hpo jr5 hB5 hx6 HS HR
  generalize (⟨s2.h, s2.u, p.loans, s2.c⟩ : Pool) = q at hr hpo6 ⊢
  have hc0 := jr6.cell 0
  have hc1 := jr6.cell 1
  have hc2 := jr6.cell 2
  have hc3 := jr6.cell 3
  have hf0 := jr6.frozen 0
  have hf1 := jr6.frozen 1
  have hf2 := jr6.frozen 2
  have hf3 := jr6.frozen 3
  generalize validB q = vb at hr ⊢
  have HR := Lib.hid hr
  have HPO := Lib.hid hpo6
  clear hr hpo6
  cases vb
  · simp only [resV, Bool.false_eq_true, if_false, nilV]
    go_wp2
    generalize hW4 : ((((w6.setCell ⟨Br, 0, none⟩ _).setCell ⟨Br, 1, none⟩ _).setCell ⟨Br, 2, none⟩ _).setCell ⟨Br, 3, none⟩ _) = w4
    have j4 : Blk w4 Br 26 nil4 := by subst hW4; exact jr6.set4 _ _ _ _
    have hB4 : Below w.heap.size w w4 := by subst hW4; exact below_set4 hB6 hgBr _ _ _ _
    clear hc0 hc1 hc2 hc3
    have hc0 := j4.cell 0
    have hc1 := j4.cell 1
    have hc2 := j4.cell 2
    have hc3 := j4.cell 3
    exact bodyPost_ret (v := .tuple #[nilV, .int .i64 250]) (by simp [results, Try.results51, go_sem, hc0, hc1, hc2, hc3, nilV]) rfl ⟨_, rfl, hB4, .inl ⟨HR.out, rfl⟩⟩
  · simp only [resV, if_true]
    go_wp2
    generalize hW4 : ((((w6.setCell ⟨Br, 0, none⟩ _).setCell ⟨Br, 1, none⟩ _).setCell ⟨Br, 2, none⟩ _).setCell ⟨Br, 3, none⟩ _) = w4
    have j4 : Blk w4 Br 26 #[.slice (some ⟨g1, 0, none⟩) 16 c1, .slice (some ⟨g2, 0, none⟩) 16 c2, .slice D3 m3 d3, .slice (some ⟨g4, 0, none⟩) 16 c4] := by subst hW4; exact jr6.set4 _ _ _ _
    have hB4 : Below w.heap.size w w4 := by subst hW4; exact below_set4 hB6 hgBr _ _ _ _
    have hp4 := by
      have hp4 := HPO.out.set4 jr6 (.slice (some ⟨g1, 0, none⟩) 16 c1) (.slice (some ⟨g2, 0, none⟩) 16 c2) (.slice D3 m3 d3) (.slice (some ⟨g4, 0, none⟩) 16 c4)
      rw [hW4] at hp4
      exact hp4
    clear hc0 hc1 hc2 hc3
    have hc0 := j4.cell 0
    have hc1 := j4.cell 1
    have hc2 := j4.cell 2
    have hc3 := j4.cell 3
    exact bodyPost_ret (v := .tuple #[poolV ⟨some ⟨g1, 0, none⟩, 16, c1⟩ ⟨some ⟨g2, 0, none⟩, 16, c2⟩ ⟨D3, m3, d3⟩ ⟨some ⟨g4, 0, none⟩, 16, c4⟩, .int .i64 0]) (by simp [results, Try.results51, go_sem, hc0, hc1, hc2, hc3]) rfl ⟨_, rfl, hB4, .inr ⟨_, _, _, _, _, HR.out, rfl, hp4⟩⟩

end Go.Proofs.Ytpddnkefggaigaa
