/- quota.Return, Trade, Use, Free by their contracts (printed by quota_ops.py). -/
import Derived.Test.YtpddnkefggaigaaO1
namespace Go.Proofs.Ytpddnkefggaigaa
open Go.RowKit


theorem return_change (s1 s2 s3 s4 : Sl) (p : Pool) (f t u : Int) (W : World) (h : PoolR W W.heap.size s1 s2 s3 s4 p) (pf pt pu : Addr) (yf : W.cell? pf = some (.int .i64 f)) (yt : W.cell? pt = some (.int .i64 t)) (yu : W.cell? pu = some (.int .i64 u)) :
    Calls Try.prog 52 #[poolV s1 s2 s3 s4, .bool (pairB f t u), loanV ⟨t, f, wrap64 (-u)⟩, .func (.func 56) #[] #[.pointer (some pf), .pointer (some pt), .pointer (some pu)]] W (PoolRet W (returnP p f t u)) := by
  by_cases hok : (pairB f t u) = true ∧ validB p = true
  · obtain ⟨h1, h2, h3, h4, _, h5, h6⟩ := pairB_iff hok.1
    obtain ⟨fn, rfl⟩ : ∃ n : Nat, f = (n : Int) := ⟨f.toNat, by omega⟩
    obtain ⟨tn, rfl⟩ : ∃ n : Nat, t = (n : Int) := ⟨t.toNat, by omega⟩
    have hr := change_do s1 s2 s3 s4 p ⟨tn, fn, -u⟩ [⟨0, fn, 0, tn, u⟩] W h hok.2 (fun m hm => by
      obtain rfl := List.mem_singleton.1 hm
      exact ⟨.inl rfl, .inl rfl, by dsimp only; omega, by dsimp only; omega, by dsimp only; omega, by dsimp only; omega⟩) (by simp) (by show -1000000 ≤ (-u : Int) ∧ (-u : Int) ≤ 1000000; omega) 56 #[.pointer (some pf), .pointer (some pt), .pointer (some pu)] (enters_fn Try.func56 (by kernel_rfl) rfl)
      (fun W2 Bq g1 c1 g2 c2 g4 c4 hx q0 q1 q3 => return_moves fn tn u W2 pf pt pu (ext_cell hx yf) (ext_cell hx yt) (ext_cell hx yu) (by omega) (by omega) Bq g1 c1 q0)
    have e : returnP p fn tn u = changeP p true ⟨tn, fn, -u⟩ [⟨0, fn, 0, tn, u⟩] := by
      unfold returnP
      rw [hok.1, Int.toNat_natCast, Int.toNat_natCast]
    have ew : wrap64 (-u) = -u := IntWalk.wrap64_in _ (by omega)
    rw [hok.1, e, ew]
    exact hr
  · have e : returnP p f t u = changeP p (pairB f t u) ⟨t, f, wrap64 (-u)⟩ [] := by unfold returnP changeP; rw [if_neg hok, if_neg hok]
    rw [e]
    exact change_refuse s1 s2 s3 s4 p _ _ _ _ W h hok _ _ rfl

set_option maxHeartbeats 1000000 in
theorem return_any (s1 s2 s3 s4 : Sl) (p : Pool) (f t u : Int) (w : World) (h : PoolR w w.heap.size s1 s2 s3 s4 p) :
    Calls Try.prog 28 #[poolV s1 s2 s3 s4, .int .i64 f, .int .i64 t, .int .i64 u] w (PoolRet w (returnP p f t u)) := by
  have hch := return_change s1 s2 s3 s4 p f t u
  obtain ⟨A1, n1, c1⟩ := s1; obtain ⟨A2, n2, c2⟩ := s2; obtain ⟨A3, n3, c3⟩ := s3; obtain ⟨A4, n4, c4⟩ := s4
  show Calls Try.prog 28 #[.agg #[.slice A1 n1 c1, .slice A2 n2 c2, .slice A3 n3 c3, .slice A4 n4 c4], .int .i64 f, .int .i64 t, .int .i64 u] w _
  generalize returnP p f t u = r at hch ⊢
  have HC := Lib.hid hch
  clear hch
  go_enter Try.func28, Try.ntmps28
  go_wp2_with fail
  generalize hW : ((((((w.alloc _).alloc _).alloc _).alloc _).alloc _)) = W
  have hBW : Below w.heap.size w W := by subst hW; exact (by repeat (first | exact Below.refl _ _ | assumption | refine Below.drew ?_ | refine below_drewN ?_ _ | refine bl_alloc ?_ _ | refine Below.setCell ?_ (by first | (simp; done) | omega | (simp; omega)) _ | refine bl_then ?_ (by assumption)))
  have hzW : w.heap.size + 5 ≤ W.heap.size := by subst hW; simp
  have jp : Blk W w.heap.size 26 #[.slice A1 n1 c1, .slice A2 n2 c2, .slice A3 n3 c3, .slice A4 n4 c4] := by subst hW; exact ((((Blk.new_at _ _ rfl).alloc _).alloc _).alloc _).alloc _
  have jf : Blk W (w.heap.size + 1) 3 #[.int .i64 f] := by subst hW; exact (((Blk.new_at _ _ (by simp)).alloc _).alloc _).alloc _
  have jt : Blk W (w.heap.size + 2) 3 #[.int .i64 t] := by subst hW; exact ((Blk.new_at _ _ (by simp)).alloc _).alloc _
  have ju : Blk W (w.heap.size + 3) 3 #[.int .i64 u] := by subst hW; exact (Blk.new_at _ _ (by simp)).alloc _
  have jr : Blk W (w.heap.size + 4) 26 nil4 := by subst hW; exact Blk.new_at _ _ (by simp)
  clear hW
  have p0 : W.cell? ⟨w.heap.size, 0, none⟩ = some (.slice A1 n1 c1) := jp.cell 0
  have p1 : W.cell? ⟨w.heap.size, 1, none⟩ = some (.slice A2 n2 c2) := jp.cell 1
  have p2 : W.cell? ⟨w.heap.size, 2, none⟩ = some (.slice A3 n3 c3) := jp.cell 2
  have p3 : W.cell? ⟨w.heap.size, 3, none⟩ = some (.slice A4 n4 c4) := jp.cell 3
  have yf : W.cell? ⟨w.heap.size + 1, 0, none⟩ = some (.int .i64 f) := jf.cell 0
  have yt : W.cell? ⟨w.heap.size + 2, 0, none⟩ = some (.int .i64 t) := jt.cell 0
  have yu : W.cell? ⟨w.heap.size + 3, 0, none⟩ = some (.int .i64 u) := ju.cell 0
  refine wp_region_obl 14 (fun ix vals v w1 => match ix with | 0 => v = .agg #[.slice A1 n1 c1, .slice A2 n2 c2, .slice A3 n3 c3, .slice A4 n4 c4] | 1 => v = .int .i64 f | 2 => v = .int .i64 t | 3 => v = .int .i64 u | 4 => v = .bool (pairB f t u) | 5 => v = .int .i64 t | 6 => v = .int .i64 f | 7 => v = .int .i64 u | 8 => v = .int .i64 (wrap64 (-u)) | 9 => v = .agg #[.int .i64 t, .int .i64 f, .int .i64 (wrap64 (-u))] | 10 => v = .func (.func 56) #[] #[.pointer (some ⟨w.heap.size + 1, 0, none⟩), .pointer (some ⟨w.heap.size + 2, 0, none⟩), .pointer (some ⟨w.heap.size + 3, 0, none⟩)] | 11 => PoolGot r w.heap.size v w1 | 12 => ∃ z, vals 11 = .tuple #[v, z] | _ => ∃ z, vals 11 = .tuple #[z, v]) (by kernel_rfl) (by kernel_rfl) ?_ ?_ ?_ ?_
  · intro ix vals v w1 w2 hi hr hx
    match ix, hr with
    | 0, hr => exact hr
    | 1, hr => exact hr
    | 2, hr => exact hr
    | 3, hr => exact hr
    | 4, hr => exact hr
    | 5, hr => exact hr
    | 6, hr => exact hr
    | 7, hr => exact hr
    | 8, hr => exact hr
    | 9, hr => exact hr
    | 10, hr => exact hr
    | 11, hr => exact hr.ext hx
    | 12, hr => exact hr
    | (kx + 13), hr => exact hr
  · intro ix vals vals_ v w1 hi hv hr
    match ix, hi, hv, hr with
    | 0, _, _, hr => exact hr
    | 1, _, _, hr => exact hr
    | 2, _, _, hr => exact hr
    | 3, _, _, hr => exact hr
    | 4, _, _, hr => exact hr
    | 5, _, _, hr => exact hr
    | 6, _, _, hr => exact hr
    | 7, _, _, hr => exact hr
    | 8, _, _, hr => exact hr
    | 9, _, _, hr => exact hr
    | 10, _, _, hr => exact hr
    | 11, _, _, hr => exact hr
    | 12, _, hv, hr => have e11 := hv 11 (by kernel_rfl); rw [← e11]; exact hr
    | (kx + 13), hi, hv, hr => obtain rfl : kx = 0 := (by omega); have e11 := hv 11 (by kernel_rfl); rw [← e11]; exact hr
  · refine ⟨?_, ?_, ?_, ?_, ?_, ?_, ?_, ?_, ?_, ?_, ?_, ?_, ?_, ?_, trivial⟩
    · intro vals w1 hx hd ha
      clear hd ha
      simp only [Lf]
      have p0 := ext_cell hx p0
      have p1 := ext_cell hx p1
      have p2 := ext_cell hx p2
      have p3 := ext_cell hx p3
      have yf := ext_cell hx yf
      have yt := ext_cell hx yt
      have yu := ext_cell hx yu
      go_wp2
      exact ⟨rfl, Ext.refl _, rfl⟩
    · intro vals w1 hx hd ha
      clear hd ha
      simp only [Lf, dstAt, Act.put, List.getElem?_toArray, List.getElem?_cons_zero, Option.bind_some, List.setIfInBounds_toArray, List.set_cons_zero, List.set_cons_succ]
      have p0 := ext_cell hx p0
      have p1 := ext_cell hx p1
      have p2 := ext_cell hx p2
      have p3 := ext_cell hx p3
      have yf := ext_cell hx yf
      have yt := ext_cell hx yt
      have yu := ext_cell hx yu
      go_wp2
      exact ⟨rfl, Ext.refl _, rfl⟩
    · intro vals w1 hx hd ha
      clear hd ha
      simp only [Lf, dstAt, Act.put, List.getElem?_toArray, List.getElem?_cons_zero, List.getElem?_cons_succ, Option.bind_some, List.setIfInBounds_toArray, List.set_cons_zero, List.set_cons_succ]
      have p0 := ext_cell hx p0
      have p1 := ext_cell hx p1
      have p2 := ext_cell hx p2
      have p3 := ext_cell hx p3
      have yf := ext_cell hx yf
      have yt := ext_cell hx yt
      have yu := ext_cell hx yu
      go_wp2
      exact ⟨rfl, Ext.refl _, rfl⟩
    · intro vals w1 hx hd ha
      clear hd ha
      simp only [Lf, dstAt, Act.put, List.getElem?_toArray, List.getElem?_cons_zero, List.getElem?_cons_succ, Option.bind_some, List.setIfInBounds_toArray, List.set_cons_zero, List.set_cons_succ]
      have p0 := ext_cell hx p0
      have p1 := ext_cell hx p1
      have p2 := ext_cell hx p2
      have p3 := ext_cell hx p3
      have yf := ext_cell hx yf
      have yt := ext_cell hx yt
      have yu := ext_cell hx yu
      go_wp2
      exact ⟨rfl, Ext.refl _, rfl⟩
    · intro vals w1 hx hd ha
      have e1 : vals 1 = .int .i64 f := hd 1 (by decide)
      have e2 : vals 2 = .int .i64 t := hd 2 (by decide)
      have e3 : vals 3 = .int .i64 u := hd 3 (by decide)
      clear hd ha
      simp only [Lf, dstAt, Act.put, List.getElem?_toArray, List.getElem?_cons_zero, List.getElem?_cons_succ, Option.bind_some, List.setIfInBounds_toArray, List.set_cons_zero, List.set_cons_succ]
      have p0 := ext_cell hx p0
      have p1 := ext_cell hx p1
      have p2 := ext_cell hx p2
      have p3 := ext_cell hx p3
      have yf := ext_cell hx yf
      have yt := ext_cell hx yt
      have yu := ext_cell hx yu
      simp only [e1]
      simp only [e2]
      simp only [e3]
      clear e1 e2 e3
      go_wp2_with fail
      refine (pair_any _ _ _ _).mono ?_
      rintro e w2 ⟨rfl, rfl⟩
      go_wp2
      exact ⟨rfl, Ext.refl _, rfl⟩
    · intro vals w1 hx hd ha
      clear hd ha
      simp only [Lf, dstAt, Act.put, List.getElem?_toArray, List.getElem?_cons_zero, List.getElem?_cons_succ, Option.bind_some, List.setIfInBounds_toArray, List.set_cons_zero, List.set_cons_succ]
      have p0 := ext_cell hx p0
      have p1 := ext_cell hx p1
      have p2 := ext_cell hx p2
      have p3 := ext_cell hx p3
      have yf := ext_cell hx yf
      have yt := ext_cell hx yt
      have yu := ext_cell hx yu
      go_wp2
      exact ⟨rfl, Ext.refl _, rfl⟩
    · intro vals w1 hx hd ha
      clear hd ha
      simp only [Lf, dstAt, Act.put, List.getElem?_toArray, List.getElem?_cons_zero, List.getElem?_cons_succ, Option.bind_some, List.setIfInBounds_toArray, List.set_cons_zero, List.set_cons_succ]
      have p0 := ext_cell hx p0
      have p1 := ext_cell hx p1
      have p2 := ext_cell hx p2
      have p3 := ext_cell hx p3
      have yf := ext_cell hx yf
      have yt := ext_cell hx yt
      have yu := ext_cell hx yu
      go_wp2
      exact ⟨rfl, Ext.refl _, rfl⟩
    · intro vals w1 hx hd ha
      clear hd ha
      simp only [Lf, dstAt, Act.put, List.getElem?_toArray, List.getElem?_cons_zero, List.getElem?_cons_succ, Option.bind_some, List.setIfInBounds_toArray, List.set_cons_zero, List.set_cons_succ]
      have p0 := ext_cell hx p0
      have p1 := ext_cell hx p1
      have p2 := ext_cell hx p2
      have p3 := ext_cell hx p3
      have yf := ext_cell hx yf
      have yt := ext_cell hx yt
      have yu := ext_cell hx yu
      go_wp2
      exact ⟨rfl, Ext.refl _, rfl⟩
    · intro vals w1 hx hd ha
      have e7 : vals 7 = .int .i64 u := hd 7 (by decide)
      clear hd ha
      simp only [Lf, dstAt, Act.put, List.getElem?_toArray, List.getElem?_cons_zero, List.getElem?_cons_succ, Option.bind_some, List.setIfInBounds_toArray, List.set_cons_zero, List.set_cons_succ]
      simp only [e7]
      clear e7
      have p0 := ext_cell hx p0
      have p1 := ext_cell hx p1
      have p2 := ext_cell hx p2
      have p3 := ext_cell hx p3
      have yf := ext_cell hx yf
      have yt := ext_cell hx yt
      have yu := ext_cell hx yu
      go_wp2
      exact ⟨rfl, Ext.refl _, rfl⟩
    · intro vals w1 hx hd ha
      have e5 : vals 5 = .int .i64 t := hd 5 (by decide)
      have e6 : vals 6 = .int .i64 f := hd 6 (by decide)
      have e8 : vals 8 = .int .i64 (wrap64 (-u)) := hd 8 (by decide)
      clear hd ha
      simp only [Lf, dstAt, Act.put, List.getElem?_toArray, List.getElem?_cons_zero, List.getElem?_cons_succ, Option.bind_some, List.setIfInBounds_toArray, List.set_cons_zero, List.set_cons_succ]
      simp only [e5, e6, e8]
      clear e5 e6 e8
      have p0 := ext_cell hx p0
      have p1 := ext_cell hx p1
      have p2 := ext_cell hx p2
      have p3 := ext_cell hx p3
      have yf := ext_cell hx yf
      have yt := ext_cell hx yt
      have yu := ext_cell hx yu
      go_wp2
      exact ⟨rfl, Ext.refl _, rfl⟩
    · intro vals w1 hx hd ha
      clear hd ha
      simp only [Lf, dstAt, Act.put, List.getElem?_toArray, List.getElem?_cons_zero, List.getElem?_cons_succ, Option.bind_some, List.setIfInBounds_toArray, List.set_cons_zero, List.set_cons_succ]
      have p0 := ext_cell hx p0
      have p1 := ext_cell hx p1
      have p2 := ext_cell hx p2
      have p3 := ext_cell hx p3
      have yf := ext_cell hx yf
      have yt := ext_cell hx yt
      have yu := ext_cell hx yu
      go_wp2
      exact ⟨rfl, Ext.refl _, rfl⟩
    · intro vals w1 hx hd ha
      have e0 : vals 0 = .agg #[.slice A1 n1 c1, .slice A2 n2 c2, .slice A3 n3 c3, .slice A4 n4 c4] := hd 0 (by decide)
      have e4 : vals 4 = .bool (pairB f t u) := hd 4 (by decide)
      have e9 : vals 9 = .agg #[.int .i64 t, .int .i64 f, .int .i64 (wrap64 (-u))] := hd 9 (by decide)
      have e10 : vals 10 = .func (.func 56) #[] #[.pointer (some ⟨w.heap.size + 1, 0, none⟩), .pointer (some ⟨w.heap.size + 2, 0, none⟩), .pointer (some ⟨w.heap.size + 3, 0, none⟩)] := hd 10 (by decide)
      clear hd ha
      simp only [Lf, dstAt, Act.put, List.getElem?_toArray, List.getElem?_cons_zero, List.getElem?_cons_succ, Option.bind_some, List.setIfInBounds_toArray, List.set_cons_zero, List.set_cons_succ]
      have p0 := ext_cell hx p0
      have p1 := ext_cell hx p1
      have p2 := ext_cell hx p2
      have p3 := ext_cell hx p3
      have yf := ext_cell hx yf
      have yt := ext_cell hx yt
      have yu := ext_cell hx yu
      simp only [e0]
      simp only [e4]
      simp only [e9]
      simp only [e10]
      clear e0 e4 e9 e10
      have hz := Below.size hx.undrew
      go_wp2_with fail
      refine (HC.out w1 ((h.below (hBW.trans (Below.mono hx.undrew (by omega)))).more (by omega)) _ _ _ yf yt yu).mono ?_
      rintro e w2 ⟨v, rfl, hb, hgot⟩
      go_wp2
      exact ⟨rfl, hb, hgot.down (by omega)⟩
    · intro vals w1 hx hd ha
      have r11 : (fun v w1 => PoolGot r w.heap.size v w1) (vals 11) w1 := hd 11 (by decide)
      dsimp only at r11
      clear hd ha
      simp only [Lf, dstAt, Act.put, List.getElem?_toArray, List.getElem?_cons_zero, List.getElem?_cons_succ, Option.bind_some, List.setIfInBounds_toArray, List.set_cons_zero, List.set_cons_succ]
      have p0 := ext_cell hx p0
      have p1 := ext_cell hx p1
      have p2 := ext_cell hx p2
      have p3 := ext_cell hx p3
      have yf := ext_cell hx yf
      have yt := ext_cell hx yt
      have yu := ext_cell hx yu
      rcases r11 with ⟨_, e1⟩ | ⟨q, t1, t2, t3, t4, _, e1, _⟩
      · rw [e1]; go_wp2; exact ⟨rfl, Ext.refl _, _, rfl⟩
      · rw [e1]; go_wp2; exact ⟨rfl, Ext.refl _, _, rfl⟩
    · intro vals w1 hx hd ha
      have r11 : (fun v w1 => PoolGot r w.heap.size v w1) (vals 11) w1 := hd 11 (by decide)
      dsimp only at r11
      clear hd ha
      simp only [Lf, dstAt, Act.put, List.getElem?_toArray, List.getElem?_cons_zero, List.getElem?_cons_succ, Option.bind_some, List.setIfInBounds_toArray, List.set_cons_zero, List.set_cons_succ]
      have p0 := ext_cell hx p0
      have p1 := ext_cell hx p1
      have p2 := ext_cell hx p2
      have p3 := ext_cell hx p3
      have yf := ext_cell hx yf
      have yt := ext_cell hx yt
      have yu := ext_cell hx yu
      rcases r11 with ⟨_, e1⟩ | ⟨q, t1, t2, t3, t4, _, e1, _⟩
      · rw [e1]; go_wp2; exact ⟨rfl, Ext.refl _, _, rfl⟩
      · rw [e1]; go_wp2; exact ⟨rfl, Ext.refl _, _, rfl⟩
  intro vals w2 hx hf
  have hgot : PoolGot r w.heap.size (vals 11) w2 := hf 11 (by omega)
  have h11 : ∃ z, vals 11 = .tuple #[vals 12, z] := hf 12 (by omega)
  have h12 : ∃ z, vals 11 = .tuple #[z, vals 13] := hf 13 (by omega)
  clear hf p0 p1 p2 p3 yf yt yu
  have hx := hx.undrew
  have hB2 : Below w.heap.size w w2 := hBW.trans (Below.mono hx (by omega))
  have jr2 := jr.ext hx
  clear jp jf jt ju jr hBW hx
  refine tailF 14 _ _ 1 (by kernel_rfl) rfl ?_ (fun a w q => tail1 15 _ (by kernel_rfl) (by kernel_rfl) rfl q)
  simp only [Lf, dstAt, Act.put, List.getElem?_toArray, List.getElem?_cons_zero, List.getElem?_cons_succ, Option.bind_some, List.setIfInBounds_toArray, List.set_cons_zero, List.set_cons_succ]
  have hc0 := jr2.cell 0
  have hc1 := jr2.cell 1
  have hc2 := jr2.cell 2
  have hc3 := jr2.cell 3
  have hf0 := jr2.frozen 0
  have hf1 := jr2.frozen 1
  have hf2 := jr2.frozen 2
  have hf3 := jr2.frozen 3
  rcases hgot with ⟨hr, e10⟩ | ⟨q, t1, t2, t3, t4, hr, e10, hp⟩
  · rw [tup0 e10 h11, tup1 e10 h12]
    have HR := Lib.hid hr
    clear hr e10 h11 h12
    unfold nilV
    go_wp2
    generalize hW4 : ((((w2.setCell ⟨w.heap.size + 4, 0, none⟩ _).setCell ⟨w.heap.size + 4, 1, none⟩ _).setCell ⟨w.heap.size + 4, 2, none⟩ _).setCell ⟨w.heap.size + 4, 3, none⟩ _) = w4
    have j4 : Blk w4 (w.heap.size + 4) 26 nil4 := by subst hW4; exact jr2.set4 _ _ _ _
    have hB4 : Below w.heap.size w w4 := by subst hW4; exact below_set4 hB2 (by omega) _ _ _ _
    clear hc0 hc1 hc2 hc3
    have hc0 := j4.cell 0
    have hc1 := j4.cell 1
    have hc2 := j4.cell 2
    have hc3 := j4.cell 3
    exact bodyPost_ret (v := .tuple #[nilV, .int .i64 250]) (by simp [results, Try.results28, go_sem, hc0, hc1, hc2, hc3, nilV]) rfl ⟨_, rfl, hB4, .inl ⟨HR.out, rfl⟩⟩
  · rw [tup0 e10 h11, tup1 e10 h12]
    have HR := Lib.hid hr
    clear hr e10 h11 h12
    obtain ⟨D1, m1, d1⟩ := t1; obtain ⟨D2, m2, d2⟩ := t2; obtain ⟨D3, m3, d3⟩ := t3; obtain ⟨D4, m4, d4⟩ := t4
    simp only [poolV, Sl.v]
    go_wp2
    generalize hW4 : ((((w2.setCell ⟨w.heap.size + 4, 0, none⟩ _).setCell ⟨w.heap.size + 4, 1, none⟩ _).setCell ⟨w.heap.size + 4, 2, none⟩ _).setCell ⟨w.heap.size + 4, 3, none⟩ _) = w4
    have j4 : Blk w4 (w.heap.size + 4) 26 #[.slice D1 m1 d1, .slice D2 m2 d2, .slice D3 m3 d3, .slice D4 m4 d4] := by subst hW4; exact jr2.set4 _ _ _ _
    have hB4 : Below w.heap.size w w4 := by subst hW4; exact below_set4 hB2 (by omega) _ _ _ _
    have hp4 := by
      have hp4 := hp.set4 jr2 (.slice D1 m1 d1) (.slice D2 m2 d2) (.slice D3 m3 d3) (.slice D4 m4 d4)
      rw [hW4] at hp4
      exact hp4
    clear hc0 hc1 hc2 hc3
    have hc0 := j4.cell 0
    have hc1 := j4.cell 1
    have hc2 := j4.cell 2
    have hc3 := j4.cell 3
    exact bodyPost_ret (v := .tuple #[poolV ⟨D1, m1, d1⟩ ⟨D2, m2, d2⟩ ⟨D3, m3, d3⟩ ⟨D4, m4, d4⟩, .int .i64 0]) (by simp [results, Try.results28, go_sem, hc0, hc1, hc2, hc3]) rfl ⟨_, rfl, hB4, .inr ⟨_, _, _, _, _, HR.out, rfl, hp4⟩⟩

theorem trade_change (s1 s2 s3 s4 : Sl) (p : Pool) (f t u c : Int) (W : World) (h : PoolR W W.heap.size s1 s2 s3 s4 p) (pf pt pu pc : Addr) (yf : W.cell? pf = some (.int .i64 f)) (yt : W.cell? pt = some (.int .i64 t)) (yu : W.cell? pu = some (.int .i64 u)) (yc : W.cell? pc = some (.int .i64 c)) :
    Calls Try.prog 52 #[poolV s1 s2 s3 s4, .bool (pairB f t u && inB c 0 1000000000), loanV ⟨0, 0, 0⟩, .func (.func 57) #[] #[.pointer (some pf), .pointer (some pt), .pointer (some pu), .pointer (some pc)]] W (PoolRet W (tradeP p f t u c)) := by
  by_cases hok : (pairB f t u && inB c 0 1000000000) = true ∧ validB p = true
  · obtain ⟨h1, h2, h3, h4, _, h5, h6⟩ := pairB_iff ((Bool.and_eq_true _ _).mp hok.1).1
    obtain ⟨h7, h8⟩ := inB_iff.1 ((Bool.and_eq_true _ _).mp hok.1).2
    obtain ⟨fn, rfl⟩ : ∃ n : Nat, f = (n : Int) := ⟨f.toNat, by omega⟩
    obtain ⟨tn, rfl⟩ : ∃ n : Nat, t = (n : Int) := ⟨t.toNat, by omega⟩
    have hr := change_do s1 s2 s3 s4 p ⟨0, 0, 0⟩ [⟨0, fn, 0, tn, u⟩, ⟨3, tn, 3, fn, c⟩] W h hok.2 (fun m hm => by
      rcases List.mem_cons.1 hm with rfl | hm
      · exact ⟨.inl rfl, .inl rfl, by dsimp only; omega, by dsimp only; omega, by dsimp only; omega, by dsimp only; omega⟩
      · obtain rfl := List.mem_singleton.1 hm
        exact ⟨.inr (.inr rfl), .inr (.inr rfl), by dsimp only; omega, by dsimp only; omega, by dsimp only; omega, by dsimp only; omega⟩) (by simp) (by show -1000000 ≤ (0 : Int) ∧ (0 : Int) ≤ 1000000; omega) 57 #[.pointer (some pf), .pointer (some pt), .pointer (some pu), .pointer (some pc)] (enters_fn Try.func57 (by kernel_rfl) rfl)
      (fun W2 Bq g1 c1 g2 c2 g4 c4 hx q0 q1 q3 => trade_moves fn tn u c W2 pf pt pu pc (ext_cell hx yf) (ext_cell hx yt) (ext_cell hx yu) (ext_cell hx yc) (by omega) (by omega) Bq g1 c1 q0 g4 c4 q3)
    have e : tradeP p fn tn u c = changeP p true ⟨0, 0, 0⟩ [⟨0, fn, 0, tn, u⟩, ⟨3, tn, 3, fn, c⟩] := by
      unfold tradeP
      rw [hok.1, Int.toNat_natCast, Int.toNat_natCast]
    rw [hok.1, e]
    exact hr
  · exact change_refuse s1 s2 s3 s4 p _ _ _ _ W h hok _ _ rfl

set_option maxHeartbeats 1000000 in
theorem trade_any (s1 s2 s3 s4 : Sl) (p : Pool) (f t u c : Int) (w : World) (h : PoolR w w.heap.size s1 s2 s3 s4 p) :
    Calls Try.prog 29 #[poolV s1 s2 s3 s4, .int .i64 f, .int .i64 t, .int .i64 u, .int .i64 c] w (PoolRet w (tradeP p f t u c)) := by
  have hch := trade_change s1 s2 s3 s4 p f t u c
  obtain ⟨A1, n1, c1⟩ := s1; obtain ⟨A2, n2, c2⟩ := s2; obtain ⟨A3, n3, c3⟩ := s3; obtain ⟨A4, n4, c4⟩ := s4
  show Calls Try.prog 29 #[.agg #[.slice A1 n1 c1, .slice A2 n2 c2, .slice A3 n3 c3, .slice A4 n4 c4], .int .i64 f, .int .i64 t, .int .i64 u, .int .i64 c] w _
  generalize tradeP p f t u c = r at hch ⊢
  have HC := Lib.hid hch
  clear hch
  go_enter Try.func29, Try.ntmps29
  go_wp2_with fail
  generalize hW : (((((((w.alloc _).alloc _).alloc _).alloc _).alloc _).alloc _)) = W
  have hBW : Below w.heap.size w W := by subst hW; exact (by repeat (first | exact Below.refl _ _ | assumption | refine Below.drew ?_ | refine below_drewN ?_ _ | refine bl_alloc ?_ _ | refine Below.setCell ?_ (by first | (simp; done) | omega | (simp; omega)) _ | refine bl_then ?_ (by assumption)))
  have hzW : w.heap.size + 6 ≤ W.heap.size := by subst hW; simp
  have jp : Blk W w.heap.size 26 #[.slice A1 n1 c1, .slice A2 n2 c2, .slice A3 n3 c3, .slice A4 n4 c4] := by subst hW; exact (((((Blk.new_at _ _ rfl).alloc _).alloc _).alloc _).alloc _).alloc _
  have jf : Blk W (w.heap.size + 1) 3 #[.int .i64 f] := by subst hW; exact ((((Blk.new_at _ _ (by simp)).alloc _).alloc _).alloc _).alloc _
  have jt : Blk W (w.heap.size + 2) 3 #[.int .i64 t] := by subst hW; exact (((Blk.new_at _ _ (by simp)).alloc _).alloc _).alloc _
  have ju : Blk W (w.heap.size + 3) 3 #[.int .i64 u] := by subst hW; exact ((Blk.new_at _ _ (by simp)).alloc _).alloc _
  have jc : Blk W (w.heap.size + 4) 3 #[.int .i64 c] := by subst hW; exact (Blk.new_at _ _ (by simp)).alloc _
  have jr : Blk W (w.heap.size + 5) 26 nil4 := by subst hW; exact Blk.new_at _ _ (by simp)
  clear hW
  have p0 : W.cell? ⟨w.heap.size, 0, none⟩ = some (.slice A1 n1 c1) := jp.cell 0
  have p1 : W.cell? ⟨w.heap.size, 1, none⟩ = some (.slice A2 n2 c2) := jp.cell 1
  have p2 : W.cell? ⟨w.heap.size, 2, none⟩ = some (.slice A3 n3 c3) := jp.cell 2
  have p3 : W.cell? ⟨w.heap.size, 3, none⟩ = some (.slice A4 n4 c4) := jp.cell 3
  have yf : W.cell? ⟨w.heap.size + 1, 0, none⟩ = some (.int .i64 f) := jf.cell 0
  have yt : W.cell? ⟨w.heap.size + 2, 0, none⟩ = some (.int .i64 t) := jt.cell 0
  have yu : W.cell? ⟨w.heap.size + 3, 0, none⟩ = some (.int .i64 u) := ju.cell 0
  have yc : W.cell? ⟨w.heap.size + 4, 0, none⟩ = some (.int .i64 c) := jc.cell 0
  refine wp_region_obl 14 (fun ix vals v w1 => match ix with | 0 => v = .agg #[.slice A1 n1 c1, .slice A2 n2 c2, .slice A3 n3 c3, .slice A4 n4 c4] | 1 => v = .int .i64 f | 2 => v = .int .i64 t | 3 => v = .int .i64 u | 4 => v = .bool (pairB f t u) | 5 => v = .bool (pairB f t u) | 6 => (pairB f t u = true → v = .int .i64 c) | 7 => (pairB f t u = true → v = .bool (inB c 0 1000000000)) | 8 => v = .bool (pairB f t u && inB c 0 1000000000) | 9 => v = .agg #[.int .i64 0, .int .i64 0, .int .i64 0] | 10 => v = .func (.func 57) #[] #[.pointer (some ⟨w.heap.size + 1, 0, none⟩), .pointer (some ⟨w.heap.size + 2, 0, none⟩), .pointer (some ⟨w.heap.size + 3, 0, none⟩), .pointer (some ⟨w.heap.size + 4, 0, none⟩)] | 11 => PoolGot r w.heap.size v w1 | 12 => ∃ z, vals 11 = .tuple #[v, z] | _ => ∃ z, vals 11 = .tuple #[z, v]) (by kernel_rfl) (by kernel_rfl) ?_ ?_ ?_ ?_
  · intro ix vals v w1 w2 hi hr hx
    match ix, hr with
    | 0, hr => exact hr
    | 1, hr => exact hr
    | 2, hr => exact hr
    | 3, hr => exact hr
    | 4, hr => exact hr
    | 5, hr => exact hr
    | 6, hr => exact hr
    | 7, hr => exact hr
    | 8, hr => exact hr
    | 9, hr => exact hr
    | 10, hr => exact hr
    | 11, hr => exact hr.ext hx
    | 12, hr => exact hr
    | (kx + 13), hr => exact hr
  · intro ix vals vals_ v w1 hi hv hr
    match ix, hi, hv, hr with
    | 0, _, _, hr => exact hr
    | 1, _, _, hr => exact hr
    | 2, _, _, hr => exact hr
    | 3, _, _, hr => exact hr
    | 4, _, _, hr => exact hr
    | 5, _, _, hr => exact hr
    | 6, _, _, hr => exact hr
    | 7, _, _, hr => exact hr
    | 8, _, _, hr => exact hr
    | 9, _, _, hr => exact hr
    | 10, _, _, hr => exact hr
    | 11, _, _, hr => exact hr
    | 12, _, hv, hr => have e11 := hv 11 (by kernel_rfl); rw [← e11]; exact hr
    | (kx + 13), hi, hv, hr => obtain rfl : kx = 0 := (by omega); have e11 := hv 11 (by kernel_rfl); rw [← e11]; exact hr
  · refine ⟨?_, ?_, ?_, ?_, ?_, ?_, ?_, ?_, ?_, ?_, ?_, ?_, ?_, ?_, trivial⟩
    · intro vals w1 hx hd ha
      clear hd ha
      simp only [Lf]
      have p0 := ext_cell hx p0
      have p1 := ext_cell hx p1
      have p2 := ext_cell hx p2
      have p3 := ext_cell hx p3
      have yf := ext_cell hx yf
      have yt := ext_cell hx yt
      have yu := ext_cell hx yu
      have yc := ext_cell hx yc
      go_wp2
      exact ⟨rfl, Ext.refl _, rfl⟩
    · intro vals w1 hx hd ha
      clear hd ha
      simp only [Lf, dstAt, Act.put, List.getElem?_toArray, List.getElem?_cons_zero, Option.bind_some, List.setIfInBounds_toArray, List.set_cons_zero, List.set_cons_succ]
      have p0 := ext_cell hx p0
      have p1 := ext_cell hx p1
      have p2 := ext_cell hx p2
      have p3 := ext_cell hx p3
      have yf := ext_cell hx yf
      have yt := ext_cell hx yt
      have yu := ext_cell hx yu
      have yc := ext_cell hx yc
      go_wp2
      exact ⟨rfl, Ext.refl _, rfl⟩
    · intro vals w1 hx hd ha
      clear hd ha
      simp only [Lf, dstAt, Act.put, List.getElem?_toArray, List.getElem?_cons_zero, List.getElem?_cons_succ, Option.bind_some, List.setIfInBounds_toArray, List.set_cons_zero, List.set_cons_succ]
      have p0 := ext_cell hx p0
      have p1 := ext_cell hx p1
      have p2 := ext_cell hx p2
      have p3 := ext_cell hx p3
      have yf := ext_cell hx yf
      have yt := ext_cell hx yt
      have yu := ext_cell hx yu
      have yc := ext_cell hx yc
      go_wp2
      exact ⟨rfl, Ext.refl _, rfl⟩
    · intro vals w1 hx hd ha
      clear hd ha
      simp only [Lf, dstAt, Act.put, List.getElem?_toArray, List.getElem?_cons_zero, List.getElem?_cons_succ, Option.bind_some, List.setIfInBounds_toArray, List.set_cons_zero, List.set_cons_succ]
      have p0 := ext_cell hx p0
      have p1 := ext_cell hx p1
      have p2 := ext_cell hx p2
      have p3 := ext_cell hx p3
      have yf := ext_cell hx yf
      have yt := ext_cell hx yt
      have yu := ext_cell hx yu
      have yc := ext_cell hx yc
      go_wp2
      exact ⟨rfl, Ext.refl _, rfl⟩
    · intro vals w1 hx hd ha
      have e1 : vals 1 = .int .i64 f := hd 1 (by decide)
      have e2 : vals 2 = .int .i64 t := hd 2 (by decide)
      have e3 : vals 3 = .int .i64 u := hd 3 (by decide)
      clear hd ha
      simp only [Lf, dstAt, Act.put, List.getElem?_toArray, List.getElem?_cons_zero, List.getElem?_cons_succ, Option.bind_some, List.setIfInBounds_toArray, List.set_cons_zero, List.set_cons_succ]
      have p0 := ext_cell hx p0
      have p1 := ext_cell hx p1
      have p2 := ext_cell hx p2
      have p3 := ext_cell hx p3
      have yf := ext_cell hx yf
      have yt := ext_cell hx yt
      have yu := ext_cell hx yu
      have yc := ext_cell hx yc
      simp only [e1]
      simp only [e2]
      simp only [e3]
      clear e1 e2 e3
      go_wp2_with fail
      refine (pair_any _ _ _ _).mono ?_
      rintro e w2 ⟨rfl, rfl⟩
      go_wp2
      exact ⟨rfl, Ext.refl _, rfl⟩
    · intro vals w1 hx hd ha
      have e4 : vals 4 = .bool (pairB f t u) := hd 4 (by decide)
      clear hd ha
      simp only [Lf, dstAt, Act.put, List.getElem?_toArray, List.getElem?_cons_zero, List.getElem?_cons_succ, Option.bind_some, List.setIfInBounds_toArray, List.set_cons_zero, List.set_cons_succ]
      simp only [e4]
      clear e4
      have p0 := ext_cell hx p0
      have p1 := ext_cell hx p1
      have p2 := ext_cell hx p2
      have p3 := ext_cell hx p3
      have yf := ext_cell hx yf
      have yt := ext_cell hx yt
      have yu := ext_cell hx yu
      have yc := ext_cell hx yc
      go_wp2
      exact ⟨rfl, Ext.refl _, rfl⟩
    · intro vals w1 hx hd ha
      have e5 : vals 5 = .bool (pairB f t u) := hd 5 (by decide)
      clear hd ha
      simp only [Lf, dstAt, Act.put, List.getElem?_toArray, List.getElem?_cons_zero, List.getElem?_cons_succ, Option.bind_some, List.setIfInBounds_toArray, List.set_cons_zero, List.set_cons_succ]
      have p0 := ext_cell hx p0
      have p1 := ext_cell hx p1
      have p2 := ext_cell hx p2
      have p3 := ext_cell hx p3
      have yf := ext_cell hx yf
      have yt := ext_cell hx yt
      have yu := ext_cell hx yu
      have yc := ext_cell hx yc
      simp only [e5]
      clear e5
      cases hq : pairB f t u
      · go_wp2; exact ⟨rfl, Ext.refl _, fun e => by cases e⟩
      · go_wp2; exact ⟨rfl, Ext.refl _, rfl⟩
    · intro vals w1 hx hd ha
      have e5 : vals 5 = .bool (pairB f t u) := hd 5 (by decide)
      have r6 : (fun v w1 => (pairB f t u = true → v = .int .i64 c)) (vals 6) w1 := hd 6 (by decide)
      dsimp only at r6
      clear hd ha
      simp only [Lf, dstAt, Act.put, List.getElem?_toArray, List.getElem?_cons_zero, List.getElem?_cons_succ, Option.bind_some, List.setIfInBounds_toArray, List.set_cons_zero, List.set_cons_succ]
      have p0 := ext_cell hx p0
      have p1 := ext_cell hx p1
      have p2 := ext_cell hx p2
      have p3 := ext_cell hx p3
      have yf := ext_cell hx yf
      have yt := ext_cell hx yt
      have yu := ext_cell hx yu
      have yc := ext_cell hx yc
      simp only [e5]
      clear e5
      cases hq : pairB f t u
      · go_wp2; exact ⟨rfl, Ext.refl _, fun e => by cases e⟩
      · rw [r6 hq]; go_wp2_with fail; refine (in_any _ _ _ _).mono ?_; rintro e w2 ⟨rfl, rfl⟩; go_wp2; exact ⟨rfl, Ext.refl _, fun _ => rfl⟩
    · intro vals w1 hx hd ha
      have e5 : vals 5 = .bool (pairB f t u) := hd 5 (by decide)
      have r7 : (fun v w1 => (pairB f t u = true → v = .bool (inB c 0 1000000000))) (vals 7) w1 := hd 7 (by decide)
      dsimp only at r7
      clear hd ha
      simp only [Lf, dstAt, Act.put, List.getElem?_toArray, List.getElem?_cons_zero, List.getElem?_cons_succ, Option.bind_some, List.setIfInBounds_toArray, List.set_cons_zero, List.set_cons_succ]
      have p0 := ext_cell hx p0
      have p1 := ext_cell hx p1
      have p2 := ext_cell hx p2
      have p3 := ext_cell hx p3
      have yf := ext_cell hx yf
      have yt := ext_cell hx yt
      have yu := ext_cell hx yu
      have yc := ext_cell hx yc
      simp only [e5]
      clear e5
      cases hq : pairB f t u
      · go_wp2; exact ⟨rfl, Ext.refl _, rfl⟩
      · rw [r7 hq]; go_wp2; exact ⟨rfl, Ext.refl _, rfl⟩
    · intro vals w1 hx hd ha
      clear hd ha
      simp only [Lf, dstAt, Act.put, List.getElem?_toArray, List.getElem?_cons_zero, List.getElem?_cons_succ, Option.bind_some, List.setIfInBounds_toArray, List.set_cons_zero, List.set_cons_succ]
      have p0 := ext_cell hx p0
      have p1 := ext_cell hx p1
      have p2 := ext_cell hx p2
      have p3 := ext_cell hx p3
      have yf := ext_cell hx yf
      have yt := ext_cell hx yt
      have yu := ext_cell hx yu
      have yc := ext_cell hx yc
      go_wp2
      exact ⟨rfl, Ext.refl _, rfl⟩
    · intro vals w1 hx hd ha
      clear hd ha
      simp only [Lf, dstAt, Act.put, List.getElem?_toArray, List.getElem?_cons_zero, List.getElem?_cons_succ, Option.bind_some, List.setIfInBounds_toArray, List.set_cons_zero, List.set_cons_succ]
      have p0 := ext_cell hx p0
      have p1 := ext_cell hx p1
      have p2 := ext_cell hx p2
      have p3 := ext_cell hx p3
      have yf := ext_cell hx yf
      have yt := ext_cell hx yt
      have yu := ext_cell hx yu
      have yc := ext_cell hx yc
      go_wp2
      exact ⟨rfl, Ext.refl _, rfl⟩
    · intro vals w1 hx hd ha
      have e0 : vals 0 = .agg #[.slice A1 n1 c1, .slice A2 n2 c2, .slice A3 n3 c3, .slice A4 n4 c4] := hd 0 (by decide)
      have r7 : (fun v w1 => (pairB f t u = true → v = .bool (inB c 0 1000000000))) (vals 7) w1 := hd 7 (by decide)
      dsimp only at r7
      have e8 : vals 8 = .bool (pairB f t u && inB c 0 1000000000) := hd 8 (by decide)
      have e9 : vals 9 = .agg #[.int .i64 0, .int .i64 0, .int .i64 0] := hd 9 (by decide)
      have e10 : vals 10 = .func (.func 57) #[] #[.pointer (some ⟨w.heap.size + 1, 0, none⟩), .pointer (some ⟨w.heap.size + 2, 0, none⟩), .pointer (some ⟨w.heap.size + 3, 0, none⟩), .pointer (some ⟨w.heap.size + 4, 0, none⟩)] := hd 10 (by decide)
      clear hd ha
      simp only [Lf, dstAt, Act.put, List.getElem?_toArray, List.getElem?_cons_zero, List.getElem?_cons_succ, Option.bind_some, List.setIfInBounds_toArray, List.set_cons_zero, List.set_cons_succ]
      have p0 := ext_cell hx p0
      have p1 := ext_cell hx p1
      have p2 := ext_cell hx p2
      have p3 := ext_cell hx p3
      have yf := ext_cell hx yf
      have yt := ext_cell hx yt
      have yu := ext_cell hx yu
      have yc := ext_cell hx yc
      simp only [e0]
      simp only [e8]
      simp only [e9]
      simp only [e10]
      clear e0 e8 e9 e10
      have hz := Below.size hx.undrew
      go_wp2_with fail
      refine (HC.out w1 ((h.below (hBW.trans (Below.mono hx.undrew (by omega)))).more (by omega)) _ _ _ _ yf yt yu yc).mono ?_
      rintro e w2 ⟨v, rfl, hb, hgot⟩
      go_wp2
      exact ⟨rfl, hb, hgot.down (by omega)⟩
    · intro vals w1 hx hd ha
      have r11 : (fun v w1 => PoolGot r w.heap.size v w1) (vals 11) w1 := hd 11 (by decide)
      dsimp only at r11
      clear hd ha
      simp only [Lf, dstAt, Act.put, List.getElem?_toArray, List.getElem?_cons_zero, List.getElem?_cons_succ, Option.bind_some, List.setIfInBounds_toArray, List.set_cons_zero, List.set_cons_succ]
      have p0 := ext_cell hx p0
      have p1 := ext_cell hx p1
      have p2 := ext_cell hx p2
      have p3 := ext_cell hx p3
      have yf := ext_cell hx yf
      have yt := ext_cell hx yt
      have yu := ext_cell hx yu
      have yc := ext_cell hx yc
      rcases r11 with ⟨_, e1⟩ | ⟨q, t1, t2, t3, t4, _, e1, _⟩
      · rw [e1]; go_wp2; exact ⟨rfl, Ext.refl _, _, rfl⟩
      · rw [e1]; go_wp2; exact ⟨rfl, Ext.refl _, _, rfl⟩
    · intro vals w1 hx hd ha
      have r11 : (fun v w1 => PoolGot r w.heap.size v w1) (vals 11) w1 := hd 11 (by decide)
      dsimp only at r11
      clear hd ha
      simp only [Lf, dstAt, Act.put, List.getElem?_toArray, List.getElem?_cons_zero, List.getElem?_cons_succ, Option.bind_some, List.setIfInBounds_toArray, List.set_cons_zero, List.set_cons_succ]
      have p0 := ext_cell hx p0
      have p1 := ext_cell hx p1
      have p2 := ext_cell hx p2
      have p3 := ext_cell hx p3
      have yf := ext_cell hx yf
      have yt := ext_cell hx yt
      have yu := ext_cell hx yu
      have yc := ext_cell hx yc
      rcases r11 with ⟨_, e1⟩ | ⟨q, t1, t2, t3, t4, _, e1, _⟩
      · rw [e1]; go_wp2; exact ⟨rfl, Ext.refl _, _, rfl⟩
      · rw [e1]; go_wp2; exact ⟨rfl, Ext.refl _, _, rfl⟩
  intro vals w2 hx hf
  have hgot : PoolGot r w.heap.size (vals 11) w2 := hf 11 (by omega)
  have h11 : ∃ z, vals 11 = .tuple #[vals 12, z] := hf 12 (by omega)
  have h12 : ∃ z, vals 11 = .tuple #[z, vals 13] := hf 13 (by omega)
  clear hf p0 p1 p2 p3 yf yt yu yc
  have hx := hx.undrew
  have hB2 : Below w.heap.size w w2 := hBW.trans (Below.mono hx (by omega))
  have jr2 := jr.ext hx
  clear jp jf jt ju jc jr hBW hx
  refine tailF 14 _ _ 1 (by kernel_rfl) rfl ?_ (fun a w q => tail1 15 _ (by kernel_rfl) (by kernel_rfl) rfl q)
  simp only [Lf, dstAt, Act.put, List.getElem?_toArray, List.getElem?_cons_zero, List.getElem?_cons_succ, Option.bind_some, List.setIfInBounds_toArray, List.set_cons_zero, List.set_cons_succ]
  have hc0 := jr2.cell 0
  have hc1 := jr2.cell 1
  have hc2 := jr2.cell 2
  have hc3 := jr2.cell 3
  have hf0 := jr2.frozen 0
  have hf1 := jr2.frozen 1
  have hf2 := jr2.frozen 2
  have hf3 := jr2.frozen 3
  rcases hgot with ⟨hr, e10⟩ | ⟨q, t1, t2, t3, t4, hr, e10, hp⟩
  · rw [tup0 e10 h11, tup1 e10 h12]
    have HR := Lib.hid hr
    clear hr e10 h11 h12
    unfold nilV
    go_wp2
    generalize hW4 : ((((w2.setCell ⟨w.heap.size + 5, 0, none⟩ _).setCell ⟨w.heap.size + 5, 1, none⟩ _).setCell ⟨w.heap.size + 5, 2, none⟩ _).setCell ⟨w.heap.size + 5, 3, none⟩ _) = w4
    have j4 : Blk w4 (w.heap.size + 5) 26 nil4 := by subst hW4; exact jr2.set4 _ _ _ _
    have hB4 : Below w.heap.size w w4 := by subst hW4; exact below_set4 hB2 (by omega) _ _ _ _
    clear hc0 hc1 hc2 hc3
    have hc0 := j4.cell 0
    have hc1 := j4.cell 1
    have hc2 := j4.cell 2
    have hc3 := j4.cell 3
    exact bodyPost_ret (v := .tuple #[nilV, .int .i64 250]) (by simp [results, Try.results29, go_sem, hc0, hc1, hc2, hc3, nilV]) rfl ⟨_, rfl, hB4, .inl ⟨HR.out, rfl⟩⟩
  · rw [tup0 e10 h11, tup1 e10 h12]
    have HR := Lib.hid hr
    clear hr e10 h11 h12
    obtain ⟨D1, m1, d1⟩ := t1; obtain ⟨D2, m2, d2⟩ := t2; obtain ⟨D3, m3, d3⟩ := t3; obtain ⟨D4, m4, d4⟩ := t4
    simp only [poolV, Sl.v]
    go_wp2
    generalize hW4 : ((((w2.setCell ⟨w.heap.size + 5, 0, none⟩ _).setCell ⟨w.heap.size + 5, 1, none⟩ _).setCell ⟨w.heap.size + 5, 2, none⟩ _).setCell ⟨w.heap.size + 5, 3, none⟩ _) = w4
    have j4 : Blk w4 (w.heap.size + 5) 26 #[.slice D1 m1 d1, .slice D2 m2 d2, .slice D3 m3 d3, .slice D4 m4 d4] := by subst hW4; exact jr2.set4 _ _ _ _
    have hB4 : Below w.heap.size w w4 := by subst hW4; exact below_set4 hB2 (by omega) _ _ _ _
    have hp4 := by
      have hp4 := hp.set4 jr2 (.slice D1 m1 d1) (.slice D2 m2 d2) (.slice D3 m3 d3) (.slice D4 m4 d4)
      rw [hW4] at hp4
      exact hp4
    clear hc0 hc1 hc2 hc3
    have hc0 := j4.cell 0
    have hc1 := j4.cell 1
    have hc2 := j4.cell 2
    have hc3 := j4.cell 3
    exact bodyPost_ret (v := .tuple #[poolV ⟨D1, m1, d1⟩ ⟨D2, m2, d2⟩ ⟨D3, m3, d3⟩ ⟨D4, m4, d4⟩, .int .i64 0]) (by simp [results, Try.results29, go_sem, hc0, hc1, hc2, hc3]) rfl ⟨_, rfl, hB4, .inr ⟨_, _, _, _, _, HR.out, rfl, hp4⟩⟩

theorem use_change (s1 s2 s3 s4 : Sl) (p : Pool) (o u : Int) (W : World) (h : PoolR W W.heap.size s1 s2 s3 s4 p) (po pu : Addr) (yo : W.cell? po = some (.int .i64 o)) (yu : W.cell? pu = some (.int .i64 u)) :
    Calls Try.prog 52 #[poolV s1 s2 s3 s4, .bool (singleB o u), loanV ⟨0, 0, 0⟩, .func (.func 59) #[] #[.pointer (some po), .pointer (some pu)]] W (PoolRet W (useP p o u)) := by
  by_cases hok : (singleB o u) = true ∧ validB p = true
  · obtain ⟨h1, h2, h3, h4⟩ := singleB_iff hok.1
    obtain ⟨on, rfl⟩ : ∃ n : Nat, o = (n : Int) := ⟨o.toNat, by omega⟩
    have hr := change_do s1 s2 s3 s4 p ⟨0, 0, 0⟩ [⟨0, on, 1, on, u⟩] W h hok.2 (fun m hm => by
      obtain rfl := List.mem_singleton.1 hm
      exact ⟨.inl rfl, .inr (.inl rfl), by dsimp only; omega, by dsimp only; omega, by dsimp only; omega, by dsimp only; omega⟩) (by simp) (by show -1000000 ≤ (0 : Int) ∧ (0 : Int) ≤ 1000000; omega) 59 #[.pointer (some po), .pointer (some pu)] (enters_fn Try.func59 (by kernel_rfl) rfl)
      (fun W2 Bq g1 c1 g2 c2 g4 c4 hx q0 q1 q3 => use_moves on u W2 po pu (ext_cell hx yo) (ext_cell hx yu) (by omega) Bq g1 c1 q0 g2 c2 q1)
    have e : useP p on u = changeP p true ⟨0, 0, 0⟩ [⟨0, on, 1, on, u⟩] := by
      unfold useP
      rw [hok.1, Int.toNat_natCast]
    rw [hok.1, e]
    exact hr
  · exact change_refuse s1 s2 s3 s4 p _ _ _ _ W h hok _ _ rfl

set_option maxHeartbeats 1000000 in
theorem use_any (s1 s2 s3 s4 : Sl) (p : Pool) (o u : Int) (w : World) (h : PoolR w w.heap.size s1 s2 s3 s4 p) :
    Calls Try.prog 30 #[poolV s1 s2 s3 s4, .int .i64 o, .int .i64 u] w (PoolRet w (useP p o u)) := by
  have hch := use_change s1 s2 s3 s4 p o u
  obtain ⟨A1, n1, c1⟩ := s1; obtain ⟨A2, n2, c2⟩ := s2; obtain ⟨A3, n3, c3⟩ := s3; obtain ⟨A4, n4, c4⟩ := s4
  show Calls Try.prog 30 #[.agg #[.slice A1 n1 c1, .slice A2 n2 c2, .slice A3 n3 c3, .slice A4 n4 c4], .int .i64 o, .int .i64 u] w _
  generalize useP p o u = r at hch ⊢
  have HC := Lib.hid hch
  clear hch
  go_enter Try.func30, Try.ntmps30
  go_wp2_with fail
  generalize hW : (((((w.alloc _).alloc _).alloc _).alloc _)) = W
  have hBW : Below w.heap.size w W := by subst hW; exact (by repeat (first | exact Below.refl _ _ | assumption | refine Below.drew ?_ | refine below_drewN ?_ _ | refine bl_alloc ?_ _ | refine Below.setCell ?_ (by first | (simp; done) | omega | (simp; omega)) _ | refine bl_then ?_ (by assumption)))
  have hzW : w.heap.size + 4 ≤ W.heap.size := by subst hW; simp
  have jp : Blk W w.heap.size 26 #[.slice A1 n1 c1, .slice A2 n2 c2, .slice A3 n3 c3, .slice A4 n4 c4] := by subst hW; exact (((Blk.new_at _ _ rfl).alloc _).alloc _).alloc _
  have jo : Blk W (w.heap.size + 1) 3 #[.int .i64 o] := by subst hW; exact ((Blk.new_at _ _ (by simp)).alloc _).alloc _
  have ju : Blk W (w.heap.size + 2) 3 #[.int .i64 u] := by subst hW; exact (Blk.new_at _ _ (by simp)).alloc _
  have jr : Blk W (w.heap.size + 3) 26 nil4 := by subst hW; exact Blk.new_at _ _ (by simp)
  clear hW
  have p0 : W.cell? ⟨w.heap.size, 0, none⟩ = some (.slice A1 n1 c1) := jp.cell 0
  have p1 : W.cell? ⟨w.heap.size, 1, none⟩ = some (.slice A2 n2 c2) := jp.cell 1
  have p2 : W.cell? ⟨w.heap.size, 2, none⟩ = some (.slice A3 n3 c3) := jp.cell 2
  have p3 : W.cell? ⟨w.heap.size, 3, none⟩ = some (.slice A4 n4 c4) := jp.cell 3
  have yo : W.cell? ⟨w.heap.size + 1, 0, none⟩ = some (.int .i64 o) := jo.cell 0
  have yu : W.cell? ⟨w.heap.size + 2, 0, none⟩ = some (.int .i64 u) := ju.cell 0
  refine wp_region_obl 9 (fun ix vals v w1 => match ix with | 0 => v = .agg #[.slice A1 n1 c1, .slice A2 n2 c2, .slice A3 n3 c3, .slice A4 n4 c4] | 1 => v = .int .i64 o | 2 => v = .int .i64 u | 3 => v = .bool (singleB o u) | 4 => v = .agg #[.int .i64 0, .int .i64 0, .int .i64 0] | 5 => v = .func (.func 59) #[] #[.pointer (some ⟨w.heap.size + 1, 0, none⟩), .pointer (some ⟨w.heap.size + 2, 0, none⟩)] | 6 => PoolGot r w.heap.size v w1 | 7 => ∃ z, vals 6 = .tuple #[v, z] | _ => ∃ z, vals 6 = .tuple #[z, v]) (by kernel_rfl) (by kernel_rfl) ?_ ?_ ?_ ?_
  · intro ix vals v w1 w2 hi hr hx
    match ix, hr with
    | 0, hr => exact hr
    | 1, hr => exact hr
    | 2, hr => exact hr
    | 3, hr => exact hr
    | 4, hr => exact hr
    | 5, hr => exact hr
    | 6, hr => exact hr.ext hx
    | 7, hr => exact hr
    | (kx + 8), hr => exact hr
  · intro ix vals vals_ v w1 hi hv hr
    match ix, hi, hv, hr with
    | 0, _, _, hr => exact hr
    | 1, _, _, hr => exact hr
    | 2, _, _, hr => exact hr
    | 3, _, _, hr => exact hr
    | 4, _, _, hr => exact hr
    | 5, _, _, hr => exact hr
    | 6, _, _, hr => exact hr
    | 7, _, hv, hr => have e6 := hv 6 (by kernel_rfl); rw [← e6]; exact hr
    | (kx + 8), hi, hv, hr => obtain rfl : kx = 0 := (by omega); have e6 := hv 6 (by kernel_rfl); rw [← e6]; exact hr
  · refine ⟨?_, ?_, ?_, ?_, ?_, ?_, ?_, ?_, ?_, trivial⟩
    · intro vals w1 hx hd ha
      clear hd ha
      simp only [Lf]
      have p0 := ext_cell hx p0
      have p1 := ext_cell hx p1
      have p2 := ext_cell hx p2
      have p3 := ext_cell hx p3
      have yo := ext_cell hx yo
      have yu := ext_cell hx yu
      go_wp2
      exact ⟨rfl, Ext.refl _, rfl⟩
    · intro vals w1 hx hd ha
      clear hd ha
      simp only [Lf, dstAt, Act.put, List.getElem?_toArray, List.getElem?_cons_zero, Option.bind_some, List.setIfInBounds_toArray, List.set_cons_zero, List.set_cons_succ]
      have p0 := ext_cell hx p0
      have p1 := ext_cell hx p1
      have p2 := ext_cell hx p2
      have p3 := ext_cell hx p3
      have yo := ext_cell hx yo
      have yu := ext_cell hx yu
      go_wp2
      exact ⟨rfl, Ext.refl _, rfl⟩
    · intro vals w1 hx hd ha
      clear hd ha
      simp only [Lf, dstAt, Act.put, List.getElem?_toArray, List.getElem?_cons_zero, List.getElem?_cons_succ, Option.bind_some, List.setIfInBounds_toArray, List.set_cons_zero, List.set_cons_succ]
      have p0 := ext_cell hx p0
      have p1 := ext_cell hx p1
      have p2 := ext_cell hx p2
      have p3 := ext_cell hx p3
      have yo := ext_cell hx yo
      have yu := ext_cell hx yu
      go_wp2
      exact ⟨rfl, Ext.refl _, rfl⟩
    · intro vals w1 hx hd ha
      have e1 : vals 1 = .int .i64 o := hd 1 (by decide)
      have e2 : vals 2 = .int .i64 u := hd 2 (by decide)
      clear hd ha
      simp only [Lf, dstAt, Act.put, List.getElem?_toArray, List.getElem?_cons_zero, List.getElem?_cons_succ, Option.bind_some, List.setIfInBounds_toArray, List.set_cons_zero, List.set_cons_succ]
      have p0 := ext_cell hx p0
      have p1 := ext_cell hx p1
      have p2 := ext_cell hx p2
      have p3 := ext_cell hx p3
      have yo := ext_cell hx yo
      have yu := ext_cell hx yu
      simp only [e1]
      simp only [e2]
      clear e1 e2
      go_wp2_with fail
      refine (single_any _ _ _).mono ?_
      rintro e w2 ⟨rfl, rfl⟩
      go_wp2
      exact ⟨rfl, Ext.refl _, rfl⟩
    · intro vals w1 hx hd ha
      clear hd ha
      simp only [Lf, dstAt, Act.put, List.getElem?_toArray, List.getElem?_cons_zero, List.getElem?_cons_succ, Option.bind_some, List.setIfInBounds_toArray, List.set_cons_zero, List.set_cons_succ]
      have p0 := ext_cell hx p0
      have p1 := ext_cell hx p1
      have p2 := ext_cell hx p2
      have p3 := ext_cell hx p3
      have yo := ext_cell hx yo
      have yu := ext_cell hx yu
      go_wp2
      exact ⟨rfl, Ext.refl _, rfl⟩
    · intro vals w1 hx hd ha
      clear hd ha
      simp only [Lf, dstAt, Act.put, List.getElem?_toArray, List.getElem?_cons_zero, List.getElem?_cons_succ, Option.bind_some, List.setIfInBounds_toArray, List.set_cons_zero, List.set_cons_succ]
      have p0 := ext_cell hx p0
      have p1 := ext_cell hx p1
      have p2 := ext_cell hx p2
      have p3 := ext_cell hx p3
      have yo := ext_cell hx yo
      have yu := ext_cell hx yu
      go_wp2
      exact ⟨rfl, Ext.refl _, rfl⟩
    · intro vals w1 hx hd ha
      have e0 : vals 0 = .agg #[.slice A1 n1 c1, .slice A2 n2 c2, .slice A3 n3 c3, .slice A4 n4 c4] := hd 0 (by decide)
      have e3 : vals 3 = .bool (singleB o u) := hd 3 (by decide)
      have e4 : vals 4 = .agg #[.int .i64 0, .int .i64 0, .int .i64 0] := hd 4 (by decide)
      have e5 : vals 5 = .func (.func 59) #[] #[.pointer (some ⟨w.heap.size + 1, 0, none⟩), .pointer (some ⟨w.heap.size + 2, 0, none⟩)] := hd 5 (by decide)
      clear hd ha
      simp only [Lf, dstAt, Act.put, List.getElem?_toArray, List.getElem?_cons_zero, List.getElem?_cons_succ, Option.bind_some, List.setIfInBounds_toArray, List.set_cons_zero, List.set_cons_succ]
      have p0 := ext_cell hx p0
      have p1 := ext_cell hx p1
      have p2 := ext_cell hx p2
      have p3 := ext_cell hx p3
      have yo := ext_cell hx yo
      have yu := ext_cell hx yu
      simp only [e0]
      simp only [e3]
      simp only [e4]
      simp only [e5]
      clear e0 e3 e4 e5
      have hz := Below.size hx.undrew
      go_wp2_with fail
      refine (HC.out w1 ((h.below (hBW.trans (Below.mono hx.undrew (by omega)))).more (by omega)) _ _ yo yu).mono ?_
      rintro e w2 ⟨v, rfl, hb, hgot⟩
      go_wp2
      exact ⟨rfl, hb, hgot.down (by omega)⟩
    · intro vals w1 hx hd ha
      have r6 : (fun v w1 => PoolGot r w.heap.size v w1) (vals 6) w1 := hd 6 (by decide)
      dsimp only at r6
      clear hd ha
      simp only [Lf, dstAt, Act.put, List.getElem?_toArray, List.getElem?_cons_zero, List.getElem?_cons_succ, Option.bind_some, List.setIfInBounds_toArray, List.set_cons_zero, List.set_cons_succ]
      have p0 := ext_cell hx p0
      have p1 := ext_cell hx p1
      have p2 := ext_cell hx p2
      have p3 := ext_cell hx p3
      have yo := ext_cell hx yo
      have yu := ext_cell hx yu
      rcases r6 with ⟨_, e1⟩ | ⟨q, t1, t2, t3, t4, _, e1, _⟩
      · rw [e1]; go_wp2; exact ⟨rfl, Ext.refl _, _, rfl⟩
      · rw [e1]; go_wp2; exact ⟨rfl, Ext.refl _, _, rfl⟩
    · intro vals w1 hx hd ha
      have r6 : (fun v w1 => PoolGot r w.heap.size v w1) (vals 6) w1 := hd 6 (by decide)
      dsimp only at r6
      clear hd ha
      simp only [Lf, dstAt, Act.put, List.getElem?_toArray, List.getElem?_cons_zero, List.getElem?_cons_succ, Option.bind_some, List.setIfInBounds_toArray, List.set_cons_zero, List.set_cons_succ]
      have p0 := ext_cell hx p0
      have p1 := ext_cell hx p1
      have p2 := ext_cell hx p2
      have p3 := ext_cell hx p3
      have yo := ext_cell hx yo
      have yu := ext_cell hx yu
      rcases r6 with ⟨_, e1⟩ | ⟨q, t1, t2, t3, t4, _, e1, _⟩
      · rw [e1]; go_wp2; exact ⟨rfl, Ext.refl _, _, rfl⟩
      · rw [e1]; go_wp2; exact ⟨rfl, Ext.refl _, _, rfl⟩
  intro vals w2 hx hf
  have hgot : PoolGot r w.heap.size (vals 6) w2 := hf 6 (by omega)
  have h11 : ∃ z, vals 6 = .tuple #[vals 7, z] := hf 7 (by omega)
  have h12 : ∃ z, vals 6 = .tuple #[z, vals 8] := hf 8 (by omega)
  clear hf p0 p1 p2 p3 yo yu
  have hx := hx.undrew
  have hB2 : Below w.heap.size w w2 := hBW.trans (Below.mono hx (by omega))
  have jr2 := jr.ext hx
  clear jp jo ju jr hBW hx
  refine tailF 9 _ _ 1 (by kernel_rfl) rfl ?_ (fun a w q => tail1 10 _ (by kernel_rfl) (by kernel_rfl) rfl q)
  simp only [Lf, dstAt, Act.put, List.getElem?_toArray, List.getElem?_cons_zero, List.getElem?_cons_succ, Option.bind_some, List.setIfInBounds_toArray, List.set_cons_zero, List.set_cons_succ]
  have hc0 := jr2.cell 0
  have hc1 := jr2.cell 1
  have hc2 := jr2.cell 2
  have hc3 := jr2.cell 3
  have hf0 := jr2.frozen 0
  have hf1 := jr2.frozen 1
  have hf2 := jr2.frozen 2
  have hf3 := jr2.frozen 3
  rcases hgot with ⟨hr, e10⟩ | ⟨q, t1, t2, t3, t4, hr, e10, hp⟩
  · rw [tup0 e10 h11, tup1 e10 h12]
    have HR := Lib.hid hr
    clear hr e10 h11 h12
    unfold nilV
    go_wp2
    generalize hW4 : ((((w2.setCell ⟨w.heap.size + 3, 0, none⟩ _).setCell ⟨w.heap.size + 3, 1, none⟩ _).setCell ⟨w.heap.size + 3, 2, none⟩ _).setCell ⟨w.heap.size + 3, 3, none⟩ _) = w4
    have j4 : Blk w4 (w.heap.size + 3) 26 nil4 := by subst hW4; exact jr2.set4 _ _ _ _
    have hB4 : Below w.heap.size w w4 := by subst hW4; exact below_set4 hB2 (by omega) _ _ _ _
    clear hc0 hc1 hc2 hc3
    have hc0 := j4.cell 0
    have hc1 := j4.cell 1
    have hc2 := j4.cell 2
    have hc3 := j4.cell 3
    exact bodyPost_ret (v := .tuple #[nilV, .int .i64 250]) (by simp [results, Try.results30, go_sem, hc0, hc1, hc2, hc3, nilV]) rfl ⟨_, rfl, hB4, .inl ⟨HR.out, rfl⟩⟩
  · rw [tup0 e10 h11, tup1 e10 h12]
    have HR := Lib.hid hr
    clear hr e10 h11 h12
    obtain ⟨D1, m1, d1⟩ := t1; obtain ⟨D2, m2, d2⟩ := t2; obtain ⟨D3, m3, d3⟩ := t3; obtain ⟨D4, m4, d4⟩ := t4
    simp only [poolV, Sl.v]
    go_wp2
    generalize hW4 : ((((w2.setCell ⟨w.heap.size + 3, 0, none⟩ _).setCell ⟨w.heap.size + 3, 1, none⟩ _).setCell ⟨w.heap.size + 3, 2, none⟩ _).setCell ⟨w.heap.size + 3, 3, none⟩ _) = w4
    have j4 : Blk w4 (w.heap.size + 3) 26 #[.slice D1 m1 d1, .slice D2 m2 d2, .slice D3 m3 d3, .slice D4 m4 d4] := by subst hW4; exact jr2.set4 _ _ _ _
    have hB4 : Below w.heap.size w w4 := by subst hW4; exact below_set4 hB2 (by omega) _ _ _ _
    have hp4 := by
      have hp4 := hp.set4 jr2 (.slice D1 m1 d1) (.slice D2 m2 d2) (.slice D3 m3 d3) (.slice D4 m4 d4)
      rw [hW4] at hp4
      exact hp4
    clear hc0 hc1 hc2 hc3
    have hc0 := j4.cell 0
    have hc1 := j4.cell 1
    have hc2 := j4.cell 2
    have hc3 := j4.cell 3
    exact bodyPost_ret (v := .tuple #[poolV ⟨D1, m1, d1⟩ ⟨D2, m2, d2⟩ ⟨D3, m3, d3⟩ ⟨D4, m4, d4⟩, .int .i64 0]) (by simp [results, Try.results30, go_sem, hc0, hc1, hc2, hc3]) rfl ⟨_, rfl, hB4, .inr ⟨_, _, _, _, _, HR.out, rfl, hp4⟩⟩

theorem free_change (s1 s2 s3 s4 : Sl) (p : Pool) (o u : Int) (W : World) (h : PoolR W W.heap.size s1 s2 s3 s4 p) (po pu : Addr) (yo : W.cell? po = some (.int .i64 o)) (yu : W.cell? pu = some (.int .i64 u)) :
    Calls Try.prog 52 #[poolV s1 s2 s3 s4, .bool (singleB o u), loanV ⟨0, 0, 0⟩, .func (.func 60) #[] #[.pointer (some po), .pointer (some pu)]] W (PoolRet W (freeP p o u)) := by
  by_cases hok : (singleB o u) = true ∧ validB p = true
  · obtain ⟨h1, h2, h3, h4⟩ := singleB_iff hok.1
    obtain ⟨on, rfl⟩ : ∃ n : Nat, o = (n : Int) := ⟨o.toNat, by omega⟩
    have hr := change_do s1 s2 s3 s4 p ⟨0, 0, 0⟩ [⟨1, on, 0, on, u⟩] W h hok.2 (fun m hm => by
      obtain rfl := List.mem_singleton.1 hm
      exact ⟨.inr (.inl rfl), .inl rfl, by dsimp only; omega, by dsimp only; omega, by dsimp only; omega, by dsimp only; omega⟩) (by simp) (by show -1000000 ≤ (0 : Int) ∧ (0 : Int) ≤ 1000000; omega) 60 #[.pointer (some po), .pointer (some pu)] (enters_fn Try.func60 (by kernel_rfl) rfl)
      (fun W2 Bq g1 c1 g2 c2 g4 c4 hx q0 q1 q3 => free_moves on u W2 po pu (ext_cell hx yo) (ext_cell hx yu) (by omega) Bq g1 c1 q0 g2 c2 q1)
    have e : freeP p on u = changeP p true ⟨0, 0, 0⟩ [⟨1, on, 0, on, u⟩] := by
      unfold freeP
      rw [hok.1, Int.toNat_natCast]
    rw [hok.1, e]
    exact hr
  · exact change_refuse s1 s2 s3 s4 p _ _ _ _ W h hok _ _ rfl

set_option maxHeartbeats 1000000 in
theorem free_any (s1 s2 s3 s4 : Sl) (p : Pool) (o u : Int) (w : World) (h : PoolR w w.heap.size s1 s2 s3 s4 p) :
    Calls Try.prog 31 #[poolV s1 s2 s3 s4, .int .i64 o, .int .i64 u] w (PoolRet w (freeP p o u)) := by
  have hch := free_change s1 s2 s3 s4 p o u
  obtain ⟨A1, n1, c1⟩ := s1; obtain ⟨A2, n2, c2⟩ := s2; obtain ⟨A3, n3, c3⟩ := s3; obtain ⟨A4, n4, c4⟩ := s4
  show Calls Try.prog 31 #[.agg #[.slice A1 n1 c1, .slice A2 n2 c2, .slice A3 n3 c3, .slice A4 n4 c4], .int .i64 o, .int .i64 u] w _
  generalize freeP p o u = r at hch ⊢
  have HC := Lib.hid hch
  clear hch
  go_enter Try.func31, Try.ntmps31
  go_wp2_with fail
  generalize hW : (((((w.alloc _).alloc _).alloc _).alloc _)) = W
  have hBW : Below w.heap.size w W := by subst hW; exact (by repeat (first | exact Below.refl _ _ | assumption | refine Below.drew ?_ | refine below_drewN ?_ _ | refine bl_alloc ?_ _ | refine Below.setCell ?_ (by first | (simp; done) | omega | (simp; omega)) _ | refine bl_then ?_ (by assumption)))
  have hzW : w.heap.size + 4 ≤ W.heap.size := by subst hW; simp
  have jp : Blk W w.heap.size 26 #[.slice A1 n1 c1, .slice A2 n2 c2, .slice A3 n3 c3, .slice A4 n4 c4] := by subst hW; exact (((Blk.new_at _ _ rfl).alloc _).alloc _).alloc _
  have jo : Blk W (w.heap.size + 1) 3 #[.int .i64 o] := by subst hW; exact ((Blk.new_at _ _ (by simp)).alloc _).alloc _
  have ju : Blk W (w.heap.size + 2) 3 #[.int .i64 u] := by subst hW; exact (Blk.new_at _ _ (by simp)).alloc _
  have jr : Blk W (w.heap.size + 3) 26 nil4 := by subst hW; exact Blk.new_at _ _ (by simp)
  clear hW
  have p0 : W.cell? ⟨w.heap.size, 0, none⟩ = some (.slice A1 n1 c1) := jp.cell 0
  have p1 : W.cell? ⟨w.heap.size, 1, none⟩ = some (.slice A2 n2 c2) := jp.cell 1
  have p2 : W.cell? ⟨w.heap.size, 2, none⟩ = some (.slice A3 n3 c3) := jp.cell 2
  have p3 : W.cell? ⟨w.heap.size, 3, none⟩ = some (.slice A4 n4 c4) := jp.cell 3
  have yo : W.cell? ⟨w.heap.size + 1, 0, none⟩ = some (.int .i64 o) := jo.cell 0
  have yu : W.cell? ⟨w.heap.size + 2, 0, none⟩ = some (.int .i64 u) := ju.cell 0
  refine wp_region_obl 9 (fun ix vals v w1 => match ix with | 0 => v = .agg #[.slice A1 n1 c1, .slice A2 n2 c2, .slice A3 n3 c3, .slice A4 n4 c4] | 1 => v = .int .i64 o | 2 => v = .int .i64 u | 3 => v = .bool (singleB o u) | 4 => v = .agg #[.int .i64 0, .int .i64 0, .int .i64 0] | 5 => v = .func (.func 60) #[] #[.pointer (some ⟨w.heap.size + 1, 0, none⟩), .pointer (some ⟨w.heap.size + 2, 0, none⟩)] | 6 => PoolGot r w.heap.size v w1 | 7 => ∃ z, vals 6 = .tuple #[v, z] | _ => ∃ z, vals 6 = .tuple #[z, v]) (by kernel_rfl) (by kernel_rfl) ?_ ?_ ?_ ?_
  · intro ix vals v w1 w2 hi hr hx
    match ix, hr with
    | 0, hr => exact hr
    | 1, hr => exact hr
    | 2, hr => exact hr
    | 3, hr => exact hr
    | 4, hr => exact hr
    | 5, hr => exact hr
    | 6, hr => exact hr.ext hx
    | 7, hr => exact hr
    | (kx + 8), hr => exact hr
  · intro ix vals vals_ v w1 hi hv hr
    match ix, hi, hv, hr with
    | 0, _, _, hr => exact hr
    | 1, _, _, hr => exact hr
    | 2, _, _, hr => exact hr
    | 3, _, _, hr => exact hr
    | 4, _, _, hr => exact hr
    | 5, _, _, hr => exact hr
    | 6, _, _, hr => exact hr
    | 7, _, hv, hr => have e6 := hv 6 (by kernel_rfl); rw [← e6]; exact hr
    | (kx + 8), hi, hv, hr => obtain rfl : kx = 0 := (by omega); have e6 := hv 6 (by kernel_rfl); rw [← e6]; exact hr
  · refine ⟨?_, ?_, ?_, ?_, ?_, ?_, ?_, ?_, ?_, trivial⟩
    · intro vals w1 hx hd ha
      clear hd ha
      simp only [Lf]
      have p0 := ext_cell hx p0
      have p1 := ext_cell hx p1
      have p2 := ext_cell hx p2
      have p3 := ext_cell hx p3
      have yo := ext_cell hx yo
      have yu := ext_cell hx yu
      go_wp2
      exact ⟨rfl, Ext.refl _, rfl⟩
    · intro vals w1 hx hd ha
      clear hd ha
      simp only [Lf, dstAt, Act.put, List.getElem?_toArray, List.getElem?_cons_zero, Option.bind_some, List.setIfInBounds_toArray, List.set_cons_zero, List.set_cons_succ]
      have p0 := ext_cell hx p0
      have p1 := ext_cell hx p1
      have p2 := ext_cell hx p2
      have p3 := ext_cell hx p3
      have yo := ext_cell hx yo
      have yu := ext_cell hx yu
      go_wp2
      exact ⟨rfl, Ext.refl _, rfl⟩
    · intro vals w1 hx hd ha
      clear hd ha
      simp only [Lf, dstAt, Act.put, List.getElem?_toArray, List.getElem?_cons_zero, List.getElem?_cons_succ, Option.bind_some, List.setIfInBounds_toArray, List.set_cons_zero, List.set_cons_succ]
      have p0 := ext_cell hx p0
      have p1 := ext_cell hx p1
      have p2 := ext_cell hx p2
      have p3 := ext_cell hx p3
      have yo := ext_cell hx yo
      have yu := ext_cell hx yu
      go_wp2
      exact ⟨rfl, Ext.refl _, rfl⟩
    · intro vals w1 hx hd ha
      have e1 : vals 1 = .int .i64 o := hd 1 (by decide)
      have e2 : vals 2 = .int .i64 u := hd 2 (by decide)
      clear hd ha
      simp only [Lf, dstAt, Act.put, List.getElem?_toArray, List.getElem?_cons_zero, List.getElem?_cons_succ, Option.bind_some, List.setIfInBounds_toArray, List.set_cons_zero, List.set_cons_succ]
      have p0 := ext_cell hx p0
      have p1 := ext_cell hx p1
      have p2 := ext_cell hx p2
      have p3 := ext_cell hx p3
      have yo := ext_cell hx yo
      have yu := ext_cell hx yu
      simp only [e1]
      simp only [e2]
      clear e1 e2
      go_wp2_with fail
      refine (single_any _ _ _).mono ?_
      rintro e w2 ⟨rfl, rfl⟩
      go_wp2
      exact ⟨rfl, Ext.refl _, rfl⟩
    · intro vals w1 hx hd ha
      clear hd ha
      simp only [Lf, dstAt, Act.put, List.getElem?_toArray, List.getElem?_cons_zero, List.getElem?_cons_succ, Option.bind_some, List.setIfInBounds_toArray, List.set_cons_zero, List.set_cons_succ]
      have p0 := ext_cell hx p0
      have p1 := ext_cell hx p1
      have p2 := ext_cell hx p2
      have p3 := ext_cell hx p3
      have yo := ext_cell hx yo
      have yu := ext_cell hx yu
      go_wp2
      exact ⟨rfl, Ext.refl _, rfl⟩
    · intro vals w1 hx hd ha
      clear hd ha
      simp only [Lf, dstAt, Act.put, List.getElem?_toArray, List.getElem?_cons_zero, List.getElem?_cons_succ, Option.bind_some, List.setIfInBounds_toArray, List.set_cons_zero, List.set_cons_succ]
      have p0 := ext_cell hx p0
      have p1 := ext_cell hx p1
      have p2 := ext_cell hx p2
      have p3 := ext_cell hx p3
      have yo := ext_cell hx yo
      have yu := ext_cell hx yu
      go_wp2
      exact ⟨rfl, Ext.refl _, rfl⟩
    · intro vals w1 hx hd ha
      have e0 : vals 0 = .agg #[.slice A1 n1 c1, .slice A2 n2 c2, .slice A3 n3 c3, .slice A4 n4 c4] := hd 0 (by decide)
      have e3 : vals 3 = .bool (singleB o u) := hd 3 (by decide)
      have e4 : vals 4 = .agg #[.int .i64 0, .int .i64 0, .int .i64 0] := hd 4 (by decide)
      have e5 : vals 5 = .func (.func 60) #[] #[.pointer (some ⟨w.heap.size + 1, 0, none⟩), .pointer (some ⟨w.heap.size + 2, 0, none⟩)] := hd 5 (by decide)
      clear hd ha
      simp only [Lf, dstAt, Act.put, List.getElem?_toArray, List.getElem?_cons_zero, List.getElem?_cons_succ, Option.bind_some, List.setIfInBounds_toArray, List.set_cons_zero, List.set_cons_succ]
      have p0 := ext_cell hx p0
      have p1 := ext_cell hx p1
      have p2 := ext_cell hx p2
      have p3 := ext_cell hx p3
      have yo := ext_cell hx yo
      have yu := ext_cell hx yu
      simp only [e0]
      simp only [e3]
      simp only [e4]
      simp only [e5]
      clear e0 e3 e4 e5
      have hz := Below.size hx.undrew
      go_wp2_with fail
      refine (HC.out w1 ((h.below (hBW.trans (Below.mono hx.undrew (by omega)))).more (by omega)) _ _ yo yu).mono ?_
      rintro e w2 ⟨v, rfl, hb, hgot⟩
      go_wp2
      exact ⟨rfl, hb, hgot.down (by omega)⟩
    · intro vals w1 hx hd ha
      have r6 : (fun v w1 => PoolGot r w.heap.size v w1) (vals 6) w1 := hd 6 (by decide)
      dsimp only at r6
      clear hd ha
      simp only [Lf, dstAt, Act.put, List.getElem?_toArray, List.getElem?_cons_zero, List.getElem?_cons_succ, Option.bind_some, List.setIfInBounds_toArray, List.set_cons_zero, List.set_cons_succ]
      have p0 := ext_cell hx p0
      have p1 := ext_cell hx p1
      have p2 := ext_cell hx p2
      have p3 := ext_cell hx p3
      have yo := ext_cell hx yo
      have yu := ext_cell hx yu
      rcases r6 with ⟨_, e1⟩ | ⟨q, t1, t2, t3, t4, _, e1, _⟩
      · rw [e1]; go_wp2; exact ⟨rfl, Ext.refl _, _, rfl⟩
      · rw [e1]; go_wp2; exact ⟨rfl, Ext.refl _, _, rfl⟩
    · intro vals w1 hx hd ha
      have r6 : (fun v w1 => PoolGot r w.heap.size v w1) (vals 6) w1 := hd 6 (by decide)
      dsimp only at r6
      clear hd ha
      simp only [Lf, dstAt, Act.put, List.getElem?_toArray, List.getElem?_cons_zero, List.getElem?_cons_succ, Option.bind_some, List.setIfInBounds_toArray, List.set_cons_zero, List.set_cons_succ]
      have p0 := ext_cell hx p0
      have p1 := ext_cell hx p1
      have p2 := ext_cell hx p2
      have p3 := ext_cell hx p3
      have yo := ext_cell hx yo
      have yu := ext_cell hx yu
      rcases r6 with ⟨_, e1⟩ | ⟨q, t1, t2, t3, t4, _, e1, _⟩
      · rw [e1]; go_wp2; exact ⟨rfl, Ext.refl _, _, rfl⟩
      · rw [e1]; go_wp2; exact ⟨rfl, Ext.refl _, _, rfl⟩
  intro vals w2 hx hf
  have hgot : PoolGot r w.heap.size (vals 6) w2 := hf 6 (by omega)
  have h11 : ∃ z, vals 6 = .tuple #[vals 7, z] := hf 7 (by omega)
  have h12 : ∃ z, vals 6 = .tuple #[z, vals 8] := hf 8 (by omega)
  clear hf p0 p1 p2 p3 yo yu
  have hx := hx.undrew
  have hB2 : Below w.heap.size w w2 := hBW.trans (Below.mono hx (by omega))
  have jr2 := jr.ext hx
  clear jp jo ju jr hBW hx
  refine tailF 9 _ _ 1 (by kernel_rfl) rfl ?_ (fun a w q => tail1 10 _ (by kernel_rfl) (by kernel_rfl) rfl q)
  simp only [Lf, dstAt, Act.put, List.getElem?_toArray, List.getElem?_cons_zero, List.getElem?_cons_succ, Option.bind_some, List.setIfInBounds_toArray, List.set_cons_zero, List.set_cons_succ]
  have hc0 := jr2.cell 0
  have hc1 := jr2.cell 1
  have hc2 := jr2.cell 2
  have hc3 := jr2.cell 3
  have hf0 := jr2.frozen 0
  have hf1 := jr2.frozen 1
  have hf2 := jr2.frozen 2
  have hf3 := jr2.frozen 3
  rcases hgot with ⟨hr, e10⟩ | ⟨q, t1, t2, t3, t4, hr, e10, hp⟩
  · rw [tup0 e10 h11, tup1 e10 h12]
    have HR := Lib.hid hr
    clear hr e10 h11 h12
    unfold nilV
    go_wp2
    generalize hW4 : ((((w2.setCell ⟨w.heap.size + 3, 0, none⟩ _).setCell ⟨w.heap.size + 3, 1, none⟩ _).setCell ⟨w.heap.size + 3, 2, none⟩ _).setCell ⟨w.heap.size + 3, 3, none⟩ _) = w4
    have j4 : Blk w4 (w.heap.size + 3) 26 nil4 := by subst hW4; exact jr2.set4 _ _ _ _
    have hB4 : Below w.heap.size w w4 := by subst hW4; exact below_set4 hB2 (by omega) _ _ _ _
    clear hc0 hc1 hc2 hc3
    have hc0 := j4.cell 0
    have hc1 := j4.cell 1
    have hc2 := j4.cell 2
    have hc3 := j4.cell 3
    exact bodyPost_ret (v := .tuple #[nilV, .int .i64 250]) (by simp [results, Try.results31, go_sem, hc0, hc1, hc2, hc3, nilV]) rfl ⟨_, rfl, hB4, .inl ⟨HR.out, rfl⟩⟩
  · rw [tup0 e10 h11, tup1 e10 h12]
    have HR := Lib.hid hr
    clear hr e10 h11 h12
    obtain ⟨D1, m1, d1⟩ := t1; obtain ⟨D2, m2, d2⟩ := t2; obtain ⟨D3, m3, d3⟩ := t3; obtain ⟨D4, m4, d4⟩ := t4
    simp only [poolV, Sl.v]
    go_wp2
    generalize hW4 : ((((w2.setCell ⟨w.heap.size + 3, 0, none⟩ _).setCell ⟨w.heap.size + 3, 1, none⟩ _).setCell ⟨w.heap.size + 3, 2, none⟩ _).setCell ⟨w.heap.size + 3, 3, none⟩ _) = w4
    have j4 : Blk w4 (w.heap.size + 3) 26 #[.slice D1 m1 d1, .slice D2 m2 d2, .slice D3 m3 d3, .slice D4 m4 d4] := by subst hW4; exact jr2.set4 _ _ _ _
    have hB4 : Below w.heap.size w w4 := by subst hW4; exact below_set4 hB2 (by omega) _ _ _ _
    have hp4 := by
      have hp4 := hp.set4 jr2 (.slice D1 m1 d1) (.slice D2 m2 d2) (.slice D3 m3 d3) (.slice D4 m4 d4)
      rw [hW4] at hp4
      exact hp4
    clear hc0 hc1 hc2 hc3
    have hc0 := j4.cell 0
    have hc1 := j4.cell 1
    have hc2 := j4.cell 2
    have hc3 := j4.cell 3
    exact bodyPost_ret (v := .tuple #[poolV ⟨D1, m1, d1⟩ ⟨D2, m2, d2⟩ ⟨D3, m3, d3⟩ ⟨D4, m4, d4⟩, .int .i64 0]) (by simp [results, Try.results31, go_sem, hc0, hc1, hc2, hc3]) rfl ⟨_, rfl, hB4, .inr ⟨_, _, _, _, _, HR.out, rfl, hp4⟩⟩

end Go.Proofs.Ytpddnkefggaigaa
