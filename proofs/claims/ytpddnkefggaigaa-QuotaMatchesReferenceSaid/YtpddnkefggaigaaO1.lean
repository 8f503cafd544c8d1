/- quota.Lend, Return, Trade, Use, Free by their contracts. -/
import Derived.Test.YtpddnkefggaigaaC3
import Derived.Test.YtpddnkefggaigaaS5
namespace Go.Proofs.Ytpddnkefggaigaa
open Go.RowKit


def lendP (p : Pool) (f t u : Int) : Option Pool := changeP p (pairB f t u) ⟨f, t, u⟩ [⟨0, f.toNat, 0, t.toNat, u⟩]
def returnP (p : Pool) (f t u : Int) : Option Pool := changeP p (pairB f t u) ⟨t, f, -u⟩ [⟨0, f.toNat, 0, t.toNat, u⟩]
def tradeP (p : Pool) (f t u c : Int) : Option Pool := changeP p (pairB f t u && inB c 0 1000000000) ⟨0, 0, 0⟩ [⟨0, f.toNat, 0, t.toNat, u⟩, ⟨3, t.toNat, 3, f.toNat, c⟩]
def useP (p : Pool) (o u : Int) : Option Pool := changeP p (singleB o u) ⟨0, 0, 0⟩ [⟨0, o.toNat, 1, o.toNat, u⟩]
def freeP (p : Pool) (o u : Int) : Option Pool := changeP p (singleB o u) ⟨0, 0, 0⟩ [⟨1, o.toNat, 0, o.toNat, u⟩]

theorem pairB_iff {f t u : Int} (h : pairB f t u = true) : 0 ≤ f ∧ f ≤ 15 ∧ 0 ≤ t ∧ t ≤ 15 ∧ f ≠ t ∧ 1 ≤ u ∧ u ≤ 1000000 := by
  simp only [pairB, Bool.and_eq_true, ownerB, inB_iff, bne_iff_ne] at h
  omega
theorem singleB_iff {o u : Int} (h : singleB o u = true) : 0 ≤ o ∧ o ≤ 15 ∧ 1 ≤ u ∧ u ≤ 1000000 := by
  simp only [singleB, Bool.and_eq_true, ownerB, inB_iff] at h
  omega
theorem enters_fn {f : FuncId} {fn : Func} {c : Code} (hf : Try.prog.funcs[f]? = some fn) (hname : (fn.name == "runtime.NumGoroutine") = false) (hb : fn.body = some c) : ∀ args w, (callFunc f args).run Try.prog w = .ok (.enter f args) w := by
  intro args w
  have hn : ¬ fn.name = "runtime.NumGoroutine" := by simpa using hname
  simp [callFunc, hf, hn, hb]
theorem PoolGot.down {r : Option Pool} {base base' : Nat} {v : Value} {W : World} (h : PoolGot r base v W) (hb : base' ≤ base) : PoolGot r base' v W := by
  rcases h with h | ⟨q, s1, s2, s3, s4, h1, h2, h3⟩
  · exact .inl h
  · exact .inr ⟨q, s1, s2, s3, s4, h1, h2, h3.down hb⟩
theorem tup0 {v a b c : Value} (h : v = .tuple #[a, b]) (h' : ∃ z, v = .tuple #[c, z]) : c = a := by
  obtain ⟨z, h'⟩ := h'
  rw [h] at h'
  injection h' with h'
  simp at h'
  exact h'.1.symm
theorem tup1 {v a b c : Value} (h : v = .tuple #[a, b]) (h' : ∃ z, v = .tuple #[z, c]) : c = b := by
  obtain ⟨z, h'⟩ := h'
  rw [h] at h'
  injection h' with h'
  simp at h'
  exact h'.2.symm

theorem lend_change (s1 s2 s3 s4 : Sl) (p : Pool) (f t u : Int) (W : World) (h : PoolR W W.heap.size s1 s2 s3 s4 p) (pf pt pu : Addr) (yf : W.cell? pf = some (.int .i64 f)) (yt : W.cell? pt = some (.int .i64 t)) (yu : W.cell? pu = some (.int .i64 u)) :
    Calls Try.prog 52 #[poolV s1 s2 s3 s4, .bool (pairB f t u), loanV ⟨f, t, u⟩, .func (.func 54) #[] #[.pointer (some pf), .pointer (some pt), .pointer (some pu)]] W (PoolRet W (lendP p f t u)) := by
  by_cases hok : pairB f t u = true ∧ validB p = true
  · obtain ⟨h1, h2, h3, h4, _, h5, h6⟩ := pairB_iff hok.1
    obtain ⟨fn, rfl⟩ : ∃ n : Nat, f = (n : Int) := ⟨f.toNat, by omega⟩
    obtain ⟨tn, rfl⟩ : ∃ n : Nat, t = (n : Int) := ⟨t.toNat, by omega⟩
    have hr := change_do s1 s2 s3 s4 p ⟨fn, tn, u⟩ [⟨0, fn, 0, tn, u⟩] W h hok.2 (fun m hm => by
      obtain rfl := List.mem_singleton.1 hm
      exact ⟨.inl rfl, .inl rfl, by show fn < 16; omega, by show tn < 16; omega, by show 0 ≤ u; omega, by show u ≤ 1000000000000; omega⟩) (by simp) (by show -1000000 ≤ u ∧ u ≤ 1000000; omega) 54 #[.pointer (some pf), .pointer (some pt), .pointer (some pu)] (enters_fn Try.func54 (by kernel_rfl) rfl)
      (fun W2 Bq g1 c1 g2 c2 g4 c4 hx q0 q1 q3 => lend_moves fn tn u W2 pf pt pu (ext_cell hx yf) (ext_cell hx yt) (ext_cell hx yu) (by omega) (by omega) Bq g1 c1 q0)
    have e : lendP p fn tn u = changeP p true ⟨fn, tn, u⟩ [⟨0, fn, 0, tn, u⟩] := by
      unfold lendP
      rw [hok.1, Int.toNat_natCast, Int.toNat_natCast]
    rw [hok.1, e]
    exact hr
  · exact change_refuse s1 s2 s3 s4 p _ _ _ _ W h hok _ _ rfl

set_option maxHeartbeats 1000000 in
theorem lend_any (s1 s2 s3 s4 : Sl) (p : Pool) (f t u : Int) (w : World) (h : PoolR w w.heap.size s1 s2 s3 s4 p) :
    Calls Try.prog 27 #[poolV s1 s2 s3 s4, .int .i64 f, .int .i64 t, .int .i64 u] w (PoolRet w (lendP p f t u)) := by
  have hch := lend_change s1 s2 s3 s4 p f t u
  obtain ⟨A1, n1, c1⟩ := s1; obtain ⟨A2, n2, c2⟩ := s2; obtain ⟨A3, n3, c3⟩ := s3; obtain ⟨A4, n4, c4⟩ := s4
  show Calls Try.prog 27 #[.agg #[.slice A1 n1 c1, .slice A2 n2 c2, .slice A3 n3 c3, .slice A4 n4 c4], .int .i64 f, .int .i64 t, .int .i64 u] w _
  generalize lendP p f t u = r at hch ⊢
  have HC := Lib.hid hch
  clear hch
  go_enter Try.func27, Try.ntmps27
  go_wp2_with fail
  generalize hW : (((((w.alloc _).alloc _).alloc _).alloc _).alloc _) = W
  have hBW : Below w.heap.size w W := by subst hW; exact (by repeat (first | exact Below.refl _ _ | assumption | refine Below.drew ?_ | refine below_drewN ?_ _ | refine bl_alloc ?_ _ | refine Below.setCell ?_ (by first | (simp; done) | omega | (simp; omega)) _ | refine bl_then ?_ (by assumption)))
  have hzW : w.heap.size + 5 ≤ W.heap.size := by subst hW; simp
  have jp : Blk W w.heap.size 26 #[.slice A1 n1 c1, .slice A2 n2 c2, .slice A3 n3 c3, .slice A4 n4 c4] := by subst hW; exact ((((Blk.new_at _ _ rfl).alloc _).alloc _).alloc _).alloc _
  have jf : Blk W (w.heap.size + 1) 3 #[.int .i64 f] := by subst hW; exact (((Blk.new_at _ _ (by simp)).alloc _).alloc _).alloc _
  have jt : Blk W (w.heap.size + 2) 3 #[.int .i64 t] := by subst hW; exact ((Blk.new_at _ _ (by simp)).alloc _).alloc _
  have ju : Blk W (w.heap.size + 3) 3 #[.int .i64 u] := by subst hW; exact (Blk.new_at _ _ (by simp)).alloc _
  have jr : Blk W (w.heap.size + 4) 26 nil4 := by subst hW; exact Blk.new_at _ _ (by simp)
  clear hW
  have p0 : W.cell? ⟨w.heap.size, 0, none⟩ = some (.slice A1 n1 c1) := jp.cell 0
  have p1 : W.cell? ⟨w.heap.size, 1, none⟩ = some (.slice A2 n2 c2) := jp.cell 1
  have p2 : W.cell? ⟨w.heap.size, 2, none⟩ = some (.slice A3 n3 c3) := jp.cell 2
  have p3 : W.cell? ⟨w.heap.size, 3, none⟩ = some (.slice A4 n4 c4) := jp.cell 3
  have yf : W.cell? ⟨w.heap.size + 1, 0, none⟩ = some (.int .i64 f) := jf.cell 0
  have yt : W.cell? ⟨w.heap.size + 2, 0, none⟩ = some (.int .i64 t) := jt.cell 0
  have yu : W.cell? ⟨w.heap.size + 3, 0, none⟩ = some (.int .i64 u) := ju.cell 0
  refine wp_region_obl 13 (fun ix vals v w1 => match ix with | 0 => v = .agg #[.slice A1 n1 c1, .slice A2 n2 c2, .slice A3 n3 c3, .slice A4 n4 c4] | 1 => v = .int .i64 f | 2 => v = .int .i64 t | 3 => v = .int .i64 u | 4 => v = .bool (pairB f t u) | 5 => v = .int .i64 f | 6 => v = .int .i64 t | 7 => v = .int .i64 u | 8 => v = .agg #[.int .i64 f, .int .i64 t, .int .i64 u] | 9 => v = .func (.func 54) #[] #[.pointer (some ⟨w.heap.size + 1, 0, none⟩), .pointer (some ⟨w.heap.size + 2, 0, none⟩), .pointer (some ⟨w.heap.size + 3, 0, none⟩)] | 10 => PoolGot r w.heap.size v w1 | 11 => ∃ z, vals 10 = .tuple #[v, z] | _ => ∃ z, vals 10 = .tuple #[z, v]) (by kernel_rfl) (by kernel_rfl) ?_ ?_ ?_ ?_
  · intro ix vals v w1 w2 hi hr hx
    match ix, hr with
    | 0, hr => exact hr
    | 1, hr => exact hr
    | 2, hr => exact hr
    | 3, hr => exact hr
    | 4, hr => exact hr
    | 5, hr => exact hr
    | 6, hr => exact hr
    | 7, hr => exact hr
    | 8, hr => exact hr
    | 9, hr => exact hr
    | 10, hr => exact hr.ext hx
    | 11, hr => exact hr
    | (kx + 12), hr => exact hr
  · intro ix vals vals_ v w1 hi hv hr
    match ix, hi, hv, hr with
    | 0, _, _, hr => exact hr
    | 1, _, _, hr => exact hr
    | 2, _, _, hr => exact hr
    | 3, _, _, hr => exact hr
    | 4, _, _, hr => exact hr
    | 5, _, _, hr => exact hr
    | 6, _, _, hr => exact hr
    | 7, _, _, hr => exact hr
    | 8, _, _, hr => exact hr
    | 9, _, _, hr => exact hr
    | 10, _, _, hr => exact hr
    | 11, _, hv, hr => have e10 := hv 10 (by kernel_rfl); rw [← e10]; exact hr
    | (kx + 12), hi, hv, hr => obtain rfl : kx = 0 := (by omega); have e10 := hv 10 (by kernel_rfl); rw [← e10]; exact hr
  · refine ⟨?_, ?_, ?_, ?_, ?_, ?_, ?_, ?_, ?_, ?_, ?_, ?_, ?_, trivial⟩
    · intro vals w1 hx hd ha
      clear hd ha
      simp only [Lf]
      have p0 := ext_cell hx p0
      have p1 := ext_cell hx p1
      have p2 := ext_cell hx p2
      have p3 := ext_cell hx p3
      have yf := ext_cell hx yf
      have yt := ext_cell hx yt
      have yu := ext_cell hx yu
      go_wp2
      exact ⟨rfl, Ext.refl _, rfl⟩
    · intro vals w1 hx hd ha
      clear hd ha
      simp only [Lf, dstAt, Act.put, List.getElem?_toArray, List.getElem?_cons_zero, Option.bind_some, List.setIfInBounds_toArray, List.set_cons_zero, List.set_cons_succ]
      have p0 := ext_cell hx p0
      have p1 := ext_cell hx p1
      have p2 := ext_cell hx p2
      have p3 := ext_cell hx p3
      have yf := ext_cell hx yf
      have yt := ext_cell hx yt
      have yu := ext_cell hx yu
      go_wp2
      exact ⟨rfl, Ext.refl _, rfl⟩
    · intro vals w1 hx hd ha
      clear hd ha
      simp only [Lf, dstAt, Act.put, List.getElem?_toArray, List.getElem?_cons_zero, List.getElem?_cons_succ, Option.bind_some, List.setIfInBounds_toArray, List.set_cons_zero, List.set_cons_succ]
      have p0 := ext_cell hx p0
      have p1 := ext_cell hx p1
      have p2 := ext_cell hx p2
      have p3 := ext_cell hx p3
      have yf := ext_cell hx yf
      have yt := ext_cell hx yt
      have yu := ext_cell hx yu
      go_wp2
      exact ⟨rfl, Ext.refl _, rfl⟩
    · intro vals w1 hx hd ha
      clear hd ha
      simp only [Lf, dstAt, Act.put, List.getElem?_toArray, List.getElem?_cons_zero, List.getElem?_cons_succ, Option.bind_some, List.setIfInBounds_toArray, List.set_cons_zero, List.set_cons_succ]
      have p0 := ext_cell hx p0
      have p1 := ext_cell hx p1
      have p2 := ext_cell hx p2
      have p3 := ext_cell hx p3
      have yf := ext_cell hx yf
      have yt := ext_cell hx yt
      have yu := ext_cell hx yu
      go_wp2
      exact ⟨rfl, Ext.refl _, rfl⟩
    · intro vals w1 hx hd ha
      have e1 : vals 1 = .int .i64 f := hd 1 (by decide)
      have e2 : vals 2 = .int .i64 t := hd 2 (by decide)
      have e3 : vals 3 = .int .i64 u := hd 3 (by decide)
      clear hd ha
      simp only [Lf, dstAt, Act.put, List.getElem?_toArray, List.getElem?_cons_zero, List.getElem?_cons_succ, Option.bind_some, List.setIfInBounds_toArray, List.set_cons_zero, List.set_cons_succ]
      have p0 := ext_cell hx p0
      have p1 := ext_cell hx p1
      have p2 := ext_cell hx p2
      have p3 := ext_cell hx p3
      have yf := ext_cell hx yf
      have yt := ext_cell hx yt
      have yu := ext_cell hx yu
      simp only [e1]
      simp only [e2]
      simp only [e3]
      clear e1 e2 e3
      go_wp2_with fail
      refine (pair_any _ _ _ _).mono ?_
      rintro e w2 ⟨rfl, rfl⟩
      go_wp2
      exact ⟨rfl, Ext.refl _, rfl⟩
    · intro vals w1 hx hd ha
      clear hd ha
      simp only [Lf, dstAt, Act.put, List.getElem?_toArray, List.getElem?_cons_zero, List.getElem?_cons_succ, Option.bind_some, List.setIfInBounds_toArray, List.set_cons_zero, List.set_cons_succ]
      have p0 := ext_cell hx p0
      have p1 := ext_cell hx p1
      have p2 := ext_cell hx p2
      have p3 := ext_cell hx p3
      have yf := ext_cell hx yf
      have yt := ext_cell hx yt
      have yu := ext_cell hx yu
      go_wp2
      exact ⟨rfl, Ext.refl _, rfl⟩
    · intro vals w1 hx hd ha
      clear hd ha
      simp only [Lf, dstAt, Act.put, List.getElem?_toArray, List.getElem?_cons_zero, List.getElem?_cons_succ, Option.bind_some, List.setIfInBounds_toArray, List.set_cons_zero, List.set_cons_succ]
      have p0 := ext_cell hx p0
      have p1 := ext_cell hx p1
      have p2 := ext_cell hx p2
      have p3 := ext_cell hx p3
      have yf := ext_cell hx yf
      have yt := ext_cell hx yt
      have yu := ext_cell hx yu
      go_wp2
      exact ⟨rfl, Ext.refl _, rfl⟩
    · intro vals w1 hx hd ha
      clear hd ha
      simp only [Lf, dstAt, Act.put, List.getElem?_toArray, List.getElem?_cons_zero, List.getElem?_cons_succ, Option.bind_some, List.setIfInBounds_toArray, List.set_cons_zero, List.set_cons_succ]
      have p0 := ext_cell hx p0
      have p1 := ext_cell hx p1
      have p2 := ext_cell hx p2
      have p3 := ext_cell hx p3
      have yf := ext_cell hx yf
      have yt := ext_cell hx yt
      have yu := ext_cell hx yu
      go_wp2
      exact ⟨rfl, Ext.refl _, rfl⟩
    · intro vals w1 hx hd ha
      have e5 : vals 5 = .int .i64 f := hd 5 (by decide)
      have e6 : vals 6 = .int .i64 t := hd 6 (by decide)
      have e7 : vals 7 = .int .i64 u := hd 7 (by decide)
      clear hd ha
      simp only [Lf, dstAt, Act.put, List.getElem?_toArray, List.getElem?_cons_zero, List.getElem?_cons_succ, Option.bind_some, List.setIfInBounds_toArray, List.set_cons_zero, List.set_cons_succ]
      simp only [e5, e6, e7]
      clear e5 e6 e7
      have p0 := ext_cell hx p0
      have p1 := ext_cell hx p1
      have p2 := ext_cell hx p2
      have p3 := ext_cell hx p3
      have yf := ext_cell hx yf
      have yt := ext_cell hx yt
      have yu := ext_cell hx yu
      go_wp2
      exact ⟨rfl, Ext.refl _, rfl⟩
    · intro vals w1 hx hd ha
      clear hd ha
      simp only [Lf, dstAt, Act.put, List.getElem?_toArray, List.getElem?_cons_zero, List.getElem?_cons_succ, Option.bind_some, List.setIfInBounds_toArray, List.set_cons_zero, List.set_cons_succ]
      have p0 := ext_cell hx p0
      have p1 := ext_cell hx p1
      have p2 := ext_cell hx p2
      have p3 := ext_cell hx p3
      have yf := ext_cell hx yf
      have yt := ext_cell hx yt
      have yu := ext_cell hx yu
      go_wp2
      exact ⟨rfl, Ext.refl _, rfl⟩
    · intro vals w1 hx hd ha
      have e0 : vals 0 = .agg #[.slice A1 n1 c1, .slice A2 n2 c2, .slice A3 n3 c3, .slice A4 n4 c4] := hd 0 (by decide)
      have e4 : vals 4 = .bool (pairB f t u) := hd 4 (by decide)
      have e8 : vals 8 = .agg #[.int .i64 f, .int .i64 t, .int .i64 u] := hd 8 (by decide)
      have e9 : vals 9 = .func (.func 54) #[] #[.pointer (some ⟨w.heap.size + 1, 0, none⟩), .pointer (some ⟨w.heap.size + 2, 0, none⟩), .pointer (some ⟨w.heap.size + 3, 0, none⟩)] := hd 9 (by decide)
      clear hd ha
      simp only [Lf, dstAt, Act.put, List.getElem?_toArray, List.getElem?_cons_zero, List.getElem?_cons_succ, Option.bind_some, List.setIfInBounds_toArray, List.set_cons_zero, List.set_cons_succ]
      have p0 := ext_cell hx p0
      have p1 := ext_cell hx p1
      have p2 := ext_cell hx p2
      have p3 := ext_cell hx p3
      have yf := ext_cell hx yf
      have yt := ext_cell hx yt
      have yu := ext_cell hx yu
      simp only [e0]
      simp only [e4]
      simp only [e8]
      simp only [e9]
      clear e0 e4 e8 e9
      have hz := Below.size hx.undrew
      go_wp2_with fail
      refine (HC.out w1 ((h.below (hBW.trans (Below.mono hx.undrew (by omega)))).more (by omega)) _ _ _ yf yt yu).mono ?_
      rintro e w2 ⟨v, rfl, hb, hgot⟩
      go_wp2
      exact ⟨rfl, hb, hgot.down (by omega)⟩
    · intro vals w1 hx hd ha
      have r10 : (fun v w1 => PoolGot r w.heap.size v w1) (vals 10) w1 := hd 10 (by decide)
      dsimp only at r10
      clear hd ha
      simp only [Lf, dstAt, Act.put, List.getElem?_toArray, List.getElem?_cons_zero, List.getElem?_cons_succ, Option.bind_some, List.setIfInBounds_toArray, List.set_cons_zero, List.set_cons_succ]
      have p0 := ext_cell hx p0
      have p1 := ext_cell hx p1
      have p2 := ext_cell hx p2
      have p3 := ext_cell hx p3
      have yf := ext_cell hx yf
      have yt := ext_cell hx yt
      have yu := ext_cell hx yu
      rcases r10 with ⟨_, e1⟩ | ⟨q, t1, t2, t3, t4, _, e1, _⟩
      · rw [e1]; go_wp2; exact ⟨rfl, Ext.refl _, _, rfl⟩
      · rw [e1]; go_wp2; exact ⟨rfl, Ext.refl _, _, rfl⟩
    · intro vals w1 hx hd ha
      have r10 : (fun v w1 => PoolGot r w.heap.size v w1) (vals 10) w1 := hd 10 (by decide)
      dsimp only at r10
      clear hd ha
      simp only [Lf, dstAt, Act.put, List.getElem?_toArray, List.getElem?_cons_zero, List.getElem?_cons_succ, Option.bind_some, List.setIfInBounds_toArray, List.set_cons_zero, List.set_cons_succ]
      have p0 := ext_cell hx p0
      have p1 := ext_cell hx p1
      have p2 := ext_cell hx p2
      have p3 := ext_cell hx p3
      have yf := ext_cell hx yf
      have yt := ext_cell hx yt
      have yu := ext_cell hx yu
      rcases r10 with ⟨_, e1⟩ | ⟨q, t1, t2, t3, t4, _, e1, _⟩
      · rw [e1]; go_wp2; exact ⟨rfl, Ext.refl _, _, rfl⟩
      · rw [e1]; go_wp2; exact ⟨rfl, Ext.refl _, _, rfl⟩
  intro vals w2 hx hf
  have hgot : PoolGot r w.heap.size (vals 10) w2 := hf 10 (by omega)
  have h11 : ∃ z, vals 10 = .tuple #[vals 11, z] := hf 11 (by omega)
  have h12 : ∃ z, vals 10 = .tuple #[z, vals 12] := hf 12 (by omega)
  clear hf p0 p1 p2 p3 yf yt yu
  have hx := hx.undrew
  have hB2 : Below w.heap.size w w2 := hBW.trans (Below.mono hx (by omega))
  have jr2 := jr.ext hx
  clear jp jf jt ju jr hBW hx
  refine tailF 13 _ _ 1 (by kernel_rfl) rfl ?_ (fun a w q => tail1 14 _ (by kernel_rfl) (by kernel_rfl) rfl q)
  simp only [Lf, dstAt, Act.put, List.getElem?_toArray, List.getElem?_cons_zero, List.getElem?_cons_succ, Option.bind_some, List.setIfInBounds_toArray, List.set_cons_zero, List.set_cons_succ]
  have hc0 := jr2.cell 0
  have hc1 := jr2.cell 1
  have hc2 := jr2.cell 2
  have hc3 := jr2.cell 3
  have hf0 := jr2.frozen 0
  have hf1 := jr2.frozen 1
  have hf2 := jr2.frozen 2
  have hf3 := jr2.frozen 3
  rcases hgot with ⟨hr, e10⟩ | ⟨q, t1, t2, t3, t4, hr, e10, hp⟩
  · rw [tup0 e10 h11, tup1 e10 h12]
    have HR := Lib.hid hr
    clear hr e10 h11 h12
    unfold nilV
    go_wp2
    generalize hW4 : ((((w2.setCell ⟨w.heap.size + 4, 0, none⟩ _).setCell ⟨w.heap.size + 4, 1, none⟩ _).setCell ⟨w.heap.size + 4, 2, none⟩ _).setCell ⟨w.heap.size + 4, 3, none⟩ _) = w4
    have j4 : Blk w4 (w.heap.size + 4) 26 nil4 := by subst hW4; exact jr2.set4 _ _ _ _
    have hB4 : Below w.heap.size w w4 := by subst hW4; exact below_set4 hB2 (by omega) _ _ _ _
    clear hc0 hc1 hc2 hc3
    have hc0 := j4.cell 0
    have hc1 := j4.cell 1
    have hc2 := j4.cell 2
    have hc3 := j4.cell 3
    exact bodyPost_ret (v := .tuple #[nilV, .int .i64 250]) (by simp [results, Try.results27, go_sem, hc0, hc1, hc2, hc3, nilV]) rfl ⟨_, rfl, hB4, .inl ⟨HR.out, rfl⟩⟩
  · rw [tup0 e10 h11, tup1 e10 h12]
    have HR := Lib.hid hr
    clear hr e10 h11 h12
    obtain ⟨D1, m1, d1⟩ := t1; obtain ⟨D2, m2, d2⟩ := t2; obtain ⟨D3, m3, d3⟩ := t3; obtain ⟨D4, m4, d4⟩ := t4
    simp only [poolV, Sl.v]
    go_wp2
    generalize hW4 : ((((w2.setCell ⟨w.heap.size + 4, 0, none⟩ _).setCell ⟨w.heap.size + 4, 1, none⟩ _).setCell ⟨w.heap.size + 4, 2, none⟩ _).setCell ⟨w.heap.size + 4, 3, none⟩ _) = w4
    have j4 : Blk w4 (w.heap.size + 4) 26 #[.slice D1 m1 d1, .slice D2 m2 d2, .slice D3 m3 d3, .slice D4 m4 d4] := by subst hW4; exact jr2.set4 _ _ _ _
    have hB4 : Below w.heap.size w w4 := by subst hW4; exact below_set4 hB2 (by omega) _ _ _ _
    have hp4 := by
      have hp4 := hp.set4 jr2 (.slice D1 m1 d1) (.slice D2 m2 d2) (.slice D3 m3 d3) (.slice D4 m4 d4)
      rw [hW4] at hp4
      exact hp4
    clear hc0 hc1 hc2 hc3
    have hc0 := j4.cell 0
    have hc1 := j4.cell 1
    have hc2 := j4.cell 2
    have hc3 := j4.cell 3
    exact bodyPost_ret (v := .tuple #[poolV ⟨D1, m1, d1⟩ ⟨D2, m2, d2⟩ ⟨D3, m3, d3⟩ ⟨D4, m4, d4⟩, .int .i64 0]) (by simp [results, Try.results27, go_sem, hc0, hc1, hc2, hc3]) rfl ⟨_, rfl, hB4, .inr ⟨_, _, _, _, _, HR.out, rfl, hp4⟩⟩

end Go.Proofs.Ytpddnkefggaigaa
