/- sane. -/
import Derived.Test.YtikphbgfcpamgaaP29
import Derived.Test.YtikphbgfcpamgaaP03
import Derived.Test.YtikphbgfcpamgaaP11
import Derived.Test.YtikphbgfcpamgaaP08
import Derived.Laws.Rows
import Derived.Test.YtikphbgfcpamgaaP28
namespace Go.Proofs.Ytikphbgfcpamgaa
open Go.RowKit

def I64ok (n : Int) : Prop := -9223372036854775808 ≤ n ∧ n ≤ 9223372036854775807
theorem tdiv_ok {x n : Int} (h : I64ok x) (hn : 1 ≤ n) : I64ok (x.tdiv n) ∧ IntKind.i64.wrap (x.tdiv n) = x.tdiv n := by
  have h1 : I64ok (x.tdiv n) := by
    obtain ⟨h1, h2⟩ := h
    by_cases h1n : n = 1
    · subst h1n
      rw [Int.tdiv_one]
      exact ⟨h1, h2⟩
    have := Int.natAbs_tdiv_le_natAbs x n
    have : (x.tdiv n).natAbs ≤ x.natAbs := this
    by_cases hx : x.natAbs = 9223372036854775808
    · have e : (x.tdiv n).natAbs = x.natAbs / n.natAbs := Int.natAbs_tdiv x n
      have : x.natAbs / n.natAbs ≤ x.natAbs / 2 := Nat.div_le_div_left (by omega) (by omega)
      unfold I64ok
      omega
    · unfold I64ok
      omega
  exact ⟨h1, IntWalk.i64_in _ (by obtain ⟨h2, h3⟩ := h1; omega)⟩
def sixCells (x : Six) : List Value := [.int .i64 x.a0, .int .i64 x.a1, .int .i64 x.a2, .int .i64 x.a3, .int .i64 x.a4, .int .i64 x.a5]
theorem six_len (x : Six) : (sixCells x).length = 6 := rfl
def Six.ok (x : Six) : Prop := I64ok x.a0 ∧ I64ok x.a1 ∧ I64ok x.a2 ∧ I64ok x.a3 ∧ I64ok x.a4 ∧ I64ok x.a5
def One (g : Nat) (w w' : World) : Prop := w.grownBy w' (some g)
section
variable {g g' : Nat} {w w' w'' : World}
theorem One.refl (g : Nat) (w : World) : One g w w := ⟨rfl, rfl, rfl, Nat.le_refl _, fun _ _ _ => rfl⟩
theorem One.trans (h : One g w w') (k : One g w' w'') : One g w w'' := ⟨k.os.trans h.os, k.tape.trans h.tape, k.output.trans h.output, Nat.le_trans h.size k.size, fun i hi hr => (k.block i (Nat.lt_of_lt_of_le hi h.size) hr).trans (h.block i hi hr)⟩
theorem One.row (h : One g w w') (cs : Array Value) : One g w (w'.setRow g cs) :=
  h.trans ⟨rfl, rfl, rfl, by simp, fun k _ hk => setRow_other _ _ _ _ (fun e => hk (by rw [e]))⟩
theorem One.own (h : One g w w') {b s n : Nat} {t t' : TypeId} {v : Value} {xs : List Value} {cs : Array Value} (ho : w.ownsRow b t s v n xs) (hb : Blk w g t' cs) (hne : t ≠ t') : w'.ownsRow b t s v n xs := by
  have hne := own_blk_ne ho hb hne
  refine ⟨ho.1, ?_⟩
  rcases ho.2 with hn | ⟨k, cap, cur, rfl, hb2, hgg, r⟩
  · exact .inl hn
  · exact .inr ⟨k, cap, cur, rfl, hb2, (h.block k (Array.getElem?_eq_some_iff.1 hgg).1 (fun e => hne (by rw [← e]; rfl))).trans hgg, r⟩
theorem One.ext (k : One g w' w'') (h : Ext w w') (hg : w.heap.size ≤ g) : Ext w w'' := h.grown k (Below.size h) (fun q e => by injection e with e; omega)
theorem Blk.row {t : TypeId} {cs : Array Value} (h : Blk w g t cs) (X : Array Value) : Blk (w.setRow g X) g t X := setRow_heap w g cs X t _ h
end
def OwnS (W : World) (b : Nat) (v : Value) (l : List Slt) : Prop := W.ownsRow b 62 3 v l.length (l.flatMap sltCells)
def OwnOs (W : World) (b : Nat) (v : Value) (os : List Opt) : Prop := W.ownsRow b 27 9 v os.length (os.flatMap optCells) ∧ ∀ o ∈ os, o.n = o.l.length ∧ OwnS W b (.slice o.a o.n o.c) o.l
theorem OwnOs.nil (W : World) (b : Nat) : OwnOs W b (.slice none 0 0) [] := ⟨World.ownsRow_nil _ _ _ _, fun x hx => by cases hx⟩
theorem OwnOs.ext {W W' : World} {b : Nat} {v : Value} {os : List Opt} (h : OwnOs W b v os) (hx : Ext W W') : OwnOs W' b v os := ⟨own_ext h.1 hx, fun x hm => ⟨(h.2 x hm).1, own_ext (h.2 x hm).2 hx⟩⟩
theorem OwnOs.base {W : World} {b b' : Nat} {v : Value} {os : List Opt} (h : OwnOs W b v os) (hb : b' ≤ b) : OwnOs W b' v os := ⟨own_base h.1 hb, fun x hm => ⟨(h.2 x hm).1, own_base (h.2 x hm).2 hb⟩⟩
theorem OwnOs.one {W W' : World} {b g : Nat} {v : Value} {os : List Opt} {t : TypeId} {cs : Array Value} (h : OwnOs W b v os) (k : One g W W') (hb : Blk W g t cs) (h1 : 27 ≠ t) (h2 : 62 ≠ t) : OwnOs W' b v os := ⟨k.own h.1 hb h1, fun x hm => ⟨(h.2 x hm).1, k.own (h.2 x hm).2 hb h2⟩⟩
theorem info_opt : (Try.prog.info? 27).map (fun i => (i.zero, i.size, i.bytes)) = some (some (.agg #[.int .i64 0, .int .i64 0, .int .i64 0, .int .i64 0, .int .i64 0, .int .i64 0, .int .i64 0, .int .i64 0, .slice none 0 0]), 9, 88) := by kernel_rfl
theorem info_slt : (Try.prog.info? 62).map (fun i => (i.zero, i.size, i.bytes)) = some (some (.agg #[.int .i64 0, .int .i64 0, .int .i64 0]), 3, 24) := by kernel_rfl
theorem opt_size : (Try.prog.info? 27).map (·.size) = some 9 := by kernel_rfl
theorem own_other {w w' : World} {b1 b2 s1 s2 n1 n2 : Nat} {t1 t2 : TypeId} {v1 v2 : Value} {x1 x2 : List Value} (h1 : w.ownsRow b1 t1 s1 v1 n1 x1) (h2 : w.ownsRow b2 t2 s2 v2 n2 x2) (hne : t1 ≠ t2) (hg : w.grownBy w' v2.ownBlock) : w'.ownsRow b1 t1 s1 v1 n1 x1 := by
  refine ⟨h1.1, ?_⟩
  rcases h1.2 with hn | ⟨k, cap, cur, rfl, hb2, hgg, r⟩
  · exact .inl hn
  · refine .inr ⟨k, cap, cur, rfl, hb2, (hg.block k (Array.getElem?_eq_some_iff.1 hgg).1 (fun e => ?_)).trans hgg, r⟩
    rcases h2.2 with ⟨rfl, _⟩ | ⟨k2, cap2, cur2, rfl, _, hgg2, _⟩
    · simp [Value.ownBlock] at e
    · have e2 : k = k2 := by simpa [Value.ownBlock] using e
      subst e2
      rw [hgg] at hgg2
      injection hgg2 with hgg2
      injection hgg2 with _ ht
      exact hne ht
theorem slt_snoc {w : World} (ty : TypeId) (l : List Slt) (v : Value) (x : Slt) (base gx : Nat) (jx : Blk w gx 62 (sltCells x).toArray) (h : OwnS w base v l) (hl : l.length ≤ 900) (hb : base ≤ w.heap.size) :
    ∃ v' w', (Builtin.append_ #[25, 25] ty #[v, .slice (some ⟨gx, 0, none⟩) 1 1]).run Try.prog w = .ok v' w' ∧ w.grownBy w' v.ownBlock ∧ OwnS w' base v' (l ++ [x]) := by
  obtain ⟨i0, hi0, hz0, hz1, hz2⟩ := info_parts info_slt
  obtain ⟨v2, W7, hr, hrow2, hg2, -⟩ := run_append_own (P := Try.prog) w base 25 ty 62 i0 _ 3 24 Try.underlying25 hi0 hz0 hz1 hz2 rfl (by omega) _ _ _ h ⟨gx, 0, none⟩ 1 1 (sltCells x) rfl (by intro i u hu; rw [Addr.add_lit, Nat.zero_add, jx.cell]; simpa using hu) (by simp [sltCells, Value.oneCell']) (by unfold maxLen; omega) (by omega) hb
  refine ⟨v2, W7, hr, hg2, ?_⟩
  unfold OwnS
  rw [List.length_append, List.flatMap_append]
  simpa using hrow2
theorem opt_snoc {w : World} (ty : TypeId) (os : List Opt) (v : Value) (x : Opt) (base gx : Nat) (jx : Blk w gx 27 (optCells x).toArray) (h : OwnOs w base v os) (hn : x.n = x.l.length) (ho : OwnS w base (.slice x.a x.n x.c) x.l) (hl : os.length ≤ 900) (hb : base ≤ w.heap.size) :
    ∃ v' w', (Builtin.append_ #[28, 28] ty #[v, .slice (some ⟨gx, 0, none⟩) 1 1]).run Try.prog w = .ok v' w' ∧ w.grownBy w' v.ownBlock ∧ OwnOs w' base v' (os ++ [x]) := by
  obtain ⟨i0, hi0, hz0, hz1, hz2⟩ := info_parts info_opt
  obtain ⟨v2, W7, hr, hrow2, hg2, -⟩ := run_append_own (P := Try.prog) w base 28 ty 27 i0 _ 9 88 Try.underlying28 hi0 hz0 hz1 hz2 rfl (by omega) _ _ _ h.1 ⟨gx, 0, none⟩ 1 1 (optCells x) rfl (by intro i u hu; rw [Addr.add_lit, Nat.zero_add, jx.cell]; simpa using hu) (by simp [optCells, Value.oneCell']) (by unfold maxLen; omega) (by omega) hb
  refine ⟨v2, W7, hr, hg2, ?_, fun y hy => ?_⟩
  · rw [List.length_append, List.flatMap_append]
    simpa using hrow2
  · rcases List.mem_append.1 hy with hy | hy
    · exact ⟨(h.2 y hy).1, own_other (h.2 y hy).2 h.1 (by decide) hg2⟩
    · rw [List.mem_singleton.1 hy]; exact ⟨hn, own_other ho h.1 (by decide) hg2⟩
theorem optsO_take (xs : List Six) (k : Nat) (h : k < xs.length) : ∀ i, optsO i (xs.take (k + 1)) = optsO i (xs.take k) ++ [optO (i + k) xs[k]] := by
  induction k generalizing xs with
  | zero =>
    intro i
    cases xs with
    | nil => simp at h
    | cons x r => simp [optsO]
  | succ k ih =>
    intro i
    cases xs with
    | nil => simp at h
    | cons x r =>
      have := ih r (by simpa using h) (i + 1)
      simp only [List.take_succ_cons, optsO, List.getElem_cons_succ, List.cons_append]
      rw [this, show i + 1 + k = i + (k + 1) by omega]
def oArr (id i1 sf st size : Int) (v : Value) : Array Value := #[.int .i64 id, .int .i64 i1, .int .i64 0, .int .i64 0, .int .i64 sf, .int .i64 st, .int .i64 0, .int .i64 size, v]
def OptsRet (fin : List Op) (w : World) (e : Ending) (w' : World) : Prop := ∃ v os, e = .returned v ∧ OwnOs w' w.heap.size v os ∧ os.map Opt.op = fin ∧ (os.map Opt.a).Nodup ∧ Ext w w'
set_option maxRecDepth 100000 in
set_option maxHeartbeats 2000000 in
theorem options_any (xs : List Six) (XA : Option Addr) (n c : Nat) (w : World) (hr : RA sixCells 6 w w.heap.size XA n c xs) (hb : ∀ x ∈ xs, x.ok) :
    Calls Try.prog 33 #[.slice XA n c] w (OptsRet (optsO 0 (xs.take 8)) w) := by
  have hle := hr.le
  have hxl := hr.len
  have HR := Lib.hid hr
  have HB := Lib.hid hb
  have HXL := Lib.hid hxl
  obtain ⟨fin, hfin⟩ : ∃ x : List Op, x = optsO 0 (xs.take 8) := ⟨_, rfl⟩
  rw [← hfin]
  have HFIN := Lib.hid hfin
  have HST0 : Hid (([] : List Opt).map Opt.op = optsO 0 (xs.take 0)) := Lib.hid rfl
  clear hfin hr hb hxl
  go_enter Try.func33, Try.ntmps33
  go_wp2
  go_loopw [3, 4] (fun u i wr => ∃ (k : Nat) (os : List Opt), k ≤ n ∧ k ≤ 8 ∧ i = .int .i64 k ∧ Hid (os.map Opt.op = optsO 0 (xs.take k)) ∧ Hid (OwnOs wr w.heap.size u os) ∧ os.length ≤ k ∧ Hid (os.map Opt.a).Nodup ∧ Ext w wr) (fun _ i _ => n - (intOf i).toNat)
  case atStart => exact ⟨0, [], Nat.zero_le _, Nat.zero_le _, rfl, HST0, Lib.hid (OwnOs.nil _ _), Nat.zero_le _, Lib.hid List.nodup_nil, Ext.refl _⟩
  case round =>
    clear HST0
    obtain ⟨k, os, hk, hk8, rfl, HS, HO, hol, HND, hxo⟩ := hrel
    obtain ⟨A3, c3, hv3, _, _⟩ := own_slice HO.out.1
    subst hv3
    obtain ⟨Wo, hwo⟩ : ∃ Wo, Wo = wr := ⟨_, rfl⟩
    subst hwo
    by_cases hkn : k < n
    · by_cases hk2 : k < 8
      · obtain ⟨b, ob, hz, hA, _, hcw⟩ := HR.out.at_ six_len hkn
        have hok := HB.out _ (List.getElem_mem hz)
        have hstep := optsO_take xs k hz 0
        generalize xs[k] = x at hcw hok hstep
        obtain ⟨x0, x1, x2, x3, x4, x5⟩ := x
        obtain ⟨b0, b1, b2, b3, b4, b5⟩ := hok
        dsimp only at b0 b1 b2 b3 b4 b5
        have w0 : w.cell? ⟨b, ob + k * 6, none⟩ = some (.int .i64 x0) := hcw 0 (by omega)
        have c0 := ext_cell hxo w0
        have w1 : w.cell? ⟨b, ob + k * 6 + 1, none⟩ = some (.int .i64 x1) := hcw 1 (by omega)
        have c1 := ext_cell hxo w1
        have w2 : w.cell? ⟨b, ob + k * 6 + 2, none⟩ = some (.int .i64 x2) := hcw 2 (by omega)
        have c2 := ext_cell hxo w2
        have w3 : w.cell? ⟨b, ob + k * 6 + 3, none⟩ = some (.int .i64 x3) := hcw 3 (by omega)
        have HW3 := Lib.hid w3
        have w4 : w.cell? ⟨b, ob + k * 6 + 4, none⟩ = some (.int .i64 x4) := hcw 4 (by omega)
        have HW4 := Lib.hid w4
        have w5 : w.cell? ⟨b, ob + k * 6 + 5, none⟩ = some (.int .i64 x5) := hcw 5 (by omega)
        have HW5 := Lib.hid w5
        have P0 := fun W => pick11_any x0 200 W b0.1 b0.2 (by omega) (by omega)
        have P1 := fun W => pick11_any x1 4 W b1.1 b1.2 (by omega) (by omega)
        have P2 := fun W => pick11_any x2 60 W b2.1 b2.2 (by omega) (by omega)
        have P3 := fun W => pick11_any x1 20 W b1.1 b1.2 (by omega) (by omega)
        have P4 := fun W => pick11_any x3 4 W b3.1 b3.2 (by omega) (by omega)
        have q0 := pickP_bd x0 200 (by omega)
        have q1 := pickP_bd x1 4 (by omega)
        have q2 := pickP_bd x2 60 (by omega)
        have q3 := pickP_bd x1 20 (by omega)
        have q4 := pickP_bd x3 4 (by omega)
        obtain ⟨cnt, hcnt⟩ : ∃ m : Nat, m = cntO ⟨x0, x1, x2, x3, x4, x5⟩ := ⟨_, rfl⟩
        have hcnt2 : (cnt : Int) = pickP x3 4 + 1 := by rw [hcnt]; unfold cntO; dsimp only; omega
        have hop : optO (0 + k) ⟨x0, x1, x2, x3, x4, x5⟩ = ⟨(k : Nat), 0, pickP x0 200, pickP x0 200 + 1 + pickP x1 20, 1 + pickP x2 60, slO ⟨x0, x1, x2, x3, x4, x5⟩ 0 (pickP x0 200 + 1 + pickP x1 20) cnt⟩ := by rw [hcnt, Nat.zero_add]; rfl
        rw [hop] at hstep
        obtain ⟨X, hX⟩ : ∃ X : Six, X = ⟨x0, x1, x2, x3, x4, x5⟩ := ⟨_, rfl⟩
        rw [← hX] at hstep
        have hX4 : X.a4 = x4 := by rw [hX]
        have hX5 : X.a5 = x5 := by rw [hX]
        have HX4 := Lib.hid hX4
        have HX5 := Lib.hid hX5
        clear hcnt hop hX hX4 hX5 hcw w0 w1 w2 w3 w4 w5
        generalize pickP x0 200 = p0 at P0 q0 hstep
        generalize pickP x1 4 = p1 at P1 q1
        generalize pickP x2 60 = p2 at P2 q2 hstep
        generalize pickP x1 20 = p3 at P3 q3 hstep
        generalize pickP x3 4 = p4 at P4 q4 hcnt2
        have HP0 := Lib.hid P0
        have HP1 := Lib.hid P1
        have HP2 := Lib.hid P2
        have HP3 := Lib.hid P3
        have HP4 := Lib.hid P4
        have HSTEP := Lib.hid hstep
        have hw1 : IntKind.i64.wrap (1 + p2) = 1 + p2 := IntWalk.i64_in _ (by omega)
        have hw2 : IntKind.i64.wrap (p0 + 1 + p3) = p0 + 1 + p3 := IntWalk.i64_in _ (by omega)
        have hw3 : IntKind.i64.wrap (p0 + 1) = p0 + 1 := IntWalk.i64_in _ (by omega)
        have hkz : (k : Int) < (n : Int) := by omega
        have hkz8 : (k : Int) < 8 := by omega
        subst hA
        clear P0 P1 P2 P3 P4 hstep hz b0 b1 b2 b3
        go_upto_region 6 with (go_at_call 49; refine (HP0.out _).mono ?_; rintro e w2 ⟨rfl, rfl⟩)
        refine wp_region_obl 27 (fun ix vals v w1 => match ix with | 0 => v = .int .i64 (k : Int) | 1 => v = .slice (some ⟨b, ob, none⟩) n c | 2 => v = .int .i64 (k : Int) | 3 => v = .pointer (some ⟨b, ob + k * 6, none⟩) | 4 => v = .pointer (some ⟨b, ob + k * 6 + 1, none⟩) | 5 => v = .int .i64 x1 | 6 => v = .int .i64 p1 | 7 => v = .slice (some ⟨b, ob, none⟩) n c | 8 => v = .int .i64 (k : Int) | 9 => v = .pointer (some ⟨b, ob + k * 6, none⟩) | 10 => v = .pointer (some ⟨b, ob + k * 6 + 2, none⟩) | 11 => v = .int .i64 x2 | 12 => v = .int .i64 p2 | 13 => v = .int .i64 (1 + p2) | 14 => v = .int .i64 p0 | 15 => v = .int .i64 p0 | 16 => v = .int .i64 (p0 + 1) | 17 => v = .slice (some ⟨b, ob, none⟩) n c | 18 => v = .int .i64 (k : Int) | 19 => v = .pointer (some ⟨b, ob + k * 6, none⟩) | 20 => v = .pointer (some ⟨b, ob + k * 6 + 1, none⟩) | 21 => v = .int .i64 x1 | 22 => v = .int .i64 p3 | 23 => v = .int .i64 (p0 + 1 + p3) | 24 => v = .agg #[.int .i64 p0, .int .i64 (p0 + 1 + p3)] | 25 => v = .agg #[.int .i64 (k : Int), .int .i64 p1, .int .i64 0, .int .i64 0, .int .i64 p0, .int .i64 (p0 + 1 + p3), .int .i64 0, .int .i64 (1 + p2), .slice none 0 0] | _ => ∃ g, v = .pointer (some ⟨g, 0, none⟩) ∧ Blk w1 g 27 #[.int .i64 0, .int .i64 0, .int .i64 0, .int .i64 0, .int .i64 0, .int .i64 0, .int .i64 0, .int .i64 0, .slice none 0 0] ∧ Wo.heap.size ≤ g) (by kernel_rfl) (by kernel_rfl) ?_ ?_ ?_ ?_
        · intro ix vals v w1 w2 hi hr hx
          match ix, hr with
          | 0, hr => exact hr
          | 1, hr => exact hr
          | 2, hr => exact hr
          | 3, hr => exact hr
          | 4, hr => exact hr
          | 5, hr => exact hr
          | 6, hr => exact hr
          | 7, hr => exact hr
          | 8, hr => exact hr
          | 9, hr => exact hr
          | 10, hr => exact hr
          | 11, hr => exact hr
          | 12, hr => exact hr
          | 13, hr => exact hr
          | 14, hr => exact hr
          | 15, hr => exact hr
          | 16, hr => exact hr
          | 17, hr => exact hr
          | 18, hr => exact hr
          | 19, hr => exact hr
          | 20, hr => exact hr
          | 21, hr => exact hr
          | 22, hr => exact hr
          | 23, hr => exact hr
          | 24, hr => exact hr
          | 25, hr => exact hr
          | (kx + 26), hr => obtain ⟨g, h1, h2, h3⟩ := hr; exact ⟨g, h1, h2.ext hx, h3⟩
        · intro ix vals vals_ v w1 hi hv hr
          exact hr
        · refine obls_ofT [some 26, some 27, some 28, some 29, some 30, some 31, some 32, some 33, some 34, some 35, some 36, some 37, some 38, some 39, some 40, some 41, some 42, some 43, some 44, some 45, some 46, some 47, some 48, some 49, some 50, some 51, some 6, none] [(0, .slice (some ⟨b, ob, none⟩) n c), (4, .int .i64 (k : Int)), (5, .int .i64 p0)] 105 (by kernel_rfl) (by kernel_rfl) ⟨by kernel_rfl, by kernel_rfl, by kernel_rfl, trivial⟩ ?_
          refine ⟨?_, ?_, ?_, ?_, ?_, ?_, ?_, ?_, ?_, ?_, ?_, ?_, ?_, ?_, ?_, ?_, ?_, ?_, ?_, ?_, ?_, ?_, ?_, ?_, ?_, ?_, ?_, trivial⟩
          · intro vals w1 hx hd
            refine .r [(4, .int .i64 (k : Int))] (Op.move (Operand.const (.int .i64 (k : Int)))) 3 26 ⟨.out (by kernel_rfl) (by kernel_rfl), trivial⟩ ?_
            clear hd
            go_wp2
            exact ⟨rfl, Ext.refl _, rfl⟩
          · intro vals w1 hx hd
            refine .r [(0, .slice (some ⟨b, ob, none⟩) n c)] (Op.move (Operand.const (.slice (some ⟨b, ob, none⟩) n c))) 22 27 ⟨.out (by kernel_rfl) (by kernel_rfl), trivial⟩ ?_
            clear hd
            go_wp2
            exact ⟨rfl, Ext.refl _, rfl⟩
          · intro vals w1 hx hd
            refine .r [(4, .int .i64 (k : Int))] (Op.move (Operand.const (.int .i64 (k : Int)))) 3 28 ⟨.out (by kernel_rfl) (by kernel_rfl), trivial⟩ ?_
            clear hd
            go_wp2
            exact ⟨rfl, Ext.refl _, rfl⟩
          · intro vals w1 hx hd
            refine .r [(27, .slice (some ⟨b, ob, none⟩) n c), (28, .int .i64 (k : Int))] (Op.indexAddr 22 (Operand.const (.slice (some ⟨b, ob, none⟩) n c)) (Operand.const (.int .i64 (k : Int)))) 0 29 ⟨.inn 1 (by kernel_rfl) (hd 1 (by decide)), .inn 2 (by kernel_rfl) (hd 2 (by decide)), trivial⟩ ?_
            clear hd
            go_wp2
            exact ⟨rfl, Ext.refl _, rfl⟩
          · intro vals w1 hx hd
            refine .r [(29, .pointer (some ⟨b, ob + k * 6, none⟩))] (Op.indexAddr 71 (Operand.const (.pointer (some ⟨b, ob + k * 6, none⟩))) (Operand.const (Value.int IntKind.i64 1))) 0 30 ⟨.inn 3 (by kernel_rfl) (hd 3 (by decide)), trivial⟩ ?_
            clear hd
            go_wp2
            exact ⟨rfl, Ext.refl _, rfl⟩
          · intro vals w1 hx hd
            refine .r [(30, .pointer (some ⟨b, ob + k * 6 + 1, none⟩))] (Op.load 3 (Operand.const (.pointer (some ⟨b, ob + k * 6 + 1, none⟩)))) 3 31 ⟨.inn 4 (by kernel_rfl) (hd 4 (by decide)), trivial⟩ ?_
            clear hd
            have c1 := ext_cell hx c1
            go_wp2
            exact ⟨rfl, Ext.refl _, rfl⟩
          · intro vals w1 hx hd
            refine .r [(31, .int .i64 x1)] (Op.call { callee := Callee.value (Operand.func 49), args := #[(Operand.const (.int .i64 x1)), Operand.const (Value.int IntKind.i64 4)], argTypes := #[3, 3] }) 3 32 ⟨.inn 5 (by kernel_rfl) (hd 5 (by decide)), trivial⟩ ?_
            clear hd
            go_wp2_with fail
            refine (HP1.out _).mono ?_
            rintro e w2 ⟨rfl, rfl⟩
            go_wp2
            exact ⟨rfl, Ext.refl _, rfl⟩
          · intro vals w1 hx hd
            refine .r [(0, .slice (some ⟨b, ob, none⟩) n c)] (Op.move (Operand.const (.slice (some ⟨b, ob, none⟩) n c))) 22 33 ⟨.out (by kernel_rfl) (by kernel_rfl), trivial⟩ ?_
            clear hd
            go_wp2
            exact ⟨rfl, Ext.refl _, rfl⟩
          · intro vals w1 hx hd
            refine .r [(4, .int .i64 (k : Int))] (Op.move (Operand.const (.int .i64 (k : Int)))) 3 34 ⟨.out (by kernel_rfl) (by kernel_rfl), trivial⟩ ?_
            clear hd
            go_wp2
            exact ⟨rfl, Ext.refl _, rfl⟩
          · intro vals w1 hx hd
            refine .r [(33, .slice (some ⟨b, ob, none⟩) n c), (34, .int .i64 (k : Int))] (Op.indexAddr 22 (Operand.const (.slice (some ⟨b, ob, none⟩) n c)) (Operand.const (.int .i64 (k : Int)))) 0 35 ⟨.inn 7 (by kernel_rfl) (hd 7 (by decide)), .inn 8 (by kernel_rfl) (hd 8 (by decide)), trivial⟩ ?_
            clear hd
            go_wp2
            exact ⟨rfl, Ext.refl _, rfl⟩
          · intro vals w1 hx hd
            refine .r [(35, .pointer (some ⟨b, ob + k * 6, none⟩))] (Op.indexAddr 71 (Operand.const (.pointer (some ⟨b, ob + k * 6, none⟩))) (Operand.const (Value.int IntKind.i64 2))) 0 36 ⟨.inn 9 (by kernel_rfl) (hd 9 (by decide)), trivial⟩ ?_
            clear hd
            go_wp2
            exact ⟨rfl, Ext.refl _, rfl⟩
          · intro vals w1 hx hd
            refine .r [(36, .pointer (some ⟨b, ob + k * 6 + 2, none⟩))] (Op.load 3 (Operand.const (.pointer (some ⟨b, ob + k * 6 + 2, none⟩)))) 3 37 ⟨.inn 10 (by kernel_rfl) (hd 10 (by decide)), trivial⟩ ?_
            clear hd
            have c2 := ext_cell hx c2
            go_wp2
            exact ⟨rfl, Ext.refl _, rfl⟩
          · intro vals w1 hx hd
            refine .r [(37, .int .i64 x2)] (Op.call { callee := Callee.value (Operand.func 49), args := #[(Operand.const (.int .i64 x2)), Operand.const (Value.int IntKind.i64 60)], argTypes := #[3, 3] }) 3 38 ⟨.inn 11 (by kernel_rfl) (hd 11 (by decide)), trivial⟩ ?_
            clear hd
            go_wp2_with fail
            refine (HP2.out _).mono ?_
            rintro e w2 ⟨rfl, rfl⟩
            go_wp2
            exact ⟨rfl, Ext.refl _, rfl⟩
          · intro vals w1 hx hd
            refine .r [(38, .int .i64 p2)] (Op.binOp BinOp.add 3 (Operand.const (Value.int IntKind.i64 1)) (Operand.const (.int .i64 p2)) 3) 3 39 ⟨.inn 12 (by kernel_rfl) (hd 12 (by decide)), trivial⟩ ?_
            clear hd
            go_wp2
            exact ⟨rfl, Ext.refl _, rfl⟩
          · intro vals w1 hx hd
            refine .r [(5, .int .i64 p0)] (Op.move (Operand.const (.int .i64 p0))) 3 40 ⟨.out (by kernel_rfl) (by kernel_rfl), trivial⟩ ?_
            clear hd
            go_wp2
            exact ⟨rfl, Ext.refl _, rfl⟩
          · intro vals w1 hx hd
            refine .r [(5, .int .i64 p0)] (Op.move (Operand.const (.int .i64 p0))) 3 41 ⟨.out (by kernel_rfl) (by kernel_rfl), trivial⟩ ?_
            clear hd
            go_wp2
            exact ⟨rfl, Ext.refl _, rfl⟩
          · intro vals w1 hx hd
            refine .r [(41, .int .i64 p0)] (Op.binOp BinOp.add 3 (Operand.const (.int .i64 p0)) (Operand.const (Value.int IntKind.i64 1)) 3) 3 42 ⟨.inn 15 (by kernel_rfl) (hd 15 (by decide)), trivial⟩ ?_
            clear hd
            go_wp2
            exact ⟨rfl, Ext.refl _, rfl⟩
          · intro vals w1 hx hd
            refine .r [(0, .slice (some ⟨b, ob, none⟩) n c)] (Op.move (Operand.const (.slice (some ⟨b, ob, none⟩) n c))) 22 43 ⟨.out (by kernel_rfl) (by kernel_rfl), trivial⟩ ?_
            clear hd
            go_wp2
            exact ⟨rfl, Ext.refl _, rfl⟩
          · intro vals w1 hx hd
            refine .r [(4, .int .i64 (k : Int))] (Op.move (Operand.const (.int .i64 (k : Int)))) 3 44 ⟨.out (by kernel_rfl) (by kernel_rfl), trivial⟩ ?_
            clear hd
            go_wp2
            exact ⟨rfl, Ext.refl _, rfl⟩
          · intro vals w1 hx hd
            refine .r [(43, .slice (some ⟨b, ob, none⟩) n c), (44, .int .i64 (k : Int))] (Op.indexAddr 22 (Operand.const (.slice (some ⟨b, ob, none⟩) n c)) (Operand.const (.int .i64 (k : Int)))) 0 45 ⟨.inn 17 (by kernel_rfl) (hd 17 (by decide)), .inn 18 (by kernel_rfl) (hd 18 (by decide)), trivial⟩ ?_
            clear hd
            go_wp2
            exact ⟨rfl, Ext.refl _, rfl⟩
          · intro vals w1 hx hd
            refine .r [(45, .pointer (some ⟨b, ob + k * 6, none⟩))] (Op.indexAddr 71 (Operand.const (.pointer (some ⟨b, ob + k * 6, none⟩))) (Operand.const (Value.int IntKind.i64 1))) 0 46 ⟨.inn 19 (by kernel_rfl) (hd 19 (by decide)), trivial⟩ ?_
            clear hd
            go_wp2
            exact ⟨rfl, Ext.refl _, rfl⟩
          · intro vals w1 hx hd
            refine .r [(46, .pointer (some ⟨b, ob + k * 6 + 1, none⟩))] (Op.load 3 (Operand.const (.pointer (some ⟨b, ob + k * 6 + 1, none⟩)))) 3 47 ⟨.inn 20 (by kernel_rfl) (hd 20 (by decide)), trivial⟩ ?_
            clear hd
            have c1 := ext_cell hx c1
            go_wp2
            exact ⟨rfl, Ext.refl _, rfl⟩
          · intro vals w1 hx hd
            refine .r [(47, .int .i64 x1)] (Op.call { callee := Callee.value (Operand.func 49), args := #[(Operand.const (.int .i64 x1)), Operand.const (Value.int IntKind.i64 20)], argTypes := #[3, 3] }) 3 48 ⟨.inn 21 (by kernel_rfl) (hd 21 (by decide)), trivial⟩ ?_
            clear hd
            go_wp2_with fail
            refine (HP3.out _).mono ?_
            rintro e w2 ⟨rfl, rfl⟩
            go_wp2
            exact ⟨rfl, Ext.refl _, rfl⟩
          · intro vals w1 hx hd
            refine .r [(42, .int .i64 (p0 + 1)), (48, .int .i64 p3)] (Op.binOp BinOp.add 3 (Operand.const (.int .i64 (p0 + 1))) (Operand.const (.int .i64 p3)) 3) 3 49 ⟨.inn 16 (by kernel_rfl) (hd 16 (by decide)), .inn 22 (by kernel_rfl) (hd 22 (by decide)), trivial⟩ ?_
            clear hd
            go_wp2
            exact ⟨rfl, Ext.refl _, rfl⟩
          · intro vals w1 hx hd
            refine .r [(40, .int .i64 p0), (49, .int .i64 (p0 + 1 + p3))] (Op.build 24 #[(0, (Operand.const (.int .i64 p0))), (1, (Operand.const (.int .i64 (p0 + 1 + p3))))]) 24 50 ⟨.inn 14 (by kernel_rfl) (hd 14 (by decide)), .inn 23 (by kernel_rfl) (hd 23 (by decide)), trivial⟩ ?_
            clear hd
            go_wp2
            exact ⟨rfl, Ext.refl _, rfl⟩
          · intro vals w1 hx hd
            refine .r [(26, .int .i64 (k : Int)), (32, .int .i64 p1), (39, .int .i64 (1 + p2)), (50, .agg #[.int .i64 p0, .int .i64 (p0 + 1 + p3)])] (Op.build 27 #[(0, (Operand.const (.int .i64 (k : Int)))), (1, (Operand.const (.int .i64 p1))), (3, Operand.const (Value.int IntKind.i64 0)), (6, (Operand.const (.int .i64 (1 + p2)))), (4, (Operand.const (.agg #[.int .i64 p0, .int .i64 (p0 + 1 + p3)])))]) 27 51 ⟨.inn 0 (by kernel_rfl) (hd 0 (by decide)), .inn 6 (by kernel_rfl) (hd 6 (by decide)), .inn 13 (by kernel_rfl) (hd 13 (by decide)), .inn 24 (by kernel_rfl) (hd 24 (by decide)), trivial⟩ ?_
            clear hd
            go_wp2
            exact ⟨rfl, Ext.refl _, rfl⟩
          · intro vals w1 hx hd
            refine .r [] (Op.alloc 27) 0 6 trivial ?_
            clear hd
            have hz9 := Below.size hx.undrew
            go_wp2
            exact ⟨rfl, (by repeat (first | exact Below.refl _ _ | assumption | refine Below.drew ?_ | refine below_drewN ?_ _ | refine bl_alloc ?_ _ | refine Below.setCell ?_ (by first | (simp; done) | omega | (simp; omega)) _ | refine bl_then ?_ (by assumption))), _, rfl, Blk.new _ _ _, hz9⟩
        intro vals W5 hy hf
        have v25 : vals 25 = .agg #[.int .i64 (k : Int), .int .i64 p1, .int .i64 0, .int .i64 0, .int .i64 p0, .int .i64 (p0 + 1 + p3), .int .i64 0, .int .i64 (1 + p2), .slice none 0 0] := hf 25 (by omega)
        obtain ⟨g6, v26, jf, hg6⟩ : ∃ g, vals 26 = .pointer (some ⟨g, 0, none⟩) ∧ Blk W5 g 27 #[.int .i64 0, .int .i64 0, .int .i64 0, .int .i64 0, .int .i64 0, .int .i64 0, .int .i64 0, .int .i64 0, .slice none 0 0] ∧ Wo.heap.size ≤ g := hf 26 (by omega)
        have hy := hy.undrew
        obtain ⟨pe, hpe⟩ : ∃ y, y = p0 + 1 + p3 := ⟨_, rfl⟩
        obtain ⟨ps, hps⟩ : ∃ y, y = 1 + p2 := ⟨_, rfl⟩
        have hst2 := HSTEP.out
        rw [← hpe, ← hps] at hst2
        rw [← hpe, ← hps] at v25
        have HSTEP := Lib.hid hst2
        have jb := jf.row (oArr k p1 p0 pe ps (.slice none 0 0))
        have hone := (One.refl g6 W5).row (oArr k p1 p0 pe ps (.slice none 0 0))
        have hxr := hone.ext hy hg6
        have HJF := Lib.hid jf
        have hgw : w.heap.size ≤ g6 := Nat.le_trans (Below.size hxo) hg6
        have hgo : Wo.heap.size ≤ g6 := hg6
        clear hf hone jf hst2 hw1 hw2 hw3 HP0 HP1 HP2 HP3 c0 c1 c2
        have hpeb : 0 ≤ pe ∧ pe ≤ 300 := by omega
        clear hpe hps hy
        refine tail1 27 _ (by kernel_rfl) (by kernel_rfl) rfl ?_
        simp only [Lf, dstAt, Act.put, List.getElem?_toArray, List.getElem?_cons_zero, List.getElem?_cons_succ, Option.bind_some, List.setIfInBounds_toArray, List.set_cons_zero, List.set_cons_succ]
        rw [v25, v26]
        clear v25 v26
        go_upto_region 7 with (refine wpList_store_row rfl _ _ _ rfl g6 (oArr k p1 p0 pe ps (.slice none 0 0)) rfl rfl 27 _ HJF.out opt_size rfl (by simp [oArr, Value.oneCell']) ?_)
        generalize W5.setRow g6 (oArr k p1 p0 pe ps (.slice none 0 0)) = W6 at jb hxr ⊢
        clear HJF
        have d5 : W6.cell? ⟨g6, 5, none⟩ = some (.int .i64 pe) := jb.cell 5
        have HJB := Lib.hid jb
        have HL0 : Hid (([] : List Slt) ++ slO X 0 pe (cnt - 0) = slO X 0 pe cnt) := Lib.hid rfl
        clear jb
        go_wp2_with fail
        clear d5
        go_loopw [7, 8] (fun y x wr => ∃ (q : Nat) (e : Int) (v7 : Value) (sl : List Slt), q ≤ cnt ∧ x = .int .i64 q ∧ y = .int .i64 e ∧ 0 ≤ e ∧ e ≤ 300 + 100 * (q : Int) ∧ sl.length = q ∧ Hid (sl ++ slO X q e (cnt - q) = slO X 0 pe cnt) ∧ Hid (Blk wr g6 27 (oArr k p1 p0 pe ps v7)) ∧ Hid (OwnS wr Wo.heap.size v7 sl) ∧ Ext Wo wr) (fun _ x _ => cnt - (intOf x).toNat)
        case atStart => exact ⟨0, pe, .slice none 0 0, [], Nat.zero_le _, rfl, rfl, by omega, by omega, rfl, HL0, HJB, Lib.hid (World.ownsRow_nil _ _ _ _), hxr⟩
        case round =>
          clear HL0 HJB hxr
          obtain ⟨q, e, v7, sl, hq, rfl, rfl, he0, he1, hsl, HL, HJB, HOS, hxq⟩ := hrel
          obtain ⟨A7, c7, hv7, _, _⟩ := own_slice HOS.out
          subst hv7
          have HSLN := Lib.hid hsl
          clear hsl
          have c3_ := ext_cell (Ext.trans hxo hxq) HW3.out
          have c4 := ext_cell (Ext.trans hxo hxq) HW4.out
          have c5 := ext_cell (Ext.trans hxo hxq) HW5.out
          by_cases hqc : q < cnt
          · have hqz : (q : Int) ≤ p4 := by omega
            have hq3 : q ≤ 3 := by omega
            obtain ⟨t1, t2⟩ := tdiv_ok (x := x4) (n := 1 + 11 * (q : Int)) b4 (by omega)
            obtain ⟨t3, t4⟩ := tdiv_ok (x := x5) (n := 1 + 7 * (q : Int)) b5 (by omega)
            have P5 := fun W => pick11_any (x4.tdiv (1 + 11 * (q : Int))) 60 W t1.1 t1.2 (by omega) (by omega)
            have P6 := fun W => pick11_any (x5.tdiv (1 + 7 * (q : Int))) 10 W t3.1 t3.2 (by omega) (by omega)
            have r5 := pickP_bd (x4.tdiv (1 + 11 * (q : Int))) 60 (by omega)
            have r6 := pickP_bd (x5.tdiv (1 + 7 * (q : Int))) 10 (by omega)
            have hl := HL.out
            obtain ⟨f, hf⟩ : ∃ f, cnt - q = f + 1 := ⟨cnt - q - 1, by omega⟩
            have hf2 : f = cnt - (q + 1) := by omega
            rw [hf, slO] at hl
            unfold enO bgO at hl
            rw [HX4.out, HX5.out] at hl
            generalize pickP (x4.tdiv (1 + 11 * (q : Int))) 60 = u1 at P5 r5 hl
            generalize pickP (x5.tdiv (1 + 7 * (q : Int))) 10 = u2 at P6 r6 hl
            have hm1 : IntKind.i64.wrap (11 * (q : Int)) = 11 * (q : Int) := IntWalk.i64_in _ (by omega)
            have hm2 : IntKind.i64.wrap (1 + 11 * (q : Int)) = 1 + 11 * (q : Int) := IntWalk.i64_in _ (by omega)
            have hm3 : IntKind.i64.wrap (7 * (q : Int)) = 7 * (q : Int) := IntWalk.i64_in _ (by omega)
            have hm4 : IntKind.i64.wrap (1 + 7 * (q : Int)) = 1 + 7 * (q : Int) := IntWalk.i64_in _ (by omega)
            have hn1 : ¬ 1 + 11 * (q : Int) = 0 := by omega
            have hn2 : ¬ 1 + 7 * (q : Int) = 0 := by omega
            have hn3 : (1 + 11 * (q : Int) == 0) = false := by simpa using hn1
            have hn4 : (1 + 7 * (q : Int) == 0) = false := by simpa using hn2
            obtain ⟨bg, hbg⟩ : ∃ y, y = e + u1 := ⟨_, rfl⟩
            obtain ⟨en, hen⟩ : ∃ y, y = e + u1 + 1 + u2 := ⟨_, rfl⟩
            have ha1 : IntKind.i64.wrap (e + u1) = bg := by rw [hbg]; exact IntWalk.i64_in _ (by omega)
            have ha2 : IntKind.i64.wrap (bg + 1) = bg + 1 := IntWalk.i64_in _ (by omega)
            have ha3 : IntKind.i64.wrap (bg + 1 + u2) = en := by rw [hen, hbg]; exact IntWalk.i64_in _ (by omega)
            have henb : 0 ≤ en ∧ en ≤ 300 + 100 * ((q + 1 : Nat) : Int) := by omega
            rw [← hen, ← hbg, hf2] at hl
            clear hbg hen
            have HP5 := Lib.hid P5
            have HP6 := Lib.hid P6
            have HL2 := Lib.hid hl
            clear P5 P6 hl t1 t3
            go_wp2_with fail
            refine (HP4.out _).mono ?_
            rintro ee w2 ⟨rfl, rfl⟩
            go_wp2_with fail
            refine (HP5.out _).mono ?_
            rintro ee w2 ⟨rfl, rfl⟩
            go_wp2_with fail
            refine (HP6.out _).mono ?_
            rintro ee w2 ⟨rfl, rfl⟩
            have hl3 := HL2.out
            have hx1 : Ext wr (wr.alloc (.cells #[.int .i64 q, .int .i64 bg, .int .i64 en] 62)) := bl_alloc (Below.refl _ _) _
            have hws := hxq.size
            obtain ⟨v8, W8, hrun, hg8, hos8⟩ := slt_snoc (w := wr.alloc (.cells #[.int .i64 q, .int .i64 bg, .int .i64 en] 62)) 25 sl _ ⟨q, bg, en⟩ Wo.heap.size wr.heap.size (Blk.new _ _ _) (own_ext HOS.out hx1) (by have := HSLN.out; omega) (by rw [World.size_alloc]; omega)
            obtain ⟨A8, c8, hv8, _, _⟩ := own_slice hos8
            subst hv8
            have hnb : (Value.slice A7 sl.length c7).ownBlock ≠ some g6 := own_blk_ne HOS.out HJB.out (by decide)
            have j8 := (HJB.out.ext hx1).grown hg8 (fun ee => hnb ee.symm)
            have f8 : W8.frozen? ⟨g6, 8, none⟩ = false := j8.frozen 8
            have f9 : W8.cell? ⟨g6, 8, none⟩ = some (.slice A7 sl.length c7) := j8.cell 8
            have d8 : wr.cell? ⟨g6, 8, none⟩ = some (.slice A7 sl.length c7) := HJB.out.cell 8
            have hne8 : (Value.slice A8 (sl ++ [(⟨q, bg, en⟩ : Slt)]).length c8).ownBlock ≠ some g6 := own_blk_ne hos8 j8 (by decide)
            have HJ9 : Hid (Blk (W8.setCell ⟨g6, 8, none⟩ (.slice A8 (sl ++ [(⟨q, bg, en⟩ : Slt)]).length c8)) g6 27 (oArr k p1 p0 pe ps (.slice A8 (sl ++ [(⟨q, bg, en⟩ : Slt)]).length c8))) := Lib.hid (j8.set_ 8 _)
            have HOS9 : Hid (OwnS (W8.setCell ⟨g6, 8, none⟩ (.slice A8 (sl ++ [(⟨q, bg, en⟩ : Slt)]).length c8)) Wo.heap.size (.slice A8 (sl ++ [(⟨q, bg, en⟩ : Slt)]).length c8) (sl ++ [⟨q, bg, en⟩])) := Lib.hid (own_set hos8 (p := ⟨g6, 8, none⟩) hne8 _)
            have hx9 : Ext Wo (W8.setCell ⟨g6, 8, none⟩ (.slice A8 (sl ++ [(⟨q, bg, en⟩ : Slt)]).length c8)) := ((Ext.trans hxq hx1).grown hg8 (Below.size (Ext.trans hxq hx1)) (fun z ee => (World.ownsRow.lt HOS.out z ee).1)).setCell (p := ⟨g6, 8, none⟩) hgo _
            have hsl2 : (sl ++ [(⟨q, bg, en⟩ : Slt)]).length = q + 1 := by simp [HSLN.out]
            have HL3 : Hid ((sl ++ [(⟨q, bg, en⟩ : Slt)]) ++ slO X (q + 1) en (cnt - (q + 1)) = slO X 0 pe cnt) := Lib.hid (by rw [List.append_assoc]; exact hl3)
            have HSL2 := Lib.hid hsl2
            simp only [List.length_append, List.length_singleton] at HJ9 HOS9 hx9
            rw [List.length_append, List.length_singleton] at hrun
            have HRUN := Lib.hid hrun
            clear hrun hg8 hos8 hnb j8 hne8 hx1 hl3 HL HL2 HOS HJB hf hf2 hsl2
            go_wp2_with (refine wpList_append_run_ rfl _ _ _ rfl rfl rfl HRUN.out ?_)
            go_roundw
            case rel => exact ⟨q + 1, en, _, _, by omega, by go_num, rfl, henb.1, henb.2, HSL2.out, HL3, HJ9, HOS9, hx9⟩
            case measure => simp [intOf]; omega
          · have hqe : q = cnt := by omega
            have hqz : ¬ (q : Int) ≤ p4 := by omega
            have hsl3 : sl = slO X 0 pe cnt := by have h := HL.out; rw [hqe, Nat.sub_self, slO, List.append_nil] at h; exact h
            have d0 : wr.cell? ⟨g6, 0, none⟩ = some (.int .i64 (k : Int)) := HJB.out.cell 0
            have d1 : wr.cell? ⟨g6, 1, none⟩ = some (.int .i64 p1) := HJB.out.cell 1
            have d2 : wr.cell? ⟨g6, 2, none⟩ = some (.int .i64 0) := HJB.out.cell 2
            have d3 : wr.cell? ⟨g6, 3, none⟩ = some (.int .i64 0) := HJB.out.cell 3
            have d4 : wr.cell? ⟨g6, 4, none⟩ = some (.int .i64 p0) := HJB.out.cell 4
            have d5 : wr.cell? ⟨g6, 5, none⟩ = some (.int .i64 pe) := HJB.out.cell 5
            have d6 : wr.cell? ⟨g6, 6, none⟩ = some (.int .i64 0) := HJB.out.cell 6
            have d7 : wr.cell? ⟨g6, 7, none⟩ = some (.int .i64 ps) := HJB.out.cell 7
            have d8 : wr.cell? ⟨g6, 8, none⟩ = some (.slice A7 sl.length c7) := HJB.out.cell 8
            have hx1 : Ext wr (wr.alloc (.cells #[.int .i64 (k : Int), .int .i64 p1, .int .i64 0, .int .i64 0, .int .i64 p0, .int .i64 pe, .int .i64 0, .int .i64 ps, .slice A7 sl.length c7] 27)) := bl_alloc (Below.refl _ _) _
            have hwo := Below.size hxo
            have hxw := Ext.trans hxo hxq
            obtain ⟨v9, W9, hrun, hg9, hos9⟩ := opt_snoc (w := wr.alloc (.cells #[.int .i64 (k : Int), .int .i64 p1, .int .i64 0, .int .i64 0, .int .i64 p0, .int .i64 pe, .int .i64 0, .int .i64 ps, .slice A7 sl.length c7] 27)) 28 os (.slice A3 os.length c3) ⟨(k : Int), p1, 0, 0, p0, pe, 0, ps, A7, sl.length, c7, sl⟩ w.heap.size wr.heap.size (Blk.new _ _ _) ((HO.out.ext hxq).ext hx1) rfl (own_base (own_ext HOS.out hx1) hwo) (by omega) (by rw [World.size_alloc]; have := Below.size hxw; omega)
            have hx9 : Ext w W9 := (Ext.trans hxw hx1).grown hg9 (Below.size (Ext.trans hxw hx1)) (fun z ee => (World.ownsRow.lt HO.out.1 z ee).1)
            have HS2 : Hid ((os ++ [(⟨(k : Int), p1, 0, 0, p0, pe, 0, ps, A7, sl.length, c7, sl⟩ : Opt)]).map Opt.op = optsO 0 (xs.take (k + 1))) := Lib.hid (by
              rw [HSTEP.out, List.map_append, HS.out, ← hsl3]
              rfl)
            have hosl : (os ++ [(⟨(k : Int), p1, 0, 0, p0, pe, 0, ps, A7, sl.length, c7, sl⟩ : Opt)]).length ≤ k + 1 := by simp; omega
            have hnd : ((os ++ [(⟨(k : Int), p1, 0, 0, p0, pe, 0, ps, A7, sl.length, c7, sl⟩ : Opt)]).map Opt.a).Nodup := by
              rw [List.map_append, List.nodup_append]
              refine ⟨HND.out, by simp, fun x hx y hy e => ?_⟩
              obtain ⟨o, ho, rfl⟩ := List.mem_map.1 hx
              have hyA : y = A7 := by simpa using hy
              rw [hyA] at e
              have hs0 : 0 < sl.length := by have := HSLN.out; omega
              obtain ⟨g, cap, hv, _, hlt⟩ := HOS.out.form hs0
              have hA : A7 = some ⟨g, 0, none⟩ := by injection hv
              have h1 := (World.ownsRow.lt HOS.out g (by rw [hA]; rfl)).1
              have h2 := World.ownsRow.lt (HO.out.2 o ho).2 g (by rw [e, hA]; rfl)
              omega
            have HND2 := Lib.hid hnd
            have HRUN := Lib.hid hrun
            have HO9 := Lib.hid hos9
            have HOSL := Lib.hid hosl
            clear hnd hrun hg9 hos9 hx1 hxw hxq hosl hsl3 HL HOS HJB HSLN hqe
            go_wp2_with fail
            refine (HP4.out _).mono ?_
            rintro ee w2 ⟨rfl, rfl⟩
            go_wp2_with (refine wpList_append_run_ rfl _ _ _ rfl rfl rfl HRUN.out ?_)
            go_roundw
            case rel => exact ⟨k + 1, _, by omega, by omega, by go_num, HS2, HO9, HOSL.out, HND2, hx9⟩
            case measure => simp [intOf]; omega
      · have hk8z : ¬ (k : Int) < 8 := by omega
        have hS8 : os.map Opt.op = fin := by rw [HS.out, HFIN.out, show k = 8 by omega]
        by_cases hkn2 : (k : Int) < (n : Int)
        · go_wp2
          go_ret
          exact ⟨_, os, rfl, HO.out, hS8, HND.out, hxo⟩
        · exact absurd (by omega) hkn2
    · have hk8z : ¬ (k : Int) < (n : Int) := by omega
      have hS8 : os.map Opt.op = fin := by rw [HS.out, HFIN.out, List.take_of_length_le (by have := HXL.out; omega), List.take_of_length_le (by have := HXL.out; omega)]
      go_wp2
      go_ret
      exact ⟨_, os, rfl, HO.out, hS8, HND.out, hxo⟩
end Go.Proofs.Ytikphbgfcpamgaa
namespace Go.Proofs.Ytikphbgfcpamgaa
open Go.RowKit

theorem blk_ra {α : Type} {cells : α → List Value} {s : Nat} {w : World} {g : Nat} {t : TypeId} {cs : Array Value} (h : Blk w g t cs) (l : List α) (n : Nat) (hc : cs.toList = l.flatMap cells) (hl : l.length = n) (hs : (l.flatMap cells).length = n * s) (hn : n ≤ 1000) : RA cells s w w.heap.size (some ⟨g, 0, none⟩) n n l := by
  refine ⟨⟨hs, fun _ => ⟨g, 0, rfl, h.lt, fun k u hk => ?_⟩⟩, hl, Nat.le_refl _, by unfold maxLen; omega, by omega⟩
  rw [Nat.zero_add, h.cell, ← hk, ← hc]
  simp
theorem ra_nil {α : Type} {cells : α → List Value} {s : Nat} {w : World} {B : Nat} : RA cells s w B none 0 0 [] := ⟨⟨by simp, fun h => absurd h (by omega)⟩, rfl, Nat.le_refl _, Nat.zero_le _, Nat.zero_le _⟩
def exO (g0 g1 : Nat) : List Opt := [⟨0, 0, 0, 0, 0, 5, 0, 1, some ⟨g0, 0, none⟩, 2, 2, [⟨1, 10, 12⟩, ⟨2, 30, 32⟩]⟩, ⟨1, 0, 0, 0, 5, 8, 0, 1, some ⟨g1, 0, none⟩, 1, 1, [⟨1, 20, 22⟩]⟩]
def exC (g0 g1 : Nat) : Array Value := #[.int .i64 0, .int .i64 0, .int .i64 0, .int .i64 0, .int .i64 0, .int .i64 5, .int .i64 0, .int .i64 1, .slice (some ⟨g0, 0, none⟩) 2 2, .int .i64 1, .int .i64 0, .int .i64 0, .int .i64 0, .int .i64 5, .int .i64 8, .int .i64 0, .int .i64 1, .slice (some ⟨g1, 0, none⟩) 1 1]
theorem exO_ops (g0 g1 : Nat) : opsP (exO g0 g1) = exL := rfl
structure Ex (W : World) (B g0 g1 g2 : Nat) : Prop where
  k0 : Blk W g0 62 #[.int .i64 1, .int .i64 10, .int .i64 12, .int .i64 2, .int .i64 30, .int .i64 32]
  k1 : Blk W g1 62 #[.int .i64 1, .int .i64 20, .int .i64 22]
  k2 : Blk W g2 27 (exC g0 g1)
  b2 : B ≤ g2
theorem Ex.ext {W W' : World} {B g0 g1 g2 : Nat} (h : Ex W B g0 g1 g2) (hx : Ext W W') : Ex W' B g0 g1 g2 := ⟨h.k0.ext hx, h.k1.ext hx, h.k2.ext hx, h.b2⟩
theorem Ex.ops {W : World} {B g0 g1 g2 : Nat} (h : Ex W B g0 g1 g2) : Ops W W.heap.size (some ⟨g2, 0, none⟩) 2 2 (exO g0 g1) := by
  refine ⟨blk_ra h.k2 _ 2 rfl rfl rfl (by omega), fun o ho => ?_⟩
  simp only [exO, List.mem_cons, List.not_mem_nil, or_false] at ho
  rcases ho with rfl | rfl
  · exact blk_ra h.k0 _ 2 rfl rfl rfl (by omega)
  · exact blk_ra h.k1 _ 1 rfl rfl rfl (by omega)
set_option maxRecDepth 100000 in
theorem example_any (w : World) : Calls Try.prog 32 #[] w fun e w' => ∃ g0 g1 g2, e = .returned (.slice (some ⟨g2, 0, none⟩) 2 2) ∧ Ex w' w.heap.size g0 g1 g2 ∧ Ext w w' := by
  go_enter Try.func32, Try.ntmps32
  go_wp2
  go_ret
  refine ⟨w.heap.size, w.heap.size + 1, w.heap.size + 1 + 1, by first | rfl | simp, ⟨?_, ?_, ?_, by omega⟩, bl_alloc (bl_alloc (bl_alloc (Below.refl _ _) _) _) _⟩
  · exact ((Blk.new _ _ _).alloc _).alloc _
  · exact (Blk.new_at _ _ _ (by simp)).alloc _
  · exact Blk.new_at _ _ _ (by simp)
end Go.Proofs.Ytikphbgfcpamgaa
