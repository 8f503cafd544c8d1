/- The reference: Lend, Return, Trade, Use, Free (printed by quota_ref.py). -/
import Derived.Test.YtpddnkefggaigaaR4
import Derived.Test.YtpddnkefggaigaaL2
namespace Go.Proofs.Ytpddnkefggaigaa
open Go.RowKit

theorem own_to_blk {W : World} {base g n c : Nat} {e : TypeId} {size : Nat} {xs : List Value} (h : W.ownsRow base e size (.slice (some ⟨g, 0, none⟩) n c) n xs) : ∃ cur, Blk W g e cur := by
  rcases h.2 with ⟨hv, _⟩ | ⟨g', cap, cur, hv, _, hh, _⟩
  · cases hv
  · injection hv with e1 _ _
    injection e1 with e1
    injection e1 with e1 _ _
    subst e1
    exact ⟨cur, hh⟩

/-- The copy that an operation of the reference works on. -/
structure QS (w W : World) (Bq Br g1 c1 g2 c2 : Nat) (A3 : Option Addr) (n3 c3 g4 c4 : Nat) (ls : List Loan) (s : St) : Prop where
  rows : Rows3 W w.heap.size g1 c1 g2 c2 g4 c4 s
  o3 : W.ownsRow w.heap.size 28 3 (.slice A3 n3 c3) n3 (ls.flatMap loanCells)
  jq : Blk W Bq 26 #[.slice (some ⟨g1, 0, none⟩) 16 c1, .slice (some ⟨g2, 0, none⟩) 16 c2, .slice A3 n3 c3, .slice (some ⟨g4, 0, none⟩) 16 c4]
  jr : Blk W Br 26 nil4
  below : Below w.heap.size w W

section
variable {w W : World} {Bq Br g1 c1 g2 c2 n3 c3 g4 c4 : Nat} {A3 : Option Addr} {ls : List Loan} {s : St}
theorem Rows3.blk (h : Rows3 W w.heap.size g1 c1 g2 c2 g4 c4 s) {f : Nat} (hf : okF f) : ∃ cur, Blk W (Gf g1 g2 g4 f) 3 cur := by
  rcases hf with rfl | rfl | rfl
  · exact own_to_blk h.r1
  · exact own_to_blk h.r2
  · exact own_to_blk h.r4
theorem QS.write (h : QS w W Bq Br g1 c1 g2 c2 A3 n3 c3 g4 c4 ls s) {f i : Nat} (hf : okF f) (hi : i < 16) (d : Int) : QS w (W.setCell ⟨Gf g1 g2 g4 f, i, none⟩ (I64 ((s.get f).getD i 0 + d))) Bq Br g1 c1 g2 c2 A3 n3 c3 g4 c4 ls (s.upd f i d) := by
  obtain ⟨cur, hb⟩ := h.rows.blk hf
  exact ⟨h.rows.write hf hi d, own_set h.o3 (own_blk_ne h.o3 hb (by decide)) _, h.jq.far (p := ⟨Gf g1 g2 g4 f, i, none⟩) (h.jq.ne_ hb (by decide)) _, h.jr.far (p := ⟨Gf g1 g2 g4 f, i, none⟩) (h.jr.ne_ hb (by decide)) _, h.below.setCell (p := ⟨Gf g1 g2 g4 f, i, none⟩) (h.rows.ge hf).1 _⟩
theorem QS.drew (h : QS w W Bq Br g1 c1 g2 c2 A3 n3 c3 g4 c4 ls s) {W' : World} (hx : Ext W W') : QS w W' Bq Br g1 c1 g2 c2 A3 n3 c3 g4 c4 ls s :=
  ⟨h.rows.ext hx, own_ext h.o3 hx, h.jq.ext hx, h.jr.ext hx, h.below.trans (Below.mono hx h.below.size)⟩
end

/-- The three rows lie apart. -/
def RowsApart (s1 s2 s4 : Sl) : Prop := ∃ g1 g2 g4 : Nat, s1.A = some ⟨g1, 0, none⟩ ∧ s2.A = some ⟨g2, 0, none⟩ ∧ s4.A = some ⟨g4, 0, none⟩ ∧ g1 ≠ g2 ∧ g1 ≠ g4 ∧ g2 ≠ g4
structure PoolOwnA (W : World) (base : Nat) (s1 s2 s3 s4 : Sl) (q : Pool) : Prop where
  own : PoolOwn W base s1 s2 s3 s4 q
  ap : RowsApart s1 s2 s4
section
variable {W W' : World} {base base' : Nat} {s1 s2 s3 s4 : Sl} {q : Pool}
theorem PoolOwnA.pool (h : PoolOwnA W base s1 s2 s3 s4 q) : PoolR W W.heap.size s1 s2 s3 s4 q := h.own.pool
theorem PoolOwnA.ext (h : PoolOwnA W base s1 s2 s3 s4 q) (hx : Ext W W') : PoolOwnA W' base s1 s2 s3 s4 q := ⟨h.own.ext hx, h.ap⟩
theorem PoolOwnA.down (h : PoolOwnA W base s1 s2 s3 s4 q) (hb : base' ≤ base) : PoolOwnA W base' s1 s2 s3 s4 q := ⟨h.own.down hb, h.ap⟩
theorem PoolOwnA.set4 (h : PoolOwnA W base s1 s2 s3 s4 q) {g : Nat} {cs : Array Value} (hb : Blk W g 26 cs) (a b c d : Value) : PoolOwnA ((((W.setCell ⟨g, 0, none⟩ a).setCell ⟨g, 1, none⟩ b).setCell ⟨g, 2, none⟩ c).setCell ⟨g, 3, none⟩ d) base s1 s2 s3 s4 q := ⟨h.own.set4 hb a b c d, h.ap⟩
end
/-- What a function of the reference returns that returns a pool or refuses. -/
def PoolGotA (r : Option Pool) (base : Nat) (v : Value) (W : World) : Prop :=
  (r = none ∧ v = .tuple #[nilV, .int .i64 250]) ∨ ∃ q s1 s2 s3 s4, r = some q ∧ v = .tuple #[poolV s1 s2 s3 s4, .int .i64 0] ∧ PoolOwnA W base s1 s2 s3 s4 q
theorem PoolGotA.got {r : Option Pool} {base : Nat} {v : Value} {W : World} (h : PoolGotA r base v W) : PoolGot r base v W := by
  rcases h with h | ⟨q, s1, s2, s3, s4, h1, h2, h3⟩
  · exact .inl h
  · exact .inr ⟨q, s1, s2, s3, s4, h1, h2, h3.own⟩
theorem PoolGotA.ext {r : Option Pool} {base : Nat} {v : Value} {W W' : World} (h : PoolGotA r base v W) (hx : Ext W W') : PoolGotA r base v W' := by
  rcases h with h | ⟨q, s1, s2, s3, s4, h1, h2, h3⟩
  · exact .inl h
  · exact .inr ⟨q, s1, s2, s3, s4, h1, h2, h3.ext hx⟩
theorem PoolGotA.down {r : Option Pool} {base base' : Nat} {v : Value} {W : World} (h : PoolGotA r base v W) (hb : base' ≤ base) : PoolGotA r base' v W := by
  rcases h with h | ⟨q, s1, s2, s3, s4, h1, h2, h3⟩
  · exact .inl h
  · exact .inr ⟨q, s1, s2, s3, s4, h1, h2, h3.down hb⟩
def PoolRetA (w : World) (r : Option Pool) (e : Ending) (w' : World) : Prop := ∃ v, e = .returned v ∧ Ext w w' ∧ PoolGotA r w.heap.size v w'

/-- What an operation of the reference answers. -/
def refP (ok : Bool) (s : St) (ls : List Loan) : Option Pool := if ok = true then (if validB ⟨s.h, s.u, ls, s.c⟩ = true then some ⟨s.h, s.u, ls, s.c⟩ else none) else none

theorem valid_parts {p : Pool} (h : validB p = true) : withinB p.has 0 1000000 = true ∧ withinB p.used 0 1000000 = true ∧ withinB p.cents (-1000000000000) 1000000000000 = true ∧ loansOK none p.loans = true ∧ p.cents.sum = 0 := by
  simp only [validB, Bool.and_eq_true, decide_eq_true_eq] at h
  exact ⟨h.1.1.1.1, h.1.1.1.2, h.1.1.2, h.1.2, h.2⟩

def rlendP (p : Pool) (f t u : Int) : Option Pool := refP (validB p && pairB f t u) ((p.st.upd 0 f.toNat (-u)).upd 0 t.toNat (u)) (owedR p.loans f t u)
set_option maxHeartbeats 2000000 in
theorem rlend_any (s1 s2 s3 s4 : Sl) (p : Pool) (f t u : Int) (w : World) (h : PoolR w w.heap.size s1 s2 s3 s4 p) :
    Calls Try.prog 47 #[poolV s1 s2 s3 s4, .int .i64 f, .int .i64 t, .int .i64 u] w (PoolRetA w (rlendP p f t u)) := by
  have hc0 := two_any s1 s2 s3 s4 p f t u
  have hcp := copied_apart s1 s2 s3 s4 p
  obtain ⟨A1, n1, c1⟩ := s1; obtain ⟨A2, n2, c2⟩ := s2; obtain ⟨A3, n3, c3⟩ := s3; obtain ⟨A4, n4, c4⟩ := s4
  show Calls Try.prog 47 #[.agg #[.slice A1 n1 c1, .slice A2 n2 c2, .slice A3 n3 c3, .slice A4 n4 c4], .int .i64 f, .int .i64 t, .int .i64 u] w _
  have hrp : rlendP p f t u = refP (validB p && pairB f t u) ((p.st.upd 0 f.toNat (-u)).upd 0 t.toNat (u)) (owedR p.loans f t u) := rfl
  generalize rlendP p f t u = r at hrp ⊢
  have HC := Lib.hid hc0
  have HCP := Lib.hid hcp
  have HR := Lib.hid hrp
  clear hc0 hcp hrp
  go_enter Try.func47, Try.ntmps47
  go_wp2_with fail
  generalize hW : ((w.alloc _).alloc _) = W
  have hBW : Below w.heap.size w W := by subst hW; exact (by repeat (first | exact Below.refl _ _ | assumption | refine Below.drew ?_ | refine below_drewN ?_ _ | refine bl_alloc ?_ _ | refine Below.setCell ?_ (by first | (simp; done) | omega | (simp; omega)) _ | refine bl_then ?_ (by assumption)))
  have hzW : w.heap.size + 2 ≤ W.heap.size := by subst hW; simp
  have jp : Blk W w.heap.size 26 #[.slice A1 n1 c1, .slice A2 n2 c2, .slice A3 n3 c3, .slice A4 n4 c4] := by subst hW; exact (Blk.new_at _ _ rfl).alloc _
  have jr : Blk W (w.heap.size + 1) 26 nil4 := by subst hW; exact Blk.new_at _ _ (by simp)
  clear hW
  refine (HC.out W ((h.below hBW).more (by omega))).mono ?_
  rintro e w1 ⟨rfl, hb⟩
  have hB1 : Below w.heap.size w w1 := hBW.trans (Below.mono hb (by omega))
  have hz1 : w.heap.size + 2 ≤ w1.heap.size := by have := Below.size hb; omega
  have jp1 := jp.ext hb
  have jr1 := jr.ext hb
  clear jp jr hBW HC hb hzW
  have hp0 := jp1.cell 0
  have hp1 := jp1.cell 1
  have hp2 := jp1.cell 2
  have hp3 := jp1.cell 3
  cases hk0 : (validB p && pairB f t u)
  · have hall : (validB p && pairB f t u) = false := (by simp [hk0])
    rw [hall] at HR
    clear hall
    clear hk0
    have hc0 := jr1.cell 0
    have hc1 := jr1.cell 1
    have hc2 := jr1.cell 2
    have hc3 := jr1.cell 3
    have hf0 := jr1.frozen 0
    have hf1 := jr1.frozen 1
    have hf2 := jr1.frozen 2
    have hf3 := jr1.frozen 3
    go_wp2
    generalize hW4 : ((((w1.setCell ⟨w.heap.size + 1, 0, none⟩ _).setCell ⟨w.heap.size + 1, 1, none⟩ _).setCell ⟨w.heap.size + 1, 2, none⟩ _).setCell ⟨w.heap.size + 1, 3, none⟩ _) = w4
    have j4 : Blk w4 (w.heap.size + 1) 26 nil4 := by subst hW4; exact jr1.set4 _ _ _ _
    have hB4 : Below w.heap.size w w4 := by subst hW4; exact below_set4 hB1 (by omega) _ _ _ _
    clear hc0 hc1 hc2 hc3
    have hc0 := j4.cell 0
    have hc1 := j4.cell 1
    have hc2 := j4.cell 2
    have hc3 := j4.cell 3
    exact bodyPost_ret (v := .tuple #[nilV, .int .i64 250]) (by simp [results, Try.results47, go_sem, hc0, hc1, hc2, hc3, nilV]) rfl ⟨_, rfl, hB4, .inl ⟨HR.out.trans rfl, rfl⟩⟩
  have hall : (validB p && pairB f t u) = true := (by simp [hk0])
  rw [hall] at HR
  clear hall
  obtain ⟨hvp, hpp⟩ := (Bool.and_eq_true _ _).mp hk0
  obtain ⟨h1, h2, h3, h4, hft, h5, h6⟩ := pairB_iff hpp
  obtain ⟨fn, rfl⟩ : ∃ n : Nat, f = (n : Int) := ⟨f.toNat, by omega⟩
  have lt_fn : fn < 16 := by omega
  have li_fn : (fn : Int) < 16 := by omega
  obtain ⟨tn, rfl⟩ : ∃ n : Nat, t = (n : Int) := ⟨t.toNat, by omega⟩
  have lt_tn : tn < 16 := by omega
  have li_tn : (tn : Int) < 16 := by omega
  simp only [Int.toNat_natCast] at HR
  have hvv := valid_parts hvp
  have HB := Lib.hid (st_bd ⟨hvv.1, hvv.2.1, hvv.2.2.1⟩)
  have HL := Lib.hid hvv.2.2.2.1
  go_wp2_with fail
  refine (HCP.out w1 ((h.below hB1).more (by omega)) (within_len hvv.1) (within_len hvv.2.1) (within_len hvv.2.2.1)).mono ?_
  rintro e w2 ⟨g1, c1, g2, c2, ⟨A3, n3, c3⟩, g4, c4, rfl, hb, hrow, ho3, hn3⟩
  have hn3 : n3 ≤ 1099511627776 := hn3
  clear HCP hvv hk0 h hp0 hp1 hp2 hp3 jp1
  go_wp2_with fail
  generalize hW : w2.alloc _ = W0
  have hq : QS w W0 w2.heap.size (w.heap.size + 1) g1 c1 g2 c2 A3 n3 c3 g4 c4 p.loans p.st := by
    subst hW
    have hxa : Ext w2 (w2.alloc (.cells #[.slice (some ⟨g1, 0, none⟩) 16 c1, .slice (some ⟨g2, 0, none⟩) 16 c2, .slice A3 n3 c3, .slice (some ⟨g4, 0, none⟩) 16 c4] 26)) := (by repeat (first | exact Below.refl _ _ | assumption | refine Below.drew ?_ | refine below_drewN ?_ _ | refine bl_alloc ?_ _ | refine Below.setCell ?_ (by first | (simp; done) | omega | (simp; omega)) _ | refine bl_then ?_ (by assumption)))
    have hr2 := hrow.ext hxa
    exact ⟨⟨own_base hr2.r1 (by omega), own_base hr2.r2 (by omega), own_base hr2.r4 (by omega), hr2.d12, hr2.d14, hr2.d24⟩, own_base (own_ext ho3 hxa) (by omega), Blk.new_at _ _ rfl, (jr1.ext hb).ext hxa, (hB1.trans (Below.mono hb (by omega))).trans (Below.mono hxa (by have := Below.size hb; omega))⟩
  generalize w2.heap.size = Bq at hq ⊢
  generalize hBr : w.heap.size + 1 = Br at hq ⊢
  have hgBr : w.heap.size ≤ Br := by omega
  clear hW hb hrow ho3 hB1 jr1 hBr hz1
  obtain ⟨s0, hs⟩ : ∃ q, q = p.st := ⟨_, rfl⟩
  rw [← hs] at hq HB
  have HS := Lib.hid hs
  clear hs
  have hcx : W0.cell? ⟨g1, fn, none⟩ = some (.int .i64 ((s0.get 0).getD fn 0)) := (hq.rows.cell (f := 0) (.inl rfl) lt_fn).1
  have hfx : ∀ W', Ext W0 W' → W'.frozen? ⟨g1, fn, none⟩ = false := fun W' hx => ((hq.drew hx).rows.cell (f := 0) (.inl rfl) lt_fn).2
  have pq : W0.cell? ⟨Bq, 0, none⟩ = some (.slice (some ⟨g1, 0, none⟩) 16 c1) := hq.jq.cell 0
  have hbx := HB.out 0 (.inl rfl) fn
  have hwx : ∀ W', Ext W0 W' → QS w (W'.setCell ⟨g1, fn, none⟩ (.int .i64 ((s0.get 0).getD fn 0 + -u))) Bq Br g1 c1 g2 c2 A3 n3 c3 g4 c4 p.loans (s0.upd 0 fn (-u)) := fun W' hx => (hq.drew hx).write (f := 0) (.inl rfl) lt_fn (-u)
  have hdx : ∀ W', Ext W0 W' → QS w W' Bq Br g1 c1 g2 c2 A3 n3 c3 g4 c4 p.loans s0 := fun W' hx => hq.drew hx
  have hbs := upd_bd HB.out (D := 1000000000000) (by omega) 0 fn (-u) (.inl rfl) (by omega)
  have hne : Bq ≠ g1 := (by obtain ⟨_, hb⟩ := hq.rows.blk (f := 0) (.inl rfl); exact hq.jq.ne_ hb (by decide))
  have hs : s0.upd 0 fn (-u) = p.st.upd 0 fn (-u) := (by rw [HS.out])
  generalize (s0.get 0).getD fn 0 = xx at hcx hbx hwx
  generalize s0.upd 0 fn (-u) = s1 at hwx hbs hs
  have HWX := Lib.hid hwx
  have HDX := Lib.hid hdx
  have HFX := Lib.hid hfx
  have hx1 := hbx.1
  have hx2 := hbx.2
  clear hq hbx hwx hdx HB HS hfx
  have HB := Lib.hid hbs
  have HS := Lib.hid hs
  clear hbs hs
  refine wp_region_obl 11 (fun ix vals v w1 => match ix with | 0 => v = .pointer (some ⟨Bq, 0, none⟩) | 1 => v = .slice (some ⟨g1, 0, none⟩) 16 c1 | 2 => v = .int .i64 (fn : Int) | 3 => v = .pointer (some ⟨Bq, 0, none⟩) | 4 => v = .slice (some ⟨g1, 0, none⟩) 16 c1 | 5 => v = .int .i64 (fn : Int) | 6 => v = .pointer (some ⟨g1, fn, none⟩) | 7 => v = .int .i64 xx | 8 => v = .int .i64 u | 9 => v = .int .i64 (xx + -u) | _ => v = .pointer (some ⟨g1, fn, none⟩)) (by kernel_rfl) (by kernel_rfl) ?_ ?_ ?_ ?_
  · intro ix vals v w1 w2 hi hr hx
    match ix, hr with
    | 0, hr => exact hr
    | 1, hr => exact hr
    | 2, hr => exact hr
    | 3, hr => exact hr
    | 4, hr => exact hr
    | 5, hr => exact hr
    | 6, hr => exact hr
    | 7, hr => exact hr
    | 8, hr => exact hr
    | 9, hr => exact hr
    | (kx + 10), hr => exact hr
  · intro ix vals vals_ v w1 hi hv hr
    exact hr
  · refine ⟨?_, ?_, ?_, ?_, ?_, ?_, ?_, ?_, ?_, ?_, ?_, trivial⟩
    · intro vals w1 hx hd ha
      clear hd ha
      simp only [Lf]
      have pq := ext_cell hx pq
      have hcx := ext_cell hx hcx
      go_wp2
      exact ⟨rfl, Ext.refl _, rfl⟩
    · intro vals w1 hx hd ha
      have e0 : vals 0 = .pointer (some ⟨Bq, 0, none⟩) := hd 0 (by decide)
      clear hd ha
      simp only [Lf, dstAt, Act.put, List.getElem?_toArray, List.getElem?_cons_zero, Option.bind_some, List.setIfInBounds_toArray, List.set_cons_zero, List.set_cons_succ]
      simp only [e0]
      clear e0
      have pq := ext_cell hx pq
      have hcx := ext_cell hx hcx
      go_wp2
      exact ⟨rfl, Ext.refl _, rfl⟩
    · intro vals w1 hx hd ha
      clear hd ha
      simp only [Lf, dstAt, Act.put, List.getElem?_toArray, List.getElem?_cons_zero, List.getElem?_cons_succ, Option.bind_some, List.setIfInBounds_toArray, List.set_cons_zero, List.set_cons_succ]
      have pq := ext_cell hx pq
      have hcx := ext_cell hx hcx
      go_wp2
      exact ⟨rfl, Ext.refl _, rfl⟩
    · intro vals w1 hx hd ha
      clear hd ha
      simp only [Lf, dstAt, Act.put, List.getElem?_toArray, List.getElem?_cons_zero, List.getElem?_cons_succ, Option.bind_some, List.setIfInBounds_toArray, List.set_cons_zero, List.set_cons_succ]
      have pq := ext_cell hx pq
      have hcx := ext_cell hx hcx
      go_wp2
      exact ⟨rfl, Ext.refl _, rfl⟩
    · intro vals w1 hx hd ha
      have e3 : vals 3 = .pointer (some ⟨Bq, 0, none⟩) := hd 3 (by decide)
      clear hd ha
      simp only [Lf, dstAt, Act.put, List.getElem?_toArray, List.getElem?_cons_zero, List.getElem?_cons_succ, Option.bind_some, List.setIfInBounds_toArray, List.set_cons_zero, List.set_cons_succ]
      simp only [e3]
      clear e3
      have pq := ext_cell hx pq
      have hcx := ext_cell hx hcx
      go_wp2
      exact ⟨rfl, Ext.refl _, rfl⟩
    · intro vals w1 hx hd ha
      clear hd ha
      simp only [Lf, dstAt, Act.put, List.getElem?_toArray, List.getElem?_cons_zero, List.getElem?_cons_succ, Option.bind_some, List.setIfInBounds_toArray, List.set_cons_zero, List.set_cons_succ]
      have pq := ext_cell hx pq
      have hcx := ext_cell hx hcx
      go_wp2
      exact ⟨rfl, Ext.refl _, rfl⟩
    · intro vals w1 hx hd ha
      have e4 : vals 4 = .slice (some ⟨g1, 0, none⟩) 16 c1 := hd 4 (by decide)
      have e5 : vals 5 = .int .i64 (fn : Int) := hd 5 (by decide)
      clear hd ha
      simp only [Lf, dstAt, Act.put, List.getElem?_toArray, List.getElem?_cons_zero, List.getElem?_cons_succ, Option.bind_some, List.setIfInBounds_toArray, List.set_cons_zero, List.set_cons_succ]
      simp only [e4, e5]
      clear e4 e5
      have pq := ext_cell hx pq
      have hcx := ext_cell hx hcx
      go_wp2
      exact ⟨rfl, Ext.refl _, rfl⟩
    · intro vals w1 hx hd ha
      have e6 : vals 6 = .pointer (some ⟨g1, fn, none⟩) := hd 6 (by decide)
      clear hd ha
      simp only [Lf, dstAt, Act.put, List.getElem?_toArray, List.getElem?_cons_zero, List.getElem?_cons_succ, Option.bind_some, List.setIfInBounds_toArray, List.set_cons_zero, List.set_cons_succ]
      simp only [e6]
      clear e6
      have pq := ext_cell hx pq
      have hcx := ext_cell hx hcx
      go_wp2
      exact ⟨rfl, Ext.refl _, rfl⟩
    · intro vals w1 hx hd ha
      clear hd ha
      simp only [Lf, dstAt, Act.put, List.getElem?_toArray, List.getElem?_cons_zero, List.getElem?_cons_succ, Option.bind_some, List.setIfInBounds_toArray, List.set_cons_zero, List.set_cons_succ]
      have pq := ext_cell hx pq
      have hcx := ext_cell hx hcx
      go_wp2
      exact ⟨rfl, Ext.refl _, rfl⟩
    · intro vals w1 hx hd ha
      have e7 : vals 7 = .int .i64 xx := hd 7 (by decide)
      have e8 : vals 8 = .int .i64 u := hd 8 (by decide)
      clear hd ha
      simp only [Lf, dstAt, Act.put, List.getElem?_toArray, List.getElem?_cons_zero, List.getElem?_cons_succ, Option.bind_some, List.setIfInBounds_toArray, List.set_cons_zero, List.set_cons_succ]
      simp only [e7, e8]
      clear e7 e8
      have pq := ext_cell hx pq
      have hcx := ext_cell hx hcx
      go_wp2
      exact ⟨rfl, Ext.refl _, rfl⟩
    · intro vals w1 hx hd ha
      have e0 : vals 0 = .pointer (some ⟨Bq, 0, none⟩) := hd 0 (by decide)
      have e1 : vals 1 = .slice (some ⟨g1, 0, none⟩) 16 c1 := hd 1 (by decide)
      have e2 : vals 2 = .int .i64 (fn : Int) := hd 2 (by decide)
      have e3 : vals 3 = .pointer (some ⟨Bq, 0, none⟩) := hd 3 (by decide)
      have e4 : vals 4 = .slice (some ⟨g1, 0, none⟩) 16 c1 := hd 4 (by decide)
      have e5 : vals 5 = .int .i64 (fn : Int) := hd 5 (by decide)
      have e6 : vals 6 = .pointer (some ⟨g1, fn, none⟩) := hd 6 (by decide)
      have e7 : vals 7 = .int .i64 xx := hd 7 (by decide)
      have e8 : vals 8 = .int .i64 u := hd 8 (by decide)
      have e9 : vals 9 = .int .i64 (xx + -u) := hd 9 (by decide)
      clear hd ha
      simp only [Lf, dstAt, Act.put, List.getElem?_toArray, List.getElem?_cons_zero, List.getElem?_cons_succ, Option.bind_some, List.setIfInBounds_toArray, List.set_cons_zero, List.set_cons_succ]
      simp only [e0, e1, e2, e3, e4, e5, e6, e7, e8, e9]
      clear e0 e1 e2 e3 e4 e5 e6 e7 e8 e9
      have pq := ext_cell hx pq
      have hcx := ext_cell hx hcx
      go_wp2
      exact ⟨rfl, Ext.refl _, rfl⟩
  intro vals w9 hx hf
  have f9 : vals 9 = .int .i64 (xx + -u) := hf 9 (by omega)
  have f10 : vals 10 = .pointer (some ⟨g1, fn, none⟩) := hf 10 (by omega)
  clear hf
  have hx := hx.undrew
  have hcx := ext_cell hx hcx
  have hfx := HFX.out w9 hx
  have hq := HWX.out w9 hx
  have hq0 := HDX.out w9 hx
  have p0 := hq0.jq.cell 0
  have p1 := hq0.jq.cell 1
  have p2 := hq0.jq.cell 2
  have p3 := hq0.jq.cell 3
  clear hx HWX HDX HFX pq hq0
  refine tail1 11 _ (by kernel_rfl) (by kernel_rfl) rfl ?_
  simp only [Lf, dstAt, Act.put, List.getElem?_toArray, List.getElem?_cons_zero, List.getElem?_cons_succ, Option.bind_some, List.setIfInBounds_toArray, List.set_cons_zero, List.set_cons_succ]
  rw [f9, f10]
  clear f9 f10
  have HQ := Lib.hid hq
  clear hq
  go_wp2_with fail
  have hq := HQ.out
  clear HQ hcx hfx p0 p1 p2 p3 hne
  generalize hW9 : w9.setCell ⟨g1, fn, none⟩ (.int .i64 (xx + -u)) = W1 at hq ⊢
  clear hW9 hx1 hx2
  have hcx : W1.cell? ⟨g1, tn, none⟩ = some (.int .i64 ((s1.get 0).getD tn 0)) := (hq.rows.cell (f := 0) (.inl rfl) lt_tn).1
  have hfx : ∀ W', Ext W1 W' → W'.frozen? ⟨g1, tn, none⟩ = false := fun W' hx => ((hq.drew hx).rows.cell (f := 0) (.inl rfl) lt_tn).2
  have pq : W1.cell? ⟨Bq, 0, none⟩ = some (.slice (some ⟨g1, 0, none⟩) 16 c1) := hq.jq.cell 0
  have hbx := HB.out 0 (.inl rfl) tn
  have hwx : ∀ W', Ext W1 W' → QS w (W'.setCell ⟨g1, tn, none⟩ (.int .i64 ((s1.get 0).getD tn 0 + u))) Bq Br g1 c1 g2 c2 A3 n3 c3 g4 c4 p.loans (s1.upd 0 tn (u)) := fun W' hx => (hq.drew hx).write (f := 0) (.inl rfl) lt_tn (u)
  have hdx : ∀ W', Ext W1 W' → QS w W' Bq Br g1 c1 g2 c2 A3 n3 c3 g4 c4 p.loans s1 := fun W' hx => hq.drew hx
  have hbs := upd_bd HB.out (D := 1000000000000) (by omega) 0 tn (u) (.inl rfl) (by omega)
  have hne : Bq ≠ g1 := (by obtain ⟨_, hb⟩ := hq.rows.blk (f := 0) (.inl rfl); exact hq.jq.ne_ hb (by decide))
  have hs : s1.upd 0 tn (u) = (p.st.upd 0 fn (-u)).upd 0 tn (u) := (by rw [HS.out])
  generalize (s1.get 0).getD tn 0 = xx at hcx hbx hwx
  generalize s1.upd 0 tn (u) = s2 at hwx hbs hs
  have HWX := Lib.hid hwx
  have HDX := Lib.hid hdx
  have HFX := Lib.hid hfx
  have hx1 := hbx.1
  have hx2 := hbx.2
  clear hq hbx hwx hdx HB HS hfx
  have HB := Lib.hid hbs
  have HS := Lib.hid hs
  clear hbs hs
  refine wp_region_obl 11 (fun ix vals v w1 => match ix with | 0 => v = .pointer (some ⟨Bq, 0, none⟩) | 1 => v = .slice (some ⟨g1, 0, none⟩) 16 c1 | 2 => v = .int .i64 (tn : Int) | 3 => v = .pointer (some ⟨Bq, 0, none⟩) | 4 => v = .slice (some ⟨g1, 0, none⟩) 16 c1 | 5 => v = .int .i64 (tn : Int) | 6 => v = .pointer (some ⟨g1, tn, none⟩) | 7 => v = .int .i64 xx | 8 => v = .int .i64 u | 9 => v = .int .i64 (xx + u) | _ => v = .pointer (some ⟨g1, tn, none⟩)) (by kernel_rfl) (by kernel_rfl) ?_ ?_ ?_ ?_
  · intro ix vals v w1 w2 hi hr hx
    match ix, hr with
    | 0, hr => exact hr
    | 1, hr => exact hr
    | 2, hr => exact hr
    | 3, hr => exact hr
    | 4, hr => exact hr
    | 5, hr => exact hr
    | 6, hr => exact hr
    | 7, hr => exact hr
    | 8, hr => exact hr
    | 9, hr => exact hr
    | (kx + 10), hr => exact hr
  · intro ix vals vals_ v w1 hi hv hr
    exact hr
  · refine ⟨?_, ?_, ?_, ?_, ?_, ?_, ?_, ?_, ?_, ?_, ?_, trivial⟩
    · intro vals w1 hx hd ha
      clear hd ha
      simp only [Lf]
      have pq := ext_cell hx pq
      have hcx := ext_cell hx hcx
      go_wp2
      exact ⟨rfl, Ext.refl _, rfl⟩
    · intro vals w1 hx hd ha
      have e0 : vals 0 = .pointer (some ⟨Bq, 0, none⟩) := hd 0 (by decide)
      clear hd ha
      simp only [Lf, dstAt, Act.put, List.getElem?_toArray, List.getElem?_cons_zero, Option.bind_some, List.setIfInBounds_toArray, List.set_cons_zero, List.set_cons_succ]
      simp only [e0]
      clear e0
      have pq := ext_cell hx pq
      have hcx := ext_cell hx hcx
      go_wp2
      exact ⟨rfl, Ext.refl _, rfl⟩
    · intro vals w1 hx hd ha
      clear hd ha
      simp only [Lf, dstAt, Act.put, List.getElem?_toArray, List.getElem?_cons_zero, List.getElem?_cons_succ, Option.bind_some, List.setIfInBounds_toArray, List.set_cons_zero, List.set_cons_succ]
      have pq := ext_cell hx pq
      have hcx := ext_cell hx hcx
      go_wp2
      exact ⟨rfl, Ext.refl _, rfl⟩
    · intro vals w1 hx hd ha
      clear hd ha
      simp only [Lf, dstAt, Act.put, List.getElem?_toArray, List.getElem?_cons_zero, List.getElem?_cons_succ, Option.bind_some, List.setIfInBounds_toArray, List.set_cons_zero, List.set_cons_succ]
      have pq := ext_cell hx pq
      have hcx := ext_cell hx hcx
      go_wp2
      exact ⟨rfl, Ext.refl _, rfl⟩
    · intro vals w1 hx hd ha
      have e3 : vals 3 = .pointer (some ⟨Bq, 0, none⟩) := hd 3 (by decide)
      clear hd ha
      simp only [Lf, dstAt, Act.put, List.getElem?_toArray, List.getElem?_cons_zero, List.getElem?_cons_succ, Option.bind_some, List.setIfInBounds_toArray, List.set_cons_zero, List.set_cons_succ]
      simp only [e3]
      clear e3
      have pq := ext_cell hx pq
      have hcx := ext_cell hx hcx
      go_wp2
      exact ⟨rfl, Ext.refl _, rfl⟩
    · intro vals w1 hx hd ha
      clear hd ha
      simp only [Lf, dstAt, Act.put, List.getElem?_toArray, List.getElem?_cons_zero, List.getElem?_cons_succ, Option.bind_some, List.setIfInBounds_toArray, List.set_cons_zero, List.set_cons_succ]
      have pq := ext_cell hx pq
      have hcx := ext_cell hx hcx
      go_wp2
      exact ⟨rfl, Ext.refl _, rfl⟩
    · intro vals w1 hx hd ha
      have e4 : vals 4 = .slice (some ⟨g1, 0, none⟩) 16 c1 := hd 4 (by decide)
      have e5 : vals 5 = .int .i64 (tn : Int) := hd 5 (by decide)
      clear hd ha
      simp only [Lf, dstAt, Act.put, List.getElem?_toArray, List.getElem?_cons_zero, List.getElem?_cons_succ, Option.bind_some, List.setIfInBounds_toArray, List.set_cons_zero, List.set_cons_succ]
      simp only [e4, e5]
      clear e4 e5
      have pq := ext_cell hx pq
      have hcx := ext_cell hx hcx
      go_wp2
      exact ⟨rfl, Ext.refl _, rfl⟩
    · intro vals w1 hx hd ha
      have e6 : vals 6 = .pointer (some ⟨g1, tn, none⟩) := hd 6 (by decide)
      clear hd ha
      simp only [Lf, dstAt, Act.put, List.getElem?_toArray, List.getElem?_cons_zero, List.getElem?_cons_succ, Option.bind_some, List.setIfInBounds_toArray, List.set_cons_zero, List.set_cons_succ]
      simp only [e6]
      clear e6
      have pq := ext_cell hx pq
      have hcx := ext_cell hx hcx
      go_wp2
      exact ⟨rfl, Ext.refl _, rfl⟩
    · intro vals w1 hx hd ha
      clear hd ha
      simp only [Lf, dstAt, Act.put, List.getElem?_toArray, List.getElem?_cons_zero, List.getElem?_cons_succ, Option.bind_some, List.setIfInBounds_toArray, List.set_cons_zero, List.set_cons_succ]
      have pq := ext_cell hx pq
      have hcx := ext_cell hx hcx
      go_wp2
      exact ⟨rfl, Ext.refl _, rfl⟩
    · intro vals w1 hx hd ha
      have e7 : vals 7 = .int .i64 xx := hd 7 (by decide)
      have e8 : vals 8 = .int .i64 u := hd 8 (by decide)
      clear hd ha
      simp only [Lf, dstAt, Act.put, List.getElem?_toArray, List.getElem?_cons_zero, List.getElem?_cons_succ, Option.bind_some, List.setIfInBounds_toArray, List.set_cons_zero, List.set_cons_succ]
      simp only [e7, e8]
      clear e7 e8
      have pq := ext_cell hx pq
      have hcx := ext_cell hx hcx
      go_wp2
      exact ⟨rfl, Ext.refl _, rfl⟩
    · intro vals w1 hx hd ha
      have e0 : vals 0 = .pointer (some ⟨Bq, 0, none⟩) := hd 0 (by decide)
      have e1 : vals 1 = .slice (some ⟨g1, 0, none⟩) 16 c1 := hd 1 (by decide)
      have e2 : vals 2 = .int .i64 (tn : Int) := hd 2 (by decide)
      have e3 : vals 3 = .pointer (some ⟨Bq, 0, none⟩) := hd 3 (by decide)
      have e4 : vals 4 = .slice (some ⟨g1, 0, none⟩) 16 c1 := hd 4 (by decide)
      have e5 : vals 5 = .int .i64 (tn : Int) := hd 5 (by decide)
      have e6 : vals 6 = .pointer (some ⟨g1, tn, none⟩) := hd 6 (by decide)
      have e7 : vals 7 = .int .i64 xx := hd 7 (by decide)
      have e8 : vals 8 = .int .i64 u := hd 8 (by decide)
      have e9 : vals 9 = .int .i64 (xx + u) := hd 9 (by decide)
      clear hd ha
      simp only [Lf, dstAt, Act.put, List.getElem?_toArray, List.getElem?_cons_zero, List.getElem?_cons_succ, Option.bind_some, List.setIfInBounds_toArray, List.set_cons_zero, List.set_cons_succ]
      simp only [e0, e1, e2, e3, e4, e5, e6, e7, e8, e9]
      clear e0 e1 e2 e3 e4 e5 e6 e7 e8 e9
      have pq := ext_cell hx pq
      have hcx := ext_cell hx hcx
      go_wp2
      exact ⟨rfl, Ext.refl _, rfl⟩
  intro vals w9 hx hf
  have f9 : vals 9 = .int .i64 (xx + u) := hf 9 (by omega)
  have f10 : vals 10 = .pointer (some ⟨g1, tn, none⟩) := hf 10 (by omega)
  clear hf
  have hx := hx.undrew
  have hcx := ext_cell hx hcx
  have hfx := HFX.out w9 hx
  have hq := HWX.out w9 hx
  have hq0 := HDX.out w9 hx
  have p0 := hq0.jq.cell 0
  have p1 := hq0.jq.cell 1
  have p2 := hq0.jq.cell 2
  have p3 := hq0.jq.cell 3
  clear hx HWX HDX HFX pq hq0
  refine tail1 11 _ (by kernel_rfl) (by kernel_rfl) rfl ?_
  simp only [Lf, dstAt, Act.put, List.getElem?_toArray, List.getElem?_cons_zero, List.getElem?_cons_succ, Option.bind_some, List.setIfInBounds_toArray, List.set_cons_zero, List.set_cons_succ]
  rw [f9, f10]
  clear f9 f10
  have HQ := Lib.hid hq
  clear hq
  go_wp2_with fail
  have hq := HQ.out
  clear HQ hcx hfx p0 p1 p2 p3 hne
  generalize hW9 : w9.setCell ⟨g1, tn, none⟩ (.int .i64 (xx + u)) = W2 at hq ⊢
  clear hW9 hx1 hx2
  have hsz := hq.below.size
  have h3r : RL W2 W2.heap.size ⟨A3, n3, c3⟩ p.loans := RL_of_own hq.o3 hn3
  have hlen : p.loans.length = n3 := h3r.len
  have hfew := loans_le p.loans HL.out
  have hun : ∀ x ∈ p.loans, 1 ≤ x.units ∧ x.units ≤ 1000000 := fun x hx => by have := loans_units p.loans none HL.out x hx; simp only [loanOK, Bool.and_eq_true, inB_iff] at this; exact this.2
  refine (owed_any ⟨some ⟨g1, 0, none⟩, 16, c1⟩ ⟨some ⟨g2, 0, none⟩, 16, c2⟩ ⟨A3, n3, c3⟩ ⟨some ⟨g4, 0, none⟩, 16, c4⟩ p.loans (fn : Int) (tn : Int) u W2 h3r hun (by omega) (by omega)).mono ?_
  rintro e w5 ⟨⟨D3, m3, d3⟩, rfl, hx5, ho5, hm5⟩
  have hm5 : m3 ≤ 2 * n3 + 1 := hm5
  have hq5 := hq.drew hx5
  have hpo : PoolOwnA w5 w.heap.size ⟨some ⟨g1, 0, none⟩, 16, c1⟩ ⟨some ⟨g2, 0, none⟩, 16, c2⟩ ⟨D3, m3, d3⟩ ⟨some ⟨g4, 0, none⟩, 16, c4⟩ ⟨s2.h, s2.u, owedR p.loans (fn : Int) (tn : Int) u, s2.c⟩ := ⟨⟨hq5.rows.r1, hq5.rows.r2, own_base ho5 hsz, hq5.rows.r4, by show 16 ≤ 1099511627776; omega, by show 16 ≤ 1099511627776; omega, by show m3 ≤ 1099511627776; omega, by show 16 ≤ 1099511627776; omega⟩, g1, g2, g4, rfl, rfl, rfl, hq5.rows.d12, hq5.rows.d14, hq5.rows.d24⟩
  have jr5 := hq5.jr
  have hB5 := hq5.below
  clear hq hq5 ho5 hx5 h3r hun HB HL hfew hlen hsz
  go_wp2_with fail
  have hr : r = if validB ⟨s2.h, s2.u, owedR p.loans (fn : Int) (tn : Int) u, s2.c⟩ = true then some ⟨s2.h, s2.u, owedR p.loans (fn : Int) (tn : Int) u, s2.c⟩ else none := by rw [HR.out, HS.out]; rfl
  refine (result_any ⟨some ⟨g1, 0, none⟩, 16, c1⟩ ⟨some ⟨g2, 0, none⟩, 16, c2⟩ ⟨D3, m3, d3⟩ ⟨some ⟨g4, 0, none⟩, 16, c4⟩ _ w5 hpo.pool).mono ?_
  rintro e w6 ⟨rfl, hx6⟩
  have hpo6 := hpo.ext hx6
  have jr6 := jr5.ext hx6
  have hB6 := hB5.trans (Below.mono hx6 hB5.size)
  clear hpo jr5 hB5 hx6 HS HR
  generalize (⟨s2.h, s2.u, owedR p.loans (fn : Int) (tn : Int) u, s2.c⟩ : Pool) = q at hr hpo6 ⊢
  have hc0 := jr6.cell 0
  have hc1 := jr6.cell 1
  have hc2 := jr6.cell 2
  have hc3 := jr6.cell 3
  have hf0 := jr6.frozen 0
  have hf1 := jr6.frozen 1
  have hf2 := jr6.frozen 2
  have hf3 := jr6.frozen 3
  generalize validB q = vb at hr ⊢
  have HR := Lib.hid hr
  have HPO := Lib.hid hpo6
  clear hr hpo6
  cases vb
  · simp only [resV, Bool.false_eq_true, if_false, nilV]
    go_wp2
    generalize hW4 : ((((w6.setCell ⟨Br, 0, none⟩ _).setCell ⟨Br, 1, none⟩ _).setCell ⟨Br, 2, none⟩ _).setCell ⟨Br, 3, none⟩ _) = w4
    have j4 : Blk w4 Br 26 nil4 := by subst hW4; exact jr6.set4 _ _ _ _
    have hB4 : Below w.heap.size w w4 := by subst hW4; exact below_set4 hB6 hgBr _ _ _ _
    clear hc0 hc1 hc2 hc3
    have hc0 := j4.cell 0
    have hc1 := j4.cell 1
    have hc2 := j4.cell 2
    have hc3 := j4.cell 3
    exact bodyPost_ret (v := .tuple #[nilV, .int .i64 250]) (by simp [results, Try.results47, go_sem, hc0, hc1, hc2, hc3, nilV]) rfl ⟨_, rfl, hB4, .inl ⟨HR.out, rfl⟩⟩
  · simp only [resV, if_true]
    go_wp2
    generalize hW4 : ((((w6.setCell ⟨Br, 0, none⟩ _).setCell ⟨Br, 1, none⟩ _).setCell ⟨Br, 2, none⟩ _).setCell ⟨Br, 3, none⟩ _) = w4
    have j4 : Blk w4 Br 26 #[.slice (some ⟨g1, 0, none⟩) 16 c1, .slice (some ⟨g2, 0, none⟩) 16 c2, .slice D3 m3 d3, .slice (some ⟨g4, 0, none⟩) 16 c4] := by subst hW4; exact jr6.set4 _ _ _ _
    have hB4 : Below w.heap.size w w4 := by subst hW4; exact below_set4 hB6 hgBr _ _ _ _
    have hp4 := by
      have hp4 := HPO.out.set4 jr6 (.slice (some ⟨g1, 0, none⟩) 16 c1) (.slice (some ⟨g2, 0, none⟩) 16 c2) (.slice D3 m3 d3) (.slice (some ⟨g4, 0, none⟩) 16 c4)
      rw [hW4] at hp4
      exact hp4
    clear hc0 hc1 hc2 hc3
    have hc0 := j4.cell 0
    have hc1 := j4.cell 1
    have hc2 := j4.cell 2
    have hc3 := j4.cell 3
    exact bodyPost_ret (v := .tuple #[poolV ⟨some ⟨g1, 0, none⟩, 16, c1⟩ ⟨some ⟨g2, 0, none⟩, 16, c2⟩ ⟨D3, m3, d3⟩ ⟨some ⟨g4, 0, none⟩, 16, c4⟩, .int .i64 0]) (by simp [results, Try.results47, go_sem, hc0, hc1, hc2, hc3]) rfl ⟨_, rfl, hB4, .inr ⟨_, _, _, _, _, HR.out, rfl, hp4⟩⟩

def rreturnP (p : Pool) (f t u : Int) : Option Pool := refP (validB p && pairB f t u) ((p.st.upd 0 f.toNat (-u)).upd 0 t.toNat (u)) (owedR p.loans t f (-u))
set_option maxHeartbeats 2000000 in
theorem rreturn_any (s1 s2 s3 s4 : Sl) (p : Pool) (f t u : Int) (w : World) (h : PoolR w w.heap.size s1 s2 s3 s4 p) :
    Calls Try.prog 48 #[poolV s1 s2 s3 s4, .int .i64 f, .int .i64 t, .int .i64 u] w (PoolRetA w (rreturnP p f t u)) := by
  have hc0 := two_any s1 s2 s3 s4 p f t u
  have hcp := copied_apart s1 s2 s3 s4 p
  obtain ⟨A1, n1, c1⟩ := s1; obtain ⟨A2, n2, c2⟩ := s2; obtain ⟨A3, n3, c3⟩ := s3; obtain ⟨A4, n4, c4⟩ := s4
  show Calls Try.prog 48 #[.agg #[.slice A1 n1 c1, .slice A2 n2 c2, .slice A3 n3 c3, .slice A4 n4 c4], .int .i64 f, .int .i64 t, .int .i64 u] w _
  have hrp : rreturnP p f t u = refP (validB p && pairB f t u) ((p.st.upd 0 f.toNat (-u)).upd 0 t.toNat (u)) (owedR p.loans t f (-u)) := rfl
  generalize rreturnP p f t u = r at hrp ⊢
  have HC := Lib.hid hc0
  have HCP := Lib.hid hcp
  have HR := Lib.hid hrp
  clear hc0 hcp hrp
  go_enter Try.func48, Try.ntmps48
  go_wp2_with fail
  generalize hW : ((w.alloc _).alloc _) = W
  have hBW : Below w.heap.size w W := by subst hW; exact (by repeat (first | exact Below.refl _ _ | assumption | refine Below.drew ?_ | refine below_drewN ?_ _ | refine bl_alloc ?_ _ | refine Below.setCell ?_ (by first | (simp; done) | omega | (simp; omega)) _ | refine bl_then ?_ (by assumption)))
  have hzW : w.heap.size + 2 ≤ W.heap.size := by subst hW; simp
  have jp : Blk W w.heap.size 26 #[.slice A1 n1 c1, .slice A2 n2 c2, .slice A3 n3 c3, .slice A4 n4 c4] := by subst hW; exact (Blk.new_at _ _ rfl).alloc _
  have jr : Blk W (w.heap.size + 1) 26 nil4 := by subst hW; exact Blk.new_at _ _ (by simp)
  clear hW
  refine (HC.out W ((h.below hBW).more (by omega))).mono ?_
  rintro e w1 ⟨rfl, hb⟩
  have hB1 : Below w.heap.size w w1 := hBW.trans (Below.mono hb (by omega))
  have hz1 : w.heap.size + 2 ≤ w1.heap.size := by have := Below.size hb; omega
  have jp1 := jp.ext hb
  have jr1 := jr.ext hb
  clear jp jr hBW HC hb hzW
  have hp0 := jp1.cell 0
  have hp1 := jp1.cell 1
  have hp2 := jp1.cell 2
  have hp3 := jp1.cell 3
  cases hk0 : (validB p && pairB f t u)
  · have hall : (validB p && pairB f t u) = false := (by simp [hk0])
    rw [hall] at HR
    clear hall
    clear hk0
    have hc0 := jr1.cell 0
    have hc1 := jr1.cell 1
    have hc2 := jr1.cell 2
    have hc3 := jr1.cell 3
    have hf0 := jr1.frozen 0
    have hf1 := jr1.frozen 1
    have hf2 := jr1.frozen 2
    have hf3 := jr1.frozen 3
    go_wp2
    generalize hW4 : ((((w1.setCell ⟨w.heap.size + 1, 0, none⟩ _).setCell ⟨w.heap.size + 1, 1, none⟩ _).setCell ⟨w.heap.size + 1, 2, none⟩ _).setCell ⟨w.heap.size + 1, 3, none⟩ _) = w4
    have j4 : Blk w4 (w.heap.size + 1) 26 nil4 := by subst hW4; exact jr1.set4 _ _ _ _
    have hB4 : Below w.heap.size w w4 := by subst hW4; exact below_set4 hB1 (by omega) _ _ _ _
    clear hc0 hc1 hc2 hc3
    have hc0 := j4.cell 0
    have hc1 := j4.cell 1
    have hc2 := j4.cell 2
    have hc3 := j4.cell 3
    exact bodyPost_ret (v := .tuple #[nilV, .int .i64 250]) (by simp [results, Try.results48, go_sem, hc0, hc1, hc2, hc3, nilV]) rfl ⟨_, rfl, hB4, .inl ⟨HR.out.trans rfl, rfl⟩⟩
  have hall : (validB p && pairB f t u) = true := (by simp [hk0])
  rw [hall] at HR
  clear hall
  obtain ⟨hvp, hpp⟩ := (Bool.and_eq_true _ _).mp hk0
  obtain ⟨h1, h2, h3, h4, hft, h5, h6⟩ := pairB_iff hpp
  obtain ⟨fn, rfl⟩ : ∃ n : Nat, f = (n : Int) := ⟨f.toNat, by omega⟩
  have lt_fn : fn < 16 := by omega
  have li_fn : (fn : Int) < 16 := by omega
  obtain ⟨tn, rfl⟩ : ∃ n : Nat, t = (n : Int) := ⟨t.toNat, by omega⟩
  have lt_tn : tn < 16 := by omega
  have li_tn : (tn : Int) < 16 := by omega
  simp only [Int.toNat_natCast] at HR
  have hvv := valid_parts hvp
  have HB := Lib.hid (st_bd ⟨hvv.1, hvv.2.1, hvv.2.2.1⟩)
  have HL := Lib.hid hvv.2.2.2.1
  go_wp2_with fail
  refine (HCP.out w1 ((h.below hB1).more (by omega)) (within_len hvv.1) (within_len hvv.2.1) (within_len hvv.2.2.1)).mono ?_
  rintro e w2 ⟨g1, c1, g2, c2, ⟨A3, n3, c3⟩, g4, c4, rfl, hb, hrow, ho3, hn3⟩
  have hn3 : n3 ≤ 1099511627776 := hn3
  clear HCP hvv hk0 h hp0 hp1 hp2 hp3 jp1
  go_wp2_with fail
  generalize hW : w2.alloc _ = W0
  have hq : QS w W0 w2.heap.size (w.heap.size + 1) g1 c1 g2 c2 A3 n3 c3 g4 c4 p.loans p.st := by
    subst hW
    have hxa : Ext w2 (w2.alloc (.cells #[.slice (some ⟨g1, 0, none⟩) 16 c1, .slice (some ⟨g2, 0, none⟩) 16 c2, .slice A3 n3 c3, .slice (some ⟨g4, 0, none⟩) 16 c4] 26)) := (by repeat (first | exact Below.refl _ _ | assumption | refine Below.drew ?_ | refine below_drewN ?_ _ | refine bl_alloc ?_ _ | refine Below.setCell ?_ (by first | (simp; done) | omega | (simp; omega)) _ | refine bl_then ?_ (by assumption)))
    have hr2 := hrow.ext hxa
    exact ⟨⟨own_base hr2.r1 (by omega), own_base hr2.r2 (by omega), own_base hr2.r4 (by omega), hr2.d12, hr2.d14, hr2.d24⟩, own_base (own_ext ho3 hxa) (by omega), Blk.new_at _ _ rfl, (jr1.ext hb).ext hxa, (hB1.trans (Below.mono hb (by omega))).trans (Below.mono hxa (by have := Below.size hb; omega))⟩
  generalize w2.heap.size = Bq at hq ⊢
  generalize hBr : w.heap.size + 1 = Br at hq ⊢
  have hgBr : w.heap.size ≤ Br := by omega
  clear hW hb hrow ho3 hB1 jr1 hBr hz1
  obtain ⟨s0, hs⟩ : ∃ q, q = p.st := ⟨_, rfl⟩
  rw [← hs] at hq HB
  have HS := Lib.hid hs
  clear hs
  have hcx : W0.cell? ⟨g1, fn, none⟩ = some (.int .i64 ((s0.get 0).getD fn 0)) := (hq.rows.cell (f := 0) (.inl rfl) lt_fn).1
  have hfx : ∀ W', Ext W0 W' → W'.frozen? ⟨g1, fn, none⟩ = false := fun W' hx => ((hq.drew hx).rows.cell (f := 0) (.inl rfl) lt_fn).2
  have pq : W0.cell? ⟨Bq, 0, none⟩ = some (.slice (some ⟨g1, 0, none⟩) 16 c1) := hq.jq.cell 0
  have hbx := HB.out 0 (.inl rfl) fn
  have hwx : ∀ W', Ext W0 W' → QS w (W'.setCell ⟨g1, fn, none⟩ (.int .i64 ((s0.get 0).getD fn 0 + -u))) Bq Br g1 c1 g2 c2 A3 n3 c3 g4 c4 p.loans (s0.upd 0 fn (-u)) := fun W' hx => (hq.drew hx).write (f := 0) (.inl rfl) lt_fn (-u)
  have hdx : ∀ W', Ext W0 W' → QS w W' Bq Br g1 c1 g2 c2 A3 n3 c3 g4 c4 p.loans s0 := fun W' hx => hq.drew hx
  have hbs := upd_bd HB.out (D := 1000000000000) (by omega) 0 fn (-u) (.inl rfl) (by omega)
  have hne : Bq ≠ g1 := (by obtain ⟨_, hb⟩ := hq.rows.blk (f := 0) (.inl rfl); exact hq.jq.ne_ hb (by decide))
  have hs : s0.upd 0 fn (-u) = p.st.upd 0 fn (-u) := (by rw [HS.out])
  generalize (s0.get 0).getD fn 0 = xx at hcx hbx hwx
  generalize s0.upd 0 fn (-u) = s1 at hwx hbs hs
  have HWX := Lib.hid hwx
  have HDX := Lib.hid hdx
  have HFX := Lib.hid hfx
  have hx1 := hbx.1
  have hx2 := hbx.2
  clear hq hbx hwx hdx HB HS hfx
  have HB := Lib.hid hbs
  have HS := Lib.hid hs
  clear hbs hs
  refine wp_region_obl 11 (fun ix vals v w1 => match ix with | 0 => v = .pointer (some ⟨Bq, 0, none⟩) | 1 => v = .slice (some ⟨g1, 0, none⟩) 16 c1 | 2 => v = .int .i64 (fn : Int) | 3 => v = .pointer (some ⟨Bq, 0, none⟩) | 4 => v = .slice (some ⟨g1, 0, none⟩) 16 c1 | 5 => v = .int .i64 (fn : Int) | 6 => v = .pointer (some ⟨g1, fn, none⟩) | 7 => v = .int .i64 xx | 8 => v = .int .i64 u | 9 => v = .int .i64 (xx + -u) | _ => v = .pointer (some ⟨g1, fn, none⟩)) (by kernel_rfl) (by kernel_rfl) ?_ ?_ ?_ ?_
  · intro ix vals v w1 w2 hi hr hx
    match ix, hr with
    | 0, hr => exact hr
    | 1, hr => exact hr
    | 2, hr => exact hr
    | 3, hr => exact hr
    | 4, hr => exact hr
    | 5, hr => exact hr
    | 6, hr => exact hr
    | 7, hr => exact hr
    | 8, hr => exact hr
    | 9, hr => exact hr
    | (kx + 10), hr => exact hr
  · intro ix vals vals_ v w1 hi hv hr
    exact hr
  · refine ⟨?_, ?_, ?_, ?_, ?_, ?_, ?_, ?_, ?_, ?_, ?_, trivial⟩
    · intro vals w1 hx hd ha
      clear hd ha
      simp only [Lf]
      have pq := ext_cell hx pq
      have hcx := ext_cell hx hcx
      go_wp2
      exact ⟨rfl, Ext.refl _, rfl⟩
    · intro vals w1 hx hd ha
      have e0 : vals 0 = .pointer (some ⟨Bq, 0, none⟩) := hd 0 (by decide)
      clear hd ha
      simp only [Lf, dstAt, Act.put, List.getElem?_toArray, List.getElem?_cons_zero, Option.bind_some, List.setIfInBounds_toArray, List.set_cons_zero, List.set_cons_succ]
      simp only [e0]
      clear e0
      have pq := ext_cell hx pq
      have hcx := ext_cell hx hcx
      go_wp2
      exact ⟨rfl, Ext.refl _, rfl⟩
    · intro vals w1 hx hd ha
      clear hd ha
      simp only [Lf, dstAt, Act.put, List.getElem?_toArray, List.getElem?_cons_zero, List.getElem?_cons_succ, Option.bind_some, List.setIfInBounds_toArray, List.set_cons_zero, List.set_cons_succ]
      have pq := ext_cell hx pq
      have hcx := ext_cell hx hcx
      go_wp2
      exact ⟨rfl, Ext.refl _, rfl⟩
    · intro vals w1 hx hd ha
      clear hd ha
      simp only [Lf, dstAt, Act.put, List.getElem?_toArray, List.getElem?_cons_zero, List.getElem?_cons_succ, Option.bind_some, List.setIfInBounds_toArray, List.set_cons_zero, List.set_cons_succ]
      have pq := ext_cell hx pq
      have hcx := ext_cell hx hcx
      go_wp2
      exact ⟨rfl, Ext.refl _, rfl⟩
    · intro vals w1 hx hd ha
      have e3 : vals 3 = .pointer (some ⟨Bq, 0, none⟩) := hd 3 (by decide)
      clear hd ha
      simp only [Lf, dstAt, Act.put, List.getElem?_toArray, List.getElem?_cons_zero, List.getElem?_cons_succ, Option.bind_some, List.setIfInBounds_toArray, List.set_cons_zero, List.set_cons_succ]
      simp only [e3]
      clear e3
      have pq := ext_cell hx pq
      have hcx := ext_cell hx hcx
      go_wp2
      exact ⟨rfl, Ext.refl _, rfl⟩
    · intro vals w1 hx hd ha
      clear hd ha
      simp only [Lf, dstAt, Act.put, List.getElem?_toArray, List.getElem?_cons_zero, List.getElem?_cons_succ, Option.bind_some, List.setIfInBounds_toArray, List.set_cons_zero, List.set_cons_succ]
      have pq := ext_cell hx pq
      have hcx := ext_cell hx hcx
      go_wp2
      exact ⟨rfl, Ext.refl _, rfl⟩
    · intro vals w1 hx hd ha
      have e4 : vals 4 = .slice (some ⟨g1, 0, none⟩) 16 c1 := hd 4 (by decide)
      have e5 : vals 5 = .int .i64 (fn : Int) := hd 5 (by decide)
      clear hd ha
      simp only [Lf, dstAt, Act.put, List.getElem?_toArray, List.getElem?_cons_zero, List.getElem?_cons_succ, Option.bind_some, List.setIfInBounds_toArray, List.set_cons_zero, List.set_cons_succ]
      simp only [e4, e5]
      clear e4 e5
      have pq := ext_cell hx pq
      have hcx := ext_cell hx hcx
      go_wp2
      exact ⟨rfl, Ext.refl _, rfl⟩
    · intro vals w1 hx hd ha
      have e6 : vals 6 = .pointer (some ⟨g1, fn, none⟩) := hd 6 (by decide)
      clear hd ha
      simp only [Lf, dstAt, Act.put, List.getElem?_toArray, List.getElem?_cons_zero, List.getElem?_cons_succ, Option.bind_some, List.setIfInBounds_toArray, List.set_cons_zero, List.set_cons_succ]
      simp only [e6]
      clear e6
      have pq := ext_cell hx pq
      have hcx := ext_cell hx hcx
      go_wp2
      exact ⟨rfl, Ext.refl _, rfl⟩
    · intro vals w1 hx hd ha
      clear hd ha
      simp only [Lf, dstAt, Act.put, List.getElem?_toArray, List.getElem?_cons_zero, List.getElem?_cons_succ, Option.bind_some, List.setIfInBounds_toArray, List.set_cons_zero, List.set_cons_succ]
      have pq := ext_cell hx pq
      have hcx := ext_cell hx hcx
      go_wp2
      exact ⟨rfl, Ext.refl _, rfl⟩
    · intro vals w1 hx hd ha
      have e7 : vals 7 = .int .i64 xx := hd 7 (by decide)
      have e8 : vals 8 = .int .i64 u := hd 8 (by decide)
      clear hd ha
      simp only [Lf, dstAt, Act.put, List.getElem?_toArray, List.getElem?_cons_zero, List.getElem?_cons_succ, Option.bind_some, List.setIfInBounds_toArray, List.set_cons_zero, List.set_cons_succ]
      simp only [e7, e8]
      clear e7 e8
      have pq := ext_cell hx pq
      have hcx := ext_cell hx hcx
      go_wp2
      exact ⟨rfl, Ext.refl _, rfl⟩
    · intro vals w1 hx hd ha
      have e0 : vals 0 = .pointer (some ⟨Bq, 0, none⟩) := hd 0 (by decide)
      have e1 : vals 1 = .slice (some ⟨g1, 0, none⟩) 16 c1 := hd 1 (by decide)
      have e2 : vals 2 = .int .i64 (fn : Int) := hd 2 (by decide)
      have e3 : vals 3 = .pointer (some ⟨Bq, 0, none⟩) := hd 3 (by decide)
      have e4 : vals 4 = .slice (some ⟨g1, 0, none⟩) 16 c1 := hd 4 (by decide)
      have e5 : vals 5 = .int .i64 (fn : Int) := hd 5 (by decide)
      have e6 : vals 6 = .pointer (some ⟨g1, fn, none⟩) := hd 6 (by decide)
      have e7 : vals 7 = .int .i64 xx := hd 7 (by decide)
      have e8 : vals 8 = .int .i64 u := hd 8 (by decide)
      have e9 : vals 9 = .int .i64 (xx + -u) := hd 9 (by decide)
      clear hd ha
      simp only [Lf, dstAt, Act.put, List.getElem?_toArray, List.getElem?_cons_zero, List.getElem?_cons_succ, Option.bind_some, List.setIfInBounds_toArray, List.set_cons_zero, List.set_cons_succ]
      simp only [e0, e1, e2, e3, e4, e5, e6, e7, e8, e9]
      clear e0 e1 e2 e3 e4 e5 e6 e7 e8 e9
      have pq := ext_cell hx pq
      have hcx := ext_cell hx hcx
      go_wp2
      exact ⟨rfl, Ext.refl _, rfl⟩
  intro vals w9 hx hf
  have f9 : vals 9 = .int .i64 (xx + -u) := hf 9 (by omega)
  have f10 : vals 10 = .pointer (some ⟨g1, fn, none⟩) := hf 10 (by omega)
  clear hf
  have hx := hx.undrew
  have hcx := ext_cell hx hcx
  have hfx := HFX.out w9 hx
  have hq := HWX.out w9 hx
  have hq0 := HDX.out w9 hx
  have p0 := hq0.jq.cell 0
  have p1 := hq0.jq.cell 1
  have p2 := hq0.jq.cell 2
  have p3 := hq0.jq.cell 3
  clear hx HWX HDX HFX pq hq0
  refine tail1 11 _ (by kernel_rfl) (by kernel_rfl) rfl ?_
  simp only [Lf, dstAt, Act.put, List.getElem?_toArray, List.getElem?_cons_zero, List.getElem?_cons_succ, Option.bind_some, List.setIfInBounds_toArray, List.set_cons_zero, List.set_cons_succ]
  rw [f9, f10]
  clear f9 f10
  have HQ := Lib.hid hq
  clear hq
  go_wp2_with fail
  have hq := HQ.out
  clear HQ hcx hfx p0 p1 p2 p3 hne
  generalize hW9 : w9.setCell ⟨g1, fn, none⟩ (.int .i64 (xx + -u)) = W1 at hq ⊢
  clear hW9 hx1 hx2
  have hcx : W1.cell? ⟨g1, tn, none⟩ = some (.int .i64 ((s1.get 0).getD tn 0)) := (hq.rows.cell (f := 0) (.inl rfl) lt_tn).1
  have hfx : ∀ W', Ext W1 W' → W'.frozen? ⟨g1, tn, none⟩ = false := fun W' hx => ((hq.drew hx).rows.cell (f := 0) (.inl rfl) lt_tn).2
  have pq : W1.cell? ⟨Bq, 0, none⟩ = some (.slice (some ⟨g1, 0, none⟩) 16 c1) := hq.jq.cell 0
  have hbx := HB.out 0 (.inl rfl) tn
  have hwx : ∀ W', Ext W1 W' → QS w (W'.setCell ⟨g1, tn, none⟩ (.int .i64 ((s1.get 0).getD tn 0 + u))) Bq Br g1 c1 g2 c2 A3 n3 c3 g4 c4 p.loans (s1.upd 0 tn (u)) := fun W' hx => (hq.drew hx).write (f := 0) (.inl rfl) lt_tn (u)
  have hdx : ∀ W', Ext W1 W' → QS w W' Bq Br g1 c1 g2 c2 A3 n3 c3 g4 c4 p.loans s1 := fun W' hx => hq.drew hx
  have hbs := upd_bd HB.out (D := 1000000000000) (by omega) 0 tn (u) (.inl rfl) (by omega)
  have hne : Bq ≠ g1 := (by obtain ⟨_, hb⟩ := hq.rows.blk (f := 0) (.inl rfl); exact hq.jq.ne_ hb (by decide))
  have hs : s1.upd 0 tn (u) = (p.st.upd 0 fn (-u)).upd 0 tn (u) := (by rw [HS.out])
  generalize (s1.get 0).getD tn 0 = xx at hcx hbx hwx
  generalize s1.upd 0 tn (u) = s2 at hwx hbs hs
  have HWX := Lib.hid hwx
  have HDX := Lib.hid hdx
  have HFX := Lib.hid hfx
  have hx1 := hbx.1
  have hx2 := hbx.2
  clear hq hbx hwx hdx HB HS hfx
  have HB := Lib.hid hbs
  have HS := Lib.hid hs
  clear hbs hs
  refine wp_region_obl 11 (fun ix vals v w1 => match ix with | 0 => v = .pointer (some ⟨Bq, 0, none⟩) | 1 => v = .slice (some ⟨g1, 0, none⟩) 16 c1 | 2 => v = .int .i64 (tn : Int) | 3 => v = .pointer (some ⟨Bq, 0, none⟩) | 4 => v = .slice (some ⟨g1, 0, none⟩) 16 c1 | 5 => v = .int .i64 (tn : Int) | 6 => v = .pointer (some ⟨g1, tn, none⟩) | 7 => v = .int .i64 xx | 8 => v = .int .i64 u | 9 => v = .int .i64 (xx + u) | _ => v = .pointer (some ⟨g1, tn, none⟩)) (by kernel_rfl) (by kernel_rfl) ?_ ?_ ?_ ?_
  · intro ix vals v w1 w2 hi hr hx
    match ix, hr with
    | 0, hr => exact hr
    | 1, hr => exact hr
    | 2, hr => exact hr
    | 3, hr => exact hr
    | 4, hr => exact hr
    | 5, hr => exact hr
    | 6, hr => exact hr
    | 7, hr => exact hr
    | 8, hr => exact hr
    | 9, hr => exact hr
    | (kx + 10), hr => exact hr
  · intro ix vals vals_ v w1 hi hv hr
    exact hr
  · refine ⟨?_, ?_, ?_, ?_, ?_, ?_, ?_, ?_, ?_, ?_, ?_, trivial⟩
    · intro vals w1 hx hd ha
      clear hd ha
      simp only [Lf]
      have pq := ext_cell hx pq
      have hcx := ext_cell hx hcx
      go_wp2
      exact ⟨rfl, Ext.refl _, rfl⟩
    · intro vals w1 hx hd ha
      have e0 : vals 0 = .pointer (some ⟨Bq, 0, none⟩) := hd 0 (by decide)
      clear hd ha
      simp only [Lf, dstAt, Act.put, List.getElem?_toArray, List.getElem?_cons_zero, Option.bind_some, List.setIfInBounds_toArray, List.set_cons_zero, List.set_cons_succ]
      simp only [e0]
      clear e0
      have pq := ext_cell hx pq
      have hcx := ext_cell hx hcx
      go_wp2
      exact ⟨rfl, Ext.refl _, rfl⟩
    · intro vals w1 hx hd ha
      clear hd ha
      simp only [Lf, dstAt, Act.put, List.getElem?_toArray, List.getElem?_cons_zero, List.getElem?_cons_succ, Option.bind_some, List.setIfInBounds_toArray, List.set_cons_zero, List.set_cons_succ]
      have pq := ext_cell hx pq
      have hcx := ext_cell hx hcx
      go_wp2
      exact ⟨rfl, Ext.refl _, rfl⟩
    · intro vals w1 hx hd ha
      clear hd ha
      simp only [Lf, dstAt, Act.put, List.getElem?_toArray, List.getElem?_cons_zero, List.getElem?_cons_succ, Option.bind_some, List.setIfInBounds_toArray, List.set_cons_zero, List.set_cons_succ]
      have pq := ext_cell hx pq
      have hcx := ext_cell hx hcx
      go_wp2
      exact ⟨rfl, Ext.refl _, rfl⟩
    · intro vals w1 hx hd ha
      have e3 : vals 3 = .pointer (some ⟨Bq, 0, none⟩) := hd 3 (by decide)
      clear hd ha
      simp only [Lf, dstAt, Act.put, List.getElem?_toArray, List.getElem?_cons_zero, List.getElem?_cons_succ, Option.bind_some, List.setIfInBounds_toArray, List.set_cons_zero, List.set_cons_succ]
      simp only [e3]
      clear e3
      have pq := ext_cell hx pq
      have hcx := ext_cell hx hcx
      go_wp2
      exact ⟨rfl, Ext.refl _, rfl⟩
    · intro vals w1 hx hd ha
      clear hd ha
      simp only [Lf, dstAt, Act.put, List.getElem?_toArray, List.getElem?_cons_zero, List.getElem?_cons_succ, Option.bind_some, List.setIfInBounds_toArray, List.set_cons_zero, List.set_cons_succ]
      have pq := ext_cell hx pq
      have hcx := ext_cell hx hcx
      go_wp2
      exact ⟨rfl, Ext.refl _, rfl⟩
    · intro vals w1 hx hd ha
      have e4 : vals 4 = .slice (some ⟨g1, 0, none⟩) 16 c1 := hd 4 (by decide)
      have e5 : vals 5 = .int .i64 (tn : Int) := hd 5 (by decide)
      clear hd ha
      simp only [Lf, dstAt, Act.put, List.getElem?_toArray, List.getElem?_cons_zero, List.getElem?_cons_succ, Option.bind_some, List.setIfInBounds_toArray, List.set_cons_zero, List.set_cons_succ]
      simp only [e4, e5]
      clear e4 e5
      have pq := ext_cell hx pq
      have hcx := ext_cell hx hcx
      go_wp2
      exact ⟨rfl, Ext.refl _, rfl⟩
    · intro vals w1 hx hd ha
      have e6 : vals 6 = .pointer (some ⟨g1, tn, none⟩) := hd 6 (by decide)
      clear hd ha
      simp only [Lf, dstAt, Act.put, List.getElem?_toArray, List.getElem?_cons_zero, List.getElem?_cons_succ, Option.bind_some, List.setIfInBounds_toArray, List.set_cons_zero, List.set_cons_succ]
      simp only [e6]
      clear e6
      have pq := ext_cell hx pq
      have hcx := ext_cell hx hcx
      go_wp2
      exact ⟨rfl, Ext.refl _, rfl⟩
    · intro vals w1 hx hd ha
      clear hd ha
      simp only [Lf, dstAt, Act.put, List.getElem?_toArray, List.getElem?_cons_zero, List.getElem?_cons_succ, Option.bind_some, List.setIfInBounds_toArray, List.set_cons_zero, List.set_cons_succ]
      have pq := ext_cell hx pq
      have hcx := ext_cell hx hcx
      go_wp2
      exact ⟨rfl, Ext.refl _, rfl⟩
    · intro vals w1 hx hd ha
      have e7 : vals 7 = .int .i64 xx := hd 7 (by decide)
      have e8 : vals 8 = .int .i64 u := hd 8 (by decide)
      clear hd ha
      simp only [Lf, dstAt, Act.put, List.getElem?_toArray, List.getElem?_cons_zero, List.getElem?_cons_succ, Option.bind_some, List.setIfInBounds_toArray, List.set_cons_zero, List.set_cons_succ]
      simp only [e7, e8]
      clear e7 e8
      have pq := ext_cell hx pq
      have hcx := ext_cell hx hcx
      go_wp2
      exact ⟨rfl, Ext.refl _, rfl⟩
    · intro vals w1 hx hd ha
      have e0 : vals 0 = .pointer (some ⟨Bq, 0, none⟩) := hd 0 (by decide)
      have e1 : vals 1 = .slice (some ⟨g1, 0, none⟩) 16 c1 := hd 1 (by decide)
      have e2 : vals 2 = .int .i64 (tn : Int) := hd 2 (by decide)
      have e3 : vals 3 = .pointer (some ⟨Bq, 0, none⟩) := hd 3 (by decide)
      have e4 : vals 4 = .slice (some ⟨g1, 0, none⟩) 16 c1 := hd 4 (by decide)
      have e5 : vals 5 = .int .i64 (tn : Int) := hd 5 (by decide)
      have e6 : vals 6 = .pointer (some ⟨g1, tn, none⟩) := hd 6 (by decide)
      have e7 : vals 7 = .int .i64 xx := hd 7 (by decide)
      have e8 : vals 8 = .int .i64 u := hd 8 (by decide)
      have e9 : vals 9 = .int .i64 (xx + u) := hd 9 (by decide)
      clear hd ha
      simp only [Lf, dstAt, Act.put, List.getElem?_toArray, List.getElem?_cons_zero, List.getElem?_cons_succ, Option.bind_some, List.setIfInBounds_toArray, List.set_cons_zero, List.set_cons_succ]
      simp only [e0, e1, e2, e3, e4, e5, e6, e7, e8, e9]
      clear e0 e1 e2 e3 e4 e5 e6 e7 e8 e9
      have pq := ext_cell hx pq
      have hcx := ext_cell hx hcx
      go_wp2
      exact ⟨rfl, Ext.refl _, rfl⟩
  intro vals w9 hx hf
  have f9 : vals 9 = .int .i64 (xx + u) := hf 9 (by omega)
  have f10 : vals 10 = .pointer (some ⟨g1, tn, none⟩) := hf 10 (by omega)
  clear hf
  have hx := hx.undrew
  have hcx := ext_cell hx hcx
  have hfx := HFX.out w9 hx
  have hq := HWX.out w9 hx
  have hq0 := HDX.out w9 hx
  have p0 := hq0.jq.cell 0
  have p1 := hq0.jq.cell 1
  have p2 := hq0.jq.cell 2
  have p3 := hq0.jq.cell 3
  clear hx HWX HDX HFX pq hq0
  refine tail1 11 _ (by kernel_rfl) (by kernel_rfl) rfl ?_
  simp only [Lf, dstAt, Act.put, List.getElem?_toArray, List.getElem?_cons_zero, List.getElem?_cons_succ, Option.bind_some, List.setIfInBounds_toArray, List.set_cons_zero, List.set_cons_succ]
  rw [f9, f10]
  clear f9 f10
  have HQ := Lib.hid hq
  clear hq
  go_wp2_with fail
  have hq := HQ.out
  clear HQ hcx hfx p0 p1 p2 p3 hne
  generalize hW9 : w9.setCell ⟨g1, tn, none⟩ (.int .i64 (xx + u)) = W2 at hq ⊢
  clear hW9 hx1 hx2
  have hsz := hq.below.size
  have h3r : RL W2 W2.heap.size ⟨A3, n3, c3⟩ p.loans := RL_of_own hq.o3 hn3
  have hlen : p.loans.length = n3 := h3r.len
  have hfew := loans_le p.loans HL.out
  have hun : ∀ x ∈ p.loans, 1 ≤ x.units ∧ x.units ≤ 1000000 := fun x hx => by have := loans_units p.loans none HL.out x hx; simp only [loanOK, Bool.and_eq_true, inB_iff] at this; exact this.2
  refine (owed_any ⟨some ⟨g1, 0, none⟩, 16, c1⟩ ⟨some ⟨g2, 0, none⟩, 16, c2⟩ ⟨A3, n3, c3⟩ ⟨some ⟨g4, 0, none⟩, 16, c4⟩ p.loans (tn : Int) (fn : Int) (-u) W2 h3r hun (by omega) (by omega)).mono ?_
  rintro e w5 ⟨⟨D3, m3, d3⟩, rfl, hx5, ho5, hm5⟩
  have hm5 : m3 ≤ 2 * n3 + 1 := hm5
  have hq5 := hq.drew hx5
  have hpo : PoolOwnA w5 w.heap.size ⟨some ⟨g1, 0, none⟩, 16, c1⟩ ⟨some ⟨g2, 0, none⟩, 16, c2⟩ ⟨D3, m3, d3⟩ ⟨some ⟨g4, 0, none⟩, 16, c4⟩ ⟨s2.h, s2.u, owedR p.loans (tn : Int) (fn : Int) (-u), s2.c⟩ := ⟨⟨hq5.rows.r1, hq5.rows.r2, own_base ho5 hsz, hq5.rows.r4, by show 16 ≤ 1099511627776; omega, by show 16 ≤ 1099511627776; omega, by show m3 ≤ 1099511627776; omega, by show 16 ≤ 1099511627776; omega⟩, g1, g2, g4, rfl, rfl, rfl, hq5.rows.d12, hq5.rows.d14, hq5.rows.d24⟩
  have jr5 := hq5.jr
  have hB5 := hq5.below
  clear hq hq5 ho5 hx5 h3r hun HB HL hfew hlen hsz
  go_wp2_with fail
  have hr : r = if validB ⟨s2.h, s2.u, owedR p.loans (tn : Int) (fn : Int) (-u), s2.c⟩ = true then some ⟨s2.h, s2.u, owedR p.loans (tn : Int) (fn : Int) (-u), s2.c⟩ else none := by rw [HR.out, HS.out]; rfl
  refine (result_any ⟨some ⟨g1, 0, none⟩, 16, c1⟩ ⟨some ⟨g2, 0, none⟩, 16, c2⟩ ⟨D3, m3, d3⟩ ⟨some ⟨g4, 0, none⟩, 16, c4⟩ _ w5 hpo.pool).mono ?_
  rintro e w6 ⟨rfl, hx6⟩
  have hpo6 := hpo.ext hx6
  have jr6 := jr5.ext hx6
  have hB6 := hB5.trans (Below.mono hx6 hB5.size)
  clear hpo jr5 hB5 hx6 HS HR
  generalize (⟨s2.h, s2.u, owedR p.loans (tn : Int) (fn : Int) (-u), s2.c⟩ : Pool) = q at hr hpo6 ⊢
  have hc0 := jr6.cell 0
  have hc1 := jr6.cell 1
  have hc2 := jr6.cell 2
  have hc3 := jr6.cell 3
  have hf0 := jr6.frozen 0
  have hf1 := jr6.frozen 1
  have hf2 := jr6.frozen 2
  have hf3 := jr6.frozen 3
  generalize validB q = vb at hr ⊢
  have HR := Lib.hid hr
  have HPO := Lib.hid hpo6
  clear hr hpo6
  cases vb
  · simp only [resV, Bool.false_eq_true, if_false, nilV]
    go_wp2
    generalize hW4 : ((((w6.setCell ⟨Br, 0, none⟩ _).setCell ⟨Br, 1, none⟩ _).setCell ⟨Br, 2, none⟩ _).setCell ⟨Br, 3, none⟩ _) = w4
    have j4 : Blk w4 Br 26 nil4 := by subst hW4; exact jr6.set4 _ _ _ _
    have hB4 : Below w.heap.size w w4 := by subst hW4; exact below_set4 hB6 hgBr _ _ _ _
    clear hc0 hc1 hc2 hc3
    have hc0 := j4.cell 0
    have hc1 := j4.cell 1
    have hc2 := j4.cell 2
    have hc3 := j4.cell 3
    exact bodyPost_ret (v := .tuple #[nilV, .int .i64 250]) (by simp [results, Try.results48, go_sem, hc0, hc1, hc2, hc3, nilV]) rfl ⟨_, rfl, hB4, .inl ⟨HR.out, rfl⟩⟩
  · simp only [resV, if_true]
    go_wp2
    generalize hW4 : ((((w6.setCell ⟨Br, 0, none⟩ _).setCell ⟨Br, 1, none⟩ _).setCell ⟨Br, 2, none⟩ _).setCell ⟨Br, 3, none⟩ _) = w4
    have j4 : Blk w4 Br 26 #[.slice (some ⟨g1, 0, none⟩) 16 c1, .slice (some ⟨g2, 0, none⟩) 16 c2, .slice D3 m3 d3, .slice (some ⟨g4, 0, none⟩) 16 c4] := by subst hW4; exact jr6.set4 _ _ _ _
    have hB4 : Below w.heap.size w w4 := by subst hW4; exact below_set4 hB6 hgBr _ _ _ _
    have hp4 := by
      have hp4 := HPO.out.set4 jr6 (.slice (some ⟨g1, 0, none⟩) 16 c1) (.slice (some ⟨g2, 0, none⟩) 16 c2) (.slice D3 m3 d3) (.slice (some ⟨g4, 0, none⟩) 16 c4)
      rw [hW4] at hp4
      exact hp4
    clear hc0 hc1 hc2 hc3
    have hc0 := j4.cell 0
    have hc1 := j4.cell 1
    have hc2 := j4.cell 2
    have hc3 := j4.cell 3
    exact bodyPost_ret (v := .tuple #[poolV ⟨some ⟨g1, 0, none⟩, 16, c1⟩ ⟨some ⟨g2, 0, none⟩, 16, c2⟩ ⟨D3, m3, d3⟩ ⟨some ⟨g4, 0, none⟩, 16, c4⟩, .int .i64 0]) (by simp [results, Try.results48, go_sem, hc0, hc1, hc2, hc3]) rfl ⟨_, rfl, hB4, .inr ⟨_, _, _, _, _, HR.out, rfl, hp4⟩⟩

end Go.Proofs.Ytpddnkefggaigaa
