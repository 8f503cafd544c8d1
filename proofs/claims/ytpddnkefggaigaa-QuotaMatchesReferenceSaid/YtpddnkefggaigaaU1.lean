/- units of the laws. -/
import Derived.Test.YtpddnkefggaigaaT8
import Derived.Test.YtpddnkefggaigaaReg4
import Derived.Test.YtpddnkefggaigaaR8
import Derived.Test.YtpddnkefggaigaaN3
namespace Go.Proofs.Ytpddnkefggaigaa
open Go.RowKit

def unitsL : List Int := [0, 10, 5, 0, 0, 0, 0, 0, 0, 0, 0, 0, 0, 0, 0, 0]
def UnitsRet (w : World) (e : Ending) (w' : World) : Prop := ∃ s : Sl, e = .returned s.v ∧ Ext w w' ∧ RI w' w'.heap.size s unitsL
theorem units_any (w : World) : Calls Try.prog 32 #[] w (UnitsRet w) := by
  have hmk : ∀ w, (Instr.makeSlice 22 (.int .i64 16) (.int .i64 16)).run Try.prog w = .ok (.slice (some ⟨w.heap.size, 0, none⟩) 16 16) (w.alloc (.cells zero16 3)) := fun _ => by kernel_rfl
  go_enter Try.func32, Try.ntmps32
  go_wp2_with fail
  have j0 : Blk (w.alloc (.cells ((zero16.setIfInBounds 1 (.int .i64 10)).setIfInBounds 2 (.int .i64 5)) 3)) w.heap.size 3 (unitsL.map I64).toArray := Blk.new_at _ _ rfl
  have hB : Ext w (w.alloc (.cells ((zero16.setIfInBounds 1 (.int .i64 10)).setIfInBounds 2 (.int .i64 5)) 3)) := (by repeat (first | exact Below.refl _ _ | assumption | refine Below.drew ?_ | refine below_drewN ?_ _ | refine bl_alloc ?_ _ | refine Below.setCell ?_ (by first | (simp; done) | omega | (simp; omega)) _ | refine bl_then ?_ (by assumption)))
  go_ret
  exact ⟨⟨some ⟨w.heap.size, 0, none⟩, 16, 16⟩, rfl, hB, RI_of_blk (zs := unitsL) j0 rfl (by omega)⟩

/-- What is returned, with or without a pool. -/
def errI (r : Option Pool) : Int := match r with | none => 250 | some _ => 0
theorem errI_zero (r : Option Pool) : (errI r == 0) = r.isSome := by cases r <;> rfl
theorem nil_pool (W : World) : PoolR W W.heap.size ⟨none, 0, 0⟩ ⟨none, 0, 0⟩ ⟨none, 0, 0⟩ ⟨none, 0, 0⟩ nilP := ⟨RI_nil _ _, RI_nil _ _, RL_nil _ _, RI_nil _ _⟩
theorem PoolGot.uni {r : Option Pool} {base : Nat} {v : Value} {W : World} (h : PoolGot r base v W) : ∃ s1 s2 s3 s4, v = .tuple #[poolV s1 s2 s3 s4, .int .i64 (errI r)] ∧ PoolR W W.heap.size s1 s2 s3 s4 (orNil r) := by
  rcases h with ⟨rfl, rfl⟩ | ⟨q, s1, s2, s3, s4, rfl, rfl, h3⟩
  · exact ⟨_, _, _, _, rfl, nil_pool W⟩
  · exact ⟨_, _, _, _, rfl, h3.pool⟩
theorem RW_.to {w w' : World} {s : Sl} {zs : List Int} (h : RW_ w w.heap.size s zs) (hx : Ext w w') : RW_ w' w'.heap.size s zs := ⟨(h.1.below hx).more (Below.size hx), h.2⟩
theorem RQ.to {w w' : World} {s : Sl} {xs : List Quad} (h : RQ w w.heap.size s xs) (hx : Ext w w') : RQ w' w'.heap.size s xs := (h.below hx).more (Below.size hx)
theorem Ext.ext {w w' w'' : World} (h : Ext w w') (hx : Ext w' w'') : Ext w w'' := h.trans hx
def Tru (w : World) (e : Ending) (w' : World) : Prop := e = .returned (.bool true) ∧ Ext w w'
def I64ok (x : Int) : Prop := -9223372036854775808 ≤ x ∧ x ≤ 9223372036854775807
theorem PoolGot.uniS {q : Pool} {base : Nat} {v : Value} {W : World} (h : PoolGot (some q) base v W) : ∃ s1 s2 s3 s4, v = .tuple #[poolV s1 s2 s3 s4, .int .i64 0] ∧ PoolR W W.heap.size s1 s2 s3 s4 q := by
  rcases h with ⟨h, _⟩ | ⟨q, s1, s2, s3, s4, h1, rfl, h3⟩
  · cases h
  · injection h1 with h1
    subst h1
    exact ⟨_, _, _, _, rfl, h3.pool⟩
theorem PoolGot.uniN {base : Nat} {v : Value} {W : World} (h : PoolGot none base v W) : ∃ s1 s2 s3 s4, v = .tuple #[poolV s1 s2 s3 s4, .int .i64 250] ∧ PoolR W W.heap.size s1 s2 s3 s4 nilP := by
  rcases h with ⟨_, rfl⟩ | ⟨q, s1, s2, s3, s4, h1, rfl, h3⟩
  · exact ⟨_, _, _, _, rfl, nil_pool W⟩
  · cases h1
theorem PoolGot.set4 {r : Option Pool} {base : Nat} {v : Value} {W : World} (h : PoolGot r base v W) {g : Nat} {cs : Array Value} (hb : Blk W g 26 cs) (a b c d : Value) : PoolGot r base v ((((W.setCell ⟨g, 0, none⟩ a).setCell ⟨g, 1, none⟩ b).setCell ⟨g, 2, none⟩ c).setCell ⟨g, 3, none⟩ d) := by
  rcases h with h | ⟨q, s1, s2, s3, s4, h1, h2, h3⟩
  · exact .inl h
  · exact .inr ⟨q, s1, s2, s3, s4, h1, h2, h3.set4 hb a b c d⟩
/-- A pool that was returned, with the slices named. -/
theorem PoolGot.uniR {r : Option Pool} {base : Nat} {v : Value} {W : World} (h : PoolGot r base v W) : ∃ s1 s2 s3 s4, v = .tuple #[poolV s1 s2 s3 s4, .int .i64 (errI r)] ∧ ∀ W', PoolGot r base v W' → PoolR W' W'.heap.size s1 s2 s3 s4 (orNil r) := by
  rcases h with ⟨rfl, rfl⟩ | ⟨q, s1, s2, s3, s4, rfl, rfl, h3⟩
  · exact ⟨_, _, _, _, rfl, fun W' _ => nil_pool W'⟩
  · refine ⟨_, _, _, _, rfl, fun W' h' => ?_⟩
    rcases h' with ⟨h', _⟩ | ⟨q', t1, t2, t3, t4, e1, e2, h4⟩
    · cases h'
    · injection e1 with e1
      injection e2 with e2
      simp [Sl.v] at e2
      obtain ⟨⟨a1, a2, a3⟩, ⟨b1, b2, b3⟩, ⟨c1, c2, c3⟩, d1, d2, d3⟩ := e2
      cases s1; cases s2; cases s3; cases s4; cases t1; cases t2; cases t3; cases t4
      simp at a1 a2 a3 b1 b2 b3 c1 c2 c3 d1 d2 d3
      subst a1 a2 a3 b1 b2 b3 c1 c2 c3 d1 d2 d3 e1
      exact h4.pool
abbrev quadV (z : Quad) : Value := .agg #[.int .i64 z.a, .int .i64 z.b, .int .i64 z.c, .int .i64 z.d]
theorem RQ_of_blk {W : World} {g n : Nat} {t : TypeId} {cs : Array Value} {qs : List Quad} (h : Blk W g t cs) (hcs : cs = (qs.flatMap quadCells).toArray) (hn : qs.length = n) (hle : n ≤ 1000) : RQ W W.heap.size ⟨some ⟨g, 0, none⟩, n, n⟩ qs := by
  refine ⟨⟨by rw [len_flatQ, hn], fun _ => ⟨g, 0, rfl, h.lt, fun j u hu => ?_⟩⟩, Nat.le_refl _, by show n ≤ maxLen; unfold maxLen; omega, by show n ≤ 9223372036854775807; omega⟩
  rw [Nat.zero_add, h.cell, hcs]
  simpa using hu
theorem DeedRow.form5 {W : World} {base : Nat} {v : Value} {l : List Deed} (h : DeedRow W base v l) {n : Nat} (hn : l.length = n) (hpos : 0 < n) : ∃ g c, v = .slice (some ⟨g, 0, none⟩) n c := by
  obtain ⟨g, cap, hv, _⟩ := World.ownsRow.form h (by omega)
  exact ⟨g, cap, by rw [hv, hn]⟩
theorem DeedRow.cell5 {W : World} {base g m c : Nat} {l : List Deed} (h : DeedRow W base (.slice (some ⟨g, 0, none⟩) m c) l) (k : Nat) (hk : k < l.length) :
    W.cell? ⟨g, k * 5, none⟩ = some (I64 l[k].kind) ∧ W.cell? ⟨g, k * 5 + 1, none⟩ = some (I64 l[k].fr) ∧ W.cell? ⟨g, k * 5 + 2, none⟩ = some (I64 l[k].tt) ∧ W.cell? ⟨g, k * 5 + 3, none⟩ = some (I64 l[k].units) ∧ W.cell? ⟨g, k * 5 + 4, none⟩ = some (I64 l[k].cents) := by
  obtain ⟨g', e, _, _, _, h1, h2, h3, h4, h5⟩ := h.at_ hk
  injection e with e
  injection e with e
  subst e
  exact ⟨h1, h2, h3, h4, h5⟩
theorem netP_some {p : Pool} (h : Vd p) {k : Nat} (hk : k < 16) : netP p (k : Int) = some (p.has.getD k 0 + netL p.loans (k : Int)) := by
  have ho : ownerB (k : Int) = true := inB_iff.2 (by omega)
  unfold netP
  rw [(vd_iff p).2 h, ho, Int.toNat_natCast]
  rfl
theorem Ext.drewN {a b : World} (h : Ext a b) (n : Nat) : Ext a (b.drewN n) := below_drewN h n
/-- A pool in a variable. -/
structure PV (W : World) (g : Nat) (s1 s2 s3 s4 : Sl) (p : Pool) : Prop where
  blk : Blk W g 26 #[s1.v, s2.v, s3.v, s4.v]
  pool : PoolR W W.heap.size s1 s2 s3 s4 p
section
variable {W W' : World} {g : Nat} {s1 s2 s3 s4 : Sl} {p : Pool}
theorem PV.ext (h : PV W g s1 s2 s3 s4 p) (hx : Ext W W') : PV W' g s1 s2 s3 s4 p := ⟨h.blk.ext hx, h.pool.next hx⟩
theorem PV.new (h : PoolR W W.heap.size s1 s2 s3 s4 p) : PV (W.alloc (.cells #[s1.v, s2.v, s3.v, s4.v] 26)) W.heap.size s1 s2 s3 s4 p := ⟨Blk.new _ _ _, h.next (bl_alloc (Below.refl _ _) _)⟩
theorem PV.set (h : PoolR W W.heap.size s1 s2 s3 s4 p) {cs : Array Value} (hb : Blk W g 26 cs) (hc : cs = #[s1.v, s2.v, s3.v, s4.v]) : PV W g s1 s2 s3 s4 p := ⟨by rw [← hc]; exact hb, h⟩
theorem PV.has16 (h : PV W g s1 s2 s3 s4 p) (hv : Vd p) {k : Nat} (hk : k < 16) : ∃ b o, s1.A = some ⟨b, o, none⟩ ∧ s1.n = 16 ∧ W.cell? ⟨b, o + k, none⟩ = some (I64 (p.has.getD k 0)) := by
  have hl := h.pool.1.len
  obtain ⟨b, o, hz, e, _, hc⟩ := h.pool.1.at_ (k := k) (by have := hv.lh; omega)
  exact ⟨b, o, e, by have := hv.lh; omega, by rw [hc, getD_of_lt hz]⟩
theorem PV.used16 (h : PV W g s1 s2 s3 s4 p) (hv : Vd p) {k : Nat} (hk : k < 16) : ∃ b o, s2.A = some ⟨b, o, none⟩ ∧ s2.n = 16 ∧ W.cell? ⟨b, o + k, none⟩ = some (I64 (p.used.getD k 0)) := by
  have hl := h.pool.2.1.len
  obtain ⟨b, o, hz, e, _, hc⟩ := h.pool.2.1.at_ (k := k) (by have := hv.lu; omega)
  exact ⟨b, o, e, by have := hv.lu; omega, by rw [hc, getD_of_lt hz]⟩
theorem PV.cents16 (h : PV W g s1 s2 s3 s4 p) (hv : Vd p) {k : Nat} (hk : k < 16) : ∃ b o, s4.A = some ⟨b, o, none⟩ ∧ s4.n = 16 ∧ W.cell? ⟨b, o + k, none⟩ = some (I64 (p.cents.getD k 0)) := by
  have hl := h.pool.2.2.2.len
  obtain ⟨b, o, hz, e, _, hc⟩ := h.pool.2.2.2.at_ (k := k) (by have := hv.lc; omega)
  exact ⟨b, o, e, by have := hv.lc; omega, by rw [hc, getD_of_lt hz]⟩
theorem PV.hasAll (h : PV W g s1 s2 s3 s4 p) (hv : Vd p) : ∃ b o, s1.A = some ⟨b, o, none⟩ ∧ s1.n = 16 ∧ ∀ k, k < 16 → W.cell? ⟨b, o + k, none⟩ = some (I64 (p.has.getD k 0)) := by
  obtain ⟨b, o, e, hn, _⟩ := h.has16 hv (k := 0) (by omega)
  refine ⟨b, o, e, hn, fun k hk => ?_⟩
  obtain ⟨b', o', e', _, hc⟩ := h.has16 hv hk
  rw [e] at e'
  injection e' with e'
  injection e' with e1 e2
  subst e1 e2
  exact hc
theorem PV.usedAll (h : PV W g s1 s2 s3 s4 p) (hv : Vd p) : ∃ b o, s2.A = some ⟨b, o, none⟩ ∧ s2.n = 16 ∧ ∀ k, k < 16 → W.cell? ⟨b, o + k, none⟩ = some (I64 (p.used.getD k 0)) := by
  obtain ⟨b, o, e, hn, _⟩ := h.used16 hv (k := 0) (by omega)
  refine ⟨b, o, e, hn, fun k hk => ?_⟩
  obtain ⟨b', o', e', _, hc⟩ := h.used16 hv hk
  rw [e] at e'
  injection e' with e'
  injection e' with e1 e2
  subst e1 e2
  exact hc
theorem PV.centsAll (h : PV W g s1 s2 s3 s4 p) (hv : Vd p) : ∃ b o, s4.A = some ⟨b, o, none⟩ ∧ s4.n = 16 ∧ ∀ k, k < 16 → W.cell? ⟨b, o + k, none⟩ = some (I64 (p.cents.getD k 0)) := by
  obtain ⟨b, o, e, hn, _⟩ := h.cents16 hv (k := 0) (by omega)
  refine ⟨b, o, e, hn, fun k hk => ?_⟩
  obtain ⟨b', o', e', _, hc⟩ := h.cents16 hv hk
  rw [e] at e'
  injection e' with e'
  injection e' with e1 e2
  subst e1 e2
  exact hc
end

end Go.Proofs.Ytpddnkefggaigaa
