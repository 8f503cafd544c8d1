/- Made of the reference: the walk. -/
import Derived.Test.YtpddnkefggaigaaT6
import Derived.Test.YtpddnkefggaigaaP6
namespace Go.Proofs.Ytpddnkefggaigaa
open Go.RowKit

theorem startK_zero (has : List Int) : startK has 0 = List.replicate 16 0 := by simp [startK]
theorem startK_step (has : List Int) (k : Nat) (hk : k < has.length) (h16 : k < 16) : (startK has k).set k (pickI has[k] 40) = startK has (k + 1) := by
  unfold startK
  have hl : (has.take k).length = k := by simp; omega
  have hl1 : (has.take (k + 1)).length = k + 1 := by simp; omega
  rw [hl, hl1, List.take_succ_eq_append_getElem hk, List.map_append]
  obtain ⟨m, hm⟩ : ∃ m, 16 - k = m + 1 := ⟨15 - k, by omega⟩
  have hm1 : 16 - (k + 1) = m := by omega
  have e0 : k - ((has.take k).map (fun z => pickI z 40)).length = 0 := by rw [List.length_map, hl]; omega
  rw [hm, hm1, List.set_append_right _ _ (by rw [List.length_map, hl]; omega), e0, List.replicate_succ, List.set_cons_zero]
  simp
theorem startK_end (has : List Int) (k : Nat) (h : has.length ≤ k) (hk : k ≤ 16) : startK has k = startK has 16 := by
  unfold startK
  rw [List.take_of_length_le h, List.take_of_length_le (by omega)]
/-- A slice of numbers that came in, of whatever length. -/
def RW_ (w : World) (B : Nat) (s : Sl) (zs : List Int) : Prop := Reads w B 1 s.A s.n (zs.map I64) ∧ s.n ≤ s.c ∧ s.c ≤ maxLen
def okI (zs : List Int) : Prop := ∀ z ∈ zs, -9223372036854775808 ≤ z ∧ z ≤ 9223372036854775807
/-- The pool that Made works on. -/
structure MadeS (w W : World) (Bp Br : Nat) (s1 s2 s3 s4 : Sl) (p : Pool) : Prop where
  own : PoolOwnA W w.heap.size s1 s2 s3 s4 p
  jp : Blk W Bp 26 #[s1.v, s2.v, s3.v, s4.v]
  jr : Blk W Br 26 nil4
  below : Below w.heap.size w W
theorem MadeS.ext {w W W' : World} {Bp Br : Nat} {s1 s2 s3 s4 : Sl} {p : Pool} (h : MadeS w W Bp Br s1 s2 s3 s4 p) (hx : Ext W W') : MadeS w W' Bp Br s1 s2 s3 s4 p :=
  ⟨h.own.ext hx, h.jp.ext hx, h.jr.ext hx, h.below.trans (Below.mono hx h.below.size)⟩
theorem MadeS.write {w W : World} {Bp Br g1 g2 g4 c1 c2 c4 : Nat} {s3 : Sl} {p : Pool} (h : MadeS w W Bp Br ⟨some ⟨g1, 0, none⟩, 16, c1⟩ ⟨some ⟨g2, 0, none⟩, 16, c2⟩ s3 ⟨some ⟨g4, 0, none⟩, 16, c4⟩ p) {k : Nat} (hk : k < 16) (x : Int) :
    MadeS w (W.setCell ⟨g1, k, none⟩ (I64 x)) Bp Br ⟨some ⟨g1, 0, none⟩, 16, c1⟩ ⟨some ⟨g2, 0, none⟩, 16, c2⟩ s3 ⟨some ⟨g4, 0, none⟩, 16, c4⟩ ⟨p.has.set k x, p.used, p.loans, p.cents⟩ := by
  obtain ⟨⟨⟨o1, o2, o3, o4, n1, n2, n3, n4⟩, ⟨a1, a2, a4, e1, e2, e4, d12, d14, d24⟩⟩, jp, jr, hb⟩ := h
  injection e1 with e1; injection e1 with e1; subst e1
  injection e2 with e2; injection e2 with e2; subst e2
  injection e4 with e4; injection e4 with e4; subst e4
  obtain ⟨cur, hbk⟩ := own_to_blk o1
  exact ⟨⟨⟨own_write o1 hk x, own_other o2 (fun e => d12 e.symm) _, own_set o3 (own_blk_ne o3 hbk (by decide)) _, own_other o4 (fun e => d14 e.symm) _, n1, n2, n3, n4⟩, ⟨g1, g2, g4, rfl, rfl, rfl, d12, d14, d24⟩⟩,
    jp.far (p := ⟨g1, k, none⟩) (jp.ne_ hbk (by decide)) _, jr.far (p := ⟨g1, k, none⟩) (jr.ne_ hbk (by decide)) _, hb.setCell (p := ⟨g1, k, none⟩) (own_lt o1).1 _⟩
theorem MadeS.other {w W : World} {Bp Br : Nat} {s1 s2 s3 s4 : Sl} {p : Pool} (h : MadeS w W Bp Br s1 s2 s3 s4 p) {g : Nat} {cs : Array Value} (hb : Blk W g 26 cs) (h1 : Bp ≠ g) (h2 : Br ≠ g) (hg : w.heap.size ≤ g) (a b c d : Value) :
    MadeS w ((((W.setCell ⟨g, 0, none⟩ a).setCell ⟨g, 1, none⟩ b).setCell ⟨g, 2, none⟩ c).setCell ⟨g, 3, none⟩ d) Bp Br s1 s2 s3 s4 p :=
  ⟨h.own.set4 hb _ _ _ _, (((h.jp.far (p := ⟨g, 0, none⟩) h1 _).far (p := ⟨g, 1, none⟩) h1 _).far (p := ⟨g, 2, none⟩) h1 _).far (p := ⟨g, 3, none⟩) h1 _, (((h.jr.far (p := ⟨g, 0, none⟩) h2 _).far (p := ⟨g, 1, none⟩) h2 _).far (p := ⟨g, 2, none⟩) h2 _).far (p := ⟨g, 3, none⟩) h2 _, below_set4 h.below hg _ _ _ _⟩
theorem MadeS.store {w W : World} {Bp Br : Nat} {s1 s2 s3 s4 t1 t2 t3 t4 : Sl} {p q : Pool} (h : MadeS w W Bp Br s1 s2 s3 s4 p) (hq : PoolOwnA W w.heap.size t1 t2 t3 t4 q) (h2 : Br ≠ Bp) (hg : w.heap.size ≤ Bp) :
    MadeS w ((((W.setCell ⟨Bp, 0, none⟩ t1.v).setCell ⟨Bp, 1, none⟩ t2.v).setCell ⟨Bp, 2, none⟩ t3.v).setCell ⟨Bp, 3, none⟩ t4.v) Bp Br t1 t2 t3 t4 q :=
  ⟨hq.set4 h.jp _ _ _ _, h.jp.set4 _ _ _ _, (((h.jr.far (p := ⟨Bp, 0, none⟩) h2 _).far (p := ⟨Bp, 1, none⟩) h2 _).far (p := ⟨Bp, 2, none⟩) h2 _).far (p := ⟨Bp, 3, none⟩) h2 _, below_set4 h.below hg _ _ _ _⟩
theorem DeedRow.set4 {W : World} {base : Nat} {v : Value} {l : List Deed} (h : DeedRow W base v l) {g : Nat} {cs : Array Value} (hb : Blk W g 26 cs) (a b c d : Value) : DeedRow ((((W.setCell ⟨g, 0, none⟩ a).setCell ⟨g, 1, none⟩ b).setCell ⟨g, 2, none⟩ c).setCell ⟨g, 3, none⟩ d) base v l :=
  own_set4 h (own_blk_ne h hb (by decide)) _ _ _ _
theorem DeedRow.at_ {W : World} {base : Nat} {A : Option Addr} {m c : Nat} {l : List Deed} (h : DeedRow W base (.slice A m c) l) {k : Nat} (hk : k < l.length) : ∃ g, A = some ⟨g, 0, none⟩ ∧ base ≤ g ∧ g < W.heap.size ∧ m = l.length ∧
    W.cell? ⟨g, k * 5, none⟩ = some (I64 l[k].kind) ∧ W.cell? ⟨g, k * 5 + 1, none⟩ = some (I64 l[k].fr) ∧ W.cell? ⟨g, k * 5 + 2, none⟩ = some (I64 l[k].tt) ∧ W.cell? ⟨g, k * 5 + 3, none⟩ = some (I64 l[k].units) ∧ W.cell? ⟨g, k * 5 + 4, none⟩ = some (I64 l[k].cents) := by
  have hg : ∀ (ls : List Deed) (k : Nat) (h : k < ls.length), (ls.flatMap deedCells)[k * 5]? = some (I64 ls[k].kind) ∧ (ls.flatMap deedCells)[k * 5 + 1]? = some (I64 ls[k].fr) ∧ (ls.flatMap deedCells)[k * 5 + 2]? = some (I64 ls[k].tt) ∧ (ls.flatMap deedCells)[k * 5 + 3]? = some (I64 ls[k].units) ∧ (ls.flatMap deedCells)[k * 5 + 4]? = some (I64 ls[k].cents) := by
    intro ls
    induction ls with
    | nil => intro k h; simp at h
    | cons x r ih =>
      intro k h
      cases k with
      | zero => simp [List.flatMap_cons, deedCells]
      | succ k =>
        have := ih k (by simpa using h)
        rw [List.flatMap_cons]
        have e : (deedCells x).length = 5 := rfl
        rw [List.getElem?_append_right (by omega), List.getElem?_append_right (by omega), List.getElem?_append_right (by omega), List.getElem?_append_right (by omega), List.getElem?_append_right (by omega), e, show (k + 1) * 5 - 5 = k * 5 by omega, show (k + 1) * 5 + 1 - 5 = k * 5 + 1 by omega, show (k + 1) * 5 + 2 - 5 = k * 5 + 2 by omega, show (k + 1) * 5 + 3 - 5 = k * 5 + 3 by omega, show (k + 1) * 5 + 4 - 5 = k * 5 + 4 by omega]
        simpa using this
  obtain ⟨g, cap, hv, hb, hlt⟩ := World.ownsRow.form h (by omega)
  injection hv with e1 e2 e3
  subst e1
  have hc := World.ownsRow.cells (g := g) h rfl
  have gg := hg l k hk
  refine ⟨g, rfl, hb, hlt, e2, ?_, ?_, ?_, ?_, ?_⟩
  · have := hc _ _ gg.1; rwa [Addr.add_lit, Nat.zero_add] at this
  · have := hc _ _ gg.2.1; rwa [Addr.add_lit, Nat.zero_add] at this
  · have := hc _ _ gg.2.2.1; rwa [Addr.add_lit, Nat.zero_add] at this
  · have := hc _ _ gg.2.2.2.1; rwa [Addr.add_lit, Nat.zero_add] at this
  · have := hc _ _ gg.2.2.2.2; rwa [Addr.add_lit, Nat.zero_add] at this
theorem DeedRow.len {W : World} {base : Nat} {A : Option Addr} {m c : Nat} {l : List Deed} (h : DeedRow W base (.slice A m c) l) : m = l.length := by
  obtain ⟨A', c', hv, _, _⟩ := own_slice h
  injection hv
theorem madeK_step (has : List Int) (ds : List Deed) (k : Nat) (hk : k < ds.length) : madeK has (ds.take (k + 1)) = (doP (madeK has (ds.take k)) ds[k]).getD (madeK has (ds.take k)) := by
  unfold madeK
  rw [List.take_succ_eq_append_getElem hk, List.foldl_append]
  rfl
def MadeRet (w : World) (p : Pool) (e : Ending) (w' : World) : Prop := ∃ s1 s2 s3 s4, e = .returned (poolV s1 s2 s3 s4) ∧ Ext w w' ∧ PoolOwnA w' w.heap.size s1 s2 s3 s4 p

end Go.Proofs.Ytpddnkefggaigaa
