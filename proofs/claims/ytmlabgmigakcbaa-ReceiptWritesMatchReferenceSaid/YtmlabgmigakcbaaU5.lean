/- Inputs that integers determine: options; made. -/
import Derived.Test.YtmlabgmigakcbaaU4
namespace Go.Proofs.Ytmlabgmigakcbaa
open Go.RowKit

/-- A row of integers in memory. -/
structure Rw where
  a : Option Addr
  n : Nat
  c : Nat
  l : List Int
def rwCells (r : Rw) : List Value := [.slice r.a r.n r.c]
theorem rw_len (x : Rw) : (rwCells x).length = 1 := rfl
structure Rws (w : World) (B : Nat) (A : Option Addr) (n c : Nat) (rs : List Rw) : Prop where
  out : RA rwCells 1 w B A n c rs
  each : ∀ r ∈ rs, RA intCells 1 w B r.a r.n r.c r.l ∧ (∀ x ∈ r.l, I64ok x) ∧ (r.a = none → r.c = 0)
theorem Rws.below {w w' : World} {B n c : Nat} {A : Option Addr} {rs : List Rw} (h : Rws w B A n c rs) (hb : Below B w w') : Rws w' B A n c rs := ⟨h.out.below hb, fun r hr => ⟨(h.each r hr).1.below hb, (h.each r hr).2⟩⟩
theorem Rws.ext {w w' : World} {n c : Nat} {A : Option Addr} {rs : List Rw} (h : Rws w w.heap.size A n c rs) (hx : Ext w w') : Rws w' w'.heap.size A n c rs := ⟨ra_ext h.out hx, fun r hr => ⟨ra_ext (h.each r hr).1 hx, (h.each r hr).2⟩⟩
/-- The first elements of a row. -/
theorem RA.cut8 {w : World} {B n c : Nat} {A : Option Addr} {l : List Int} (h : RA intCells 1 w B A n c l) (m : Nat) (hm : m ≤ n) : RA intCells 1 w B A m c (l.take m) := by
  have hl := h.len
  have hf : ∀ l : List Int, l.flatMap intCells = l.map (fun x => Value.int .i64 x) := fun l => by
    induction l with
    | nil => rfl
    | cons x l ih => simp [List.flatMap_cons, intCells, ih]
  refine ⟨⟨?_, fun h0 => ?_⟩, by rw [List.length_take]; omega, Nat.le_trans hm h.cap, h.capM, Nat.le_trans hm h.le⟩
  · rw [hf, List.length_map, List.length_take]; omega
  · obtain ⟨b, o, h1, h2, h3⟩ := h.rd.2 (by omega)
    refine ⟨b, o, h1, h2, fun j u hu => h3 j u ?_⟩
    rw [hf] at hu ⊢
    rw [List.getElem?_map] at hu ⊢
    have hj : j < m := by
      rcases Nat.lt_or_ge j m with e | e
      · exact e
      · rw [List.getElem?_eq_none (by rw [List.length_take]; omega)] at hu; cases hu
    rw [List.getElem?_take_of_lt hj] at hu
    exact hu
theorem RA.none_take {w : World} {B c : Nat} {A : Option Addr} {n : Nat} {l : List Int} (h : RA intCells 1 w B A n c l) : A = none → n = 0 := by
  intro e
  rcases Nat.eq_zero_or_pos n with h0 | h0
  · exact h0
  · obtain ⟨b, o, h1, _⟩ := h.rd.2 h0
    rw [e] at h1; cases h1
def optSlt (ps : List Pas) (x : List Int) : List Slt := optS ps (x.take (min x.length 8))
/-- Options in memory, with what they hold. -/
def optOf (id : Nat) (sl : List Slt) (A : Option Addr) (c : Nat) : Opt := ⟨id, 0, 0, 0, 0, 0, 0, 1, A, sl.length, c, sl⟩
structure Opp where
  id : Int
  l : List Slt
def Opt.p (o : Opt) : Opp := ⟨o.id, o.l⟩
def OwnOs (W : World) (b : Nat) (v : Value) (os : List Opt) : Prop := W.ownsRow b 32 9 v os.length (os.flatMap optCells) ∧ ∀ o ∈ os, o.n = o.l.length ∧ OwnS W b (.slice o.a o.n o.c) o.l
theorem OwnOs.nil (W : World) (b : Nat) : OwnOs W b (.slice none 0 0) [] := ⟨World.ownsRow_nil _ _ _ _, fun x hx => by cases hx⟩
theorem OwnOs.ext {W W' : World} {b : Nat} {v : Value} {os : List Opt} (h : OwnOs W b v os) (hx : Ext W W') : OwnOs W' b v os := ⟨own_ext h.1 hx, fun x hm => ⟨(h.2 x hm).1, own_ext (h.2 x hm).2 hx⟩⟩
theorem OwnOs.base {W : World} {b b' : Nat} {v : Value} {os : List Opt} (h : OwnOs W b v os) (hb : b' ≤ b) : OwnOs W b' v os := ⟨own_base h.1 hb, fun x hm => ⟨(h.2 x hm).1, own_base (h.2 x hm).2 hb⟩⟩
theorem info_opt : (Try.prog.info? 32).map (fun i => (i.zero, i.size, i.bytes)) = some (some (.agg #[.int .i64 0, .int .i64 0, .int .i64 0, .int .i64 0, .int .i64 0, .int .i64 0, .int .i64 0, .int .i64 0, .slice none 0 0]), 9, 88) := by kernel_rfl
theorem opt_snoc {w : World} (ty : TypeId) (os : List Opt) (v : Value) (x : Opt) (base gx : Nat) (jx : Blk w gx 32 (optCells x).toArray) (h : OwnOs w base v os) (hn : x.n = x.l.length) (ho : OwnS w base (.slice x.a x.n x.c) x.l) (hl : os.length ≤ 900) (hb : base ≤ w.heap.size) :
    ∃ v' w', (Builtin.append_ #[36, 36] ty #[v, .slice (some ⟨gx, 0, none⟩) 1 1]).run Try.prog w = .ok v' w' ∧ w.grownBy w' v.ownBlock ∧ OwnOs w' base v' (os ++ [x]) := by
  obtain ⟨i0, hi0, hz0, hz1, hz2⟩ := info_parts info_opt
  obtain ⟨v2, W7, hr, hrow2, hg2, -⟩ := run_append_own (P := Try.prog) w base 36 ty 32 i0 _ 9 88 Try.underlying36 hi0 hz0 hz1 hz2 rfl (by omega) _ _ _ h.1 ⟨gx, 0, none⟩ 1 1 (optCells x) rfl (by intro i u hu; rw [Addr.add_lit, Nat.zero_add, jx.cell]; simpa using hu) (by simp [optCells, Value.oneCell']) (by unfold maxLen; omega) (by omega) hb
  refine ⟨v2, W7, hr, hg2, ?_, fun y hy => ?_⟩
  · rw [List.length_append, List.flatMap_append]
    simpa using hrow2
  · rcases List.mem_append.1 hy with hy | hy
    · exact ⟨(h.2 y hy).1, own_other (h.2 y hy).2 h.1 (by decide) hg2⟩
    · rw [List.mem_singleton.1 hy]; exact ⟨hn, own_other ho h.1 (by decide) hg2⟩
def optsP (ps : List Pas) (xs : List (List Int)) : List Opp := (xs.take 8).zipIdx.map (fun x => ⟨x.2, optSlt ps x.1⟩)
theorem optsP_take (ps : List Pas) (xs : List (List Int)) (k : Nat) (hk : k < 8) (h : k < xs.length) : optsP ps (xs.take (k + 1)) = optsP ps (xs.take k) ++ [⟨(k : Nat), optSlt ps xs[k]⟩] := by
  unfold optsP
  rw [List.take_take, List.take_take, show min 8 (k + 1) = k + 1 by omega, show min 8 k = k by omega, List.take_succ_eq_append_getElem h, List.zipIdx_append, List.map_append]
  congr 1
  simp
  omega
end Go.Proofs.Ytmlabgmigakcbaa
