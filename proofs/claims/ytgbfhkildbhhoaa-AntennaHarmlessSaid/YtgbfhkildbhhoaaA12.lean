/- Rows. -/
import Derived.Test.YtgbfhkildbhhoaaA11
namespace Go.Proofs.Ytgbfhkildbhhoaa
open Go.RowKit

def setStep (l : List Use) (s : Int × List (List Nat)) (i : Nat) : Int × List (List Nat) := if s.1 < frP l i then (frP l i, s.2 ++ [atP l (frP l i)]) else s
def setsP (l : List Use) : List (List Nat) := ((orderP l).foldl (setStep l) (-1, [])).2
def rowsP (l : List Use) : List (List Nat) × Int := if validU l then ((setsP l).filter (fun a => !((setsP l).any fun b => insideP a b)), 0) else ([], 170)
/-- A list of lists of one's own. -/
structure RowsI (w : World) (b : Nat) (v : Value) (rs : List Row) : Prop where
  out : w.ownsRow b 28 1 v rs.length (rs.flatMap rowCells)
  each : ∀ x ∈ rs, w.ownsRow b 3 1 (.slice x.a x.n x.c) x.l.length (x.l.flatMap natCells) ∧ x.l.length ≤ 1000
theorem RowsI.ext {w w' : World} {b : Nat} {v : Value} {rs : List Row} (h : RowsI w b v rs) (hx : Ext w w') : RowsI w' b v rs := ⟨own_ext h.out hx, fun x hr => ⟨own_ext (h.each x hr).1 hx, (h.each x hr).2⟩⟩
theorem RowsI.base {w : World} {b b' : Nat} {v : Value} {rs : List Row} (h : RowsI w b v rs) (hb : b' ≤ b) : RowsI w b' v rs := ⟨own_base h.out hb, fun x hr => ⟨own_base (h.each x hr).1 hb, (h.each x hr).2⟩⟩
theorem RowsI.far {w : World} {b : Nat} {v : Value} {rs : List Row} (h : RowsI w b v rs) {p : Addr} (hp : p.block < b) (u : Value) : RowsI (w.setCell p u) b v rs := ⟨own_far h.out hp u, fun x hr => ⟨own_far (h.each x hr).1 hp u, (h.each x hr).2⟩⟩
theorem RowsI.nil (w : World) (b : Nat) : RowsI w b (.slice none 0 0) [] := ⟨World.ownsRow_nil _ _ _ _, fun _ h => by cases h⟩
theorem own_n {w : World} {b : Nat} {e : TypeId} {s : Nat} {A : Option Addr} {n c k : Nat} {xs : List Value} (h : w.ownsRow b e s (.slice A n c) k xs) : n = k := by
  obtain ⟨_, _, hv, _, _⟩ := own_slice h
  injection hv
/-- A row of another element's type stays where one row changes. -/
theorem own_other {w w' : World} {b b' : Nat} {t t' : TypeId} {s s' : Nat} {v v' : Value} {n n' : Nat} {xs xs' : List Value} (h : w.ownsRow b t s v n xs) (h' : w.ownsRow b' t' s' v' n' xs') (ht : t ≠ t') (hg : w.grownBy w' v'.ownBlock) : w'.ownsRow b t s v n xs := by
  refine ⟨h.1, ?_⟩
  rcases h.2 with hn | ⟨g, cap, cur, rfl, hb, hgg, r⟩
  · exact .inl hn
  · refine .inr ⟨g, cap, cur, rfl, hb, ?_, r⟩
    rw [hg.block g (Array.getElem?_eq_some_iff.1 hgg).1 ?_]
    · exact hgg
    · intro e
      rcases h'.2 with ⟨hn, _⟩ | ⟨g', cap', cur', hv', hb', hgg', r'⟩
      · rw [hn] at e; cases e
      · rw [hv'] at e
        injection e with e
        subst e
        rw [hgg] at hgg'
        injection hgg' with h1
        injection h1 with _ h2
        exact ht h2
theorem RowsI.rws {w : World} {b : Nat} {A : Option Addr} {n c : Nat} {rs : List Row} (h : RowsI w b (.slice A n c) rs) (hn : rs.length ≤ 1000) : Rws w w.heap.size A n c rs := by
  have e := own_n h.out
  subst e
  refine ⟨RA.of_own h.out rfl (by omega), fun x hr => ?_⟩
  obtain ⟨h1, h2⟩ := h.each x hr
  have e := own_n h1
  obtain ⟨xa, xn, xc, xl⟩ := x
  dsimp only at h1 h2 e ⊢
  subst e
  exact ⟨RA.of_own h1 rfl (by omega), h2⟩
/-- What Rows hands back. -/
def RowsRet (r : List (List Nat) × Int) (w : World) (e : Ending) (w' : World) : Prop := ∃ v rs, e = .returned (.tuple #[v, .int .i64 r.2]) ∧ RowsI w' w.heap.size v rs ∧ rs.map Row.l = r.1 ∧ Ext w w'
/-- A list of numbers of one's own, shut. -/
def OwnN (W : World) (b : Nat) (v : Value) (l : List Nat) : Prop := W.ownsRow b 3 1 v l.length (l.flatMap natCells)
theorem OwnN.ext {W W' : World} {b : Nat} {v : Value} {l : List Nat} (h : OwnN W b v l) (hx : Ext W W') : OwnN W' b v l := own_ext h hx
/-- A further list behind a list of lists. -/
theorem rows_snoc {w : World} {b : Nat} {v : Value} {rs : List Row} (h : RowsI w b v rs) (hl : rs.length ≤ 1000) (ty : TypeId) (gx : Nat) (x : Row) (jx : Blk w gx 28 #[.slice x.a x.n x.c]) (hx : OwnN w b (.slice x.a x.n x.c) x.l) (hxl : x.l.length ≤ 1000) (hb : b ≤ w.heap.size) :
    ∃ v' w', (Builtin.append_ #[42, 42] ty #[v, .slice (some ⟨gx, 0, none⟩) 1 1]).run Try.prog w = .ok v' w' ∧ RowsI w' b v' (rs ++ [x]) ∧ w.grownBy w' v.ownBlock := by
  obtain ⟨i0, hi0, hz0, hz1, hz2⟩ := info_parts info_row
  obtain ⟨v2, W7, hr, hrow2, hg2, -⟩ := run_append_own (P := Try.prog) w b 42 ty 28 i0 _ 1 24 Try.underlying42 hi0 hz0 hz1 hz2 rfl (by omega) _ _ _ h.out ⟨gx, 0, none⟩ 1 1 [.slice x.a x.n x.c] rfl (by intro i u hu; rw [Addr.add_lit, Nat.zero_add, jx.cell]; simpa using hu) (by simp [Value.oneCell']) (by unfold maxLen; omega) (by omega) (by omega)
  refine ⟨v2, W7, hr, ⟨by rw [List.length_append, List.flatMap_append]; exact hrow2, fun y hy => ?_⟩, hg2⟩
  rcases List.mem_append.1 hy with hy | hy
  · exact ⟨own_other (h.each y hy).1 h.out (by decide) hg2, (h.each y hy).2⟩
  · rw [List.mem_singleton.1 hy]
    exact ⟨own_other hx h.out (by decide) hg2, hxl⟩
end Go.Proofs.Ytgbfhkildbhhoaa
