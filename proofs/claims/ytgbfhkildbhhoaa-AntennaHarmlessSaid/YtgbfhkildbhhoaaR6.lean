/- Requests: copies, joins, one replaced; a pass behind the passes of a request in a box. -/
import Derived.Test.YtgbfhkildbhhoaaR5
import Derived.Test.YtgbfhkildbhhoaaL0
import Derived.Test.YtgbfhkildbhhoaaRw
namespace Go.Proofs.Ytgbfhkildbhhoaa
open Go.RowKit

/-- A row of one's own holds these requests. -/
def OwnR (W : World) (b : Nat) (v : Value) (l : List Req) : Prop := W.ownsRow b 30 2 v l.length (l.flatMap reqCells)
theorem OwnR.ext {W W' : World} {b : Nat} {v : Value} {l : List Req} (h : OwnR W b v l) (hx : Ext W W') : OwnR W' b v l := own_ext h hx
theorem req_ones (l : List Req) : ∀ u ∈ l.flatMap reqCells, u.oneCell' = true := by
  intro u hu
  obtain ⟨x, _, hx⟩ := List.mem_flatMap.1 hu
  simp [reqCells] at hx
  rcases hx with rfl | rfl <;> rfl
/-- Requests are copied behind an empty list. -/
theorem copy_req {w : World} (ty : TypeId) (xs : List Req) (b gx n c : Nat) (A : Option Addr) (B0 : Nat) (jx : Blk w gx 30 #[]) (hg : B0 ≤ gx) (hn : n ≤ 900) (hx : RA reqCells 2 w b A n c xs) :
    ∃ v' w', (Builtin.append_ #[31, 31] ty #[.slice (some ⟨gx, 0, none⟩) 0 0, .slice A n c]).run Try.prog w = .ok v' w' ∧ Ext w w' ∧ OwnR w' B0 v' xs := by
  obtain ⟨i0, hi0, hz0, hz1, hz2⟩ := info_parts info_req
  have hl := hx.len
  have hlt := jx.lt
  rcases Nat.eq_zero_or_pos n with h0 | h0
  · subst h0
    obtain rfl : xs = [] := List.eq_nil_of_length_eq_zero hl
    exact ⟨_, _, run_append_none w _ _ _ i0 Try.underlying31 hi0 ⟨gx, 0, none⟩ 0 0 (Nat.le_refl _) A c, Ext.refl _, rfl, .inr ⟨gx, 0, #[], rfl, hg, jx, Nat.le_refl _, by unfold maxLen; omega, rfl, rfl⟩⟩
  · obtain ⟨b', o, rfl, hb, hc⟩ := hx.rd.2 h0
    obtain ⟨v', w', h1, h2, h3⟩ := run_append_arg_grows (P := Try.prog) (w := w) 31 ty 30 i0 _ 2 32 Try.underlying31 hi0 hz0 hz1 hz2 rfl (by omega) ⟨gx, 0, none⟩ 0 0 [] rfl (fun j u hu => by simp at hu) ⟨b', o, none⟩ n c _ hx.rd.1 (fun j u hu => by rw [Addr.add_lit]; exact hc j u hu) (by omega) (by unfold maxLen; omega) (by omega)
    refine ⟨v', w', h1, ⟨h3.os, h3.tape, h3.output, h3.size, fun k hk => h3.block k hk (by simp)⟩, ?_⟩
    unfold OwnR
    rw [hl]
    rw [Nat.zero_add, List.nil_append] at h2
    exact own_base h2 (by omega)
/-- Requests behind requests of one's own. -/
theorem join_req {w : World} (ty : TypeId) (xs ys : List Req) (v : Value) (base b m c : Nat) (A : Option Addr) (h : OwnR w base v xs) (hy : RA reqCells 2 w b A m c ys) (hn : xs.length + m ≤ 900) (hb : base ≤ w.heap.size) :
    ∃ v' w', (Builtin.append_ #[31, 31] ty #[v, .slice A m c]).run Try.prog w = .ok v' w' ∧ w.grownBy w' v.ownBlock ∧ OwnR w' base v' (xs ++ ys) := by
  obtain ⟨i0, hi0, hz0, hz1, hz2⟩ := info_parts info_req
  have hl := hy.len
  have hcap := hy.cap
  rcases Nat.eq_zero_or_pos m with h0 | h0
  · subst h0
    obtain rfl : ys = [] := List.eq_nil_of_length_eq_zero hl
    rw [List.append_nil]
    rcases h.2 with ⟨rfl, hz⟩ | ⟨g, cap, cur, rfl, hbb, hg, r1, r2, r3, r4⟩
    · exact ⟨_, _, run_append_none2 w _ _ _ i0 Try.underlying31 hi0 A c, ⟨rfl, rfl, rfl, Nat.le_refl _, fun _ _ _ => rfl⟩, h⟩
    · exact ⟨_, _, run_append_none w _ _ _ i0 Try.underlying31 hi0 ⟨g, 0, none⟩ xs.length cap r1 A c, ⟨rfl, rfl, rfl, Nat.le_refl _, fun _ _ _ => rfl⟩, h⟩
  · obtain ⟨b', o, rfl, hb', hc⟩ := hy.rd.2 h0
    obtain ⟨v2, W7, hr, hrow2, hg2, -⟩ := run_append_own (P := Try.prog) w base 31 ty 30 i0 _ 2 32 Try.underlying31 hi0 hz0 hz1 hz2 rfl (by omega) _ _ _ h ⟨b', o, none⟩ m c _ hy.rd.1 (fun j u hu => by rw [Addr.add_lit]; exact hc j u hu) (req_ones ys) (by unfold maxLen; omega) (by omega) hb
    refine ⟨v2, W7, hr, hg2, ?_⟩
    unfold OwnR
    rw [List.length_append, List.flatMap_append, hl]
    exact hrow2
/-- One pass more in a box. -/
theorem box_app {w : World} {g n3 c3 : Nat} {im : Int} {A3 : Option Addr} {l : List Int} (y : Int) (gx : Nat) (jx : Blk w gx 3 #[.int .i64 y]) (hj : Blk w g 30 #[.int .i64 im, .slice A3 n3 c3]) (ho : OwnI w g (.slice A3 n3 c3) l) (hn : l.length ≤ 900) :
    ∃ A7 c7 W7, (Builtin.append_ #[28, 28] 28 #[.slice A3 n3 c3, .slice (some ⟨gx, 0, none⟩) 1 1]).run Try.prog w = .ok (.slice A7 (l.length + 1) c7) W7 ∧ W7.cell? ⟨g, 1, none⟩ = some (.slice A3 n3 c3) ∧ W7.frozen? ⟨g, 1, none⟩ = false ∧
      Blk (W7.setCell ⟨g, 1, none⟩ (.slice A7 (l.length + 1) c7)) g 30 #[.int .i64 im, .slice A7 (l.length + 1) c7] ∧ OwnI (W7.setCell ⟨g, 1, none⟩ (.slice A7 (l.length + 1) c7)) g (.slice A7 (l.length + 1) c7) (l ++ [y]) ∧
      ∀ w0, Ext w0 w → w0.heap.size ≤ g → Ext w0 (W7.setCell ⟨g, 1, none⟩ (.slice A7 (l.length + 1) c7)) := by
  obtain ⟨v7, W7, hrun, hg7, ho7⟩ := snoc_int 28 l (.slice A3 n3 c3) y g gx jx ho hn (Nat.le_of_lt hj.lt)
  obtain ⟨A7, c7, hv7, _, _⟩ := own_slice ho7
  rw [List.length_append, List.length_singleton] at hv7
  subst hv7
  have hj7 := hj.grown hg7 (fun e => own_blk_ne ho hj (by decide) e.symm)
  refine ⟨A7, c7, W7, hrun, hj7.cell 1, hj7.frozen 1, hj7.set2b _, own_off ho7 (fun q e => fun e2 => own_blk_ne ho7 hj7 (by decide) (by rw [e, e2])) _, fun w0 h0 hb => ?_⟩
  exact (h0.grown hg7 (Below.size h0) (fun q e => Nat.le_trans hb (World.ownsRow.lt ho q e).1)).setCell (p := ⟨g, 1, none⟩) hb _
/-- One request is replaced. -/
theorem own_req_set {w : World} {b n c g : Nat} {l : List Req} (h : OwnR w b (.slice (some ⟨g, 0, none⟩) n c) l) (i : Nat) (hi : i < l.length) (r : Req) :
    OwnR ((w.setCell ⟨g, i * 2, none⟩ (.int .i64 r.im)).setCell ⟨g, i * 2 + 1, none⟩ (.slice r.a r.n r.c)) b (.slice (some ⟨g, 0, none⟩) n c) (l.set i r) := by
  have e := own_n h
  subst e
  have hs : RowS reqCells 2 b 30 g l.length c w l := ⟨rfl, h⟩
  obtain ⟨h1, _⟩ := hs.store req_len hi r
  have h2 := h1.2
  unfold OwnR
  rw [List.length_set]
  exact h2
end Go.Proofs.Ytgbfhkildbhhoaa
