/- What is known of the copy of a pool in quota.change. -/
import Derived.Test.YtpddnkefggaigaaL1
namespace Go.Proofs.Ytpddnkefggaigaa
open Go.RowKit

/-- What is known of the copy q of the pool, and of the boxes of the call, in a world of the call's. -/
structure QI (w W : World) (x : Loan) (Bq g1 c1 g2 c2 g4 c4 : Nat) (v3 : Value) (s : St) (ls : List Loan) : Prop where
  bq : Blk W Bq 26 #[.slice (some ⟨g1, 0, none⟩) 16 c1, .slice (some ⟨g2, 0, none⟩) 16 c2, v3, .slice (some ⟨g4, 0, none⟩) 16 c4]
  rows : Rows3 W (w.heap.size + 3) g1 c1 g2 c2 g4 c4 s
  r3 : W.ownsRow (w.heap.size + 3) 28 3 v3 ls.length (ls.flatMap loanCells)
  jl : Blk W (w.heap.size + 1) 28 #[.int .i64 x.fr, .int .i64 x.to, .int .i64 x.units]
  jr : Blk W (w.heap.size + 2) 26 nil4
  bel : Below w.heap.size w W
  lt : w.heap.size + 3 ≤ Bq

theorem QI.ext {w W W' : World} {x : Loan} {Bq g1 c1 g2 c2 g4 c4 : Nat} {v3 : Value} {s : St} {ls : List Loan} (h : QI w W x Bq g1 c1 g2 c2 g4 c4 v3 s ls) (hx : Ext W W') : QI w W' x Bq g1 c1 g2 c2 g4 c4 v3 s ls :=
  ⟨h.bq.ext hx, h.rows.ext hx, own_ext h.r3 hx, h.jl.ext hx, h.jr.ext hx, h.bel.trans (Below.mono hx h.bel.size), h.lt⟩
theorem QI.write {w W : World} {x : Loan} {Bq g1 c1 g2 c2 g4 c4 : Nat} {v3 : Value} {s : St} {ls : List Loan} (h : QI w W x Bq g1 c1 g2 c2 g4 c4 v3 s ls) {f i : Nat} (hf : okF f) (hi : i < 16) (d : Int) :
    QI w (W.setCell ⟨Gf g1 g2 g4 f, i, none⟩ (I64 ((s.get f).getD i 0 + d))) x Bq g1 c1 g2 c2 g4 c4 v3 (s.upd f i d) ls := by
  have hge := h.rows.ge hf
  have hb : ∃ cur, Blk W (Gf g1 g2 g4 f) 3 cur := by
    have key : ∀ {g c : Nat} {zs : List Int}, W.ownsRow (w.heap.size + 3) 3 1 (.slice (some ⟨g, 0, none⟩) 16 c) 16 (zs.map I64) → ∃ cur, Blk W g 3 cur := fun hh => by
      rcases hh.2 with ⟨hv, _⟩ | ⟨g', cap, cur, hv, _, hb, _⟩
      · cases hv
      · injection hv with e1 _ _
        injection e1 with e1
        injection e1 with e1 _ _
        subst e1
        exact ⟨cur, hb⟩
    rcases hf with rfl | rfl | rfl
    · exact key h.rows.r1
    · exact key h.rows.r2
    · exact key h.rows.r4
  obtain ⟨cur, hcur⟩ := hb
  refine ⟨h.bq.far (p := ⟨Gf g1 g2 g4 f, i, none⟩) (h.bq.ne_ hcur (by decide)) _, h.rows.write hf hi d, own_set h.r3 (p := ⟨Gf g1 g2 g4 f, i, none⟩) (own_blk_ne h.r3 hcur (by decide)) _, h.jl.far (p := ⟨Gf g1 g2 g4 f, i, none⟩) (by simp; omega) _, h.jr.far (p := ⟨Gf g1 g2 g4 f, i, none⟩) (by simp; omega) _, h.bel.setCell (p := ⟨Gf g1 g2 g4 f, i, none⟩) (by simp; omega) _, h.lt⟩

theorem get_flat_mv (ls : List Mv) (k : Nat) (h : k < ls.length) : (ls.flatMap mvCells)[k * 3]? = some (.pointer (some ls[k].fra)) ∧ (ls.flatMap mvCells)[k * 3 + 1]? = some (.pointer (some ls[k].toa)) ∧ (ls.flatMap mvCells)[k * 3 + 2]? = some (.int .i64 ls[k].am) := by
  induction ls generalizing k with
  | nil => simp at h
  | cons x r ih =>
    cases k with
    | zero => simp [List.flatMap_cons, mvCells]
    | succ k =>
      have := ih k (by simpa using h)
      have e0 : (k + 1) * 3 = k * 3 + 3 := by omega
      rw [e0]
      simp only [List.flatMap_cons, mvCells, List.cons_append, List.nil_append, List.getElem_cons_succ]
      exact ⟨by rw [List.getElem?_cons_succ, List.getElem?_cons_succ, List.getElem?_cons_succ]; exact this.1, by rw [show k * 3 + 3 + 1 = k * 3 + 1 + 3 by omega, List.getElem?_cons_succ, List.getElem?_cons_succ, List.getElem?_cons_succ]; exact this.2.1, by rw [show k * 3 + 3 + 2 = k * 3 + 2 + 3 by omega, List.getElem?_cons_succ, List.getElem?_cons_succ, List.getElem?_cons_succ]; exact this.2.2⟩
theorem mv_cells {W : World} {gm : Nat} {mv : List AM} {g1 g2 g4 : Nat} (h : Blk W gm 73 ((mv.map (mvAt g1 g2 g4)).flatMap mvCells).toArray) {k : Nat} (hk : k < mv.length) :
    W.cell? ⟨gm, k * 3, none⟩ = some (.pointer (some ⟨Gf g1 g2 g4 mv[k].fa, mv[k].ia, none⟩)) ∧ W.cell? ⟨gm, k * 3 + 1, none⟩ = some (.pointer (some ⟨Gf g1 g2 g4 mv[k].fb, mv[k].ib, none⟩)) ∧ W.cell? ⟨gm, k * 3 + 2, none⟩ = some (.int .i64 mv[k].am) := by
  have := get_flat_mv (mv.map (mvAt g1 g2 g4)) k (by simpa using hk)
  simp only [List.getElem_map, mvAt] at this
  refine ⟨?_, ?_, ?_⟩ <;> rw [h.cell]
  · simpa using this.1
  · simpa using this.2.1
  · simpa using this.2.2
theorem st_bd {p : Pool} (h : withinB p.has 0 1000000 = true ∧ withinB p.used 0 1000000 = true ∧ withinB p.cents (-1000000000000) 1000000000000 = true) : p.st.bd 1000000000000 := by
  have key : ∀ (l : List Int) (lo hi : Int), withinB l lo hi = true → -1000000000000 ≤ lo → hi ≤ 1000000000000 → ∀ i, -1000000000000 ≤ l.getD i 0 ∧ l.getD i 0 ≤ 1000000000000 := by
    intro l lo hi hw h1 h2 i
    rcases Nat.lt_or_ge i l.length with hl | hl
    · have := within_mem hw l[i] (List.getElem_mem _)
      rw [List.getD_eq_getElem?_getD, List.getElem?_eq_getElem hl, Option.getD_some]
      omega
    · rw [List.getD_eq_getElem?_getD, List.getElem?_eq_none hl]
      simp
  intro f hf i
  rcases hf with rfl | rfl | rfl
  · exact key _ _ _ h.1 (by omega) (by omega) i
  · exact key _ _ _ h.2.1 (by omega) (by omega) i
  · exact key _ _ _ h.2.2 (by omega) (by omega) i
theorem fold_take_succ (mv : List AM) (s : St) (k : Nat) (h : k < mv.length) : (mv.take (k + 1)).foldl St.app s = ((mv.take k).foldl St.app s).app mv[k] := by
  rw [List.take_succ_eq_append_getElem h, List.foldl_append]
  rfl
theorem Blk.set_row {w W : World} {x : Loan} {Bq g1 c1 g2 c2 g4 c4 : Nat} {v3 : Value} {s : St} {ls : List Loan} (h : QI w W x Bq g1 c1 g2 c2 g4 c4 v3 s ls) {g : Nat} {t : TypeId} {cs : Array Value} (hb : Blk W g t cs) (ht : 3 ≠ t) {f i : Nat} (hf : okF f) (u : Value) : Blk (W.setCell ⟨Gf g1 g2 g4 f, i, none⟩ u) g t cs := by
  refine hb.far (p := ⟨Gf g1 g2 g4 f, i, none⟩) ?_ u
  show g ≠ Gf g1 g2 g4 f
  intro e
  subst e
  have key : ∀ {g c : Nat} {zs : List Int}, W.ownsRow (w.heap.size + 3) 3 1 (.slice (some ⟨g, 0, none⟩) 16 c) 16 (zs.map I64) → Blk W g t cs → False := fun hh hb => own_blk_ne hh hb ht rfl
  rcases hf with rfl | rfl | rfl
  · exact key h.rows.r1 hb
  · exact key h.rows.r2 hb
  · exact key h.rows.r4 hb


theorem QI.loans_grown {w W W' : World} {x : Loan} {Bq g1 c1 g2 c2 g4 c4 : Nat} {v3 v3' : Value} {s : St} {ls ls' : List Loan} (h : QI w W x Bq g1 c1 g2 c2 g4 c4 v3 s ls) (hg : W.grownBy W' v3.ownBlock)
    (ho : W'.ownsRow (w.heap.size + 3) 28 3 v3' ls'.length (ls'.flatMap loanCells)) :
    Blk W' Bq 26 #[.slice (some ⟨g1, 0, none⟩) 16 c1, .slice (some ⟨g2, 0, none⟩) 16 c2, v3, .slice (some ⟨g4, 0, none⟩) 16 c4] ∧ QI w (W'.setCell ⟨Bq, 2, none⟩ v3') x Bq g1 c1 g2 c2 g4 c4 v3' s ls' := by
  have hbq : Blk W' Bq 26 #[.slice (some ⟨g1, 0, none⟩) 16 c1, .slice (some ⟨g2, 0, none⟩) 16 c2, v3, .slice (some ⟨g4, 0, none⟩) 16 c4] := h.bq.grown hg (fun e => own_blk_ne h.r3 h.bq (by decide) e.symm)
  have hrow : ∀ {g c : Nat} {zs : List Int}, W.ownsRow (w.heap.size + 3) 3 1 (.slice (some ⟨g, 0, none⟩) 16 c) 16 (zs.map I64) → some g ≠ v3.ownBlock := fun {g c zs} hh e => by
    rcases hh.2 with ⟨hv, _⟩ | ⟨g', cap, cur, hv, _, hb, _⟩
    · cases hv
    · injection hv with e1 _ _
      injection e1 with e1
      injection e1 with e1 _ _
      subst e1
      exact own_blk_ne h.r3 (t := 3) hb (by decide) e.symm
  have hlt := h.r3.lt
  have hrows := h.rows.grown hg (hrow h.rows.r1) (hrow h.rows.r2) (hrow h.rows.r4)
  refine ⟨hbq, ⟨hbq.set_ 2 v3', hrows.set1 (p := ⟨Bq, 2, none⟩) hbq (by decide) _, own_set ho (p := ⟨Bq, 2, none⟩) (own_blk_ne ho hbq (by decide)) _, ?_, ?_, ?_, h.lt⟩⟩
  · exact (h.jl.grown hg (fun e => by have := (hlt _ e.symm).1; omega)).far (p := ⟨Bq, 2, none⟩) (by have := h.lt; simp; omega) _
  · exact (h.jr.grown hg (fun e => by have := (hlt _ e.symm).1; omega)).far (p := ⟨Bq, 2, none⟩) (by have := h.lt; simp; omega) _
  · exact (h.bel.grown hg h.bel.size (fun k hk => by have := (hlt k hk).1; omega)).setCell (p := ⟨Bq, 2, none⟩) (by have := h.lt; simp; omega) _
theorem QI.units {w W : World} {x : Loan} {Bq g1 c1 g2 c2 g4 c4 g c : Nat} {s : St} {ls : List Loan} (h : QI w W x Bq g1 c1 g2 c2 g4 c4 (.slice (some ⟨g, 0, none⟩) ls.length c) s ls) {i : Nat} (hi : i < ls.length) (u : Int) :
    QI w (W.setCell ⟨g, i * 3 + 2, none⟩ (I64 u)) x Bq g1 c1 g2 c2 g4 c4 (.slice (some ⟨g, 0, none⟩) (setU ls i u).length c) s (setU ls i u) := by
  obtain ⟨g', c', cur, hv, hb, hge, _⟩ := ownL_form h.r3 (by omega)
  injection hv with e1 _ _
  injection e1 with e1
  injection e1 with e1 _ _
  subst e1
  have hw := ownL_write h.r3 hi u
  rw [setU_len]
  refine ⟨h.bq.far (p := ⟨g, i * 3 + 2, none⟩) (h.bq.ne_ hb (by decide)) _, h.rows.set1 (p := ⟨g, i * 3 + 2, none⟩) hb (by decide) _, by rw [setU_len]; exact hw, h.jl.far (p := ⟨g, i * 3 + 2, none⟩) (by simp; omega) _, h.jr.far (p := ⟨g, i * 3 + 2, none⟩) (by simp; omega) _, h.bel.setCell (p := ⟨g, i * 3 + 2, none⟩) (by simp; omega) _, h.lt⟩
theorem QI.pool {w W : World} {x : Loan} {Bq g1 c1 g2 c2 g4 c4 : Nat} {A : Option Addr} {n c : Nat} {s : St} {ls : List Loan} (h : QI w W x Bq g1 c1 g2 c2 g4 c4 (.slice A n c) s ls) (hl : ls.length = n) (hn : n ≤ 1099511627776) :
    PoolR W W.heap.size ⟨some ⟨g1, 0, none⟩, 16, c1⟩ ⟨some ⟨g2, 0, none⟩, 16, c2⟩ ⟨A, n, c⟩ ⟨some ⟨g4, 0, none⟩, 16, c4⟩ ⟨s.h, s.u, ls, s.c⟩ := by
  have h3 := h.r3
  rw [hl] at h3
  exact ⟨RI_of_own h.rows.r1 (by omega), RI_of_own h.rows.r2 (by omega), RL_of_own h3 hn, RI_of_own h.rows.r4 (by omega)⟩

end Go.Proofs.Ytpddnkefggaigaa
