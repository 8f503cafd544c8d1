/- Discords are told. -/
import Derived.Test.YtmlabgmigakcbaaR6
namespace Go.Proofs.Ytmlabgmigakcbaa
open Go.RowKit

/-- Nothing changes below a block, and of the rest nothing but discords. -/
structure Tel (B gd : Nat) (w w' : World) : Prop where
  bl : Below B w w'
  blk : ∀ i, i < w.heap.size → i ≠ gd → (∀ cs z, w.heap[i]? ≠ some (.cells cs 83 z)) → w'.heap[i]? = w.heap[i]?
theorem Tel.size {B gd : Nat} {w w' : World} (h : Tel B gd w w') : w.heap.size ≤ w'.heap.size := Below.size h.bl
theorem Tel.refl (B gd : Nat) (w : World) : Tel B gd w w := ⟨Below.refl _ _, fun _ _ _ _ => rfl⟩
theorem Tel.trans {B gd : Nat} {a b c : World} (h : Tel B gd a b) (k : Tel B gd b c) : Tel B gd a c :=
  ⟨h.bl.trans k.bl, fun i hi hg hd => by
    have e := h.blk i hi hg hd
    rw [k.blk i (Nat.lt_of_lt_of_le hi h.size) hg (by rw [e]; exact hd), e]⟩
theorem Tel.of_ext {B gd : Nat} {w w' : World} (hx : Ext w w') (hB : B ≤ w.heap.size) : Tel B gd w w' := ⟨hx.mono hB, fun i hi _ _ => hx.block i hi⟩
theorem Tel.then_ext {B gd : Nat} {a b c : World} (h : Tel B gd a b) (hx : Ext b c) (hB : B ≤ a.heap.size) : Tel B gd a c := h.trans (.of_ext hx (Nat.le_trans hB h.size))
theorem Blk.tel {B gd g : Nat} {w w' : World} {t : TypeId} {cs : Array Value} (h : Blk w g t cs) (k : Tel B gd w w') (ht : t ≠ 83) (hg : g ≠ gd) : Blk w' g t cs :=
  (k.blk g h.lt hg (fun cs' z e => by rw [h] at e; injection e with e; injection e with _ e2 _; exact ht e2)).trans h
theorem MapI.tel {B gd g : Nat} {w w' : World} {f : Int → Option Value} (h : MapI w g f) (k : Tel B gd w w') (hg : g ≠ gd) : MapI w' g f := by
  have hl := h.lt
  obtain ⟨L, c, h1, h2⟩ := h
  exact ⟨L, c, (k.blk g hl hg (fun cs' z e => by rw [h1] at e; injection e with e; cases e)).trans h1, h2⟩
theorem own_tel {B gd b s n : Nat} {w w' : World} {t : TypeId} {v : Value} {xs : List Value} (h : w.ownsRow b t s v n xs) (k : Tel B gd w w') (ht : t ≠ 83) (hg : v.ownBlock ≠ some gd) : w'.ownsRow b t s v n xs := by
  refine ⟨h.1, ?_⟩
  rcases h.2 with hn | ⟨g, cap, cur, rfl, hb, hgg, r⟩
  · exact .inl hn
  · refine .inr ⟨g, cap, cur, rfl, hb, ?_, r⟩
    rw [k.blk g (Array.getElem?_eq_some_iff.1 hgg).1 (fun e => hg (by rw [e]; rfl)) (fun cs' z e => by rw [hgg] at e; injection e with e; injection e with _ e2 _; exact ht e2)]
    exact hgg
/-- The discords told so far. -/
def DS (w : World) (gd B : Nat) (ds : List Dsc) : Prop := ∃ v, Blk w gd 48 #[v] ∧ w.ownsRow B 83 3 v ds.length (ds.flatMap dscCells)
theorem DS.ext {w w' : World} {gd B : Nat} {ds : List Dsc} (h : DS w gd B ds) (hx : Ext w w') : DS w' gd B ds := by
  obtain ⟨v, h1, h2⟩ := h
  exact ⟨v, h1.ext hx, own_ext h2 hx⟩
theorem info_dsc : (Try.prog.info? 83).map (fun i => (i.zero, i.size, i.bytes)) = some (some (.agg #[.int .i64 0, .int .i64 0, .int .i64 0]), 3, 24) := by kernel_rfl

set_option maxRecDepth 100000 in
set_option maxHeartbeats 4000000 in
theorem tell_any (kind im ix : Int) (gd B : Nat) (ds : List Dsc) (w : World) (h : DS w gd B ds) (hB : B ≤ gd) (hn : ds.length ≤ 100000) :
    Calls Try.prog 47 #[.int .i64 kind, .int .i64 im, .int .i64 ix, .pointer (some ⟨gd, 0, none⟩)] w fun e w' => e = .returned (.tuple #[]) ∧ DS w' gd B (ds ++ [⟨kind, im, ix⟩]) ∧ Tel B gd w w' := by
  obtain ⟨v, hj, ho⟩ := h
  have hlt := hj.lt
  have d0 : w.cell? ⟨gd, 0, none⟩ = some v := hj.cell 0
  have hxa : Ext w (w.alloc (.cells #[.int .i64 kind, .int .i64 im, .int .i64 ix] 83)) := bl_alloc (Below.refl _ _) _
  obtain ⟨i0, hi0, hz0, hz1, hz2⟩ := info_parts info_dsc
  have jx := Blk.new w 83 #[.int .i64 kind, .int .i64 im, .int .i64 ix]
  have hoa := own_ext ho hxa
  have hja := hj.ext hxa
  obtain ⟨v7, W7, hrun, ho7, hg7, -⟩ := run_append_own (P := Try.prog) _ B 48 48 83 i0 _ 3 24 Try.underlying48 hi0 hz0 hz1 hz2 rfl (by omega) _ _ _ hoa ⟨w.heap.size, 0, none⟩ 1 1 [.int .i64 kind, .int .i64 im, .int .i64 ix] rfl (by intro i u hu; rw [Addr.add_lit, Nat.zero_add, jx.cell]; simpa using hu) (by simp [Value.oneCell']) (by unfold maxLen; omega) (by omega) (by have := Below.size hxa; omega)
  have hne : v.ownBlock ≠ some gd := own_blk_ne hoa hja (by decide)
  have hj7 := hja.grown hg7 (fun e => hne e.symm)
  have ho7' : W7.ownsRow B 83 3 v7 (ds ++ [(⟨kind, im, ix⟩ : Dsc)]).length ((ds ++ [(⟨kind, im, ix⟩ : Dsc)]).flatMap dscCells) := by
    rw [List.length_append, List.flatMap_append]
    simpa [dscCells] using ho7
  have hne7 : v7.ownBlock ≠ some gd := own_blk_ne ho7' hj7 (by decide)
  have e7 : W7.cell? ⟨gd, 0, none⟩ = some v := hj7.cell 0
  have f7 : W7.frozen? ⟨gd, 0, none⟩ = false := hj7.frozen 0
  have hDS : DS (W7.setCell ⟨gd, 0, none⟩ v7) gd B (ds ++ [⟨kind, im, ix⟩]) := by
    refine ⟨v7, ?_, ?_⟩
    · have := hj7.set_ 0 v7
      simpa using this
    · refine ⟨ho7'.1, ?_⟩
      rcases ho7'.2 with hnn | ⟨g, cap, cur, rfl, hb, hgg, r⟩
      · exact .inl hnn
      · exact .inr ⟨g, cap, cur, rfl, hb, (Below.heap_setCell W7 ⟨gd, 0, none⟩ _ g (fun e => hne7 (by have e2 : g = gd := e; rw [e2]; rfl))).trans hgg, r⟩
  have hT : Tel B gd w (W7.setCell ⟨gd, 0, none⟩ v7) := by
    have hb7 : Below B w W7 := (hxa.mono (by omega)).grown hg7 (by have := Below.size hxa; omega) (fun q e => (World.ownsRow.lt hoa q e).1)
    refine ⟨hb7.setCell hB v7, fun i hi hg hd => ?_⟩
    rw [Below.heap_setCell W7 ⟨gd, 0, none⟩ v7 i hg, hg7.block i (Nat.lt_of_lt_of_le hi (Below.size hxa)) (fun e => ?_), hxa.block i hi]
    rcases hoa.2 with ⟨hnn, _⟩ | ⟨g, cap, cur, rfl, hb, hgg, r⟩
    · rw [hnn] at e; cases e
    · have e3 : some i = some g := e
      have e2 : g = i := by injection e3 with e3; exact e3.symm
      rw [e2, hxa.block i hi] at hgg
      exact hd _ _ hgg
  have HRUN := Lib.hid hrun
  have HDS := Lib.hid hDS
  have HT := Lib.hid hT
  obtain ⟨A7, c7, hv7, _, _⟩ := own_slice ho7'
  subst hv7
  obtain ⟨A0, c0, hv0, _, _⟩ := own_slice ho
  subst hv0
  clear hj ho hxa hoa hja hrun ho7 hg7 hj7 ho7' hDS hT jx hne hne7
  generalize ds ++ [(⟨kind, im, ix⟩ : Dsc)] = ds2 at HDS HT HRUN ⊢
  go_enter Try.func47, Try.ntmps47
  go_wp2_with (refine wpList_append_run_ rfl _ _ _ rfl rfl rfl HRUN.out ?_)
  exact bodyPost_end (v := .tuple #[]) (by simp [results, Try.results47, go_sem]) rfl ⟨rfl, HDS.out, HT.out⟩
end Go.Proofs.Ytmlabgmigakcbaa
