/- Contacts. -/
import Derived.Test.YtlmpmhfbjblhnaaA18
import Derived.Test.YtlmpmhfbjblhnaaA12
namespace Go.Proofs.Ytlmpmhfbjblhnaa
open Go.RowKit Go.Shelf
attribute [local go_sem] Oper.semAt_some

theorem Blk.new_at {g : Nat} (w : World) (t : TypeId) (cs : Array Value) (h : w.heap.size = g) : Blk (w.alloc (.cells cs t)) g t cs := by subst h; exact Blk.new w t cs
theorem info_spl : (Try.prog.info? 34).map (fun i => (i.zero, i.size, i.bytes)) = some (some (.agg #[.int .i64 0, .int .i64 0]), 2, 16) := by kernel_rfl
theorem spells_any (a b : Int) (g : Nat) (caps : Array Value) (w : World) :
    Calls Try.prog 61 #[.int .i64 a, .int .i64 b, .func (.func g) #[] caps] w fun e w' => e = .returned (.func (.func 82) #[] #[.pointer (some ⟨w.heap.size, 0, none⟩), .pointer (some ⟨w.heap.size + 1, 0, none⟩), .pointer (some ⟨w.heap.size + 1 + 1, 0, none⟩)]) ∧
      w' = ((w.alloc (.cells #[.int .i64 a] 3)).alloc (.cells #[.int .i64 b] 3)).alloc (.cells #[.func (.func g) #[] caps] 96) := by
  go_enter Try.func61, Try.ntmps61
  go_wp2
  go_ret
  exact ⟨rfl, rfl⟩

/-- What a call hands back that makes a list of spells. -/
def SpellsRet (r : Option (List Spl)) (w : World) (e : Ending) (w' : World) : Prop := match r with
  | none => e = .returned (.tuple #[.slice none 0 0, .int .i64 90]) ∧ Below w.heap.size w w'
  | some l => ∃ v, e = .returned (.tuple #[v, .int .i64 0]) ∧ w'.ownsRow w.heap.size 34 2 v l.length (l.flatMap splCells) ∧ Below w.heap.size w w'
/-- Between two rounds: what has come stands in a row of the call's own. -/
structure CtI (w : World) (B0 gu : Nat) (pre : List BSpl) (W : World) : Prop where
  row : ∃ v, Blk W gu 54 #[v] ∧ W.ownsRow B0 34 2 v pre.length ((pre.map (·.1)).flatMap splCells) ∧ (pre.length = 0 → v = .slice none 0 0)
  below : Below w.heap.size w W
  size : B0 ≤ W.heap.size
theorem ctI_own {w : World} {B0 gu : Nat} (h : w.heap.size ≤ B0) : OwnFrom B0 (CtI w B0 gu) := by
  rintro pre X Y row ⟨⟨v, k1, k2, k3⟩, hb, hz⟩ hgr hr
  exact ⟨⟨v, blk_kept k1 hgr hr, own_kept k2 hgr hr, k3⟩, hb.grown hgr hb.size (fun k e => Nat.le_trans h (hr k e).1), Nat.le_trans hz hgr.size⟩

set_option maxRecDepth 100000 in
set_option maxHeartbeats 4000000 in
theorem Contacts_in (p f lo hi no tu sl id x y re an sk a b la : Int) (w : World) :
    CallsIn Fence.wide 10 Try.prog 28 #[.agg #[.int .i64 p, .int .i64 f, .int .i64 lo, .int .i64 hi, .int .i64 no, .int .i64 tu, .int .i64 sl], .agg #[.int .i64 id, .int .i64 x, .int .i64 y, .int .i64 re, .int .i64 an, .int .i64 sk], .agg #[.int .i64 a, .int .i64 b], .int .i64 la] w
      (SpellsRet (contactsP ⟨p, f, lo, hi, no, tu, sl⟩ ⟨id, ⟨x, y⟩, re, an, sk⟩ ⟨a, b⟩ la) w) := by
  have V1 := orbit_valid p f lo hi no tu sl
  have V2 := station_valid id x y re an sk
  have V3 := isSpan_any a b
  have V4 := isIn_any la (-sl) sl
  have hcp : contactsP ⟨p, f, lo, hi, no, tu, sl⟩ ⟨id, ⟨x, y⟩, re, an, sk⟩ ⟨a, b⟩ la = if (orbOK ⟨p, f, lo, hi, no, tu, sl⟩ && stnOK ⟨id, ⟨x, y⟩, re, an, sk⟩ && spanOK ⟨a, b⟩ && inB la (-sl) sl) = true then some (spellsP (fun t => viewP ⟨p, f, lo, hi, no, tu, sl⟩ ⟨id, ⟨x, y⟩, re, an, sk⟩ t la == some true) a (b - a).toNat) else none := rfl
  have hsl : orbOK ⟨p, f, lo, hi, no, tu, sl⟩ = true → 0 ≤ sl ∧ sl ≤ 10 := fun h => by
    simp only [orbOK, Bool.and_eq_true, inB_iff] at h
    exact h.2
  have hsp : spanOK ⟨a, b⟩ = true → 0 ≤ a ∧ a < b ∧ b ≤ 1000001 ∧ b - a ≤ 4320 := fun h => by simpa [spanOK] using h
  rw [hcp]
  clear hcp
  generalize orbOK ⟨p, f, lo, hi, no, tu, sl⟩ = q1 at V1 hsl ⊢
  generalize hq2 : stnOK ⟨id, ⟨x, y⟩, re, an, sk⟩ = q2 at V2 ⊢
  generalize spanOK ⟨a, b⟩ = q3 at V3 hsp ⊢
  generalize inB la (-sl) sl = q4 at V4 ⊢
  have HSL := Lib.hid hsl
  have HSP := Lib.hid hsp
  have H1 := Lib.hid V1
  have H2 := Lib.hid V2
  have H3 := Lib.hid V3
  have H4 := Lib.hid V4
  clear V1 V2 V3 V4 hq2 hsl hsp
  refine callsIn_of_wp_marks Try.func28 rfl trivial ?_ rfl
  simp only [Try.ntmps28, List.size_toArray, List.length_cons, List.length_nil, Nat.reduceAdd, Nat.reduceSub, Array.replicate_succ, Array.replicate_zero, List.push_toArray, List.append_toArray, List.nil_append, List.cons_append]
  gi_wp2_with fail
  generalize hW0 : (((((w.alloc (.cells #[.int .i64 p, .int .i64 f, .int .i64 lo, .int .i64 hi, .int .i64 no, .int .i64 tu, .int .i64 sl] 25)).alloc (.cells #[.int .i64 id, .int .i64 x, .int .i64 y, .int .i64 re, .int .i64 an, .int .i64 sk] 31)).alloc (.cells #[.int .i64 a, .int .i64 b] 34)).alloc (.cells #[.int .i64 la] 3)).alloc (.cells #[.slice none 0 0] 54)) = W0
  obtain ⟨go, hgo⟩ : ∃ k, k = w.heap.size := ⟨_, rfl⟩
  obtain ⟨gs, hgs⟩ : ∃ k, k = w.heap.size + 1 := ⟨_, rfl⟩
  obtain ⟨gp, hgp⟩ : ∃ k, k = w.heap.size + 1 + 1 := ⟨_, rfl⟩
  obtain ⟨gl, hgl⟩ : ∃ k, k = w.heap.size + 1 + 1 + 1 := ⟨_, rfl⟩
  obtain ⟨gu, hgu⟩ : ∃ k, k = w.heap.size + 1 + 1 + 1 + 1 := ⟨_, rfl⟩
  have Kgo : Blk W0 go 25 #[.int .i64 p, .int .i64 f, .int .i64 lo, .int .i64 hi, .int .i64 no, .int .i64 tu, .int .i64 sl] := by subst hW0; exact ((((Blk.new_at _ _ _ (by simp [hgo])).alloc _).alloc _).alloc _).alloc _
  have Kgs : Blk W0 gs 31 #[.int .i64 id, .int .i64 x, .int .i64 y, .int .i64 re, .int .i64 an, .int .i64 sk] := by subst hW0; exact (((Blk.new_at _ _ _ (by simp [hgs])).alloc _).alloc _).alloc _
  have Kgp : Blk W0 gp 34 #[.int .i64 a, .int .i64 b] := by subst hW0; exact ((Blk.new_at _ _ _ (by simp [hgp])).alloc _).alloc _
  have Kgl : Blk W0 gl 3 #[.int .i64 la] := by subst hW0; exact (Blk.new_at _ _ _ (by simp [hgl])).alloc _
  have Kgu : Blk W0 gu 54 #[.slice none 0 0] := by subst hW0; exact Blk.new_at _ _ _ (by simp [hgu])
  have hB : Below w.heap.size w W0 := by subst hW0; exact (by repeat (first | exact Below.refl _ _ | assumption | refine Below.drew ?_ | refine below_drewN ?_ _ | refine bl_alloc ?_ _ | refine Below.setCell ?_ (by first | (simp; done) | omega | (simp; omega)) _ | refine bl_then ?_ (by assumption)))
  rw [← hgu, ← hgl, ← hgp, ← hgs, ← hgo]
  have HHgo := Lib.hid hgo
  have HHgs := Lib.hid hgs
  have HHgp := Lib.hid hgp
  have HHgl := Lib.hid hgl
  have HHgu := Lib.hid hgu
  clear hW0 hgo hgs hgp hgl hgu
  refine ⟨trivial, (callsIn_wide.2 (H1.out _)).mono ?_⟩
  rintro e W1 ⟨rfl, hx⟩
  have Kgo := Kgo.ext hx
  have Kgs := Kgs.ext hx
  have Kgp := Kgp.ext hx
  have Kgl := Kgl.ext hx
  have Kgu := Kgu.ext hx
  have hB := bl_then hB hx
  clear hx
  skip
  cases q1
  · skip
    have u0 : W1.cell? ⟨gu, 0, none⟩ = some (.slice none 0 0) := Kgu.cell 0
    have u1 : W1.frozen? ⟨gu, 0, none⟩ = false := Kgu.frozen 0
    gi_wp2_with fail
    refine ⟨trivial, ?_⟩
    gi_wp2_with fail
    refine ⟨trivial, ?_⟩
    gi_wp2_with fail
    refine ⟨trivial, ?_⟩
    gi_wp2_with fail
    have u2 : (W1.setCell ⟨gu, 0, none⟩ (.slice none 0 0)).cell? ⟨gu, 0, none⟩ = some (.slice none 0 0) := (Kgu.set_ 0 _).cell 0
    exact ⟨.tuple #[.slice none 0 0, .int .i64 90], by simp [results, Try.results28, go_sem, u2], by simp [SpellsRet]; exact hB.setCell (p := ⟨gu, 0, none⟩) (by have := HHgu.out; show w.heap.size ≤ gu; omega) _⟩
  · skip
    have s0 : W1.cell? ⟨gs, 0, none⟩ = some (.int .i64 id) := Kgs.cell 0
    have s1 : W1.cell? ⟨gs, 1, none⟩ = some (.int .i64 x) := Kgs.cell 1
    have s2 : W1.cell? ⟨gs, 2, none⟩ = some (.int .i64 y) := Kgs.cell 2
    have s3 : W1.cell? ⟨gs, 3, none⟩ = some (.int .i64 re) := Kgs.cell 3
    have s4 : W1.cell? ⟨gs, 4, none⟩ = some (.int .i64 an) := Kgs.cell 4
    have s5 : W1.cell? ⟨gs, 5, none⟩ = some (.int .i64 sk) := Kgs.cell 5
    gi_wp2_with fail
    refine ⟨trivial, (callsIn_wide.2 (H2.out _)).mono ?_⟩
    rintro e W2 ⟨rfl, hx⟩
    have Kgo := Kgo.ext hx
    have Kgs := Kgs.ext hx
    have Kgp := Kgp.ext hx
    have Kgl := Kgl.ext hx
    have Kgu := Kgu.ext hx
    have hB := bl_then hB hx
    clear hx
    clear s0 s1 s2 s3 s4 s5
    cases q2
    · skip
      have u0 : W2.cell? ⟨gu, 0, none⟩ = some (.slice none 0 0) := Kgu.cell 0
      have u1 : W2.frozen? ⟨gu, 0, none⟩ = false := Kgu.frozen 0
      gi_wp2_with fail
      refine ⟨trivial, ?_⟩
      gi_wp2_with fail
      refine ⟨trivial, ?_⟩
      gi_wp2_with fail
      have u2 : (W2.setCell ⟨gu, 0, none⟩ (.slice none 0 0)).cell? ⟨gu, 0, none⟩ = some (.slice none 0 0) := (Kgu.set_ 0 _).cell 0
      exact ⟨.tuple #[.slice none 0 0, .int .i64 90], by simp [results, Try.results28, go_sem, u2], by simp [SpellsRet]; exact hB.setCell (p := ⟨gu, 0, none⟩) (by have := HHgu.out; show w.heap.size ≤ gu; omega) _⟩
    · skip
      have p0 : W2.cell? ⟨gp, 0, none⟩ = some (.int .i64 a) := Kgp.cell 0
      have p1 : W2.cell? ⟨gp, 1, none⟩ = some (.int .i64 b) := Kgp.cell 1
      gi_wp2_with fail
      refine ⟨trivial, (callsIn_wide.2 (H3.out _)).mono ?_⟩
      rintro e W3 ⟨rfl, hx⟩
      have Kgo := Kgo.ext hx
      have Kgs := Kgs.ext hx
      have Kgp := Kgp.ext hx
      have Kgl := Kgl.ext hx
      have Kgu := Kgu.ext hx
      have hB := bl_then hB hx
      clear hx
      clear p0 p1
      cases q3
      · skip
        have u0 : W3.cell? ⟨gu, 0, none⟩ = some (.slice none 0 0) := Kgu.cell 0
        have u1 : W3.frozen? ⟨gu, 0, none⟩ = false := Kgu.frozen 0
        gi_wp2_with fail
        refine ⟨trivial, ?_⟩
        gi_wp2_with fail
        have u2 : (W3.setCell ⟨gu, 0, none⟩ (.slice none 0 0)).cell? ⟨gu, 0, none⟩ = some (.slice none 0 0) := (Kgu.set_ 0 _).cell 0
        exact ⟨.tuple #[.slice none 0 0, .int .i64 90], by simp [results, Try.results28, go_sem, u2], by simp [SpellsRet]; exact hB.setCell (p := ⟨gu, 0, none⟩) (by have := HHgu.out; show w.heap.size ≤ gu; omega) _⟩
      · skip
        have hs : 0 ≤ sl ∧ sl ≤ 10 := by first | exact HSL.out rfl | exact HSL.out trivial
        have hq : 0 ≤ a ∧ a < b ∧ b ≤ 1000001 ∧ b - a ≤ 4320 := by first | exact HSP.out rfl | exact HSP.out trivial
        clear HSL HSP
        have g0 : W3.cell? ⟨go, 0, none⟩ = some (.int .i64 p) := Kgo.cell 0
        have g1 : W3.cell? ⟨go, 1, none⟩ = some (.int .i64 f) := Kgo.cell 1
        have g2 : W3.cell? ⟨go, 2, none⟩ = some (.int .i64 lo) := Kgo.cell 2
        have g3 : W3.cell? ⟨go, 3, none⟩ = some (.int .i64 hi) := Kgo.cell 3
        have g4 : W3.cell? ⟨go, 4, none⟩ = some (.int .i64 no) := Kgo.cell 4
        have g5 : W3.cell? ⟨go, 5, none⟩ = some (.int .i64 tu) := Kgo.cell 5
        have g6 : W3.cell? ⟨go, 6, none⟩ = some (.int .i64 sl) := Kgo.cell 6
        have l0 : W3.cell? ⟨gl, 0, none⟩ = some (.int .i64 la) := Kgl.cell 0
        gi_wp2_with fail
        refine ⟨trivial, (callsIn_wide.2 (H4.out _)).mono ?_⟩
        rintro e W4 ⟨rfl, rfl⟩
        clear g0 g1 g2 g3 g4 g5 g6 l0
        cases q4
        · skip
          have u0 : W3.cell? ⟨gu, 0, none⟩ = some (.slice none 0 0) := Kgu.cell 0
          have u1 : W3.frozen? ⟨gu, 0, none⟩ = false := Kgu.frozen 0
          gi_wp2_with fail
          have u2 : (W3.setCell ⟨gu, 0, none⟩ (.slice none 0 0)).cell? ⟨gu, 0, none⟩ = some (.slice none 0 0) := (Kgu.set_ 0 _).cell 0
          exact ⟨.tuple #[.slice none 0 0, .int .i64 90], by simp [results, Try.results28, go_sem, u2], by simp [SpellsRet]; exact hB.setCell (p := ⟨gu, 0, none⟩) (by have := HHgu.out; show w.heap.size ≤ gu; omega) _⟩
        · skip
          have p0 : W3.cell? ⟨gp, 0, none⟩ = some (.int .i64 a) := Kgp.cell 0
          have p1 : W3.cell? ⟨gp, 1, none⟩ = some (.int .i64 b) := Kgp.cell 1
          gi_wp2_with fail
          refine ⟨trivial, (callsIn_wide.2 (spells_any a b 60 _ _)).mono ?_⟩
          rintro e W5 ⟨rfl, hW5⟩
          have hx : Ext W3 W5 := by subst hW5; exact bl_alloc (bl_alloc (bl_alloc (Below.refl _ _) _) _) _
          have kf : Blk W5 W3.heap.size 3 #[.int .i64 a] := by subst hW5; exact ((Blk.new _ _ _).alloc _).alloc _
          have kt : Blk W5 (W3.heap.size + 1) 3 #[.int .i64 b] := by subst hW5; exact (Blk.new_at _ _ _ (by simp)).alloc _
          have ki : Blk W5 (W3.heap.size + 1 + 1) 96 #[.func (.func 60) #[] #[.pointer (some ⟨go, 0, none⟩), .pointer (some ⟨gs, 0, none⟩), .pointer (some ⟨gl, 0, none⟩)]] := by subst hW5; exact Blk.new_at _ _ _ (by simp)
          have l3 := Kgu.lt
          have Kgo := Kgo.ext hx
          have Kgs := Kgs.ext hx
          have Kgl := Kgl.ext hx
          have Kgu := Kgu.ext hx
          have hB := bl_then hB hx
          clear hW5 hx Kgp p0 p1 H1 H2 H3 H4
          gi_wp2_with fail
          refine wp_range_spells (fun k => k = gu) 60 #[.pointer (some ⟨go, 0, none⟩), .pointer (some ⟨gs, 0, none⟩), .pointer (some ⟨gl, 0, none⟩)] (fun t => viewP ⟨p, f, lo, hi, no, tu, sl⟩ ⟨id, ⟨x, y⟩, re, an, sk⟩ t la == some true) a b _ _ _ 10 (by omega) (fun k h => by rw [h]; exact Kgu.lt) (enters_of Try.func60 (by kernel_rfl) rfl)
            kf kt ki (by omega) (by omega) (by omega) (by omega) (by omega) (by omega) ?hp rfl (q := 11) (CtI w W5.heap.size gu) ?hI (fun pre W h => h.size) ?h0 ?hassign ?hbody ?hdone
          case hp =>
            intro t W _ _ hk
            have n1 := HHgo.out
            have n2 := HHgs.out
            have n3 := HHgl.out
            have n4 := HHgu.out
            exact seen_any p f lo hi no tu sl id x y re an sk t la go gs gl W (hk.blk_ Kgo (by omega) (.inl Kgo.lt)) (hk.blk_ Kgs (by omega) (.inl Kgs.lt)) (hk.blk_ Kgl (by omega) (.inl Kgl.lt))
          case hI => exact ctI_own hB.size
          case h0 => exact ⟨⟨_, Kgu, World.ownsRow_nil _ _ _ _, fun _ => rfl⟩, hB, Nat.le_refl _⟩
          case hassign =>
            intro l x W K hK
            simp only [List.setIfInBounds_toArray, List.set_cons_zero, List.set_cons_succ] at hK ⊢
            gi_wp2
            exact hK
          case hbody =>
            intro l pre s Bx W hI hBx KX hlen
            simp only [List.setIfInBounds_toArray, List.set_cons_zero, List.set_cons_succ]
            obtain ⟨⟨v, k1, k2, k3⟩, hb, hz⟩ := hI
            obtain ⟨⟨xf, xt⟩, hbd⟩ := s
            obtain ⟨A', c', hv, _, _⟩ := own_slice k2
            subst hv
            have hlen2 := spells_len (fun t => viewP ⟨p, f, lo, hi, no, tu, sl⟩ ⟨id, ⟨x, y⟩, re, an, sk⟩ t la == some true) (b - a).toNat a
            have hlen3 : pre.length < 4320 := by omega
            have HL := Lib.hid hlen3
            obtain ⟨i0, hi0, hz0, hz1, hz2⟩ := info_parts info_spl
            have hx1 : Ext W (W.alloc (.cells #[.int .i64 xf, .int .i64 xt] 34)) := bl_alloc (Below.refl _ _) _
            have KN := Blk.new W 34 #[.int .i64 xf, .int .i64 xt]
            obtain ⟨v2, W2, hr, hrow2, hg2, hprec⟩ := run_append_prec (P := Try.prog) (W.alloc (.cells #[.int .i64 xf, .int .i64 xt] 34)) W5.heap.size 54 54 34 i0 _ 2 16 Try.underlying54 hi0 hz0 hz1 hz2 rfl (by omega) _ pre.length ((pre.map (·.1)).flatMap splCells) (own_ext k2 hx1) k3 ⟨W.heap.size, 0, none⟩ 1 (splCells ⟨xf, xt⟩) rfl
              (by intro j u hj; rw [Addr.add_lit, Nat.zero_add]; rw [KN.cell]; simpa [splCells] using hj) (by simp [splCells, Value.oneCell']) (by unfold maxLen; omega) (by omega) (by rw [World.size_alloc]; omega)
            obtain ⟨A2, c2, hv, _, _⟩ := own_slice hrow2
            subst hv
            have k1' := (k1.ext hx1).grown hg2 (fun e => by have := (World.ownsRow.lt k2 gu e.symm).1; have := Kgu.lt; omega)
            have u0 : W.cell? ⟨gu, 0, none⟩ = some (.slice A' pre.length c') := k1.cell 0
            have x0 : W.cell? ⟨Bx, 0, none⟩ = some (.int .i64 xf) := KX.cell 0
            have x1 : W.cell? ⟨Bx, 1, none⟩ = some (.int .i64 xt) := KX.cell 1
            have u1 : W2.frozen? ⟨gu, 0, none⟩ = false := k1'.frozen 0
            have u2 : W2.cell? ⟨gu, 0, none⟩ = some (.slice A' pre.length c') := k1'.cell 0
            have HK : Hid (KeepsOthers W (W2.setCell ⟨gu, 0, none⟩ (.slice A2 (pre.length + 1) c2))) := Lib.hid (((KeepsOthers.alloc W _).trans (keeps_own (own_ext k2 hx1) hg2)).trans (KeepsOthers.setCell _ _ _))
            have HP : Hid (KpS (fun k => k = gu) W5.heap.size W (W2.setCell ⟨gu, 0, none⟩ (.slice A2 (pre.length + 1) c2))) := Lib.hid (((KpS.ext hx1).trans (KpS.append (own_ext k2 hx1) (Nat.le_refl _) hg2 hprec)).trans (KpS.setCell _ _ _ rfl))
            have HI : Hid (CtI w W5.heap.size gu (pre ++ [⟨⟨xf, xt⟩, hbd⟩]) (W2.setCell ⟨gu, 0, none⟩ (.slice A2 (pre.length + 1) c2))) := by
              refine Lib.hid ⟨⟨_, k1'.set_ 0 _, ?_, fun h => by simp at h⟩, ?_, ?_⟩
              · have := own_set hrow2 (p := ⟨gu, 0, none⟩) (fun e => by have := (World.ownsRow.lt hrow2 gu e).1; have := Kgu.lt; omega) (.slice A2 (pre.length + 1) c2)
                simpa using this
              · have h2 : Below w.heap.size w W2 := (bl_then hb hx1).grown hg2 (Nat.le_trans hb.size hx1.size) (fun k e => by have := (World.ownsRow.lt k2 k e).1; have := hB.size; omega)
                exact h2.setCell (p := ⟨gu, 0, none⟩) (by have := HHgu.out; show w.heap.size ≤ gu; omega) _
              · have := hg2.size; simp at this ⊢; omega
            have HR := Lib.hid hr
            clear k1 k2 k3 KX hrow2 hg2 hprec k1' hx1 KN hlen2 hlen3 hr
            gi_wp2_with (gi_at_builtin; refine wpListIn_append_run rfl _ _ _ rfl rfl rfl HR.out ?_)
            exact ⟨HK.out.from _, HP.out, HI.out⟩
          case hdone =>
            intro D xs W hD hxs hI hK
            obtain ⟨⟨v, k1, k2, k3⟩, hb, hz⟩ := hI
            have hln : xs.length = (spellsP (fun t => viewP ⟨p, f, lo, hi, no, tu, sl⟩ ⟨id, ⟨x, y⟩, re, an, sk⟩ t la == some true) a (b - a).toNat).length := by rw [← hxs]; simp
            rw [hxs, hln] at k2
            rw [hln] at k3
            clear hxs hln
            obtain ⟨A', c', hv, _, _⟩ := own_slice k2
            subst hv
            have u0 : W.cell? ⟨gu, 0, none⟩ = some (.slice A' (spellsP (fun t => viewP ⟨p, f, lo, hi, no, tu, sl⟩ ⟨id, ⟨x, y⟩, re, an, sk⟩ t la == some true) a (b - a).toNat).length c') := k1.cell 0
            have u1 : W.frozen? ⟨gu, 0, none⟩ = false := k1.frozen 0
            obtain ⟨S, hS⟩ : ∃ S, S = spellsP (fun t => viewP ⟨p, f, lo, hi, no, tu, sl⟩ ⟨id, ⟨x, y⟩, re, an, sk⟩ t la == some true) a (b - a).toNat := ⟨_, rfl⟩
            rw [← hS] at u0 k1 k2 k3
            have HS := Lib.hid hS
            have k4 : Blk (W.setCell ⟨gu, 0, none⟩ (.slice A' S.length c')) gu 54 #[.slice A' S.length c'] := k1.set_ 0 _
            have hne : (Value.slice A' S.length c').ownBlock ≠ some gu := fun e => by have := (World.ownsRow.lt k2 gu e).1; have := Kgu.lt; omega
            have k5 := own_set k2 (p := ⟨gu, 0, none⟩) hne (.slice A' S.length c')
            have hz := hB.size
            have hb2 : Below w.heap.size w (W.setCell ⟨gu, 0, none⟩ (.slice A' S.length c')) := hb.setCell (p := ⟨gu, 0, none⟩) (by have := HHgu.out; show w.heap.size ≤ gu; omega) _
            have hK2 : (W.setCell ⟨gu, 0, none⟩ (.slice A' S.length c')).heap[D]? = some (.deferred (some [])) := (KeepsOthers.setCell W ⟨gu, 0, none⟩ (.slice A' S.length c')).same D _ hK rfl
            have HA := Lib.hid k4
            have HR := Lib.hid k5
            have HB := Lib.hid hb2
            have HK := Lib.hid hK2
            clear k1 k2 k3 k4 k5 hb hb2 hK hK2 hne hS
            gi_wp2
            refine ⟨by simp, .inl ⟨_, _, rfl, run_takeDeferred HK.out, ?_⟩⟩
            have hgr := grownBy_putObj' (W.setCell ⟨gu, 0, none⟩ (.slice A' S.length c')) D (.deferred none)
            have hrr : ∀ r, some D = some r → w.heap.size ≤ r ∧ ∃ o : Obj, (W.setCell ⟨gu, 0, none⟩ (.slice A' S.length c')).heap[r]? = some o ∧ o.isCells = false := fun r e => by cases e; exact ⟨by omega, _, HK.out, rfl⟩
            have HA2 := blk_kept HA.out hgr hrr
            have HR2 := own_base (own_kept HR.out hgr hrr) hz
            have hc5 : ((W.setCell ⟨gu, 0, none⟩ (.slice A' S.length c')).putObj D (.deferred none)).cell? ⟨gu, 0, none⟩ = some (.slice A' S.length c') := HA2.cell 0
            exact ⟨.tuple #[.slice A' S.length c', .int .i64 0], by simp [results, Try.results28, go_sem, hc5], ⟨_, rfl, by rw [← HS.out]; exact HR2, HB.out.grown hgr HB.out.size (fun k e => by cases e; omega)⟩⟩

end Go.Proofs.Ytlmpmhfbjblhnaa
