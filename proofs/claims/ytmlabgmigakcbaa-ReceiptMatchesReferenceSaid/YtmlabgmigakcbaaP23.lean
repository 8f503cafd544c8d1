/- The reference: Fits; discords of one's own; sets, empty or not. -/
import Derived.Test.YtmlabgmigakcbaaP18
import Derived.Test.YtmlabgmigakcbaaP22
import Derived.Test.YtmlabgmigakcbaaP12
import Derived.Test.YtmlabgmigakcbaaP16
import Derived.Deep.CutRange
import Derived.ArgAppend
namespace Go.Proofs.Ytmlabgmigakcbaa
open Go.ChangeShapes Go.WideShapes Go.ChangeAt Go.RowKit Go.Deep
section
variable {H : Type} {enc : TypeId × Value → H} {W : World} {base : Nat} {spare : Nat → Bool} {held : Bool}
def AllInt (enc : TypeId × Value → H) (W : World) (base : Nat) (spare : Nat → Bool) (held : Bool) (t : TypeId) : Prop := ∀ (n : Nat) (cs : List Value) (x : DataW H × List MemPlace), DataW.trod enc Try.prog W base spare held n t cs = some x →
 cs.length = Try.prog.cellsOf t ∧ ∀ (j : Nat) (v : Value), cs[j]? = some v → ∃ a : Int, v = .int .i64 a ∧ I64ok a
theorem allInt_int : AllInt enc W base spare held 3 := by
 intro n cs x h
 obtain ⟨a, rfl, _, wa⟩ := DataW.trod_int Try.underlying3 h
 refine ⟨by kernel_rfl, fun j v hv => ?_⟩
 match j, hv with
 | 0, hv => exact ⟨a, by simpa using hv.symm, i64_of_wf wa⟩
 | j + 1, hv => simp at hv
theorem allInt_struct {t : TypeId} {fs : Array Field} (hs : Try.prog.underlying t = some (.struct fs)) (hf : ∀ (j : Nat) (f : Field), fs[j]? = some f → AllInt enc W base spare held f.type)
  (hc : ((List.range (Try.prog.cellsOf t)).all fun i => fs.toList.any fun f => decide (f.offset ≤ i) && decide (i < f.offset + Try.prog.cellsOf f.type)) = true) : AllInt enc W base spare held t := by
 intro n cs x h
 obtain ⟨xs, m, _, _, hlen, hxl, hg⟩ := DataW.trod_struct hs h
 refine ⟨hlen, fun j v hv => ?_⟩
 have hj : j < cs.length := by
  rcases Nat.lt_or_ge j cs.length with e | e
  ·exact e
  ·rw [List.getElem?_eq_none e] at hv; cases hv
 rw [List.all_eq_true] at hc
 have h1 := hc j (by rw [List.mem_range, ← hlen]; exact hj)
 rw [List.any_eq_true] at h1
 obtain ⟨f, hfm, h2⟩ := h1
 rw [Bool.and_eq_true, decide_eq_true_eq, decide_eq_true_eq] at h2
 obtain ⟨k, hk, rfl⟩ := List.mem_iff_getElem.1 hfm
 have hk2 : fs[k]? = some fs.toList[k] := by rw [← Array.getElem?_toList, List.getElem?_eq_getElem hk]
 have h3 := hg k _ hk2
 have hkx : k < xs.length := by rw [hxl]; simpa using hk
 rw [List.getElem?_eq_getElem hkx] at h3
 refine (hf k _ hk2 _ _ _ h3).2 (j - fs.toList[k].offset) v ?_
 rw [List.getElem?_take, if_pos (by omega), List.getElem?_drop, show fs.toList[k].offset + (j - fs.toList[k].offset) = j by omega]
 exact hv
theorem AllInt.ints {t : TypeId} (h : AllInt enc W base spare held t) {n : Nat} {cs : List Value} {x : DataW H × List MemPlace} (hx : DataW.trod enc Try.prog W base spare held n t cs = some x) : ∃ zs : List Int, zs.length = Try.prog.cellsOf t ∧ cs = zs.map (Value.int .i64) ∧ ∀ z ∈ zs, I64ok z := by
 obtain ⟨hl, hg⟩ := h n cs x hx
 rw [← hl]
 clear hl hx
 induction cs with
 | nil => exact ⟨[], rfl, rfl, by simp⟩
 | cons c r ih =>
  obtain ⟨zs, h1, h2, h3⟩ := ih (fun j v hv => hg (j + 1) v (by simpa using hv))
  obtain ⟨a, h4, h5⟩ := hg 0 c rfl
  exact ⟨a :: zs, by simp [h1], by simp [h2, h4], by intro z hz; rcases List.mem_cons.1 hz with rfl | hz; exact h5; exact h3 z hz⟩
theorem two_types {fs : Array Field} {P : TypeId → Prop} {t1 t2 : TypeId} (h : (fs.toList.all fun f => f.type == t1 || f.type == t2) = true) (h1 : P t1) (h2 : P t2) (j : Nat) (f : Field) (hj : fs[j]? = some f) : P f.type := by
 rw [List.all_eq_true] at h
 have hm : f ∈ fs.toList := by rw [← Array.getElem?_toList] at hj; exact List.mem_of_getElem? hj
 have := h f hm
 rw [Bool.or_eq_true, beq_iff_eq, beq_iff_eq] at this
 rcases this with e | e
 ·rw [e]; exact h1
 ·rw [e]; exact h2
theorem allInt_Spell : AllInt enc W base spare held 29 := allInt_struct Try.underlying29 (two_types (t1 := 3) (t2 := 3) (by kernel_rfl) allInt_int allInt_int) (by kernel_rfl)
theorem allInt_Slot : AllInt enc W base spare held 78 := allInt_struct Try.underlying78 (two_types (t1 := 3) (t2 := 29) (by kernel_rfl) allInt_int allInt_Spell) (by kernel_rfl)
theorem allInt_Rcp : AllInt enc W base spare held 63 := allInt_struct Try.underlying63 (two_types (t1 := 3) (t2 := 3) (by kernel_rfl) allInt_int allInt_int) (by kernel_rfl)
set_option maxRecDepth 100000 in
theorem open_Case_nil {c : Cas} {d : DataW H} {p : List MemPlace} (h : DataW.Trod enc Try.prog W base spare held 27 (casV c) d p) : c.wa = none → c.wc = 0 := by
 obtain ⟨fuel, hf⟩ := h
 obtain ⟨xs, m, _, _, hlen, hxl, hg⟩ := DataW.trod_struct Try.underlying27 hf
 have hcw : Try.prog.cellsOf 25 = 1 := by kernel_rfl
 have g4 : DataW.trod enc Try.prog W base spare held m 25 (((casV c).cells.toList.drop 6).take (Try.prog.cellsOf 25)) = xs[4]? := hg 4 _ rfl
 rw [hcw] at g4
 match xs, hxl with
 | [y0, y1, y2, y3, y4], _ =>
  have g5 : DataW.trod enc Try.prog W base spare held m 25 [.slice c.wa c.wn c.wc] = some y4 := g4
  obtain ⟨wa, wn, wc, e, wr, _, h2, _⟩ := open_rows (cells := intCells) (s := 1) Try.underlying25 (by kernel_rfl) (fun _ => rfl) (by decide) (fun _ _ _ h => open_Int h) g5
  injection e with e1 e2 e3
  rw [e1, e3]
  exact h2
theorem open_Slt {n : Nat} {cs : List Value} {x : DataW H × List MemPlace} (h : DataW.trod enc Try.prog W base spare held n 78 cs = some x) : ∃ q : Slt, True ∧ cs = sltCells q := by
 obtain ⟨zs, h1, h2, h3⟩ := allInt_Slot.ints h
 have hc : Try.prog.cellsOf 78 = 3 := by kernel_rfl
 rw [hc] at h1
 match zs, h1 with
 | [a, b, c], _ => exact ⟨⟨a, b, c⟩, trivial, h2⟩
theorem open_Rcp {n : Nat} {cs : List Value} {x : DataW H × List MemPlace} (h : DataW.trod enc Try.prog W base spare held n 63 cs = some x) : ∃ q : Rcp, True ∧ cs = rcpCells q := by
 obtain ⟨zs, h1, h2, h3⟩ := allInt_Rcp.ints h
 have hc : Try.prog.cellsOf 63 = 3 := by kernel_rfl
 rw [hc] at h1
 match zs, h1 with
 | [a, b, c], _ => exact ⟨⟨a, b, c⟩, trivial, h2⟩
theorem open_Rcps {A : Option Addr} {n c : Nat} {d : DataW H} {p : List MemPlace} (h : DataW.Trod enc Try.prog W base spare held 33 (.slice A n c) d p) : ∃ xs, RA rcpCells 3 W W.heap.size A n c xs ∧ (A = none → c = 0) := by
 obtain ⟨fuel, hf⟩ := h
 obtain ⟨A', n', c', e, xs, h1, h2, h3⟩ := open_rows (cells := rcpCells) (s := 3) Try.underlying33 (by kernel_rfl) (fun _ => rfl) (by decide) (fun _ _ _ h => open_Rcp h) hf
 injection e with e1 e2 e3
 subst e1 e2 e3
 exact ⟨xs, h1, h2⟩
structure OptR (W : World) (o : Opt) : Prop where
 sl : RA sltCells 3 W W.heap.size o.a o.n o.c o.l
 nil_ : o.a = none → o.c = 0
theorem OptR.ext {W W' : World} {o : Opt} (h : OptR W o) (hx : Ext W W') : OptR W' o := ⟨ra_ext h.sl hx, h.nil_⟩
set_option maxRecDepth 100000 in
theorem open_Opt {v : Value} {d : DataW H} {p : List MemPlace} {r : Reach} {b0 : Nat} (hv : Value.okWide Try.prog W r b0 32 v) (h : DataW.Trod enc Try.prog W base spare held 32 v d p) : ∃ o : Opt, v = .agg (optCells o).toArray ∧ OptR W o := by
 obtain ⟨cs, rfl, hsz⟩ := okWide_struct Try.underlying32 hv
 obtain ⟨fuel, hf⟩ := h
 obtain ⟨xs, m, _, _, hlen, hxl, hg⟩ := DataW.trod_struct Try.underlying32 hf
 obtain ⟨cs⟩ := cs
 simp only [Value.cells] at hlen hg
 have hc9 : Try.prog.cellsOf 32 = 9 := by kernel_rfl
 have hci : Try.prog.cellsOf 3 = 1 := by kernel_rfl
 have hcs : Try.prog.cellsOf 29 = 2 := by kernel_rfl
 have hcl : Try.prog.cellsOf 30 = 1 := by kernel_rfl
 rw [hc9] at hlen
 match cs, hlen with
 | [c0, c1, c2, c3, c4, c5, c6, c7, c8], _ =>
  have g0 : DataW.trod enc Try.prog W base spare held m 3 (([c0, c1, c2, c3, c4, c5, c6, c7, c8].drop 0).take (Try.prog.cellsOf 3)) = xs[0]? := hg 0 _ rfl
  have g1 : DataW.trod enc Try.prog W base spare held m 3 (([c0, c1, c2, c3, c4, c5, c6, c7, c8].drop 1).take (Try.prog.cellsOf 3)) = xs[1]? := hg 1 _ rfl
  have g2 : DataW.trod enc Try.prog W base spare held m 3 (([c0, c1, c2, c3, c4, c5, c6, c7, c8].drop 2).take (Try.prog.cellsOf 3)) = xs[2]? := hg 2 _ rfl
  have g3 : DataW.trod enc Try.prog W base spare held m 3 (([c0, c1, c2, c3, c4, c5, c6, c7, c8].drop 3).take (Try.prog.cellsOf 3)) = xs[3]? := hg 3 _ rfl
  have g4 : DataW.trod enc Try.prog W base spare held m 29 (([c0, c1, c2, c3, c4, c5, c6, c7, c8].drop 4).take (Try.prog.cellsOf 29)) = xs[4]? := hg 4 _ rfl
  have g5 : DataW.trod enc Try.prog W base spare held m 3 (([c0, c1, c2, c3, c4, c5, c6, c7, c8].drop 6).take (Try.prog.cellsOf 3)) = xs[5]? := hg 5 _ rfl
  have g6 : DataW.trod enc Try.prog W base spare held m 3 (([c0, c1, c2, c3, c4, c5, c6, c7, c8].drop 7).take (Try.prog.cellsOf 3)) = xs[6]? := hg 6 _ rfl
  have g7 : DataW.trod enc Try.prog W base spare held m 30 (([c0, c1, c2, c3, c4, c5, c6, c7, c8].drop 8).take (Try.prog.cellsOf 30)) = xs[7]? := hg 7 _ rfl
  rw [hci] at g0 g1 g2 g3 g5 g6
  rw [hcs] at g4
  rw [hcl] at g7
  match xs, hxl with
  | [y0, y1, y2, y3, y4, y5, y6, y7], _ =>
   simp at g0 g1 g2 g3 g4 g5 g6 g7
   obtain ⟨a0, _, h0⟩ := open_Int g0
   obtain ⟨a1, _, h1⟩ := open_Int g1
   obtain ⟨a2, _, h2⟩ := open_Int g2
   obtain ⟨a3, _, h3⟩ := open_Int g3
   obtain ⟨zs, k1, k2, _⟩ := allInt_Spell.ints g4
   rw [hcs] at k1
   obtain ⟨a6, _, h6⟩ := open_Int g5
   obtain ⟨a7, _, h7⟩ := open_Int g6
   obtain ⟨sa, sn, sc, rfl, sl, hs1, hs2, _⟩ := open_rows (cells := sltCells) (s := 3) Try.underlying30 (by kernel_rfl) (fun _ => rfl) (by decide) (fun _ _ _ h => open_Slt h) g7
   match zs, k1 with
   | [a4, a5], _ =>
    obtain rfl : c0 = .int .i64 a0 := by simpa [intCells] using h0
    obtain rfl : c1 = .int .i64 a1 := by simpa [intCells] using h1
    obtain rfl : c2 = .int .i64 a2 := by simpa [intCells] using h2
    obtain rfl : c3 = .int .i64 a3 := by simpa [intCells] using h3
    obtain ⟨rfl, rfl⟩ : c4 = .int .i64 a4 ∧ c5 = .int .i64 a5 := by simpa using k2
    obtain rfl : c6 = .int .i64 a6 := by simpa [intCells] using h6
    obtain rfl : c7 = .int .i64 a7 := by simpa [intCells] using h7
    exact ⟨⟨a0, a1, a2, a3, a4, a5, a6, a7, sa, sn, sc, sl⟩, rfl, ⟨hs1, hs2⟩⟩
end
theorem flat_drop {α : Type} {cells : α → List Value} {s : Nat} (hs : ∀ x, (cells x).length = s) (l : List α) (k : Nat) : (l.drop k).flatMap cells = (l.flatMap cells).drop (k * s) := by
 induction l generalizing k with
 | nil => simp
 | cons x r ih =>
  cases k with
  | zero => simp
  | succ k =>
   rw [List.drop_succ_cons, List.flatMap_cons, ih, List.drop_append, hs, Nat.succ_mul, List.drop_of_length_le (l := cells x) (i := k * s + s) (by rw [hs]; omega), List.nil_append, Nat.add_sub_cancel]
theorem RA.tail {α : Type} {cells : α → List Value} {s : Nat} (hs : ∀ x, (cells x).length = s) {w : World} {B n c : Nat} {A : Option Addr} {l : List α} (h : RA cells s w B A n c l) (k : Nat) (hk : k ≤ n) : RA cells s w B (if c = k then A else A.map (·.add (k * s))) (n - k) (c - k) (l.drop k) := by
 have hc := h.cap
 have hm := h.capM
 have hl := h.le
 refine ⟨?_, by rw [List.length_drop, h.len], by omega, by omega, by omega⟩
 rw [flat_drop hs]
 exact h.rd.cut hk h.cap
theorem run_append_none {P : Program} (w : World) (t ty e : TypeId) (i : TypeInfo) (ht : P.underlying t = some (.slice e)) (hi : P.info? e = some i) (b : Addr) (n c : Nat) (hn : n ≤ c) (A : Option Addr) (c' : Nat) :
  (Builtin.append_ #[t, t] ty #[.slice (some b) n c, .slice A 0 c']).run P w = .ok (.slice (some b) n c) w := by
 cases A <;> simp [Builtin.append_, run_underlying ht, sizeOf, typeInfo, hi, Builtin.lenOf, Builtin.firstCells, hn, storeCells, loadCells, loadCellsFrom]
theorem run_append_none2 {P : Program} (w : World) (t ty e : TypeId) (i : TypeInfo) (ht : P.underlying t = some (.slice e)) (hi : P.info? e = some i) (A : Option Addr) (c' : Nat) :
  (Builtin.append_ #[t, t] ty #[.slice none 0 0, .slice A 0 c']).run P w = .ok (.slice none 0 0) w := by
 cases A <;> simp [Builtin.append_, run_underlying ht, sizeOf, typeInfo, hi, Builtin.lenOf, Builtin.firstCells, loadCells, loadCellsFrom]
theorem own_nil_or {w : World} {base n : Nat} {e : TypeId} {s : Nat} {A : Option Addr} {m c : Nat} {xs : List Value} (h : w.ownsRow base e s (.slice A m c) n xs) : (A = none ∧ m = 0 ∧ c = 0 ∧ n = 0) ∨ ∃ g, A = some ⟨g, 0, none⟩ ∧ base ≤ g := by
 rcases h.2 with ⟨hv, hz⟩ | ⟨g, cap, cur, hv, hbb, _⟩
 ·injection hv with e1 e2 e3
  exact .inl ⟨e1, e2, e3, hz⟩
 ·injection hv with e1 e2 e3
  exact .inr ⟨g, e1, hbb⟩
theorem info_opt9 : (Try.prog.info? 32).map (fun i => (i.zero, i.size, i.bytes)) = some (some (.agg #[.int .i64 0, .int .i64 0, .int .i64 0, .int .i64 0, .int .i64 0, .int .i64 0, .int .i64 0, .int .i64 0, .slice none 0 0]), 9, 88) := by kernel_rfl
def OwnOp (W : World) (b : Nat) (v : Value) (l : List Opt) : Prop := W.ownsRow b 32 9 v l.length (l.flatMap optCells)
theorem copy_opt {w : World} (ty : TypeId) (xs : List Opt) (b gx n c : Nat) (A : Option Addr) (B0 : Nat) (jx : Blk w gx 32 #[]) (hg : B0 ≤ gx) (hn : n ≤ 900) (hx : RA optCells 9 w b A n c xs) :
  ∃ g k w', (Builtin.append_ #[36, 36] ty #[.slice (some ⟨gx, 0, none⟩) 0 0, .slice A n c]).run Try.prog w = .ok (.slice (some ⟨g, 0, none⟩) n k) w' ∧ Ext w w' ∧ B0 ≤ g ∧ OwnOp w' B0 (.slice (some ⟨g, 0, none⟩) n k) xs := by
 obtain ⟨i0, hi0, hz0, hz1, hz2⟩ := info_parts info_opt9
 have hl := hx.len
 have hlt := jx.lt
 rcases Nat.eq_zero_or_pos n with h0 | h0
 ·subst h0
  obtain rfl : xs = [] := List.eq_nil_of_length_eq_zero hl
  exact ⟨_, _, _, run_append_none w _ _ _ i0 Try.underlying36 hi0 ⟨gx, 0, none⟩ 0 0 (Nat.le_refl _) A c, Ext.refl _, hg, rfl, .inr ⟨gx, 0, #[], rfl, hg, jx, Nat.le_refl _, by unfold maxLen; omega, rfl, rfl⟩⟩
 ·obtain ⟨b', o, rfl, hb, hc⟩ := hx.rd.2 h0
  obtain ⟨v', w', h1, h2, h3⟩ := run_append_arg_grows (P := Try.prog) (w := w) 36 ty 32 i0 _ 9 88 Try.underlying36 hi0 hz0 hz1 hz2 rfl (by omega) ⟨gx, 0, none⟩ 0 0 [] rfl (fun j u hu => by simp at hu) ⟨b', o, none⟩ n c _ hx.rd.1 (fun j u hu => by rw [Addr.add_lit]; exact hc j u hu) (by omega) (by unfold maxLen; omega) (by omega)
  rw [Nat.zero_add, List.nil_append] at h2
  have h4 := own_base h2 (by omega : B0 ≤ w.heap.size)
  obtain ⟨A', k, hv, _, _⟩ := own_slice h4
  subst hv
  rcases own_nil_or h4 with ⟨_, h5, _⟩ | ⟨g, rfl, h5⟩
  ·omega
  ·refine ⟨g, k, w', h1, ⟨h3.os, h3.tape, h3.output, h3.size, fun k hk => h3.block k hk (by simp)⟩, h5, ?_⟩
   unfold OwnOp
   rw [hl]
   exact h4
theorem OwnOp.ra {w : World} {b n c : Nat} {A : Option Addr} {l : List Opt} (h : OwnOp w b (.slice A n c) l) (hn : l.length ≤ 100000) : RA optCells 9 w w.heap.size A n c l := by
 obtain ⟨_, _, hv, _, _⟩ := own_slice h
 injection hv with _ e _
 subst e
 exact RA.of_own h rfl hn
theorem RA.of_own2 {α : Type} {cells : α → List Value} {s : Nat} {w : World} {base n c : Nat} {A : Option Addr} {e : TypeId} {l : List α} (h : w.ownsRow base e s (.slice A n c) n (l.flatMap cells)) (hl : l.length = n) : RA cells s w w.heap.size A n c l := by
 obtain ⟨A', c', hv, h1, h2⟩ := own_slice h
 injection hv with e1 e2 e3
 subst e1 e3
 exact ⟨Reads.of_own h, hl, h1, h2, by unfold maxLen at h2; omega⟩
theorem own_opt_set {w : World} {b n c g : Nat} {l : List Opt} (h : OwnOp w b (.slice (some ⟨g, 0, none⟩) n c) l) (i : Nat) (hi : i < l.length) (x : Opt) :
  OwnOp (w.setCells g (i * 9) (optCells x)) b (.slice (some ⟨g, 0, none⟩) n c) (l.set i x) ∧ w.there g (i * 9) 9 ∧ w.grownBy (w.setCells g (i * 9) (optCells x)) (some g) := by
 obtain ⟨_, _, hv, _, _⟩ := own_slice h
 injection hv with _ e _
 subst e
 have hs : RowS optCells 9 b 32 g l.length c w l := ⟨rfl, h⟩
 obtain ⟨h1, h2⟩ := hs.store opt_len hi x
 refine ⟨?_, hs.there opt_len hi, h2⟩
 unfold OwnOp
 rw [List.length_set]
 exact h1.2
theorem own_mid {w w' : World} {b B : Nat} {e : TypeId} {s n : Nat} {v : Value} {xs : List Value} (h : w.ownsRow b e s v n xs) (hq : ∀ q, v.ownBlock = some q → q < B) (hm : ∀ k, b ≤ k → k < B → w'.heap[k]? = w.heap[k]?) : w'.ownsRow b e s v n xs := by
 refine ⟨h.1, ?_⟩
 rcases h.2 with h0 | ⟨g, cap, cur, hv, hb, hg, r⟩
 ·exact .inl h0
 ·exact .inr ⟨g, cap, cur, hv, hb, (hm g hb (hq g (by rw [hv]; rfl))).trans hg, r⟩
structure MadeO (w : World) (b B : Nat) (c : Cas) (OA PA SA : Option Addr) (oc pc sc : Nat) (os : List Opt) : Prop where
 ho : w.ownsRow b 32 9 (.slice OA (casO c).length oc) (casO c).length (os.flatMap optCells)
 hoB : ∀ q, (Value.slice OA (casO c).length oc).ownBlock = some q → q < B
 hl : os.length = (casO c).length
 each : ∀ o ∈ os, o.n = o.l.length ∧ OwnS w b (.slice o.a o.n o.c) o.l ∧ ∀ q, (Value.slice o.a o.n o.c).ownBlock = some q → q < B
 op : os.map Opt.p = casO c
 ps : w.ownsRow b 98 6 (.slice PA (casP c).length pc) (casP c).length ((casP c).flatMap pasCells)
 psB : ∀ q, (Value.slice PA (casP c).length pc).ownBlock = some q → q < B
 st : w.ownsRow b 122 6 (.slice SA 3 sc) 3 ((casS c).flatMap stnCells)
 stB : ∀ q, (Value.slice SA 3 sc).ownBlock = some q → q < B
theorem made_own {c : Cas} {w w' : World} {e : Ending} (h : MadeRet c w e w') : ∃ OA PA SA oc pc sc os, e = .returned (.tuple #[.slice OA (casO c).length oc, .slice PA (casP c).length pc, .slice SA 3 sc]) ∧ MadeO w' w.heap.size w'.heap.size c OA PA SA oc pc sc os ∧ Ext w w' := by
 obtain ⟨v, vp, vs, os, he, h1, h2, h3, h4, hx⟩ := h
 obtain ⟨OA, oc, hv, _, _⟩ := own_slice h1.1
 obtain ⟨PA, pc, hvp, _, _⟩ := own_slice h3
 obtain ⟨SA, sc, hvs, _, _⟩ := own_slice h4
 have hl : os.length = (casO c).length := by rw [← h2, List.length_map]
 subst hv hvp hvs
 have h1a := h1.1
 rw [hl] at he h1a
 exact ⟨OA, PA, SA, oc, pc, sc, os, he, ⟨h1a, fun q e => (World.ownsRow.lt h1a q e).2, hl, fun o ho => ⟨(h1.2 o ho).1, (h1.2 o ho).2, fun q e => (World.ownsRow.lt (h1.2 o ho).2 q e).2⟩, h2, h3, fun q e => (World.ownsRow.lt h3 q e).2, h4, fun q e => (World.ownsRow.lt h4 q e).2⟩, hx⟩
theorem MadeO.mid {w w' : World} {b B : Nat} {c : Cas} {OA PA SA : Option Addr} {oc pc sc : Nat} {os : List Opt} (h : MadeO w b B c OA PA SA oc pc sc os) (hm : ∀ k, b ≤ k → k < B → w'.heap[k]? = w.heap[k]?) : MadeO w' b B c OA PA SA oc pc sc os :=
 ⟨own_mid h.ho h.hoB hm, h.hoB, h.hl, fun o ho => ⟨(h.each o ho).1, own_mid (h.each o ho).2.1 (h.each o ho).2.2 hm, (h.each o ho).2.2⟩, h.op, own_mid h.ps h.psB hm, h.psB, own_mid h.st h.stB hm, h.stB⟩
theorem MadeO.r {w : World} {b B : Nat} {c : Cas} {OA PA SA : Option Addr} {oc pc sc : Nat} {os : List Opt} (h : MadeO w b B c OA PA SA oc pc sc os) : MadeR w c OA PA SA oc pc sc os :=
 ⟨⟨RA.of_own2 h.ho h.hl, fun o ho => by
  obtain ⟨h1, h2, _⟩ := h.each o ho
  have h3 : w.ownsRow b 78 3 (.slice o.a o.n o.c) o.n (o.l.flatMap sltCells) := by rw [h1] at h2 ⊢; exact h2
  exact RA.of_own2 h3 h1.symm⟩, h.op, RA.of_own2 h.ps rfl, RA.of_own2 h.st rfl⟩
theorem opt_ones (x : Opt) : ∀ v ∈ optCells x, v.oneCell' = true := by
 intro v hv
 simp [optCells] at hv
 rcases hv with rfl | rfl | rfl | rfl | rfl | rfl | rfl | rfl | rfl <;> rfl
theorem same_rcp_true (A1 A2 : Option Addr) (n1 n2 c1 c2 : Nat) (xs : List Rcp) (w : World) (h1 : RA rcpCells 3 w w.heap.size A1 n1 c1 xs) (h2 : RA rcpCells 3 w w.heap.size A2 n2 c2 xs) :
  Calls Try.prog 28 #[.slice A1 n1 c1, .slice A2 n2 c2] w fun e w' => e = .returned (.bool true) ∧ Ext w w' := by
 have h := same_rcp A1 A2 n1 n2 c1 c2 xs xs w h1 h2
 rw [decide_eq_true rfl] at h
 exact h
theorem same_nte_true (A1 A2 : Option Addr) (n1 n2 c1 c2 : Nat) (xs : List Nte) (w : World) (h1 : RA nteCells 3 w w.heap.size A1 n1 c1 xs) (h2 : RA nteCells 3 w w.heap.size A2 n2 c2 xs) :
  Calls Try.prog 29 #[.slice A1 n1 c1, .slice A2 n2 c2] w fun e w' => e = .returned (.bool true) ∧ Ext w w' := by
 have h := same_nte A1 A2 n1 n2 c1 c2 xs xs w h1 h2
 rw [decide_eq_true rfl] at h
 exact h
theorem WrtRet.out {X : (List Rcp × List Nte) × Int} {w w' : World} {e : Ending} (h : WrtRet X w e w') : ∃ RA_ rc NA nc, e = .returned (.tuple #[.slice RA_ X.1.1.length rc, .slice NA X.1.2.length nc, .int .i64 X.2]) ∧ RA rcpCells 3 w' w'.heap.size RA_ X.1.1.length rc X.1.1 ∧ RA nteCells 3 w' w'.heap.size NA X.1.2.length nc X.1.2 ∧ Ext w w' := by
 obtain ⟨v, vn, he, h1, h2, hx⟩ := h
 obtain ⟨A1, c1, hv1, _, _⟩ := own_slice h1
 obtain ⟨A2, c2, hv2, _, _⟩ := own_slice h2
 subst hv1 hv2
 exact ⟨A1, c1, A2, c2, he, RA.of_own2 h1 rfl, RA.of_own2 h2 rfl, hx⟩
end Go.Proofs.Ytmlabgmigakcbaa
namespace Go.Proofs.Ytmlabgmigakcbaa
open Go.RowKit
theorem bit_pow (a j : Nat) : (2 ^ a).testBit j = decide (a = j) := by
 rw [Nat.testBit_two_pow]
theorem clr_tb {S i : Nat} (h : i < 6) (j : Nat) (hj : j < 6) : (clrB S i).testBit j = (S.testBit j && decide (j ≠ i)) := by
 unfold clrB
 rw [Nat.testBit_and]
 congr 1
 have h1 : i = 0 ∨ i = 1 ∨ i = 2 ∨ i = 3 ∨ i = 4 ∨ i = 5 := by omega
 have h2 : j = 0 ∨ j = 1 ∨ j = 2 ∨ j = 3 ∨ j = 4 ∨ j = 5 := by omega
 rcases h1 with rfl | rfl | rfl | rfl | rfl | rfl <;> rcases h2 with rfl | rfl | rfl | rfl | rfl | rfl <;> rfl
theorem mem_setL {S k : Nat} : k ∈ setL S ↔ k < 6 ∧ S.testBit k = true := by simp [setL]
theorem fitsA_bit (q : Slt → Bool) : ∀ (l : List Slt) (acc i j : Nat), (fitsA q acc i l).testBit j = (acc.testBit j || (decide (i ≤ j) && match l[j - i]? with | some s => q s | none => false))
 | [], acc, i, j => by rw [fitsA]; simp
 | s :: r, acc, i, j => by
  rw [fitsA_cons, fitsA_bit q r]
  rcases Nat.lt_trichotomy i j with h | h | h
  ·have e1 : j - i = (j - (i + 1)) + 1 := by omega
   have e2 : (s :: r)[j - i]? = r[j - (i + 1)]? := by rw [e1]; rfl
   rw [e2]
   have e3 : (if q s then acc ||| 2 ^ i else acc).testBit j = acc.testBit j := by
    split
    ·rw [Nat.testBit_or, bit_pow, decide_eq_false (by omega)]; simp
    ·rfl
   rw [e3, decide_eq_true (by omega), decide_eq_true (by omega)]
  ·subst h
   have e2 : (s :: r)[i - i]? = some s := by rw [Nat.sub_self]; rfl
   rw [e2, decide_eq_false (by omega), decide_eq_true (Nat.le_refl _)]
   simp only [Bool.false_and, Bool.or_false, Bool.true_and]
   cases q s
   ·simp
   ·rw [if_pos rfl, Nat.testBit_or, bit_pow]; simp
  ·rw [decide_eq_false (by omega), decide_eq_false (by omega)]
   have e3 : (if q s then acc ||| 2 ^ i else acc).testBit j = acc.testBit j := by
    split
    ·rw [Nat.testBit_or, bit_pow, decide_eq_false (by omega)]; simp
    ·rfl
   rw [e3]
   simp
theorem fits_bit (ps : List Pas) (f : Int → Option Int) (now id : Int) (l : List Slt) (r : Rcp) (hr : r.im = id) (j : Nat) : (fitsP ps f now id l r).testBit j = (match l[j]? with | some s => fitB ps f now r s | none => false) := by
 unfold fitsP
 rw [if_pos hr, fitsA_bit]
 simp
theorem natc_len (x : Nat) : (natCells x).length = 1 := rfl
theorem hasI_nat (ys : List Nat) (x : Nat) : hasI (ys.map (fun k : Nat => (k : Int))) (x : Int) = decide (x ∈ ys) := by
 rw [Bool.eq_iff_iff, decide_eq_true_eq]
 unfold hasI
 rw [List.any_eq_true]
 constructor
 ·rintro ⟨y, hy, h⟩
  obtain ⟨k, hk, rfl⟩ := List.mem_map.1 hy
  have : x = k := by have h2 : (x : Int) = (k : Int) := of_decide_eq_true h; omega
  rw [this]; exact hk
 ·intro h
  exact ⟨(x : Int), List.mem_map.2 ⟨x, h, rfl⟩, by simp⟩
theorem setL_and (a b : Nat) : (setL a).filter (fun x => decide (x ∈ setL b)) = setL (a &&& b) := by
 unfold setL
 rw [List.filter_filter]
 refine List.filter_congr fun k hk => ?_
 rw [Nat.testBit_and, Bool.and_comm]
 congr 1
 rw [Bool.eq_iff_iff, decide_eq_true_eq, List.mem_filter]
 exact ⟨fun h => h.2, fun h => ⟨hk, h⟩⟩
theorem setL_clr (a i : Nat) (hi : i < 6) : (setL a).filter (fun x : Nat => decide ((x : Int) ≠ (i : Int))) = setL (clrB a i) := by
 unfold setL
 rw [List.filter_filter]
 refine List.filter_congr fun k hk => ?_
 have h6 : k < 6 := by simpa using hk
 rw [clr_tb hi k h6, Bool.and_comm]
 congr 1
 rw [decide_eq_decide]
 omega
theorem setL_upto {S n : Nat} (h : LB n S) (hn : n ≤ 6) : (List.range n).filter (fun i => S.testBit i) = setL S := by
 unfold setL
 obtain ⟨d, hd⟩ : ∃ d, 6 = n + d := ⟨6 - n, by omega⟩
 rw [hd, List.range_add, List.filter_append]
 have : ((List.range d).map (n + ·)).filter (fun i => S.testBit i) = [] := by
  rw [List.filter_eq_nil_iff]
  intro x hx
  obtain ⟨k, _, rfl⟩ := List.mem_map.1 hx
  rw [Nat.testBit_lt_two_pow (Nat.lt_of_lt_of_le h.2 (Nat.pow_le_pow_right (by omega) (by omega)))]
  simp
 rw [this, List.append_nil]
def RowRet (l : List Nat) (w : World) (e : Ending) (w' : World) : Prop := ∃ A c, e = .returned (.slice A l.length c) ∧ OwnN w' w.heap.size (.slice A l.length c) l ∧ Ext w w'
set_option maxRecDepth 100000 in
set_option maxHeartbeats 4000000 in
theorem rboth_any (xs ys : List Nat) (XA YA : Option Addr) (n c yn yc : Nat) (w : World) (h1 : RA natCells 1 w w.heap.size XA n c xs) (h2 : RA natCells 1 w w.heap.size YA yn yc ys) (hn : n ≤ 60) :
  Calls Try.prog 82 #[.slice XA n c, .slice YA yn yc] w (RowRet (xs.filter (fun x => decide (x ∈ ys))) w) := by
 have HX := Lib.hid h1
 have HHAS := Lib.hid (fun (x : Nat) (W : World) (hW : Ext w W) => by
  have h := has_any (ys.map (fun k : Nat => (k : Int))) (x : Int) YA yn yc W (ra_ext h2 hW).nat
  rw [hasI_nat] at h
  exact h)
 obtain ⟨fin, hfin⟩ : ∃ z, z = xs.filter (fun x => decide (x ∈ ys)) := ⟨_, rfl⟩
 rw [← hfin]
 have HF0 : Hid (fin = [] ++ (xs.drop 0).filter (fun x => decide (x ∈ ys))) := Lib.hid hfin
 clear hfin h1 h2
 go_enter Try.func82, Try.ntmps82
 go_wp2
 go_loopw [5, 6] (fun x y wr => ∃ (k : Nat) (out : List Nat), k ≤ n ∧ y = .int .i64 k ∧ Hid (fin = out ++ (xs.drop k).filter (fun x => decide (x ∈ ys))) ∧ Hid (OwnN wr w.heap.size x out) ∧ out.length ≤ k ∧ Ext w wr) (fun _ y _ => n - (intOf y).toNat)
 case atStart => exact ⟨0, [], Nat.zero_le _, rfl, HF0, Lib.hid (World.ownsRow_nil _ _ _ _), Nat.zero_le _, Ext.refl _⟩
 case round =>
  clear HF0
  obtain ⟨k, out, hk, rfl, HF, HO, hol, hx⟩ := hrel
  obtain ⟨A3, c3, hv3, _, _⟩ := own_slice HO.out
  subst hv3
  by_cases hkn : k < n
  ·obtain ⟨b, ob, hz, hA, _, hc⟩ := (HX.out.below hx).at_ natc_len hkn
   have hst := HF.out
   rw [List.drop_eq_getElem_cons hz, List.filter_cons] at hst
   have c0 : wr.cell? ⟨b, ob + k, none⟩ = some (.int .i64 (xs[k] : Nat)) := by have := hc 0 (by omega); rw [Nat.mul_one] at this; exact this
   have hH := HHAS.out xs[k] wr hx
   generalize xs[k] = y at hst c0 hH
   generalize decide (y ∈ ys) = q at hst hH
   have HST := Lib.hid hst
   have HH := Lib.hid hH
   have HKN := Lib.hid hkn
   subst hA
   have hkz : (k : Int) < (n : Int) := by omega
   clear hc hz hst hH HF
   cases q
   ·have HN2 : Hid (fin = out ++ (xs.drop (k + 1)).filter (fun x => decide (x ∈ ys))) := Lib.hid (by rw [HST.out]; rfl)
    clear HST
    go_wp2_with (refine HH.out.mono ?_; rintro e w2 ⟨rfl, rfl⟩)
    go_roundw
    case rel => exact ⟨k + 1, out, HKN.out, by go_num, HN2, HO, by omega, hx⟩
    case measure => have := HKN.out; simp [intOf]; omega
   ·have hxa : Ext wr (wr.alloc (.cells #[.int .i64 (y : Int)] 3)) := bl_alloc (Below.refl _ _) _
    have hxw := Ext.trans hx hxa
    obtain ⟨v7, W7, hrun, hg7, ho7⟩ := snoc_nat 25 out (.slice A3 out.length c3) y w.heap.size wr.heap.size (Blk.new _ _ _) (HO.out.ext hxa) (by omega) (Below.size hxw)
    have HX7 : Hid (Ext w W7) := Lib.hid (hxw.grown hg7 (Below.size hxw) (fun q e => (World.ownsRow.lt HO.out q e).1))
    have HO7 := Lib.hid ho7
    have HRUN := Lib.hid hrun
    have HN2 : Hid (fin = (out ++ [y]) ++ (xs.drop (k + 1)).filter (fun x => decide (x ∈ ys))) := Lib.hid (by rw [HST.out]; simp)
    clear hrun hg7 ho7 hxa hxw HST
    go_wp2_with (first | ((with_reducible refine HH.out.mono ?_); rintro e w2 ⟨rfl, rfl⟩) | refine wpList_append_run_ rfl _ _ _ rfl rfl rfl HRUN.out ?_)
    go_roundw
    case rel => exact ⟨k + 1, _, HKN.out, by go_num, HN2, HO7, by simp; omega, HX7.out⟩
    case measure => have := HKN.out; simp [intOf]; omega
  ·have hff : fin = out := by rw [HF.out, List.drop_of_length_le (by rw [HX.out.len]; omega)]; simp
   have HFF := Lib.hid hff
   clear hff HF
   go_wp2
   go_ret
   exact ⟨A3, c3, by rw [HFF.out]; rfl, by rw [HFF.out]; exact HO.out, hx⟩
set_option maxRecDepth 100000 in
set_option maxHeartbeats 4000000 in
theorem rwithout_any (xs : List Nat) (z : Int) (XA : Option Addr) (n c : Nat) (w : World) (h1 : RA natCells 1 w w.heap.size XA n c xs) (hn : n ≤ 60) :
  Calls Try.prog 83 #[.slice XA n c, .int .i64 z] w (RowRet (xs.filter (fun x : Nat => decide ((x : Int) ≠ z))) w) := by
 have HX := Lib.hid h1
 obtain ⟨fin, hfin⟩ : ∃ r, r = xs.filter (fun x : Nat => decide ((x : Int) ≠ z)) := ⟨_, rfl⟩
 rw [← hfin]
 have HF0 : Hid (fin = [] ++ (xs.drop 0).filter (fun x : Nat => decide ((x : Int) ≠ z))) := Lib.hid hfin
 clear hfin h1
 go_enter Try.func83, Try.ntmps83
 go_wp2
 go_loopw [5, 6] (fun x y wr => ∃ (k : Nat) (out : List Nat), k ≤ n ∧ y = .int .i64 k ∧ Hid (fin = out ++ (xs.drop k).filter (fun x : Nat => decide ((x : Int) ≠ z))) ∧ Hid (OwnN wr w.heap.size x out) ∧ out.length ≤ k ∧ Ext w wr) (fun _ y _ => n - (intOf y).toNat)
 case atStart => exact ⟨0, [], Nat.zero_le _, rfl, HF0, Lib.hid (World.ownsRow_nil _ _ _ _), Nat.zero_le _, Ext.refl _⟩
 case round =>
  clear HF0
  obtain ⟨k, out, hk, rfl, HF, HO, hol, hx⟩ := hrel
  obtain ⟨A3, c3, hv3, _, _⟩ := own_slice HO.out
  subst hv3
  by_cases hkn : k < n
  ·obtain ⟨b, ob, hz, hA, _, hc⟩ := (HX.out.below hx).at_ natc_len hkn
   have hst := HF.out
   rw [List.drop_eq_getElem_cons hz, List.filter_cons] at hst
   have c0 : wr.cell? ⟨b, ob + k, none⟩ = some (.int .i64 (xs[k] : Nat)) := by have := hc 0 (by omega); rw [Nat.mul_one] at this; exact this
   generalize xs[k] = y at hst c0
   have HST := Lib.hid hst
   have HKN := Lib.hid hkn
   subst hA
   have hkz : (k : Int) < (n : Int) := by omega
   clear hc hz hst HF
   by_cases hyz : (y : Int) = z
   ·have hy1 : ((y : Int) == z) = true := by simpa using hyz
    have hy2 : ((y : Int) != z) = false := by simpa using hyz
    have HN2 : Hid (fin = out ++ (xs.drop (k + 1)).filter (fun x : Nat => decide ((x : Int) ≠ z))) := Lib.hid (by rw [HST.out, if_neg (by simpa using hyz)])
    clear HST hyz
    go_wp2
    go_roundw
    case rel => exact ⟨k + 1, out, HKN.out, by go_num, HN2, HO, by omega, hx⟩
    case measure => have := HKN.out; simp [intOf]; omega
   ·have hy1 : ((y : Int) == z) = false := by simpa using hyz
    have hy2 : ((y : Int) != z) = true := by simpa using hyz
    have hst := HST.out
    rw [if_pos (by simpa using hyz)] at hst
    have HST := Lib.hid hst
    have HH : Hid True := Lib.hid trivial
    clear hst
    have hxa : Ext wr (wr.alloc (.cells #[.int .i64 (y : Int)] 3)) := bl_alloc (Below.refl _ _) _
    have hxw := Ext.trans hx hxa
    obtain ⟨v7, W7, hrun, hg7, ho7⟩ := snoc_nat 25 out (.slice A3 out.length c3) y w.heap.size wr.heap.size (Blk.new _ _ _) (HO.out.ext hxa) (by omega) (Below.size hxw)
    have HX7 : Hid (Ext w W7) := Lib.hid (hxw.grown hg7 (Below.size hxw) (fun q e => (World.ownsRow.lt HO.out q e).1))
    have HO7 := Lib.hid ho7
    have HRUN := Lib.hid hrun
    have HN2 : Hid (fin = (out ++ [y]) ++ (xs.drop (k + 1)).filter (fun x : Nat => decide ((x : Int) ≠ z))) := Lib.hid (by rw [HST.out]; simp)
    clear hrun hg7 ho7 hxa hxw HST
    go_wp2_with (first | ((with_reducible refine HH.out.mono ?_); rintro e w2 ⟨rfl, rfl⟩) | refine wpList_append_run_ rfl _ _ _ rfl rfl rfl HRUN.out ?_)
    go_roundw
    case rel => exact ⟨k + 1, _, HKN.out, by go_num, HN2, HO7, by simp; omega, HX7.out⟩
    case measure => have := HKN.out; simp [intOf]; omega
  ·have hff : fin = out := by rw [HF.out, List.drop_of_length_le (by rw [HX.out.len]; omega)]; simp
   have HFF := Lib.hid hff
   clear hff HF
   go_wp2
   go_ret
   exact ⟨A3, c3, by rw [HFF.out]; rfl, by rw [HFF.out]; exact HO.out, hx⟩
end Go.Proofs.Ytmlabgmigakcbaa
namespace Go.Proofs.Ytmlabgmigakcbaa
open Go.RowKit
theorem listOK_lt {α : Type} (ok : α → Bool) (id : α → Int) : ∀ (l : List α) (y : α), listOK ok id (some y) l = true → ∀ s ∈ l, id y < id s
 | [], _, _ => fun s hs => by cases hs
 | x :: r, y, h => fun s hs => by
  have h' : (ok x && decide (id y < id x) && listOK ok id (some x) r) = true := h
  simp only [Bool.and_eq_true, decide_eq_true_eq] at h'
  rcases List.mem_cons.1 hs with rfl | hs
  ·exact h'.1.2
  ·exact Int.lt_trans h'.1.2 (listOK_lt ok id r x h'.2 s hs)
theorem listOK_ids {α : Type} (ok : α → Bool) (id : α → Int) : ∀ (l : List α) (p : Option α), listOK ok id p l = true → l.Pairwise (fun a b => id a ≠ id b)
 | [], _, _ => List.Pairwise.nil
 | x :: r, p, h => by
  have h' : listOK ok id (some x) r = true := by
   cases p with
   | none => have h2 : (ok x && true && listOK ok id (some x) r) = true := h; simp only [Bool.and_eq_true] at h2; exact h2.2
   | some y => have h2 : (ok x && decide (id y < id x) && listOK ok id (some x) r) = true := h; simp only [Bool.and_eq_true] at h2; exact h2.2
  refine List.Pairwise.cons (fun s hs => ?_) (listOK_ids ok id r (some x) h')
  have := listOK_lt ok id r x h' s hs
  omega
theorem skewL_out (x : Int) : ∀ (l : List Stn) (f : Int → Option Int), (∀ s ∈ l, s.id ≠ x) → skewL f l x = f x
 | [], f, _ => rfl
 | s :: r, f, h => by
  rw [skewL_cons, skewL_out x r _ (fun t ht => h t (List.mem_cons_of_mem _ ht))]
  rw [if_neg (fun e => h s List.mem_cons_self e.symm)]
theorem skewL_at (x : Int) : ∀ (l : List Stn) (f : Int → Option Int) (k : Nat) (hk : k < l.length), l.Pairwise (fun a b => a.id ≠ b.id) → l[k].id = x → skewL f l x = some l[k].skew
 | s :: r, f, 0, hk, hp, he => by
  obtain ⟨h1, _⟩ := List.pairwise_cons.1 hp
  rw [List.getElem_cons_zero] at he ⊢
  rw [skewL_cons, skewL_out x r _ (fun t ht e => h1 t ht (he.trans e.symm))]
  rw [if_pos he.symm]
 | s :: r, f, k + 1, hk, hp, he => by
  obtain ⟨_, h2⟩ := List.pairwise_cons.1 hp
  rw [List.getElem_cons_succ] at he ⊢
  rw [skewL_cons]
  exact skewL_at x r _ k (by simpa using hk) h2 he
theorem skew_at {sts : List Stn} (h : stnsOK sts = true) {k : Nat} (hk : k < sts.length) {x : Int} (he : sts[k].id = x) : (skewF sts x).getD 0 = sts[k].skew := by
 unfold stnsOK at h
 rw [Bool.and_eq_true] at h
 have := skewL_at x sts (fun _ => none) k hk (listOK_ids _ _ sts none h.2) he
 rw [show skewF sts x = skewL (fun _ => none) sts x from rfl, this]
 rfl
theorem fits_tb (ps : List Pas) (f : Int → Option Int) (now id : Int) (l : List Slt) (r : Rcp) (j : Nat) (hj : j < l.length) : (fitsP ps f now id l r).testBit j = (decide (r.im = id) && fitB ps f now r l[j]) := by
 by_cases h : r.im = id
 ·rw [fits_bit ps f now id l r h, decide_eq_true h, List.getElem?_eq_getElem hj, Bool.true_and]
 ·rw [decide_eq_false h, Bool.false_and, fitsP, if_neg h, Nat.zero_testBit]
set_option maxRecDepth 100000 in
set_option maxHeartbeats 8000000 in
theorem rfits_any (os : List Opt) (o : Opt) (ps : List Pas) (sts : List Stn) (r : Rcp) (now : Int) (PA SA : Option Addr) (pn pc sn sc : Nat) (w : World) (ho : RA sltCells 3 w w.heap.size o.a o.n o.c o.l) (hp : RA pasCells 6 w w.heap.size PA pn pc ps) (hs : RA stnCells 6 w w.heap.size SA sn sc sts) (hV : VOK os ps sts) (hm : o ∈ os) :
  Calls Try.prog 52 #[.agg (optCells o).toArray, .slice PA pn pc, .slice SA sn sc, .agg (rcpCells r).toArray, .int .i64 now] w (RowRet (setL (fitsP ps (skewF sts) now o.id o.l r)) w) := by
 have hslk := hV.sl hm
 have hLB : LB o.n (fitsP ps (skewF sts) now o.id o.l r) := fitsP_lb hslk ho.len
 have hTB := fun (j : Nat) (hj : j < o.l.length) => fits_tb ps (skewF sts) now o.id o.l r j hj
 have h6 : o.n ≤ 6 := by rw [← ho.len]; exact hslk.len
 have hfin := setL_upto hLB h6
 obtain ⟨S, hS⟩ : ∃ S, S = fitsP ps (skewF sts) now o.id o.l r := ⟨_, rfl⟩
 rw [← hS] at hTB hfin ⊢
 rw [← hfin]
 clear hS hLB hfin
 obtain ⟨id, i1, i2, i3, i4, i5, i6, i7, a, m, d, l⟩ := o
 obtain ⟨rsn, rim, rat⟩ := r
 dsimp only at ho hslk hTB h6 ⊢
 have HV := Lib.hid hV
 have HSLK := Lib.hid hslk
 have HTB0 := Lib.hid hTB
 have HRS := Lib.hid (fun (x : Int) (W : World) (hW : Ext w W) => rstation_any x sts SA sn sc W (ra_ext hs hW))
 have HO0 := Lib.hid ho
 have HP := Lib.hid hp
 have HS := Lib.hid hs
 show Calls Try.prog 52 #[.agg #[.int .i64 id, .int .i64 i1, .int .i64 i2, .int .i64 i3, .int .i64 i4, .int .i64 i5, .int .i64 i6, .int .i64 i7, .slice a m d], .slice PA pn pc, .slice SA sn sc, .agg #[.int .i64 rsn, .int .i64 rim, .int .i64 rat], .int .i64 now] w _
 clear hV hm hslk hTB ho hp hs
 go_enter Try.func52, Try.ntmps52
 go_upto_region 1 with (fail)
 obtain ⟨W1, hW1⟩ : ∃ W, W = (w.alloc (.cells #[.int .i64 id, .int .i64 i1, .int .i64 i2, .int .i64 i3, .int .i64 i4, .int .i64 i5, .int .i64 i6, .int .i64 i7, .slice a m d] 32)).alloc (.cells #[.int .i64 rsn, .int .i64 rim, .int .i64 rat] 63) := ⟨_, rfl⟩
 rw [← hW1]
 obtain ⟨J5, J8, hx1⟩ := al2 w W1 _ _ _ _ hW1
 clear hW1
 generalize w.heap.size + 1 = g8 at J8 ⊢
 generalize w.heap.size = g5 at J5 ⊢
 have e7 : W1.cell? ⟨g5, 7 + 1, none⟩ = some (.slice a m d) := J5.cell 8
 have HJ5 := Lib.hid J5
 have HJ8 := Lib.hid J8
 have HX1 := Lib.hid hx1
 clear J5 J8 hx1
 go_wp2_with fail
 go_loopw [11, 12] (fun x y wr => ∃ (k : Nat) (out : List Nat), k ≤ m ∧ y = .int .i64 k ∧ Hid ((List.range k).filter (fun i => S.testBit i) = out) ∧ Hid (OwnN wr W1.heap.size x out) ∧ out.length ≤ k ∧ Ext W1 wr) (fun _ y _ => m - (intOf y).toNat)
 case atStart => exact ⟨0, [], Nat.zero_le _, rfl, Lib.hid rfl, Lib.hid (World.ownsRow_nil _ _ _ _), Nat.zero_le _, Ext.refl _⟩
 case round =>
  clear e7
  obtain ⟨k, out, hk, rfl, HF, HO, hol, hx⟩ := hrel
  obtain ⟨A3, c3, hv3, _, _⟩ := own_slice HO.out
  subst hv3
  have e7 : wr.cell? ⟨g5, 7 + 1, none⟩ = some (.slice a m d) := (HJ5.out.ext hx).cell 8
  by_cases hkn : k < m
  ·obtain ⟨b, ob, hz, hA, _, hc⟩ := (ra_ext (ra_ext HO0.out HX1.out) hx).at_ slt_len hkn
   have htb := HTB0.out k hz
   have hbp := HSLK.out.pass l[k] (List.getElem_mem hz)
   have hbt := HSLK.out.bd l[k] (List.getElem_mem hz)
   generalize l[k] = s at hc htb hbp hbt
   obtain ⟨sp, sf, st⟩ := s
   dsimp only at hbp hbt
   obtain ⟨spn, rfl⟩ : ∃ q : Nat, sp = q := ⟨sp.toNat, by omega⟩
   have hspl : spn < ps.length := by omega
   have hspn : spn < pn := by rw [← HP.out.len]; omega
   have hsta := HV.out.sta (List.getElem_mem hspl)
   obtain ⟨ki, hki, hkv, hkid⟩ := stI_bd ps[spn].station sts 0 hsta
   rw [Nat.zero_add] at hkv
   have hkin : ki < sn := by rw [← HS.out.len]; exact hki
   have hsk := skew_at HV.out.stns hki hkid
   have hskb := stn_skew HV.out.stns sts[ki] (List.getElem_mem hki)
   have hfb : fitB ps (skewF sts) now ⟨rsn, rim, rat⟩ ⟨(spn : Int), sf, st⟩ = (decide (st ≤ now) && decide (rsn = ps[spn].station) && decide (st - sts[ki].skew ≤ rat) && decide (rat ≤ st + sts[ki].skew)) := by
    unfold fitB
    dsimp only
    rw [Int.toNat_natCast, List.getElem?_eq_getElem hspl]
    dsimp only
    rw [hsk]
   rw [hfb] at htb
   obtain ⟨bp, op, hzp, hPA, _, hcp⟩ := (ra_ext (ra_ext HP.out HX1.out) hx).at_ pas_len hspn
   obtain ⟨bs, os_, hzs, hSA, _, hcs⟩ := (ra_ext (ra_ext HS.out HX1.out) hx).at_ stn_len hkin
   have p1 : wr.cell? ⟨bp, op + spn * 6 + 1, none⟩ = some (.int .i64 ps[spn].station) := hcp 1 (by omega)
   have s5 : wr.cell? ⟨bs, os_ + ki * 6 + 5, none⟩ = some (.int .i64 sts[ki].skew) := hcs 5 (by omega)
   generalize sts[ki].skew = sk at htb hskb s5
   generalize ps[spn].station = sx at htb p1 hkv hkid hsk hsta
   have HKV := Lib.hid hkv
   have HTB := Lib.hid htb
   have HKN := Lib.hid hkn
   have q0 : wr.cell? ⟨b, ob + k * 3, none⟩ = some (.int .i64 spn) := hc 0 (by omega)
   have q1 : wr.cell? ⟨b, ob + k * 3 + 1, none⟩ = some (.int .i64 sf) := hc 1 (by omega)
   have q2 : wr.cell? ⟨b, ob + k * 3 + 2, none⟩ = some (.int .i64 st) := hc 2 (by omega)
   have hkz : (k : Int) < (m : Int) := by omega
   have hspz : (spn : Int) < (pn : Int) := by omega
   have hkiz : (ki : Int) < (sn : Int) := by omega
   subst hA hPA hSA
   clear hc hcp hcs hz hzp hzs htb hbp hsk hfb hkv hkid hsta hspl hki
   go_upto_region 6 with (fail)
   have hya : Ext wr (wr.alloc (.cells #[.int .i64 (spn : Int), .int .i64 sf, .int .i64 st] 78)) := bl_alloc (Below.refl _ _) _
   have J := Blk.new wr 78 #[.int .i64 (spn : Int), .int .i64 sf, .int .i64 st]
   generalize wr.heap.size = g13 at J ⊢
   generalize wr.alloc (.cells #[.int .i64 (spn : Int), .int .i64 sf, .int .i64 st] 78) = W3 at hya J ⊢
   have hx3 := Ext.trans hx hya
   have HO3 := Lib.hid (HO.out.ext hya)
   have p1 := ext_cell hya p1
   have s5 := ext_cell hya s5
   have t0 : W3.cell? ⟨g13, 0, none⟩ = some (.int .i64 spn) := J.cell 0
   have t2 : W3.cell? ⟨g13, 2, none⟩ = some (.int .i64 st) := J.cell 2
   have t2' : W3.cell? ⟨g13, 1 + 1, none⟩ = some (.int .i64 st) := t2
   have r0 : W3.cell? ⟨g8, 0, none⟩ = some (.int .i64 rsn) := (HJ8.out.ext hx3).cell 0
   have r1 : W3.cell? ⟨g8, 1, none⟩ = some (.int .i64 rim) := (HJ8.out.ext hx3).cell 1
   have r2 : W3.cell? ⟨g8, 2, none⟩ = some (.int .i64 rat) := (HJ8.out.ext hx3).cell 2
   have o0 : W3.cell? ⟨g5, 0, none⟩ = some (.int .i64 id) := (HJ5.out.ext hx3).cell 0
   have hR2 := HRS.out sx W3 (Ext.trans HX1.out hx3)
   rw [HKV.out] at hR2
   have HR2 := Lib.hid hR2
   clear q0 q1 q2 e7 hya J HO
   clear hR2 HKV
   go_upto_region 7 with (refine HR2.out.mono ?_; rintro e w2 ⟨rfl, rfl⟩)
   have hw1 : IntKind.i64.wrap (st - sk) = st - sk := IntWalk.i64_in _ (by omega)
   have hw2 : IntKind.i64.wrap (st + sk) = st + sk := IntWalk.i64_in _ (by omega)
   by_cases q1 : rim = id
   case neg =>
    have b1 : (rim == id) = false := by simpa using q1
    go_quiet (fail)
    have HY : Hid (Ext W1 (W3.drewN nq)) := Lib.hid (Ext.trans hx3 (by repeat (first | exact Below.refl _ _ | assumption | refine Below.drew ?_ | refine below_drewN ?_ _ | refine bl_alloc ?_ _ | refine Below.setCell ?_ (by first | (simp; done) | omega | (simp; omega)) _ | refine bl_then ?_ (by assumption))))
    have HO4 := Lib.hid (HO3.out.ext ((by repeat (first | exact Below.refl _ _ | assumption | refine Below.drew ?_ | refine below_drewN ?_ _ | refine bl_alloc ?_ _ | refine Below.setCell ?_ (by first | (simp; done) | omega | (simp; omega)) _ | refine bl_then ?_ (by assumption))) : Ext W3 (W3.drewN nq)))
    have HN2 : Hid (Hid ((List.range (k + 1)).filter (fun i => S.testBit i) = out)) := Lib.hid (Lib.hid (by rw [List.range_succ, List.filter_append, HF.out, List.filter_cons, HTB.out, if_neg (by simp [*])]; simp))
    clear hx3
    go_wp2
    go_roundw
    case rel => exact ⟨k + 1, out, HKN.out, by go_num, HN2.out, HO4, by omega, HY.out⟩
    case measure => have := HKN.out; simp [intOf]; omega
   have b1 : (rim == id) = true := by simpa using q1
   by_cases q2 : st ≤ now
   case neg =>
    have b2 : decide (st ≤ now) = false := decide_eq_false q2
    go_quiet (fail)
    have HY : Hid (Ext W1 (W3.drewN nq)) := Lib.hid (Ext.trans hx3 (by repeat (first | exact Below.refl _ _ | assumption | refine Below.drew ?_ | refine below_drewN ?_ _ | refine bl_alloc ?_ _ | refine Below.setCell ?_ (by first | (simp; done) | omega | (simp; omega)) _ | refine bl_then ?_ (by assumption))))
    have HO4 := Lib.hid (HO3.out.ext ((by repeat (first | exact Below.refl _ _ | assumption | refine Below.drew ?_ | refine below_drewN ?_ _ | refine bl_alloc ?_ _ | refine Below.setCell ?_ (by first | (simp; done) | omega | (simp; omega)) _ | refine bl_then ?_ (by assumption))) : Ext W3 (W3.drewN nq)))
    have HN2 : Hid (Hid ((List.range (k + 1)).filter (fun i => S.testBit i) = out)) := Lib.hid (Lib.hid (by rw [List.range_succ, List.filter_append, HF.out, List.filter_cons, HTB.out, if_neg (by simp [*])]; simp))
    clear hx3
    go_wp2
    go_roundw
    case rel => exact ⟨k + 1, out, HKN.out, by go_num, HN2.out, HO4, by omega, HY.out⟩
    case measure => have := HKN.out; simp [intOf]; omega
   have b2 : decide (st ≤ now) = true := decide_eq_true q2
   by_cases q3 : rsn = sx
   case neg =>
    have b3 : (rsn == sx) = false := by simpa using q3
    go_quiet (fail)
    have HY : Hid (Ext W1 (W3.drewN nq)) := Lib.hid (Ext.trans hx3 (by repeat (first | exact Below.refl _ _ | assumption | refine Below.drew ?_ | refine below_drewN ?_ _ | refine bl_alloc ?_ _ | refine Below.setCell ?_ (by first | (simp; done) | omega | (simp; omega)) _ | refine bl_then ?_ (by assumption))))
    have HO4 := Lib.hid (HO3.out.ext ((by repeat (first | exact Below.refl _ _ | assumption | refine Below.drew ?_ | refine below_drewN ?_ _ | refine bl_alloc ?_ _ | refine Below.setCell ?_ (by first | (simp; done) | omega | (simp; omega)) _ | refine bl_then ?_ (by assumption))) : Ext W3 (W3.drewN nq)))
    have HN2 : Hid (Hid ((List.range (k + 1)).filter (fun i => S.testBit i) = out)) := Lib.hid (Lib.hid (by rw [List.range_succ, List.filter_append, HF.out, List.filter_cons, HTB.out, if_neg (by simp [*])]; simp))
    clear hx3
    go_wp2
    go_roundw
    case rel => exact ⟨k + 1, out, HKN.out, by go_num, HN2.out, HO4, by omega, HY.out⟩
    case measure => have := HKN.out; simp [intOf]; omega
   have b3 : (rsn == sx) = true := by simpa using q3
   by_cases q4 : st - sk ≤ rat
   case neg =>
    have b4 : decide (st - sk ≤ rat) = false := decide_eq_false q4
    go_quiet (fail)
    have HY : Hid (Ext W1 (W3.drewN nq)) := Lib.hid (Ext.trans hx3 (by repeat (first | exact Below.refl _ _ | assumption | refine Below.drew ?_ | refine below_drewN ?_ _ | refine bl_alloc ?_ _ | refine Below.setCell ?_ (by first | (simp; done) | omega | (simp; omega)) _ | refine bl_then ?_ (by assumption))))
    have HO4 := Lib.hid (HO3.out.ext ((by repeat (first | exact Below.refl _ _ | assumption | refine Below.drew ?_ | refine below_drewN ?_ _ | refine bl_alloc ?_ _ | refine Below.setCell ?_ (by first | (simp; done) | omega | (simp; omega)) _ | refine bl_then ?_ (by assumption))) : Ext W3 (W3.drewN nq)))
    have HN2 : Hid (Hid ((List.range (k + 1)).filter (fun i => S.testBit i) = out)) := Lib.hid (Lib.hid (by rw [List.range_succ, List.filter_append, HF.out, List.filter_cons, HTB.out, if_neg (by simp [*])]; simp))
    clear hx3
    go_wp2
    go_roundw
    case rel => exact ⟨k + 1, out, HKN.out, by go_num, HN2.out, HO4, by omega, HY.out⟩
    case measure => have := HKN.out; simp [intOf]; omega
   have b4 : decide (st - sk ≤ rat) = true := decide_eq_true q4
   by_cases q5 : rat ≤ st + sk
   case neg =>
    have b5 : decide (rat ≤ st + sk) = false := decide_eq_false q5
    go_quiet (fail)
    have HY : Hid (Ext W1 (W3.drewN nq)) := Lib.hid (Ext.trans hx3 (by repeat (first | exact Below.refl _ _ | assumption | refine Below.drew ?_ | refine below_drewN ?_ _ | refine bl_alloc ?_ _ | refine Below.setCell ?_ (by first | (simp; done) | omega | (simp; omega)) _ | refine bl_then ?_ (by assumption))))
    have HO4 := Lib.hid (HO3.out.ext ((by repeat (first | exact Below.refl _ _ | assumption | refine Below.drew ?_ | refine below_drewN ?_ _ | refine bl_alloc ?_ _ | refine Below.setCell ?_ (by first | (simp; done) | omega | (simp; omega)) _ | refine bl_then ?_ (by assumption))) : Ext W3 (W3.drewN nq)))
    have HN2 : Hid (Hid ((List.range (k + 1)).filter (fun i => S.testBit i) = out)) := Lib.hid (Lib.hid (by rw [List.range_succ, List.filter_append, HF.out, List.filter_cons, HTB.out, if_neg (by simp [*])]; simp))
    clear hx3
    go_wp2
    go_roundw
    case rel => exact ⟨k + 1, out, HKN.out, by go_num, HN2.out, HO4, by omega, HY.out⟩
    case measure => have := HKN.out; simp [intOf]; omega
   have b5 : decide (rat ≤ st + sk) = true := decide_eq_true q5
   have htt : S.testBit k = true := by rw [HTB.out, decide_eq_true q1, b2, decide_eq_true q3, b4, b5]; rfl
   go_quiet (fail)
   have hx4 : Ext W1 (W3.drewN nq) := Ext.trans hx3 (by repeat (first | exact Below.refl _ _ | assumption | refine Below.drew ?_ | refine below_drewN ?_ _ | refine bl_alloc ?_ _ | refine Below.setCell ?_ (by first | (simp; done) | omega | (simp; omega)) _ | refine bl_then ?_ (by assumption)))
   have HO4 := Lib.hid (HO3.out.ext ((by repeat (first | exact Below.refl _ _ | assumption | refine Below.drew ?_ | refine below_drewN ?_ _ | refine bl_alloc ?_ _ | refine Below.setCell ?_ (by first | (simp; done) | omega | (simp; omega)) _ | refine bl_then ?_ (by assumption))) : Ext W3 (W3.drewN nq)))
   generalize W3.drewN nq = W4 at hx4 HO4 ⊢
   have hxa : Ext W4 (W4.alloc (.cells #[.int .i64 (k : Int)] 3)) := bl_alloc (Below.refl _ _) _
   have hxw := Ext.trans hx4 hxa
   obtain ⟨v7, W7, hrun, hg7, ho7⟩ := snoc_nat 25 out (.slice A3 out.length c3) k W1.heap.size W4.heap.size (Blk.new _ _ _) (HO4.out.ext hxa) (by omega) (Below.size hxw)
   have HX7 : Hid (Ext W1 W7) := Lib.hid (hxw.grown hg7 (Below.size hxw) (fun q e => (World.ownsRow.lt HO4.out q e).1))
   have HO7 := Lib.hid ho7
   have HRUN := Lib.hid hrun
   have HN2 : Hid (Hid ((List.range (k + 1)).filter (fun i => S.testBit i) = out ++ [k])) := Lib.hid (Lib.hid (by rw [List.range_succ, List.filter_append, HF.out, List.filter_cons, if_pos htt]; rfl))
   clear hrun hg7 ho7 hxa hxw HTB htt q1 q2 q3 q4 q5 b1 b2 b3 b4 b5 hw1 hw2 t0 t2 t2' r0 r1 r2 o0 p1 s5 hx3
   go_upto_region 8 with (fail)
   go_wp2_with (refine wpList_append_run_ rfl _ _ _ rfl rfl rfl HRUN.out ?_)
   go_roundw
   case rel => exact ⟨k + 1, _, HKN.out, by go_num, HN2.out, HO7, by simp; omega, HX7.out⟩
   case measure => have := HKN.out; simp [intOf]; omega
  ·have hkm : k = m := by omega
   have HFF : Hid ((List.range m).filter (fun i => S.testBit i) = out) := Lib.hid (by rw [← hkm]; exact HF.out)
   have HXF := Lib.hid (Ext.trans HX1.out hx)
   clear hkm hx
   go_wp2
   go_ret
   exact ⟨A3, c3, by rw [HFF.out]; rfl, by rw [HFF.out]; exact own_base HO.out (Below.size HX1.out), HXF.out⟩
end Go.Proofs.Ytmlabgmigakcbaa
namespace Go.Proofs.Ytmlabgmigakcbaa
open Go.RowKit
theorem setL_pow (z : Nat) (hz : z < 6) : setL (2 ^ z) = [z] := by
 have h1 : z = 0 ∨ z = 1 ∨ z = 2 ∨ z = 3 ∨ z = 4 ∨ z = 5 := by omega
 rcases h1 with rfl | rfl | rfl | rfl | rfl | rfl <;> rfl
theorem info2_dsc : (Try.prog.info? 83).map (fun i => (i.zero, i.size, i.bytes)) = some (some (.agg ((dscCells (⟨0, 0, 0⟩ : Dsc)).toArray)), 3, 24) := by kernel_rfl
def OwnD (W : World) (b : Nat) (v : Value) (l : List Dsc) : Prop := W.ownsRow b 83 3 v l.length (l.flatMap dscCells)
theorem dsc_snoc {w : World} (ty : TypeId) (xs : List Dsc) (v : Value) (x : Dsc) (base gx : Nat) (jx : Blk w gx 83 (dscCells x).toArray) (hx : OwnD w base v xs) (hn : xs.length ≤ 900) (hb : base ≤ w.heap.size) :
  ∃ v' w', (Builtin.append_ #[48, 48] ty #[v, .slice (some ⟨gx, 0, none⟩) 1 1]).run Try.prog w = .ok v' w' ∧ w.grownBy w' v.ownBlock ∧ OwnD w' base v' (xs ++ [x]) := by
 obtain ⟨i0, hi0, hz0, hz1, hz2⟩ := info_parts info2_dsc
 obtain ⟨v2, W7, hr, hrow2, hg2, -⟩ := run_append_own (P := Try.prog) w base 48 ty 83 i0 _ 3 24 Try.underlying48 hi0 hz0 hz1 hz2 rfl (by omega) _ _ _ hx ⟨gx, 0, none⟩ 1 1 (dscCells x) rfl (by intro i u hu; rw [Addr.add_lit, Nat.zero_add, jx.cell]; simpa using hu) (by simp [dscCells, Value.oneCell']) (by unfold maxLen; omega) (by omega) hb
 refine ⟨v2, W7, hr, hg2, ?_⟩
 unfold OwnD
 rw [List.length_append, List.flatMap_append]
 simpa using hrow2
theorem slots_mono {ps : List Pas} {l : List Slt} (h : slotsOK ps 0 l = true) (i j : Nat) (hi : i ≤ j) (hj : j < l.length) : ttAt l i ≤ ttAt l j := by
 have := (slots_tt ps l 0 h i j hi hj).2
 rw [ttAt_eq (by omega), ttAt_eq hj]
 exact this
theorem OwnD.ext {W W' : World} {b : Nat} {v : Value} {l : List Dsc} (h : OwnD W b v l) (hx : Ext W W') : OwnD W' b v l := own_ext h hx
theorem setL_zero {S : Nat} (h : S < 64) : (setL S).length = 0 ↔ S = 0 := by
 rw [List.length_eq_zero_iff]
 exact setL_nil ⟨S, h⟩
theorem setL_one (a i : Nat) (hi : i < 6) : (setL a).filter (fun x => decide (x ∈ [i])) = setL (a &&& 2 ^ i) := by
 rw [← setL_and, setL_pow _ hi]
theorem recvP_app (q : Rcp → Nat) (id : Int) : ∀ (l : List Rcp) (i left : Nat) (ds : List Dsc), recvP q id i left ds l = ((recvP q id i left [] l).1, ds ++ (recvP q id i left [] l).2)
 | [], i, left, ds => by simp [recvP]
 | r :: l, i, left, ds => by
  rw [recvP_cons, recvP_cons q id i left []]
  split
  ·exact recvP_app q id l _ _ _
  ·split
   ·exact recvP_app q id l _ _ _
   ·split
    ·rw [recvP_app q id l _ _ (ds ++ _), recvP_app q id l _ _ ([] ++ _)]
     simp
    ·exact recvP_app q id l _ _ _
theorem noteP_app (now : Int) (sl : List Slt) (id : Int) : ∀ (l : List Nte) (i left slot : Nat) (done : Bool) (ds : List Dsc), noteP now sl id i left slot done ds l = ((noteP now sl id i left slot done [] l).1, ds ++ (noteP now sl id i left slot done [] l).2)
 | [], i, left, slot, done, ds => by simp [noteP]
 | n :: l, i, left, slot, done, ds => by
  rw [noteP_cons, noteP_cons now sl id i left slot done []]
  split
  ·exact noteP_app now sl id l _ _ _ _ _
  ·split
   ·simp
   ·split
    ·rw [noteP_app now sl id l _ _ _ _ (ds ++ _), noteP_app now sl id l _ _ _ _ ([] ++ _)]
     simp
    ·exact noteP_app now sl id l _ _ _ _ _
theorem fateP_app (q : Rcp → Nat) (now : Int) (sl : List Slt) (id : Int) (rs : List Rcp) (ns : List Nte) (ds : List Dsc) : fateP q now sl id rs ns ds = ((fateP q now sl id rs ns []).1, ds ++ (fateP q now sl id rs ns []).2) := by
 unfold fateP
 rw [recvP_app q id rs 0 0 ds]
 dsimp only
 rw [noteP_app now sl id ns 0 _ 0 false (ds ++ _), noteP_app now sl id ns 0 _ 0 false (recvP q id 0 0 [] rs).2]
 simp
set_option maxRecDepth 100000 in
set_option maxHeartbeats 4000000 in
theorem rFits_any (o : Opt) (ps : List Pas) (sts : List Stn) (r : Rcp) (now : Int) (PA SA : Option Addr) (pn pc sn sc : Nat) (w : World) (ho : RA sltCells 3 w w.heap.size o.a o.n o.c o.l) (hp : RA pasCells 6 w w.heap.size PA pn pc ps) (hs : RA stnCells 6 w w.heap.size SA sn sc sts) :
  Calls Try.prog 24 #[.agg (optCells o).toArray, .slice PA pn pc, .slice SA sn sc, .agg (rcpCells r).toArray, .int .i64 now] w (RowRet (fitsV o ps sts r now) w) := by
 have HVAL := Lib.hid (fun (g : Nat) (W : World) (hW : Ext w W) (hj : Blk W g 32 (optCells o).toArray) => rvalid_any [o] ps sts (some ⟨g, 0, none⟩) PA SA 1 1 pn pc sn sc W (ops_one hj (ra_ext ho hW)) (ra_ext hp hW) (ra_ext hs hW))
 have HFIT := Lib.hid (fun (hV : validP [o] ps sts = true) (W : World) (hW : Ext w W) => rfits_any [o] o ps sts r now PA SA pn pc sn sc W (ra_ext ho hW) (ra_ext hp hW) (ra_ext hs hW) (valid_vok hV) (List.mem_singleton.2 rfl))
 obtain ⟨X, hX⟩ : ∃ X, X = fitsV o ps sts r now := ⟨_, rfl⟩
 rw [← hX]
 unfold fitsV at hX
 generalize validP [o] ps sts = vb at HVAL HFIT hX
 have HX1' := Lib.hid (fun h : vb = true => hX.trans (if_pos h))
 have HX0' := Lib.hid (fun h : vb = false => hX.trans (if_neg (by rw [h]; decide)))
 clear hX ho hp hs
 have HX1 : Hid (vb = true → X = setL (fitsP ps (skewF sts) now o.id o.l r)) := HX1'
 have HX0 : Hid (vb = false → X = []) := HX0'
 clear HX1' HX0'
 obtain ⟨id, i1, i2, i3, i4, i5, i6, i7, a, m, d, l⟩ := o
 obtain ⟨rsn, rim, rat⟩ := r
 have hoe : (optCells ⟨id, i1, i2, i3, i4, i5, i6, i7, a, m, d, l⟩).toArray = #[.int .i64 id, .int .i64 i1, .int .i64 i2, .int .i64 i3, .int .i64 i4, .int .i64 i5, .int .i64 i6, .int .i64 i7, .slice a m d] := rfl
 have hre : (rcpCells ⟨rsn, rim, rat⟩).toArray = #[.int .i64 rsn, .int .i64 rim, .int .i64 rat] := rfl
 rw [hoe, hre] at HFIT
 rw [hoe] at HVAL
 rw [hoe, hre]
 clear hoe hre
 dsimp only at HX1 HFIT
 generalize setL (fitsP ps (skewF sts) now id l ⟨rsn, rim, rat⟩) = F at HX1 HFIT
 go_enter Try.func24, Try.ntmps24
 go_upto_region 1 with (fail)
 obtain ⟨W1, hW1⟩ : ∃ W, W = (w.alloc (.cells #[.int .i64 id, .int .i64 i1, .int .i64 i2, .int .i64 i3, .int .i64 i4, .int .i64 i5, .int .i64 i6, .int .i64 i7, .slice a m d] 32)).alloc (.cells #[.int .i64 rsn, .int .i64 rim, .int .i64 rat] 63) := ⟨_, rfl⟩
 rw [← hW1]
 obtain ⟨J5, J8, hx1⟩ := al2 w W1 _ _ _ _ hW1
 clear hW1
 generalize w.heap.size + 1 = g8 at J8 ⊢
 generalize w.heap.size = g5 at J5 ⊢
 have d0 : W1.cell? ⟨g5, 0, none⟩ = some (.int .i64 id) := J5.cell 0
 have d1 : W1.cell? ⟨g5, 1, none⟩ = some (.int .i64 i1) := J5.cell 1
 have d2 : W1.cell? ⟨g5, 2, none⟩ = some (.int .i64 i2) := J5.cell 2
 have d3 : W1.cell? ⟨g5, 3, none⟩ = some (.int .i64 i3) := J5.cell 3
 have d4 : W1.cell? ⟨g5, 4, none⟩ = some (.int .i64 i4) := J5.cell 4
 have d5 : W1.cell? ⟨g5, 5, none⟩ = some (.int .i64 i5) := J5.cell 5
 have d6 : W1.cell? ⟨g5, 6, none⟩ = some (.int .i64 i6) := J5.cell 6
 have d7 : W1.cell? ⟨g5, 7, none⟩ = some (.int .i64 i7) := J5.cell 7
 have d8 : W1.cell? ⟨g5, 8, none⟩ = some (.slice a m d) := J5.cell 8
 have hxa : Ext W1 (W1.alloc (.cells #[.int .i64 id, .int .i64 i1, .int .i64 i2, .int .i64 i3, .int .i64 i4, .int .i64 i5, .int .i64 i6, .int .i64 i7, .slice a m d] 32)) := bl_alloc (Below.refl _ _) _
 have HC := Lib.hid (HVAL.out W1.heap.size _ (Ext.trans hx1 hxa) (Blk.new W1 32 #[.int .i64 id, .int .i64 i1, .int .i64 i2, .int .i64 i3, .int .i64 i4, .int .i64 i5, .int .i64 i6, .int .i64 i7, .slice a m d]))
 have HJ5 := Lib.hid (J5.ext hxa)
 have HJ8 := Lib.hid (J8.ext hxa)
 have hx2 := Ext.trans hx1 hxa
 clear hx1 hxa J5 J8 HVAL
 go_wp2_with (refine HC.out.mono ?_)
 rintro e W3 ⟨rfl, hy⟩
 have hx3 := Ext.trans hx2 hy
 have J5 := HJ5.out.ext hy
 have J8 := HJ8.out.ext hy
 clear d0 d1 d2 d3 d4 d5 d6 d7 d8 HC HJ5 HJ8 hx2 hy
 cases vb
 ·have HX := Lib.hid (HX0.out rfl)
  go_wp2_with fail
  go_ret
  exact ⟨none, 0, by rw [HX.out]; rfl, by rw [HX.out]; exact World.ownsRow_nil _ _ _ _, hx3⟩
 ·have HX := Lib.hid (HX1.out rfl)
  have HC := Lib.hid (HFIT.out rfl W3 hx3)
  have d0 : W3.cell? ⟨g5, 0, none⟩ = some (.int .i64 id) := J5.cell 0
  have d1 : W3.cell? ⟨g5, 1, none⟩ = some (.int .i64 i1) := J5.cell 1
  have d2 : W3.cell? ⟨g5, 2, none⟩ = some (.int .i64 i2) := J5.cell 2
  have d3 : W3.cell? ⟨g5, 3, none⟩ = some (.int .i64 i3) := J5.cell 3
  have d4 : W3.cell? ⟨g5, 4, none⟩ = some (.int .i64 i4) := J5.cell 4
  have d5 : W3.cell? ⟨g5, 5, none⟩ = some (.int .i64 i5) := J5.cell 5
  have d6 : W3.cell? ⟨g5, 6, none⟩ = some (.int .i64 i6) := J5.cell 6
  have d7 : W3.cell? ⟨g5, 7, none⟩ = some (.int .i64 i7) := J5.cell 7
  have d8 : W3.cell? ⟨g5, 8, none⟩ = some (.slice a m d) := J5.cell 8
  have r0 : W3.cell? ⟨g8, 0, none⟩ = some (.int .i64 rsn) := J8.cell 0
  have r1 : W3.cell? ⟨g8, 1, none⟩ = some (.int .i64 rim) := J8.cell 1
  have r2 : W3.cell? ⟨g8, 2, none⟩ = some (.int .i64 rat) := J8.cell 2
  clear J5 J8 HFIT
  go_wp2_with fail
  refine HC.out.mono ?_
  rintro e W4 ⟨A, c, rfl, ho, hy⟩
  have HO := Lib.hid ho
  have HXF := Lib.hid (Ext.trans hx3 hy)
  have HB := Lib.hid (Below.size hx3)
  clear HC ho hy hx3 d0 d1 d2 d3 d4 d5 d6 d7 d8 r0 r1 r2
  go_wp2_with fail
  go_ret
  exact ⟨A, c, by rw [HX.out]; rfl, by rw [HX.out]; exact own_base HO.out HB.out, HXF.out⟩
end Go.Proofs.Ytmlabgmigakcbaa
