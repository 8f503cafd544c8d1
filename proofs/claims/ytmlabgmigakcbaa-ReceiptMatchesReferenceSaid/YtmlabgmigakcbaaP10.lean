/- The region rule, with rows that lie apart: what two operations make lies in two blocks (printed by mk_reg2.py). -/
import Derived.Test.YtmlabgmigakcbaaP09
import Derived.Test.YtmlabgmigakcbaaP02
namespace Go.Proofs.Ytmlabgmigakcbaa
open Go.RowKit
def stI (x : Int) : Nat → List Stn → Int
 | _, [] => -1
 | i, s :: r => if s.id = x then i else stI x (i + 1) r
theorem stI_cons (x : Int) (i : Nat) (s : Stn) (r : List Stn) : stI x i (s :: r) = if s.id = x then (i : Int) else stI x (i + 1) r := by rw [stI]
def staOf (ps : List Pas) (p : Int) : Int := match ps[p.toNat]? with | some q => q.station | none => 0
def byOf (wrong : List Int) (i : Nat) (sk : Int) : Int := if i < wrong.length then min (max (wrong.getD i 0) (-sk)) sk else 0
def rcpOf (ps : List Pas) (sts : List Stn) (wrong : List Int) (id : Int) (s : Slt) : Rcp :=
 match sts[(stI (staOf ps s.p) 0 sts).toNat]? with
 | some st => ⟨st.id, id, max 0 (s.tt + byOf wrong (stI (staOf ps s.p) 0 sts).toNat st.skew)⟩
 | none => ⟨0, id, 0⟩
def ntsTo (id z : Int) (m : Nat) : List Nte := (List.range m).map (fun (k : Nat) => ⟨id, k, decide ((k : Int) = z)⟩)
def ntsOf (id z : Int) (m : Nat) : List Nte := ntsTo id z (if 0 ≤ z then z.toNat + 1 else m)
def sltAt (l : List Slt) (z : Int) : Slt := l.getD z.toNat ⟨0, 0, 0⟩
def wrtL (ps : List Pas) (sts : List Stn) (lost wrong : List Int) : List Rcp → List Nte → List Opt → Option (List Rcp × List Nte)
 | rs, ns, [] => some (rs, ns)
 | rs, ns, o :: r => if (sentV o ps lost).2 = 0 then
   wrtL ps sts lost wrong (if 0 ≤ (sentV o ps lost).1 then rs ++ [rcpOf ps sts wrong o.id (sltAt o.l (sentV o ps lost).1)] else rs) (ns ++ ntsOf o.id (sentV o ps lost).1 o.l.length) r
  else none
theorem wrtL_cons (ps : List Pas) (sts : List Stn) (lost wrong : List Int) (rs : List Rcp) (ns : List Nte) (o : Opt) (r : List Opt) : wrtL ps sts lost wrong rs ns (o :: r) = if (sentV o ps lost).2 = 0 then
   wrtL ps sts lost wrong (if 0 ≤ (sentV o ps lost).1 then rs ++ [rcpOf ps sts wrong o.id (sltAt o.l (sentV o ps lost).1)] else rs) (ns ++ ntsOf o.id (sentV o ps lost).1 o.l.length) r
  else none := by rw [wrtL]
def wrtV (os : List Opt) (ps : List Pas) (sts : List Stn) (lost wrong : List Int) : (List Rcp × List Nte) × Int :=
 if validP os ps sts then (match wrtL ps sts lost wrong [] [] os with | some x => (x, 0) | none => (([], []), 300)) else (([], []), 300)
theorem sentI_bd (lost : List Int) : ∀ (l : List Slt) (i : Nat), sentI lost i l = -1 ∨ ((i : Int) ≤ sentI lost i l ∧ sentI lost i l < i + l.length)
 | [], i => .inl rfl
 | s :: r, i => by
  rw [sentI_cons]
  split
  ·rcases sentI_bd lost r (i + 1) with h | h
   ·exact .inl h
   ·right; simp only [List.length_cons]; omega
  ·right; simp only [List.length_cons]; omega
theorem sentV_cases (o : Opt) (ps : List Pas) (lost : List Int) : sentV o ps lost = (0, 180) ∨ ∃ z : Int, sentV o ps lost = (z, 0) ∧ (z = -1 ∨ 0 ≤ z ∧ z < o.l.length) := by
 unfold sentV
 split
 ·right
  refine ⟨_, rfl, ?_⟩
  rcases sentI_bd lost o.l 0 with h | h
  ·exact .inl h
  ·right; omega
 ·left; rfl
theorem stI_bd (x : Int) : ∀ (l : List Stn) (i : Nat), (∃ s ∈ l, s.id = x) → ∃ (k : Nat) (h : k < l.length), stI x i l = ((i + k : Nat) : Int) ∧ l[k].id = x
 | [], _, h => by obtain ⟨s, hs, _⟩ := h; cases hs
 | s :: r, i, h => by
  rw [stI_cons]
  by_cases hs : s.id = x
  ·rw [if_pos hs]
   exact ⟨0, by simp, by simp, hs⟩
  ·rw [if_neg hs]
   obtain ⟨k, h1, h2, h3⟩ := stI_bd x r (i + 1) (by
    obtain ⟨t, ht, hx⟩ := h
    rcases List.mem_cons.1 ht with rfl | ht
    ·exact absurd hx hs
    ·exact ⟨t, ht, hx⟩)
   exact ⟨k + 1, by simpa using h1, by rw [h2]; omega, by simpa using h3⟩
theorem skewL_some : ∀ (l : List Stn) (f : Int → Option Int) (k : Int), (skewL f l k).isSome = true → (f k).isSome = true ∨ ∃ s ∈ l, s.id = k
 | [], _, _, h => .inl h
 | s :: r, f, k, h => by
  rw [skewL_cons] at h
  rcases skewL_some r _ k h with h | ⟨t, ht, hk⟩
  ·by_cases hk : k = s.id
   ·exact .inr ⟨s, List.mem_cons_self, hk.symm⟩
   ·rw [if_neg hk] at h; exact .inl h
  ·exact .inr ⟨t, List.mem_cons_of_mem _ ht, hk⟩
theorem VOK.sta {os : List Opt} {ps : List Pas} {sts : List Stn} (h : VOK os ps sts) {p : Pas} (hp : p ∈ ps) : ∃ s ∈ sts, s.id = p.station := by
 have h1 := h.there
 unfold stnIn at h1
 have h2 := List.all_eq_true.1 h1 p hp
 rcases skewL_some sts (fun _ => none) p.station h2 with h | h
 ·cases h
 ·exact h
theorem stn_skew {sts : List Stn} (h : stnsOK sts = true) : ∀ s ∈ sts, 0 ≤ s.skew ∧ s.skew ≤ 30 := by
 unfold stnsOK at h
 rw [Bool.and_eq_true] at h
 intro s hs
 have := listOK_all stnOK (·.id) sts none h.2 s hs
 unfold stnOK at this
 simp only [Bool.and_eq_true] at this
 exact inB_iff.1 this.2
theorem within_any (n a b : Int) (g m c : Nat) (w : World) (hm : 2 ≤ m) (h0 : w.cell? ⟨g, 0, none⟩ = some (.int .i64 a)) (h1 : w.cell? ⟨g, 1, none⟩ = some (.int .i64 b)) :
  Calls Try.prog 62 #[.int .i64 n, .slice (some ⟨g, 0, none⟩) m c] w fun e w' => e = .returned (.int .i64 (min (max n a) b)) ∧ Ext w w' := by
 have hm1 : (0 : Int) < (m : Int) := by omega
 have hm2 : (1 : Int) < (m : Int) := by omega
 go_enter Try.func62, Try.ntmps62
 go_upto_region 1 with (fail)
 refine wp_region_obl 9 (fun ix vals v w1 => match ix with | 0 => v = .int .i64 n | 1 => v = .slice (some ⟨g, 0, none⟩) m c | 2 => v = .pointer (some ⟨g, 0, none⟩) | 3 => v = .int .i64 a | 4 => v = .int .i64 (max n a) | 5 => v = .slice (some ⟨g, 0, none⟩) m c | 6 => v = .pointer (some ⟨g, 1, none⟩) | 7 => v = .int .i64 b | _ => v = .int .i64 (min (max n a) b)) (by kernel_rfl) (by kernel_rfl) ?_ ?_ ?_ ?_
 ·intro ix vals v w1 w2 hi hr hx
  match ix, hr with
  | 0, hr => exact hr
  | 1, hr => exact hr
  | 2, hr => exact hr
  | 3, hr => exact hr
  | 4, hr => exact hr
  | 5, hr => exact hr
  | 6, hr => exact hr
  | 7, hr => exact hr
  | (kx + 8), hr => exact hr
 ·intro ix vals vals_ v w1 hi hv hr
  exact hr
 ·refine ⟨?_, ?_, ?_, ?_, ?_, ?_, ?_, ?_, ?_, trivial⟩
  ·intro vals w1 hx hd ha
   clear hd ha
   simp only [Lf]
   go_wp2
   exact ⟨rfl, Ext.refl _, rfl⟩
  ·intro vals w1 hx hd ha
   clear hd ha
   simp only [Lf, dstAt, Act.put, List.getElem?_toArray, List.getElem?_cons_zero, Option.bind_some, List.setIfInBounds_toArray, List.set_cons_zero, List.set_cons_succ]
   go_wp2
   exact ⟨rfl, Ext.refl _, rfl⟩
  ·intro vals w1 hx hd ha
   have e1 : vals 1 = .slice (some ⟨g, 0, none⟩) m c := hd 1 (by decide)
   clear hd ha
   simp only [Lf, dstAt, Act.put, List.getElem?_toArray, List.getElem?_cons_zero, List.getElem?_cons_succ, Option.bind_some, List.setIfInBounds_toArray, List.set_cons_zero, List.set_cons_succ]
   simp only [e1]
   clear e1
   go_wp2
   exact ⟨rfl, Ext.refl _, rfl⟩
  ·intro vals w1 hx hd ha
   have e2 : vals 2 = .pointer (some ⟨g, 0, none⟩) := hd 2 (by decide)
   clear hd ha
   simp only [Lf, dstAt, Act.put, List.getElem?_toArray, List.getElem?_cons_zero, List.getElem?_cons_succ, Option.bind_some, List.setIfInBounds_toArray, List.set_cons_zero, List.set_cons_succ]
   simp only [e2]
   clear e2
   have h0 := ext_cell hx h0
   go_wp2
   exact ⟨rfl, Ext.refl _, rfl⟩
  ·intro vals w1 hx hd ha
   have e0 : vals 0 = .int .i64 n := hd 0 (by decide)
   have e3 : vals 3 = .int .i64 a := hd 3 (by decide)
   clear hd ha
   simp only [Lf, dstAt, Act.put, List.getElem?_toArray, List.getElem?_cons_zero, List.getElem?_cons_succ, Option.bind_some, List.setIfInBounds_toArray, List.set_cons_zero, List.set_cons_succ]
   simp only [e0]
   simp only [e3]
   clear e0 e3
   go_wp2
   all_goals exact ⟨rfl, Ext.refl _, by show Value.int _ _ = Value.int _ _; congr 1; omega⟩
  ·intro vals w1 hx hd ha
   clear hd ha
   simp only [Lf, dstAt, Act.put, List.getElem?_toArray, List.getElem?_cons_zero, List.getElem?_cons_succ, Option.bind_some, List.setIfInBounds_toArray, List.set_cons_zero, List.set_cons_succ]
   go_wp2
   exact ⟨rfl, Ext.refl _, rfl⟩
  ·intro vals w1 hx hd ha
   have e5 : vals 5 = .slice (some ⟨g, 0, none⟩) m c := hd 5 (by decide)
   clear hd ha
   simp only [Lf, dstAt, Act.put, List.getElem?_toArray, List.getElem?_cons_zero, List.getElem?_cons_succ, Option.bind_some, List.setIfInBounds_toArray, List.set_cons_zero, List.set_cons_succ]
   simp only [e5]
   clear e5
   go_wp2
   exact ⟨rfl, Ext.refl _, rfl⟩
  ·intro vals w1 hx hd ha
   have e6 : vals 6 = .pointer (some ⟨g, 1, none⟩) := hd 6 (by decide)
   clear hd ha
   simp only [Lf, dstAt, Act.put, List.getElem?_toArray, List.getElem?_cons_zero, List.getElem?_cons_succ, Option.bind_some, List.setIfInBounds_toArray, List.set_cons_zero, List.set_cons_succ]
   simp only [e6]
   clear e6
   have h1 := ext_cell hx h1
   go_wp2
   exact ⟨rfl, Ext.refl _, rfl⟩
  ·intro vals w1 hx hd ha
   have e4 : vals 4 = .int .i64 (max n a) := hd 4 (by decide)
   have e7 : vals 7 = .int .i64 b := hd 7 (by decide)
   clear hd ha
   simp only [Lf, dstAt, Act.put, List.getElem?_toArray, List.getElem?_cons_zero, List.getElem?_cons_succ, Option.bind_some, List.setIfInBounds_toArray, List.set_cons_zero, List.set_cons_succ]
   simp only [e4]
   simp only [e7]
   clear e4 e7
   go_wp2
   all_goals exact ⟨rfl, Ext.refl _, by show Value.int _ _ = Value.int _ _; congr 1; omega⟩
 intro vals w5 hx hf
 have e8 : vals 8 = .int .i64 (min (max n a) b) := hf 8 (by omega)
 have hx := hx.undrew
 clear hf
 refine tail1 9 _ (by kernel_rfl) (by kernel_rfl) rfl ?_
 simp only [Lf, dstAt, Act.put, List.getElem?_toArray, List.getElem?_cons_zero, List.getElem?_cons_succ, Option.bind_some, List.setIfInBounds_toArray, List.set_cons_zero, List.set_cons_succ]
 rw [e8]
 clear e8 h0 h1
 go_wp2
 go_ret
 exact ⟨rfl, hx⟩
set_option maxRecDepth 100000 in
set_option maxHeartbeats 4000000 in
theorem write1_any (st : Stn) (sp sf stt : Int) (ps : List Pas) (PA : Option Addr) (pn pc g6 g18 : Nat) (w : World) (hp : RA pasCells 6 w w.heap.size PA pn pc ps) (h6 : Blk w g6 37 #[.slice PA pn pc]) (h18 : Blk w g18 78 #[.int .i64 sp, .int .i64 sf, .int .i64 stt]) (hs : 0 ≤ sp ∧ sp < ps.length) :
  Calls Try.prog 61 #[.agg (stnCells st).toArray, .pointer (some ⟨g6, 0, none⟩), .pointer (some ⟨g18, 0, none⟩)] w fun e w' => e = .returned (.bool (decide (st.id = staOf ps sp))) ∧ Ext w w' := by
 obtain ⟨id, ⟨x, y⟩, re, an, sk⟩ := st
 dsimp only
 obtain ⟨k, rfl⟩ : ∃ k : Nat, sp = k := ⟨sp.toNat, by omega⟩
 have hkp : k < pn := by have := hp.len; omega
 obtain ⟨b, ob, hz, hA, hbB, hc⟩ := hp.at_ pas_len hkp
 have hst : staOf ps (k : Int) = ps[k].station := by
  unfold staOf
  rw [show ((k : Int)).toNat = k by omega, List.getElem?_eq_getElem hz]
 have c1 : w.cell? ⟨b, ob + k * 6 + 1, none⟩ = some (.int .i64 ps[k].station) := hc 1 (by omega)
 rw [hst]
 have hle := hp.le
 generalize ps[k].station = sta at c1 ⊢
 have t0 : w.cell? ⟨g6, 0, none⟩ = some (.slice PA pn pc) := h6.cell 0
 have s0 : w.cell? ⟨g18, 0, none⟩ = some (.int .i64 (k : Int)) := h18.cell 0
 subst hA
 clear hc hz hst hp h6 h18 hs
 have hkb : (k : Int) < (pn : Int) := by omega
 show Calls Try.prog 61 #[.agg #[.int .i64 id, .int .i64 x, .int .i64 y, .int .i64 re, .int .i64 an, .int .i64 sk], .pointer (some ⟨g6, 0, none⟩), .pointer (some ⟨g18, 0, none⟩)] w _
 go_enter Try.func61, Try.ntmps61
 go_upto_region 1 with (fail)
 have hx : Ext w (w.alloc (.cells #[.int .i64 id, .int .i64 x, .int .i64 y, .int .i64 re, .int .i64 an, .int .i64 sk] 122)) := bl_alloc (Below.refl _ _) _
 have J := Blk.new w 122 #[.int .i64 id, .int .i64 x, .int .i64 y, .int .i64 re, .int .i64 an, .int .i64 sk]
 generalize w.heap.size = g3 at J ⊢
 generalize w.alloc (.cells #[.int .i64 id, .int .i64 x, .int .i64 y, .int .i64 re, .int .i64 an, .int .i64 sk] 122) = W1 at hx J ⊢
 have t0 := ext_cell hx t0
 have s0 := ext_cell hx s0
 have c1 := ext_cell hx c1
 have j0 : W1.cell? ⟨g3, 0, none⟩ = some (.int .i64 id) := J.cell 0
 clear J hbB
 go_quiet (fail)
 have hx2 : Ext W1 (W1.drewN nq) := (by repeat (first | exact Below.refl _ _ | assumption | refine Below.drew ?_ | refine below_drewN ?_ _ | refine bl_alloc ?_ _ | refine Below.setCell ?_ (by first | (simp; done) | omega | (simp; omega)) _ | refine bl_then ?_ (by assumption)))
 have hx3 := Ext.trans hx hx2
 clear t0 s0 c1 j0
 go_wp2
 go_ret
 exact ⟨by congr 2, hx3⟩
theorem indexSt_any (sts : List Stn) (sp sf stt : Int) (ps : List Pas) (PA SA : Option Addr) (pn pc n c g6 g18 : Nat) (w : World) (ho : RA stnCells 6 w w.heap.size SA n c sts) (hp : RA pasCells 6 w w.heap.size PA pn pc ps) (h6 : Blk w g6 37 #[.slice PA pn pc]) (h18 : Blk w g18 78 #[.int .i64 sp, .int .i64 sf, .int .i64 stt]) (hs : 0 ≤ sp ∧ sp < ps.length) :
  Calls Try.prog 60 #[.slice SA n c, .func (.func 61) #[] #[.pointer (some ⟨g6, 0, none⟩), .pointer (some ⟨g18, 0, none⟩)]] w fun e w' => e = .returned (.int .i64 (stI (staOf ps sp) 0 sts)) ∧ Ext w w' := by
 have hle := ho.le
 have HS1 := Lib.hid (fun (st : Stn) (W : World) (hW : Ext w W) => write1_any st sp sf stt ps PA pn pc g6 g18 W (ra_ext hp hW) (h6.ext hW) (h18.ext hW) hs)
 have HO := Lib.hid ho
 generalize staOf ps sp = sta at HS1 ⊢
 obtain ⟨fin, hfin⟩ : ∃ y, y = stI sta 0 sts := ⟨_, rfl⟩
 rw [← hfin]
 have HF0 : Hid (fin = stI sta 0 (sts.drop 0)) := Lib.hid hfin
 clear hfin ho hp h6 h18 hs
 go_enter Try.func60, Try.ntmps60
 go_wp2
 go_loopw [8] (fun y wr => ∃ k : Nat, k ≤ n ∧ y = .int .i64 k ∧ Hid (fin = stI sta k (sts.drop k)) ∧ Ext w wr) (fun y _ => n - (intOf y).toNat)
 case atStart => exact ⟨0, Nat.zero_le _, rfl, HF0, Ext.refl _⟩
 case round =>
  clear HF0
  obtain ⟨k, hk, rfl, HF, hx⟩ := hrel
  by_cases hkn : k < n
  ·obtain ⟨b, ob, hz, hA, _, hc⟩ := (HO.out.below hx).at_ stn_len hkn
   have hst := HF.out
   rw [List.drop_eq_getElem_cons hz, stI_cons] at hst
   have hcall := HS1.out sts[k] wr hx
   generalize sts[k] = s at hst hcall hc
   obtain ⟨id, ⟨x, y⟩, re, an, sk⟩ := s
   dsimp only at hst hcall
   have c0 : wr.cell? ⟨b, ob + k * 6, none⟩ = some (.int .i64 id) := hc 0 (by omega)
   have c1 : wr.cell? ⟨b, ob + k * 6 + 1, none⟩ = some (.int .i64 x) := hc 1 (by omega)
   have c2 : wr.cell? ⟨b, ob + k * 6 + 2, none⟩ = some (.int .i64 y) := hc 2 (by omega)
   have c3 : wr.cell? ⟨b, ob + k * 6 + 3, none⟩ = some (.int .i64 re) := hc 3 (by omega)
   have c4 : wr.cell? ⟨b, ob + k * 6 + 4, none⟩ = some (.int .i64 an) := hc 4 (by omega)
   have c5 : wr.cell? ⟨b, ob + k * 6 + 5, none⟩ = some (.int .i64 sk) := hc 5 (by omega)
   have HST := Lib.hid hst
   subst hA
   clear hc hz hst HF
   by_cases hid : id = sta
   ·rw [decide_eq_true hid] at hcall
    have HC := Lib.hid hcall
    have hfe : fin = (k : Int) := by rw [HST.out, if_pos hid]
    have HFE := Lib.hid hfe
    clear hfe HST hcall hid
    go_wp2_with fail
    refine HC.out.mono ?_
    rintro e W2 ⟨rfl, hy⟩
    have hx2 := Ext.trans hx hy
    clear HC c0 c1 c2 c3 c4 c5 hy hx
    go_wp2
    go_ret
    exact ⟨by rw [HFE.out]; rfl, hx2⟩
   ·rw [decide_eq_false hid] at hcall
    have HC := Lib.hid hcall
    have HN2 : Hid (fin = stI sta (k + 1) (sts.drop (k + 1))) := Lib.hid (by rw [HST.out, if_neg hid])
    clear HST hcall hid
    go_wp2_with fail
    refine HC.out.mono ?_
    rintro e W2 ⟨rfl, hy⟩
    have hx2 := Ext.trans hx hy
    clear HC c0 c1 c2 c3 c4 c5 hy hx
    go_wp2
    go_roundw
    case rel => exact ⟨k + 1, by omega, by go_num, HN2, hx2⟩
    case measure => simp [intOf]; omega
  ·have hff : fin = -1 := by rw [HF.out, List.drop_of_length_le (by rw [HO.out.len]; omega)]; rfl
   have HFF := Lib.hid hff
   clear hff HF
   go_wp2
   go_ret
   exact ⟨by rw [HFF.out]; rfl, hx⟩
theorem info_nte : (Try.prog.info? 89).map (fun i => (i.zero, i.size, i.bytes)) = some (some (.agg ((nteCells (⟨0, 0, false⟩ : Nte)).toArray)), 3, 24) := by kernel_rfl
def OwnNt (W : World) (b : Nat) (v : Value) (l : List Nte) : Prop := W.ownsRow b 89 3 v l.length (l.flatMap nteCells)
theorem nte_snoc {w : World} (ty : TypeId) (xs : List Nte) (v : Value) (x : Nte) (base gx : Nat) (jx : Blk w gx 89 (nteCells x).toArray) (hx : OwnNt w base v xs) (hn : xs.length ≤ 900) (hb : base ≤ w.heap.size) :
  ∃ v' w', (Builtin.append_ #[34, 34] ty #[v, .slice (some ⟨gx, 0, none⟩) 1 1]).run Try.prog w = .ok v' w' ∧ w.grownBy w' v.ownBlock ∧ OwnNt w' base v' (xs ++ [x]) := by
 obtain ⟨i0, hi0, hz0, hz1, hz2⟩ := info_parts info_nte
 obtain ⟨v2, W7, hr, hrow2, hg2, -⟩ := run_append_own (P := Try.prog) w base 34 ty 89 i0 _ 3 24 Try.underlying34 hi0 hz0 hz1 hz2 rfl (by omega) _ _ _ hx ⟨gx, 0, none⟩ 1 1 (nteCells x) rfl (by intro i u hu; rw [Addr.add_lit, Nat.zero_add, jx.cell]; simpa using hu) (by simp [nteCells, Value.oneCell']) (by unfold maxLen; omega) (by omega) hb
 refine ⟨v2, W7, hr, hg2, ?_⟩
 unfold OwnNt
 rw [List.length_append, List.flatMap_append]
 simpa using hrow2
theorem info_rcp : (Try.prog.info? 63).map (fun i => (i.zero, i.size, i.bytes)) = some (some (.agg ((rcpCells (⟨0, 0, 0⟩ : Rcp)).toArray)), 3, 24) := by kernel_rfl
def OwnRc (W : World) (b : Nat) (v : Value) (l : List Rcp) : Prop := W.ownsRow b 63 3 v l.length (l.flatMap rcpCells)
theorem rcp_snoc {w : World} (ty : TypeId) (xs : List Rcp) (v : Value) (x : Rcp) (base gx : Nat) (jx : Blk w gx 63 (rcpCells x).toArray) (hx : OwnRc w base v xs) (hn : xs.length ≤ 900) (hb : base ≤ w.heap.size) :
  ∃ v' w', (Builtin.append_ #[33, 33] ty #[v, .slice (some ⟨gx, 0, none⟩) 1 1]).run Try.prog w = .ok v' w' ∧ w.grownBy w' v.ownBlock ∧ OwnRc w' base v' (xs ++ [x]) := by
 obtain ⟨i0, hi0, hz0, hz1, hz2⟩ := info_parts info_rcp
 obtain ⟨v2, W7, hr, hrow2, hg2, -⟩ := run_append_own (P := Try.prog) w base 33 ty 63 i0 _ 3 24 Try.underlying33 hi0 hz0 hz1 hz2 rfl (by omega) _ _ _ hx ⟨gx, 0, none⟩ 1 1 (rcpCells x) rfl (by intro i u hu; rw [Addr.add_lit, Nat.zero_add, jx.cell]; simpa using hu) (by simp [rcpCells, Value.oneCell']) (by unfold maxLen; omega) (by omega) hb
 refine ⟨v2, W7, hr, hg2, ?_⟩
 unfold OwnRc
 rw [List.length_append, List.flatMap_append]
 simpa using hrow2
end Go.Proofs.Ytmlabgmigakcbaa
namespace Go.Proofs.Ytmlabgmigakcbaa
open Go.RowKit
section
variable {P : Program} {ops : Array Oper} {Q : Exit → Act → World → Prop} {a0 : Act} {w0 : World} {R : Nat → (Nat → Value) → Value → World → Prop} {own : Nat → Value → Option Nat} {m : Nat}
def Obl2 (P : Program) (ops : Array Oper) (a0 : Act) (w0 : World) (R : Nat → (Nat → Value) → Value → World → Prop) (own : Nat → Value → Option Nat) (i : Nat) (o : Oper) : Prop :=
 ∀ (vals : Nat → Value) (w : World), Ext w0 w → (∀ d ∈ depsOf o, R d vals (vals d) w) → (∀ d, anc ops i d = true → R d vals (vals d) w) → wpList P ops (Qo a0 (fun v w' => R i vals v w' ∧ ∀ k, own i v = some k → w.heap.size ≤ k) o w) [o] (Lf ops a0 vals i) w
def Apart (m : Nat) (own : Nat → Value → Option Nat) (vals : Nat → Value) : Prop := ∀ i j, i < m → j < m → i ≠ j → ∀ k, own i (vals i) = some k → own j (vals j) ≠ some k
def ApartL (m : Nat) (own : Nat → Value → Option Nat) (listed : Array Bool) (vals : Nat → Value) : Prop := ∀ i j, i < m → j < m → i ≠ j → listed.getD i false = true → listed.getD j false = true → ∀ k, own i (vals i) = some k → own j (vals j) ≠ some k
theorem wpAny_of_obl2 (hc : regChk ops m = true) (hlt : ∀ i vals v w, i < m → R i vals v w → ∀ k, own i v = some k → k < w.heap.size) (hst : ∀ i vals v w w', i < m → R i vals v w → Ext w w' → R i vals v w') (hloc : ∀ i vals vals' v w, i < m → (∀ d, anc ops i d = true → vals d = vals' d) → R i vals v w → R i vals' v w) (hob : ∀ i o, i < m → ops[i]? = some o → Obl2 P ops a0 w0 R own i o)
  (hfin : ∀ (vals : Nat → Value) (w : World), Ext w0 w → (∀ i, i < m → R i vals (vals i) w) → Apart m own vals → wpAny P .any ops Q (ops.size - m) (litL ops.size m) (Lf ops a0 vals m) w) :
  ∀ (c : Nat) (listed : Array Bool) (vals : Nat → Value) (a : Act) (w : World), unl listed m = c → Inv ops a0 w0 R m listed vals a w → ApartL m own listed vals → wpAny P .any ops Q (ops.size - m + c) listed a w := by
 intro c
 induction c with
 | zero =>
  intro listed vals a w hu hI hA
  have hall := unl_zero hu
  have hsz := chk_size hc
  have hlit : listed = litL ops.size m := by
   apply Array.ext
   ·simp [litL, hI.size]
   ·intro i h1 h2
    have hg : listed.getD i false = listed[i] := by simp [Array.getD_eq_getD_getElem?, h1]
    rcases Nat.lt_or_ge i m with h | h
    ·have := hall i h
     rw [hg] at this
     simp [litL, this, h]
    ·have := hI.tail i h
     rw [hg] at this
     simp [litL, this, Nat.not_lt.2 h]
  have ha : a = Lf ops a0 vals m := by
   have ht : a.tmps = (Lf ops a0 vals m).tmps := by
    apply Array.ext_getElem?
    intro t
    by_cases hj : ∃ j, j < m ∧ dstAt ops j = some t
    ·obtain ⟨j, hjm, hjt⟩ := hj
     obtain ⟨oj, hoj, _, h2j, _⟩ := chk_op hc hjm
     have hdj : oj.dst = some t := by simpa [dstAt, hoj] using hjt
     rcases Nat.lt_or_ge t a0.tmps.size with hlt | hge
     ·rw [hI.inner j t hjm (hall j hjm) hjt hlt, Lf_inner vals m j t hjm hjt (fun k hk1 hk2 => h2j t hdj k hk2 (by omega)) hlt]
     ·rw [Array.getElem?_eq_none (by rw [hI.tsize]; exact hge), Array.getElem?_eq_none (by rw [Lf_size]; exact hge)]
    ·have hj' : ∀ j, j < m → dstAt ops j ≠ some t := fun j hjm hjt => hj ⟨j, hjm, hjt⟩
     rw [hI.outer t (fun j hjm _ => hj' j hjm), Lf_outer vals m t (fun j hji => hj' j hji)]
   have hd : a.defers = (Lf ops a0 vals m).defers := by rw [Lf_defers, hI.defers]
   cases a
   cases hL : Lf ops a0 vals m
   simp_all
  rw [hlit, ha]
  exact hfin vals w hI.ext (fun i hi => hI.facts i hi (hall i hi)) fun i j hi hj hne => hA i j hi hj hne (hall i hi) (hall j hj)
 | succ c ih =>
  intro listed vals a w hu hI hA
  have hsz := chk_size hc
  have hgt : ∀ i, i < listed.size → listed.getD i true = listed.getD i false := fun i hi => by simp [Array.getD_eq_getD_getElem?, hi]
  obtain ⟨i0, hi0, hun0, hall0⟩ := unl_pos (m := m) (listed := listed) (by omega)
  obtain ⟨o0, ho0, hd0, _⟩ := chk_op hc hi0
  have hr0 : i0 ∈ Region.ready .any ops listed := ready_of (by omega) (by rw [hgt _ (by rw [hI.size]; omega)]; exact hun0) ho0 fun d hd => hall0 d (hd0 d hd)
  show wpAny P .any ops Q ((ops.size - m + c) + 1) listed a w
  unfold wpAny
  refine ⟨fun hnil => absurd hr0 (by rw [hnil]; simp), fun i hi => ?_⟩
  obtain ⟨hin, hiu, o, ho, hdl⟩ := ready_spec hi
  have him : i < m := by
   rcases Nat.lt_or_ge i m with h | h
   ·exact h
   ·obtain ⟨o', ho', ht⟩ := chk_tail hc h hin
    rw [ho] at ho'
    injection ho' with ho'
    subst ho'
    rcases ht with ⟨d, h1, h2⟩ | ht
    ·have := hdl d h1
     rw [hI.tail d h2] at this
     cases this
    have := close_listed hI.closed m _ (Nat.le_refl _) hdl i0 (ht i0 hi0)
    rw [hun0] at this
    cases this
  obtain ⟨o', ho', hdi, hdist, hlook, htame⟩ := chk_op hc him
  rw [ho] at ho'
  injection ho' with ho'
  subst ho'
  have hiL : i < listed.size := by rw [hI.size]; exact hin
  have hiu' : listed.getD i false = false := by rw [← hgt i hiL]; exact hiu
  have hanc : ∀ d, anc ops i d = true → listed.getD d false = true := fun d hd => by
   unfold anc at hd
   refine close_listed hI.closed i _ (by omega) (fun d hd => ?_) d (by simpa using hd)
   exact hdl d (by simpa [depsAt, ho] using hd)
  have hltm : ∀ d, listed.getD d false = true → d < m := fun d hd => by
   rcases Nat.lt_or_ge d m with h | h
   ·exact h
   ·rw [hI.tail d h] at hd; cases hd
  refine run_obl htame (Lf_defers vals i) (agree hc hI him ho hdl) ho (hob i o him ho vals w hI.ext (fun d hd => hI.facts d (by have := hdi d hd; omega) (hdl d hd)) (fun d hd => hI.facts d (hltm d (hanc d hd)) (hanc d hd))) ?_
  rintro v w' hext ⟨hR, hfr⟩
  refine ih _ (fun j => if j = i then slotOf o ((Lf ops a0 vals i).put o.dst v) else vals j) _ _ (by have := unl_set listed i him hiL hiu'; omega) ?_ ?_
  rotate_left
  ·intro j j' hj hj' hne hl hl' k hk
   rw [getD_set listed i j hiL] at hl
   rw [getD_set listed i j' hiL] at hl'
   by_cases hji : j = i
   ·subst hji
    have hj'i : j' ≠ j := fun e => hne e.symm
    rw [if_neg hj'i] at hl'
    simp only [if_true] at hk
    simp only [hj'i, if_false]
    intro hk'
    have h1 := hfr k hk
    have h2 := hlt j' vals _ w hj' (hI.facts j' hj' hl') k hk'
    omega
   ·rw [if_neg hji] at hl
    simp only [hji, if_false] at hk
    by_cases hj'i : j' = i
    ·subst hj'i
     simp only [if_true]
     intro hk'
     have h1 := hfr k hk'
     have h2 := hlt j vals _ w hj (hI.facts j hj hl) k hk
     omega
    ·rw [if_neg hj'i] at hl'
     simp only [hj'i, if_false]
     exact hA j j' hj hj' hne hl hl' k hk
  have hdo : dstAt ops i = o.dst := by simp [dstAt, ho]
  constructor
  ·exact hI.ext.trans hext
  ·simp [hI.size]
  ·intro j hj
   rw [getD_set listed i j hiL, if_neg (by omega)]
   exact hI.tail j hj
  ·intro j hj hl d hd
   rw [getD_set listed i d hiL]
   rw [getD_set listed i j hiL] at hl
   by_cases hji : j = i
   ·subst hji
    have : d ∈ depsOf o := by simpa [depsAt, ho] using hd
    rw [hdl d this]
    simp
   ·rw [if_neg hji] at hl
    rw [hI.closed j hj hl d hd]
    simp
  ·intro j hj hl
   rw [getD_set listed i j hiL] at hl
   by_cases hji : j = i
   ·subst hji
    simp only [if_true]
    refine hloc j vals _ _ w' hj (fun d hd => ?_) hR
    have hdj : d ≠ j := fun e => by
     have := hanc d hd
     rw [e, hiu'] at this
     cases this
    simp [hdj]
   ·rw [if_neg hji] at hl
    simp only [hji, if_false]
    refine hloc j vals _ _ w' hj (fun d hd => ?_) (hst j vals _ w w' hj (hI.facts j hj hl) hext)
    have hdl' : listed.getD d false = true := by
     unfold anc at hd
     exact close_listed hI.closed j _ (by omega) (fun d hd => hI.closed j hj hl d hd) d (by simpa using hd)
    have hdi' : d ≠ i := fun e => by
     rw [e, hiu'] at hdl'
     cases hdl'
    simp [hdi']
  ·cases hd : o.dst <;> simp [Act.put, hI.defers]
  ·cases hd : o.dst <;> simp [Act.put, hI.tsize]
  ·intro t ht
   rw [put_get, if_neg (by rw [← hdo]; exact ht i him (by rw [getD_set listed i i hiL, if_pos rfl]))]
   refine hI.outer t fun j hj hl => ht j hj ?_
   rw [getD_set listed i j hiL]
   split
   ·rfl
   ·exact hl
  ·intro j t hj hl hdj htl
   rw [put_get]
   by_cases hji : j = i
   ·subst hji
    rw [hdo] at hdj
    rw [if_pos hdj, if_pos (by rw [hI.tsize]; exact htl)]
    have h2 := put_get (Lf ops a0 vals j) o.dst v t
    rw [if_pos hdj, if_pos (by rw [Lf_size]; exact htl)] at h2
    simp only [if_true, slotOf, hdj, Array.getD_eq_getD_getElem?]
    rw [hdj] at h2
    rw [h2]
    rfl
   ·rw [getD_set listed i j hiL, if_neg hji] at hl
    rw [if_neg (fun e => hdist t e j hj hji hdj)]
    simp only [hji, if_false]
    exact hI.inner j t hj hl hdj htl
def Obls2 (P : Program) (ops : Array Oper) (a0 : Act) (w0 : World) (R : Nat → (Nat → Value) → Value → World → Prop) (own : Nat → Value → Option Nat) : Nat → List Oper → Prop
 | _, [] => True
 | k, o :: rest => Obl2 P ops a0 w0 R own k o ∧ Obls2 P ops a0 w0 R own (k + 1) rest
theorem obls_at2 : ∀ (l : List Oper) (k : Nat), Obls2 P ops a0 w0 R own k l → ∀ j o, l[j]? = some o → Obl2 P ops a0 w0 R own (k + j) o
 | [], _, _, _, _, h => by simp at h
 | x :: l, k, ⟨h1, h2⟩, j, o, hj => by
  cases j with
  | zero =>
   simp at hj
   subst hj
   exact h1
  | succ j =>
   have := obls_at2 l (k + 1) h2 j o (by simpa using hj)
   rwa [show k + 1 + j = k + (j + 1) by omega] at this
theorem wp_region_obl2 {id : Nat} {a : Act} {w : World} (m : Nat) (R : Nat → (Nat → Value) → Value → World → Prop) (own : Nat → Value → Option Nat) (hm : P.follows .mixedOrders = true) (hc : regChk ops m = true) (hlt : ∀ i vals v w, i < m → R i vals v w → ∀ k, own i v = some k → k < w.heap.size) (hst : ∀ i vals v w w', i < m → R i vals v w → Ext w w' → R i vals v w') (hloc : ∀ i vals vals' v w, i < m → (∀ d, anc ops i d = true → vals d = vals' d) → R i vals v w → R i vals' v w)
  (hob : Obls2 P ops a w.drew R own 0 (ops.toList.take m))
  (hfin : ∀ (vals : Nat → Value) (w' : World), Ext w.drew w' → (∀ i, i < m → R i vals (vals i) w') → Apart m own vals → wpAny P .any ops Q (ops.size - m) (litL ops.size m) (Lf ops a vals m) w') : (Code.region id ops true).wp P Q a w := by
 refine wp_region_any hm ?_
 have hsz := chk_size hc
 have hunl : unl (Array.replicate ops.size false) m = m := by
  unfold unl
  rw [List.filter_eq_self.2 (fun i hi => by simp [Array.getD_eq_getD_getElem?, Array.getElem?_replicate]; split <;> rfl)]
  simp
 have h := wpAny_of_obl2 (P := P) (Q := Q) (a0 := a) (w0 := w.drew) hc hlt hst hloc (fun i o hi ho => by
  have := obls_at2 (P := P) (ops := ops) (a0 := a) (w0 := w.drew) (R := R) (own := own) _ 0 hob i o (by rw [List.getElem?_take, if_pos hi]; simpa using ho)
  simpa using this) hfin m (Array.replicate ops.size false) (fun _ => undef) a w.drew hunl ?_ (fun i j _ _ _ h => by simp [Array.getD_eq_getD_getElem?, Array.getElem?_replicate] at h; split at h <;> cases h)
 ·rw [show ops.size - m + m = ops.size by omega] at h
  exact h
 ·have hf : ∀ i, (Array.replicate ops.size false).getD i false = false := fun i => by simp [Array.getD_eq_getD_getElem?, Array.getElem?_replicate]; split <;> rfl
  constructor
  ·exact Ext.refl _
  ·simp
  ·intro i _; exact hf i
  ·intro i _ h; rw [hf] at h; cases h
  ·intro i _ h; rw [hf] at h; cases h
  ·rfl
  ·rfl
  ·intro t _; rfl
  ·intro i t _ h; rw [hf] at h; cases h
end
end Go.Proofs.Ytmlabgmigakcbaa
