/- What is written, plainly; within, and the stations' index. -/
import Derived.Test.YtmlabgmigakcbaaS2
import Derived.Test.YtmlabgmigakcbaaS4
namespace Go.Proofs.Ytmlabgmigakcbaa
open Go.RowKit

def stI (x : Int) : Nat → List Stn → Int
  | _, [] => -1
  | i, s :: r => if s.id = x then i else stI x (i + 1) r
theorem stI_cons (x : Int) (i : Nat) (s : Stn) (r : List Stn) : stI x i (s :: r) = if s.id = x then (i : Int) else stI x (i + 1) r := by rw [stI]
def staOf (ps : List Pas) (p : Int) : Int := match ps[p.toNat]? with | some q => q.station | none => 0
def byOf (wrong : List Int) (i : Nat) (sk : Int) : Int := if i < wrong.length then min (max (wrong.getD i 0) (-sk)) sk else 0
def rcpOf (ps : List Pas) (sts : List Stn) (wrong : List Int) (id : Int) (s : Slt) : Rcp :=
  match sts[(stI (staOf ps s.p) 0 sts).toNat]? with
  | some st => ⟨st.id, id, max 0 (s.tt + byOf wrong (stI (staOf ps s.p) 0 sts).toNat st.skew)⟩
  | none => ⟨0, id, 0⟩
def ntsTo (id z : Int) (m : Nat) : List Nte := (List.range m).map (fun (k : Nat) => ⟨id, k, decide ((k : Int) = z)⟩)
def ntsOf (id z : Int) (m : Nat) : List Nte := ntsTo id z (if 0 ≤ z then z.toNat + 1 else m)
def sltAt (l : List Slt) (z : Int) : Slt := l.getD z.toNat ⟨0, 0, 0⟩
def wrtL (ps : List Pas) (sts : List Stn) (lost wrong : List Int) : List Rcp → List Nte → List Opt → Option (List Rcp × List Nte)
  | rs, ns, [] => some (rs, ns)
  | rs, ns, o :: r => if (sentV o ps lost).2 = 0 then
      wrtL ps sts lost wrong (if 0 ≤ (sentV o ps lost).1 then rs ++ [rcpOf ps sts wrong o.id (sltAt o.l (sentV o ps lost).1)] else rs) (ns ++ ntsOf o.id (sentV o ps lost).1 o.l.length) r
    else none
theorem wrtL_cons (ps : List Pas) (sts : List Stn) (lost wrong : List Int) (rs : List Rcp) (ns : List Nte) (o : Opt) (r : List Opt) : wrtL ps sts lost wrong rs ns (o :: r) = if (sentV o ps lost).2 = 0 then
      wrtL ps sts lost wrong (if 0 ≤ (sentV o ps lost).1 then rs ++ [rcpOf ps sts wrong o.id (sltAt o.l (sentV o ps lost).1)] else rs) (ns ++ ntsOf o.id (sentV o ps lost).1 o.l.length) r
    else none := by rw [wrtL]
def wrtV (os : List Opt) (ps : List Pas) (sts : List Stn) (lost wrong : List Int) : (List Rcp × List Nte) × Int :=
  if validP os ps sts then (match wrtL ps sts lost wrong [] [] os with | some x => (x, 0) | none => (([], []), 300)) else (([], []), 300)
theorem sentI_bd (lost : List Int) : ∀ (l : List Slt) (i : Nat), sentI lost i l = -1 ∨ ((i : Int) ≤ sentI lost i l ∧ sentI lost i l < i + l.length)
  | [], i => .inl rfl
  | s :: r, i => by
    rw [sentI_cons]
    split
    · rcases sentI_bd lost r (i + 1) with h | h
      · exact .inl h
      · right; simp only [List.length_cons]; omega
    · right; simp only [List.length_cons]; omega
theorem sentV_cases (o : Opt) (ps : List Pas) (lost : List Int) : sentV o ps lost = (0, 180) ∨ ∃ z : Int, sentV o ps lost = (z, 0) ∧ (z = -1 ∨ 0 ≤ z ∧ z < o.l.length) := by
  unfold sentV
  split
  · right
    refine ⟨_, rfl, ?_⟩
    rcases sentI_bd lost o.l 0 with h | h
    · exact .inl h
    · right; omega
  · left; rfl
theorem stI_bd (x : Int) : ∀ (l : List Stn) (i : Nat), (∃ s ∈ l, s.id = x) → ∃ (k : Nat) (h : k < l.length), stI x i l = ((i + k : Nat) : Int) ∧ l[k].id = x
  | [], _, h => by obtain ⟨s, hs, _⟩ := h; cases hs
  | s :: r, i, h => by
    rw [stI_cons]
    by_cases hs : s.id = x
    · rw [if_pos hs]
      exact ⟨0, by simp, by simp, hs⟩
    · rw [if_neg hs]
      obtain ⟨k, h1, h2, h3⟩ := stI_bd x r (i + 1) (by
        obtain ⟨t, ht, hx⟩ := h
        rcases List.mem_cons.1 ht with rfl | ht
        · exact absurd hx hs
        · exact ⟨t, ht, hx⟩)
      exact ⟨k + 1, by simpa using h1, by rw [h2]; omega, by simpa using h3⟩
theorem skewL_some : ∀ (l : List Stn) (f : Int → Option Int) (k : Int), (skewL f l k).isSome = true → (f k).isSome = true ∨ ∃ s ∈ l, s.id = k
  | [], _, _, h => .inl h
  | s :: r, f, k, h => by
    rw [skewL_cons] at h
    rcases skewL_some r _ k h with h | ⟨t, ht, hk⟩
    · by_cases hk : k = s.id
      · exact .inr ⟨s, List.mem_cons_self, hk.symm⟩
      · rw [if_neg hk] at h; exact .inl h
    · exact .inr ⟨t, List.mem_cons_of_mem _ ht, hk⟩
theorem VOK.sta {os : List Opt} {ps : List Pas} {sts : List Stn} (h : VOK os ps sts) {p : Pas} (hp : p ∈ ps) : ∃ s ∈ sts, s.id = p.station := by
  have h1 := h.there
  unfold stnIn at h1
  have h2 := List.all_eq_true.1 h1 p hp
  rcases skewL_some sts (fun _ => none) p.station h2 with h | h
  · cases h
  · exact h
theorem stn_skew {sts : List Stn} (h : stnsOK sts = true) : ∀ s ∈ sts, 0 ≤ s.skew ∧ s.skew ≤ 30 := by
  unfold stnsOK at h
  rw [Bool.and_eq_true] at h
  intro s hs
  have := listOK_all stnOK (·.id) sts none h.2 s hs
  unfold stnOK at this
  simp only [Bool.and_eq_true] at this
  exact inB_iff.1 this.2

theorem within_any (n a b : Int) (g m c : Nat) (w : World) (hm : 2 ≤ m) (h0 : w.cell? ⟨g, 0, none⟩ = some (.int .i64 a)) (h1 : w.cell? ⟨g, 1, none⟩ = some (.int .i64 b)) :
    Calls Try.prog 62 #[.int .i64 n, .slice (some ⟨g, 0, none⟩) m c] w fun e w' => e = .returned (.int .i64 (min (max n a) b)) ∧ Ext w w' := by
  have hm1 : (0 : Int) < (m : Int) := by omega
  have hm2 : (1 : Int) < (m : Int) := by omega
  go_enter Try.func62, Try.ntmps62
  go_upto_region 1 with (fail)
  refine wp_region_obl 9 (fun ix vals v w1 => match ix with | 0 => v = .int .i64 n | 1 => v = .slice (some ⟨g, 0, none⟩) m c | 2 => v = .pointer (some ⟨g, 0, none⟩) | 3 => v = .int .i64 a | 4 => v = .int .i64 (max n a) | 5 => v = .slice (some ⟨g, 0, none⟩) m c | 6 => v = .pointer (some ⟨g, 1, none⟩) | 7 => v = .int .i64 b | _ => v = .int .i64 (min (max n a) b)) (by kernel_rfl) (by kernel_rfl) ?_ ?_ ?_ ?_
  · intro ix vals v w1 w2 hi hr hx
    match ix, hr with
    | 0, hr => exact hr
    | 1, hr => exact hr
    | 2, hr => exact hr
    | 3, hr => exact hr
    | 4, hr => exact hr
    | 5, hr => exact hr
    | 6, hr => exact hr
    | 7, hr => exact hr
    | (kx + 8), hr => exact hr
  · intro ix vals vals_ v w1 hi hv hr
    exact hr
  · refine ⟨?_, ?_, ?_, ?_, ?_, ?_, ?_, ?_, ?_, trivial⟩
    · intro vals w1 hx hd ha
      clear hd ha
      simp only [Lf]
      go_wp2
      exact ⟨rfl, Ext.refl _, rfl⟩
    · intro vals w1 hx hd ha
      clear hd ha
      simp only [Lf, dstAt, Act.put, List.getElem?_toArray, List.getElem?_cons_zero, Option.bind_some, List.setIfInBounds_toArray, List.set_cons_zero, List.set_cons_succ]
      go_wp2
      exact ⟨rfl, Ext.refl _, rfl⟩
    · intro vals w1 hx hd ha
      have e1 : vals 1 = .slice (some ⟨g, 0, none⟩) m c := hd 1 (by decide)
      clear hd ha
      simp only [Lf, dstAt, Act.put, List.getElem?_toArray, List.getElem?_cons_zero, List.getElem?_cons_succ, Option.bind_some, List.setIfInBounds_toArray, List.set_cons_zero, List.set_cons_succ]
      simp only [e1]
      clear e1
      go_wp2
      exact ⟨rfl, Ext.refl _, rfl⟩
    · intro vals w1 hx hd ha
      have e2 : vals 2 = .pointer (some ⟨g, 0, none⟩) := hd 2 (by decide)
      clear hd ha
      simp only [Lf, dstAt, Act.put, List.getElem?_toArray, List.getElem?_cons_zero, List.getElem?_cons_succ, Option.bind_some, List.setIfInBounds_toArray, List.set_cons_zero, List.set_cons_succ]
      simp only [e2]
      clear e2
      have h0 := ext_cell hx h0
      go_wp2
      exact ⟨rfl, Ext.refl _, rfl⟩
    · intro vals w1 hx hd ha
      have e0 : vals 0 = .int .i64 n := hd 0 (by decide)
      have e3 : vals 3 = .int .i64 a := hd 3 (by decide)
      clear hd ha
      simp only [Lf, dstAt, Act.put, List.getElem?_toArray, List.getElem?_cons_zero, List.getElem?_cons_succ, Option.bind_some, List.setIfInBounds_toArray, List.set_cons_zero, List.set_cons_succ]
      simp only [e0]
      simp only [e3]
      clear e0 e3
      go_wp2
      all_goals exact ⟨rfl, Ext.refl _, by show Value.int _ _ = Value.int _ _; congr 1; omega⟩
    · intro vals w1 hx hd ha
      clear hd ha
      simp only [Lf, dstAt, Act.put, List.getElem?_toArray, List.getElem?_cons_zero, List.getElem?_cons_succ, Option.bind_some, List.setIfInBounds_toArray, List.set_cons_zero, List.set_cons_succ]
      go_wp2
      exact ⟨rfl, Ext.refl _, rfl⟩
    · intro vals w1 hx hd ha
      have e5 : vals 5 = .slice (some ⟨g, 0, none⟩) m c := hd 5 (by decide)
      clear hd ha
      simp only [Lf, dstAt, Act.put, List.getElem?_toArray, List.getElem?_cons_zero, List.getElem?_cons_succ, Option.bind_some, List.setIfInBounds_toArray, List.set_cons_zero, List.set_cons_succ]
      simp only [e5]
      clear e5
      go_wp2
      exact ⟨rfl, Ext.refl _, rfl⟩
    · intro vals w1 hx hd ha
      have e6 : vals 6 = .pointer (some ⟨g, 1, none⟩) := hd 6 (by decide)
      clear hd ha
      simp only [Lf, dstAt, Act.put, List.getElem?_toArray, List.getElem?_cons_zero, List.getElem?_cons_succ, Option.bind_some, List.setIfInBounds_toArray, List.set_cons_zero, List.set_cons_succ]
      simp only [e6]
      clear e6
      have h1 := ext_cell hx h1
      go_wp2
      exact ⟨rfl, Ext.refl _, rfl⟩
    · intro vals w1 hx hd ha
      have e4 : vals 4 = .int .i64 (max n a) := hd 4 (by decide)
      have e7 : vals 7 = .int .i64 b := hd 7 (by decide)
      clear hd ha
      simp only [Lf, dstAt, Act.put, List.getElem?_toArray, List.getElem?_cons_zero, List.getElem?_cons_succ, Option.bind_some, List.setIfInBounds_toArray, List.set_cons_zero, List.set_cons_succ]
      simp only [e4]
      simp only [e7]
      clear e4 e7
      go_wp2
      all_goals exact ⟨rfl, Ext.refl _, by show Value.int _ _ = Value.int _ _; congr 1; omega⟩
  intro vals w5 hx hf
  have e8 : vals 8 = .int .i64 (min (max n a) b) := hf 8 (by omega)
  have hx := hx.undrew
  clear hf
  refine tail1 9 _ (by kernel_rfl) (by kernel_rfl) rfl ?_
  simp only [Lf, dstAt, Act.put, List.getElem?_toArray, List.getElem?_cons_zero, List.getElem?_cons_succ, Option.bind_some, List.setIfInBounds_toArray, List.set_cons_zero, List.set_cons_succ]
  rw [e8]
  clear e8 h0 h1
  go_wp2
  go_ret
  exact ⟨rfl, hx⟩

set_option maxRecDepth 100000 in
set_option maxHeartbeats 4000000 in
theorem write1_any (st : Stn) (sp sf stt : Int) (ps : List Pas) (PA : Option Addr) (pn pc g6 g18 : Nat) (w : World) (hp : RA pasCells 6 w w.heap.size PA pn pc ps) (h6 : Blk w g6 37 #[.slice PA pn pc]) (h18 : Blk w g18 78 #[.int .i64 sp, .int .i64 sf, .int .i64 stt]) (hs : 0 ≤ sp ∧ sp < ps.length) :
    Calls Try.prog 61 #[.agg (stnCells st).toArray, .pointer (some ⟨g6, 0, none⟩), .pointer (some ⟨g18, 0, none⟩)] w fun e w' => e = .returned (.bool (decide (st.id = staOf ps sp))) ∧ Ext w w' := by
  obtain ⟨id, ⟨x, y⟩, re, an, sk⟩ := st
  dsimp only
  obtain ⟨k, rfl⟩ : ∃ k : Nat, sp = k := ⟨sp.toNat, by omega⟩
  have hkp : k < pn := by have := hp.len; omega
  obtain ⟨b, ob, hz, hA, hbB, hc⟩ := hp.at_ pas_len hkp
  have hst : staOf ps (k : Int) = ps[k].station := by
    unfold staOf
    rw [show ((k : Int)).toNat = k by omega, List.getElem?_eq_getElem hz]
  have c1 : w.cell? ⟨b, ob + k * 6 + 1, none⟩ = some (.int .i64 ps[k].station) := hc 1 (by omega)
  rw [hst]
  have hle := hp.le
  generalize ps[k].station = sta at c1 ⊢
  have t0 : w.cell? ⟨g6, 0, none⟩ = some (.slice PA pn pc) := h6.cell 0
  have s0 : w.cell? ⟨g18, 0, none⟩ = some (.int .i64 (k : Int)) := h18.cell 0
  subst hA
  clear hc hz hst hp h6 h18 hs
  have hkb : (k : Int) < (pn : Int) := by omega
  show Calls Try.prog 61 #[.agg #[.int .i64 id, .int .i64 x, .int .i64 y, .int .i64 re, .int .i64 an, .int .i64 sk], .pointer (some ⟨g6, 0, none⟩), .pointer (some ⟨g18, 0, none⟩)] w _
  go_enter Try.func61, Try.ntmps61
  go_upto_region 1 with (fail)
  have hx : Ext w (w.alloc (.cells #[.int .i64 id, .int .i64 x, .int .i64 y, .int .i64 re, .int .i64 an, .int .i64 sk] 122)) := bl_alloc (Below.refl _ _) _
  have J := Blk.new w 122 #[.int .i64 id, .int .i64 x, .int .i64 y, .int .i64 re, .int .i64 an, .int .i64 sk]
  generalize w.heap.size = g3 at J ⊢
  generalize w.alloc (.cells #[.int .i64 id, .int .i64 x, .int .i64 y, .int .i64 re, .int .i64 an, .int .i64 sk] 122) = W1 at hx J ⊢
  have t0 := ext_cell hx t0
  have s0 := ext_cell hx s0
  have c1 := ext_cell hx c1
  have j0 : W1.cell? ⟨g3, 0, none⟩ = some (.int .i64 id) := J.cell 0
  clear J hbB
  go_quiet (fail)
  have hx2 : Ext W1 (W1.drewN nq) := (by repeat (first | exact Below.refl _ _ | assumption | refine Below.drew ?_ | refine below_drewN ?_ _ | refine bl_alloc ?_ _ | refine Below.setCell ?_ (by first | (simp; done) | omega | (simp; omega)) _ | refine bl_then ?_ (by assumption)))
  have hx3 := Ext.trans hx hx2
  clear t0 s0 c1 j0
  go_wp2
  go_ret
  exact ⟨by congr 2, hx3⟩

theorem indexSt_any (sts : List Stn) (sp sf stt : Int) (ps : List Pas) (PA SA : Option Addr) (pn pc n c g6 g18 : Nat) (w : World) (ho : RA stnCells 6 w w.heap.size SA n c sts) (hp : RA pasCells 6 w w.heap.size PA pn pc ps) (h6 : Blk w g6 37 #[.slice PA pn pc]) (h18 : Blk w g18 78 #[.int .i64 sp, .int .i64 sf, .int .i64 stt]) (hs : 0 ≤ sp ∧ sp < ps.length) :
    Calls Try.prog 60 #[.slice SA n c, .func (.func 61) #[] #[.pointer (some ⟨g6, 0, none⟩), .pointer (some ⟨g18, 0, none⟩)]] w fun e w' => e = .returned (.int .i64 (stI (staOf ps sp) 0 sts)) ∧ Ext w w' := by
  have hle := ho.le
  have HS1 := Lib.hid (fun (st : Stn) (W : World) (hW : Ext w W) => write1_any st sp sf stt ps PA pn pc g6 g18 W (ra_ext hp hW) (h6.ext hW) (h18.ext hW) hs)
  have HO := Lib.hid ho
  generalize staOf ps sp = sta at HS1 ⊢
  obtain ⟨fin, hfin⟩ : ∃ y, y = stI sta 0 sts := ⟨_, rfl⟩
  rw [← hfin]
  have HF0 : Hid (fin = stI sta 0 (sts.drop 0)) := Lib.hid hfin
  clear hfin ho hp h6 h18 hs
  go_enter Try.func60, Try.ntmps60
  go_wp2
  go_loopw [8] (fun y wr => ∃ k : Nat, k ≤ n ∧ y = .int .i64 k ∧ Hid (fin = stI sta k (sts.drop k)) ∧ Ext w wr) (fun y _ => n - (intOf y).toNat)
  case atStart => exact ⟨0, Nat.zero_le _, rfl, HF0, Ext.refl _⟩
  case round =>
    clear HF0
    obtain ⟨k, hk, rfl, HF, hx⟩ := hrel
    by_cases hkn : k < n
    · obtain ⟨b, ob, hz, hA, _, hc⟩ := (HO.out.below hx).at_ stn_len hkn
      have hst := HF.out
      rw [List.drop_eq_getElem_cons hz, stI_cons] at hst
      have hcall := HS1.out sts[k] wr hx
      generalize sts[k] = s at hst hcall hc
      obtain ⟨id, ⟨x, y⟩, re, an, sk⟩ := s
      dsimp only at hst hcall
      have c0 : wr.cell? ⟨b, ob + k * 6, none⟩ = some (.int .i64 id) := hc 0 (by omega)
      have c1 : wr.cell? ⟨b, ob + k * 6 + 1, none⟩ = some (.int .i64 x) := hc 1 (by omega)
      have c2 : wr.cell? ⟨b, ob + k * 6 + 2, none⟩ = some (.int .i64 y) := hc 2 (by omega)
      have c3 : wr.cell? ⟨b, ob + k * 6 + 3, none⟩ = some (.int .i64 re) := hc 3 (by omega)
      have c4 : wr.cell? ⟨b, ob + k * 6 + 4, none⟩ = some (.int .i64 an) := hc 4 (by omega)
      have c5 : wr.cell? ⟨b, ob + k * 6 + 5, none⟩ = some (.int .i64 sk) := hc 5 (by omega)
      have HST := Lib.hid hst
      subst hA
      clear hc hz hst HF
      by_cases hid : id = sta
      · rw [decide_eq_true hid] at hcall
        have HC := Lib.hid hcall
        have hfe : fin = (k : Int) := by rw [HST.out, if_pos hid]
        have HFE := Lib.hid hfe
        clear hfe HST hcall hid
        go_wp2_with fail
        refine HC.out.mono ?_
        rintro e W2 ⟨rfl, hy⟩
        have hx2 := Ext.trans hx hy
        clear HC c0 c1 c2 c3 c4 c5 hy hx
        go_wp2
        go_ret
        exact ⟨by rw [HFE.out]; rfl, hx2⟩
      · rw [decide_eq_false hid] at hcall
        have HC := Lib.hid hcall
        have HN2 : Hid (fin = stI sta (k + 1) (sts.drop (k + 1))) := Lib.hid (by rw [HST.out, if_neg hid])
        clear HST hcall hid
        go_wp2_with fail
        refine HC.out.mono ?_
        rintro e W2 ⟨rfl, hy⟩
        have hx2 := Ext.trans hx hy
        clear HC c0 c1 c2 c3 c4 c5 hy hx
        go_wp2
        go_roundw
        case rel => exact ⟨k + 1, by omega, by go_num, HN2, hx2⟩
        case measure => simp [intOf]; omega
    · have hff : fin = -1 := by rw [HF.out, List.drop_of_length_le (by rw [HO.out.len]; omega)]; rfl
      have HFF := Lib.hid hff
      clear hff HF
      go_wp2
      go_ret
      exact ⟨by rw [HFF.out]; rfl, hx⟩
theorem info_nte : (Try.prog.info? 89).map (fun i => (i.zero, i.size, i.bytes)) = some (some (.agg ((nteCells (⟨0, 0, false⟩ : Nte)).toArray)), 3, 24) := by kernel_rfl
def OwnNt (W : World) (b : Nat) (v : Value) (l : List Nte) : Prop := W.ownsRow b 89 3 v l.length (l.flatMap nteCells)
theorem nte_snoc {w : World} (ty : TypeId) (xs : List Nte) (v : Value) (x : Nte) (base gx : Nat) (jx : Blk w gx 89 (nteCells x).toArray) (hx : OwnNt w base v xs) (hn : xs.length ≤ 900) (hb : base ≤ w.heap.size) :
    ∃ v' w', (Builtin.append_ #[34, 34] ty #[v, .slice (some ⟨gx, 0, none⟩) 1 1]).run Try.prog w = .ok v' w' ∧ w.grownBy w' v.ownBlock ∧ OwnNt w' base v' (xs ++ [x]) := by
  obtain ⟨i0, hi0, hz0, hz1, hz2⟩ := info_parts info_nte
  obtain ⟨v2, W7, hr, hrow2, hg2, -⟩ := run_append_own (P := Try.prog) w base 34 ty 89 i0 _ 3 24 Try.underlying34 hi0 hz0 hz1 hz2 rfl (by omega) _ _ _ hx ⟨gx, 0, none⟩ 1 1 (nteCells x) rfl (by intro i u hu; rw [Addr.add_lit, Nat.zero_add, jx.cell]; simpa using hu) (by simp [nteCells, Value.oneCell']) (by unfold maxLen; omega) (by omega) hb
  refine ⟨v2, W7, hr, hg2, ?_⟩
  unfold OwnNt
  rw [List.length_append, List.flatMap_append]
  simpa using hrow2
theorem info_rcp : (Try.prog.info? 63).map (fun i => (i.zero, i.size, i.bytes)) = some (some (.agg ((rcpCells (⟨0, 0, 0⟩ : Rcp)).toArray)), 3, 24) := by kernel_rfl
def OwnRc (W : World) (b : Nat) (v : Value) (l : List Rcp) : Prop := W.ownsRow b 63 3 v l.length (l.flatMap rcpCells)
theorem rcp_snoc {w : World} (ty : TypeId) (xs : List Rcp) (v : Value) (x : Rcp) (base gx : Nat) (jx : Blk w gx 63 (rcpCells x).toArray) (hx : OwnRc w base v xs) (hn : xs.length ≤ 900) (hb : base ≤ w.heap.size) :
    ∃ v' w', (Builtin.append_ #[33, 33] ty #[v, .slice (some ⟨gx, 0, none⟩) 1 1]).run Try.prog w = .ok v' w' ∧ w.grownBy w' v.ownBlock ∧ OwnRc w' base v' (xs ++ [x]) := by
  obtain ⟨i0, hi0, hz0, hz1, hz2⟩ := info_parts info_rcp
  obtain ⟨v2, W7, hr, hrow2, hg2, -⟩ := run_append_own (P := Try.prog) w base 33 ty 63 i0 _ 3 24 Try.underlying33 hi0 hz0 hz1 hz2 rfl (by omega) _ _ _ hx ⟨gx, 0, none⟩ 1 1 (rcpCells x) rfl (by intro i u hu; rw [Addr.add_lit, Nat.zero_add, jx.cell]; simpa using hu) (by simp [rcpCells, Value.oneCell']) (by unfold maxLen; omega) (by omega) hb
  refine ⟨v2, W7, hr, hg2, ?_⟩
  unfold OwnRc
  rw [List.length_append, List.flatMap_append]
  simpa using hrow2
end Go.Proofs.Ytmlabgmigakcbaa
