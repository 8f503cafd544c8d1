/- The reference: pick, what can be stored. -/
import Derived.Test.YtikphbgfcpamgaaP06
import Derived.Laws.Small
import Derived.Test.YtikphbgfcpamgaaP02
namespace Go.Proofs.Ytikphbgfcpamgaa
open Go.RowKit

theorem isIn_any (n lo hi : Int) (w : World) :
    Calls Try.prog 41 #[.int .i64 n, .int .i64 lo, .int .i64 hi] w fun e w' => e = .returned (.bool (inB n lo hi)) ∧ w = w' := by
  by_cases h1 : lo ≤ n
  · have e : inB n lo hi = decide (n ≤ hi) := by simp [inB, h1]
    rw [e]
    go_enter Try.func41, Try.ntmps41
    go_wp2
    go_ret
    exact ⟨by first | rfl | simp [*], rfl⟩
  · have e : inB n lo hi = false := by simp [inB, h1]
    rw [e]
    go_enter Try.func41, Try.ntmps41
    go_wp2
    go_ret
    exact ⟨rfl, rfl⟩
theorem min_any (n lo hi : Int) (w : World) :
    Calls Try.prog 67 #[.int .i64 n, .int .i64 lo, .int .i64 hi] w fun e w' => e = .returned (.bool (inB n lo hi)) ∧ w = w' := by
  by_cases h1 : lo ≤ n
  · have e : inB n lo hi = decide (n ≤ hi) := by simp [inB, h1]
    rw [e]
    go_enter Try.func67, Try.ntmps67
    go_wp2
    go_ret
    exact ⟨by first | rfl | simp [*], rfl⟩
  · have e : inB n lo hi = false := by simp [inB, h1]
    rw [e]
    go_enter Try.func67, Try.ntmps67
    go_wp2
    go_ret
    exact ⟨rfl, rfl⟩
theorem isSpell_any (a b : Int) (w : World) :
    Calls Try.prog 71 #[.agg #[.int .i64 a, .int .i64 b]] w fun e w' => e = .returned (.bool (spellOK a b)) ∧ Ext w w' := by
  by_cases h1 : 0 ≤ a
  · by_cases h2 : a < b
    · have hs : spellOK a b = decide (b ≤ 1000001) := by simp [spellOK, h1, h2]
      rw [hs]
      clear hs
      go_enter Try.func71, Try.ntmps71
      go_wp2
      go_ret
      exact ⟨by first | rfl | simp [*], (by repeat (first | exact Below.refl _ _ | assumption | refine Below.drew ?_ | refine below_drewN ?_ _ | refine bl_alloc ?_ _ | refine Below.setCell ?_ (by first | (simp; done) | omega | (simp; omega)) _ | refine bl_then ?_ (by assumption)))⟩
    · have hs : spellOK a b = false := by simp [spellOK, h1, h2]
      rw [hs]
      clear hs
      go_enter Try.func71, Try.ntmps71
      go_wp2
      go_ret
      exact ⟨by first | rfl | simp [*], (by repeat (first | exact Below.refl _ _ | assumption | refine Below.drew ?_ | refine below_drewN ?_ _ | refine bl_alloc ?_ _ | refine Below.setCell ?_ (by first | (simp; done) | omega | (simp; omega)) _ | refine bl_then ?_ (by assumption)))⟩
  · have hs : spellOK a b = false := by simp [spellOK, h1]
    rw [hs]
    clear hs
    go_enter Try.func71, Try.ntmps71
    go_wp2
    go_ret
    exact ⟨by first | rfl | simp [*], (by repeat (first | exact Below.refl _ _ | assumption | refine Below.drew ?_ | refine below_drewN ?_ _ | refine bl_alloc ?_ _ | refine Below.setCell ?_ (by first | (simp; done) | omega | (simp; omega)) _ | refine bl_then ?_ (by assumption)))⟩

structure Opt where
  id : Int
  i1 : Int
  i2 : Int
  sat : Int
  sf : Int
  st : Int
  i6 : Int
  size : Int
  a : Option Addr
  n : Nat
  c : Nat
  l : List Slt
def optCells (o : Opt) : List Value := [.int .i64 o.id, .int .i64 o.i1, .int .i64 o.i2, .int .i64 o.sat, .int .i64 o.sf, .int .i64 o.st, .int .i64 o.i6, .int .i64 o.size, .slice o.a o.n o.c]
def Opt.op (o : Opt) : Op := ⟨o.id, o.sat, o.sf, o.st, o.size, o.l⟩
theorem opt_len (x : Opt) : (optCells x).length = 9 := rfl
theorem ra_ext {α : Type} {cells : α → List Value} {s : Nat} {w w' : World} {n c : Nat} {A : Option Addr} {l : List α} (h : RA cells s w w.heap.size A n c l) (hx : Ext w w') : RA cells s w' w'.heap.size A n c l := (h.below hx).more (Below.size hx)
theorem Blk.set2 {w : World} {g : Nat} {t : TypeId} {a0 a1 : Value} (h : Blk w g t #[a0, a1]) (b0 b1 : Value) : Blk ((w.setCell ⟨g, 0, none⟩ b0).setCell ⟨g, 1, none⟩ b1) g t #[b0, b1] := by
  have k := (h.set_ 0 b0).set_ 1 b1
  simp only [List.setIfInBounds_toArray, List.set_cons_zero, List.set_cons_succ] at k
  exact k
abbrev OBlk (W : World) (g : Nat) (id i1 i2 sat sf st i6 size : Int) (a : Option Addr) (n c : Nat) : Prop := Blk W g 27 #[.int .i64 id, .int .i64 i1, .int .i64 i2, .int .i64 sat, .int .i64 sf, .int .i64 st, .int .i64 i6, .int .i64 size, .slice a n c]
set_option maxRecDepth 100000 in
set_option maxHeartbeats 4000000 in
theorem can_any (o : Opt) (w : World) (hr : RA sltCells 3 w w.heap.size o.a o.n o.c o.l) :
    Calls Try.prog 66 #[.agg (optCells o).toArray] w fun e w' => e = .returned (.bool (canP o.op)) ∧ Ext w w' := by
  obtain ⟨id, i1, i2, sat, sf, st, i6, size, a, n, c, l⟩ := o
  dsimp only at hr
  show Calls Try.prog 66 #[.agg #[.int .i64 id, .int .i64 i1, .int .i64 i2, .int .i64 sat, .int .i64 sf, .int .i64 st, .int .i64 i6, .int .i64 size, .slice a n c]] w _
  have hln := hr.len
  have hle := hr.le
  obtain ⟨cv, hcv⟩ : ∃ cv, cv = chainP st l := ⟨_, rfl⟩
  have hc : canP (Opt.op ⟨id, i1, i2, sat, sf, st, i6, size, a, n, c, l⟩) = (cv && inB id 0 63 && inB size 1 1000000 && spellOK sf st && inB (n : Int) 1 6) := by
    rw [hcv]
    unfold canP Opt.op inB
    dsimp only
    rw [hln]
    congr 1
    rw [decide_eq_decide]
    omega
  rw [hc]
  have h1 := fun W => min_any id 0 63 W
  have h2 := fun W => min_any size 1 1000000 W
  have h3 := fun W => isSpell_any sf st W
  have h4 := fun W => min_any (n : Int) 1 6 W
  generalize inB id 0 63 = b1 at h1 ⊢
  generalize inB size 1 1000000 = b2 at h2 ⊢
  generalize spellOK sf st = b3 at h3 ⊢
  generalize inB (n : Int) 1 6 = b4 at h4 ⊢
  have H1 := Lib.hid h1
  have H2 := Lib.hid h2
  have H3 := Lib.hid h3
  have H4 := Lib.hid h4
  clear h1 h2 h3 h4
  have HC0 : Hid (cv = chainP st (l.drop 0)) := Lib.hid hcv
  have HR := Lib.hid hr
  have HLN := Lib.hid hln
  clear hr hln hc hcv
  go_enter Try.func66, Try.ntmps66
  go_wp2
  have J1 : OBlk (w.alloc (.cells #[.int .i64 id, .int .i64 i1, .int .i64 i2, .int .i64 sat, .int .i64 sf, .int .i64 st, .int .i64 i6, .int .i64 size, .slice a n c] 27)) w.heap.size id i1 i2 sat sf st i6 size a n c := Blk.new _ _ _
  have J1 := J1.alloc (.cells #[.int .i64 sf, .int .i64 st] 24)
  have J2 := Blk.new_at (g := w.heap.size + 1) (w.alloc (.cells #[.int .i64 id, .int .i64 i1, .int .i64 i2, .int .i64 sat, .int .i64 sf, .int .i64 st, .int .i64 i6, .int .i64 size, .slice a n c] 27)) 24 #[.int .i64 sf, .int .i64 st] (by simp)
  have hx1 : Ext w ((w.alloc (.cells #[.int .i64 id, .int .i64 i1, .int .i64 i2, .int .i64 sat, .int .i64 sf, .int .i64 st, .int .i64 i6, .int .i64 size, .slice a n c] 27)).alloc (.cells #[.int .i64 sf, .int .i64 st] 24)) := (by repeat (first | exact Below.refl _ _ | assumption | refine Below.drew ?_ | refine below_drewN ?_ _ | refine bl_alloc ?_ _ | refine Below.setCell ?_ (by first | (simp; done) | omega | (simp; omega)) _ | refine bl_then ?_ (by assumption)))
  generalize (w.alloc (.cells #[.int .i64 id, .int .i64 i1, .int .i64 i2, .int .i64 sat, .int .i64 sf, .int .i64 st, .int .i64 i6, .int .i64 size, .slice a n c] 27)).alloc (.cells #[.int .i64 sf, .int .i64 st] 24) = W1 at J1 J2 hx1 ⊢
  obtain ⟨g1, hg1⟩ : ∃ g, g = w.heap.size := ⟨_, rfl⟩
  obtain ⟨g2, hg2⟩ : ∃ g, g = w.heap.size + 1 := ⟨_, rfl⟩
  rw [← hg2] at J2 ⊢
  rw [← hg1] at J1 ⊢
  have hgw : w.heap.size ≤ g2 := by omega
  have hg12 : g1 ≠ g2 := by omega
  clear hg1 hg2
  go_loopw [11] (fun y wr => ∃ (k : Nat) (x e : Int), k ≤ n ∧ y = .int .i64 k ∧ Hid (cv = chainP e (l.drop k)) ∧ Blk wr g2 24 #[.int .i64 x, .int .i64 e] ∧ OBlk wr g1 id i1 i2 sat sf st i6 size a n c ∧ Ext w wr) (fun y _ => n - (intOf y).toNat)
  case atStart => exact ⟨0, _, _, Nat.zero_le _, rfl, HC0, J2, J1, hx1⟩
  case round =>
    clear HC0 J1 J2 hx1
    obtain ⟨k, x, e, hk, rfl, HC, J2, J1, hx⟩ := hrel
    by_cases hkn : k < n
    · obtain ⟨b, o, hz, hA, _, hcell⟩ := (ra_ext HR.out hx).at_ slt_len hkn
      have hcv := HC.out
      rw [List.drop_eq_getElem_cons hz] at hcv
      generalize l[k] = s at hcv hcell
      obtain ⟨p, fr, tt⟩ := s
      simp only [chainP] at hcv
      have c0 : wr.cell? ⟨b, o + k * 3, none⟩ = some (.int .i64 p) := hcell 0 (by omega)
      have c1 : wr.cell? ⟨b, o + k * 3 + 1, none⟩ = some (.int .i64 fr) := hcell 1 (by omega)
      have c2 : wr.cell? ⟨b, o + k * 3 + 2, none⟩ = some (.int .i64 tt) := hcell 2 (by omega)
      have e1 : wr.cell? ⟨g2, 1, none⟩ = some (.int .i64 e) := J2.cell 1
      have HS := fun W => isSpell_any fr tt W
      generalize spellOK fr tt = sp at HS hcv
      have HCV := Lib.hid hcv
      subst hA
      clear hcell hz HC hcv
      go_upto_region 5 with (fail)
      have J3 := Blk.new wr 62 #[.int .i64 p, .int .i64 fr, .int .i64 tt]
      have hy : Ext wr (wr.alloc (.cells #[.int .i64 p, .int .i64 fr, .int .i64 tt] 62)) := bl_alloc (Below.refl _ _) _
      have hg3 : g2 ≠ wr.heap.size := by have := J2.lt; omega
      have J2 := J2.ext hy
      have J1 := J1.ext hy
      have hx2 := Ext.trans hx hy
      have e1 := ext_cell hy e1
      generalize wr.heap.size = g3 at J3 hg3 ⊢
      generalize wr.alloc (.cells #[.int .i64 p, .int .i64 fr, .int .i64 tt] 62) = W2 at J1 J2 J3 hx2 e1 ⊢
      have d0 : W2.cell? ⟨g3, 0, none⟩ = some (.int .i64 p) := J3.cell 0
      have d1 : W2.cell? ⟨g3, 1, none⟩ = some (.int .i64 fr) := J3.cell 1
      have d2 : W2.cell? ⟨g3, 2, none⟩ = some (.int .i64 tt) := J3.cell 2
      clear c0 c1 c2 hy hx
      by_cases hfe : fr < e
      · have HF : Hid (cv = false) := Lib.hid (by rw [HCV.out, decide_eq_false (by omega)]; rfl)
        clear HCV
        go_wp2
        go_ret
        rw [HF.out]
        exact ⟨rfl, hx2⟩
      · cases sp
        · have HF : Hid (cv = false) := Lib.hid (by rw [HCV.out]; simp)
          clear HCV
          go_wp2_with (go_at_call 71; refine (HS _).mono ?_; rintro e' w3 ⟨rfl, hy⟩)
          go_ret
          rw [HF.out]
          exact ⟨rfl, Ext.trans hx2 hy⟩
        · have HF : Hid (cv = chainP tt (l.drop (k + 1))) := Lib.hid (by rw [HCV.out, decide_eq_true (by omega)]; rfl)
          clear HCV
          go_wp2_with (go_at_call 71; refine (HS _).mono ?_; rintro e' w3 ⟨rfl, hy⟩; have d0 := ext_cell hy d0; have d1 := ext_cell hy d1; have d2 := ext_cell hy d2; have J2 := J2.ext hy; have J1 := J1.ext hy; have q0 : w3.cell? ⟨g2, 0, none⟩ = some (.int .i64 x) := J2.cell 0; have q1 : w3.cell? ⟨g2, 1, none⟩ = some (.int .i64 e) := J2.cell 1; have f0 := J2.frozen 0; have f1 := J2.frozen 1)
          go_roundw
          case rel => exact ⟨k + 1, _, _, by omega, by go_num, HF, J2.set2 _ _, (J1.far (by simpa using hg12) _).far (by simpa using hg12) _, ((Ext.trans hx2 hy).setCell (by simpa using hgw) _).setCell (by simpa using hgw) _⟩
          case measure => simp [intOf]; omega
    · have HF : Hid (cv = true) := Lib.hid (by rw [HC.out, List.drop_of_length_le (by rw [HLN.out]; omega)]; rfl)
      have d0 : wr.cell? ⟨g1, 0, none⟩ = some (.int .i64 id) := J1.cell 0
      have d4 : wr.cell? ⟨g1, 4, none⟩ = some (.int .i64 sf) := J1.cell 4
      have d5 : wr.cell? ⟨g1, 5, none⟩ = some (.int .i64 st) := J1.cell 5
      have d7 : wr.cell? ⟨g1, 7, none⟩ = some (.int .i64 size) := J1.cell 7
      have d8 : wr.cell? ⟨g1, 8, none⟩ = some (.slice a n c) := J1.cell 8
      clear HC
      go_wp2_with fail
      refine (H1.out _).mono ?_
      rintro e' w3 ⟨rfl, rfl⟩
      cases b1
      · go_wp2
        go_ret
        rw [HF.out]
        exact ⟨rfl, hx⟩
      go_wp2_with fail
      refine (H2.out _).mono ?_
      rintro e' w3 ⟨rfl, rfl⟩
      cases b2
      · go_wp2
        go_ret
        rw [HF.out]
        exact ⟨rfl, hx⟩
      go_wp2_with fail
      refine (H3.out _).mono ?_
      rintro e' w3 ⟨rfl, hy⟩
      have d8 := ext_cell hy d8
      have hx := Ext.trans hx hy
      cases b3
      · go_wp2
        go_ret
        rw [HF.out]
        exact ⟨rfl, hx⟩
      go_wp2_with fail
      refine (H4.out _).mono ?_
      rintro e' w4 ⟨rfl, rfl⟩
      go_wp2
      go_ret
      rw [HF.out]
      exact ⟨by simp, hx⟩
end Go.Proofs.Ytikphbgfcpamgaa
namespace Go.Proofs.Ytikphbgfcpamgaa
open Go.RowKit

theorem load_blk {P : Program} {w : World} {g : Nat} {t : TypeId} {X : Array Value} (J : Blk w g t X) (d : TypeDesc) (hu : P.underlying t = some d) (hd : d.isRow = true) (hi : (P.info? t).map (·.size) = some X.size) : (loadVar t ⟨g, 0, none⟩).run P w = .ok (.agg X) w :=
  run_loadVar_row w g t t X (0, 0) d J hu (by cases d <;> first | rfl | exact hd) hi
theorem results_rt {P : Program} {fn : Func} {p q : Tmp} {t : TypeId} (h : fn.results = #[.cell p t, .tmp q]) (tmps : Array Value) (w : World) (g : Nat) (X : Array Value) (v : Value) (hp : tmps.getD p undef = .pointer (some ⟨g, 0, none⟩)) (hq : tmps.getD q undef = v) (J : Blk w g t X) (d : TypeDesc) (hu : P.underlying t = some d) (hd : d.isRow = true) (hi : (P.info? t).map (·.size) = some X.size) :
    (results fn tmps).run P w = .ok (.tuple #[.agg X, v]) w := by
  have hl := load_blk J d hu hd hi
  have hp' : tmps[p]?.getD undef = .pointer (some ⟨g, 0, none⟩) := by simpa using hp
  have hq' : tmps[q]?.getD undef = v := by simpa using hq
  simp only [results, h]
  simp [hp', hq', asAddr, hl]
theorem sto_size : (Try.prog.info? 101).map (·.size) = some 4 := by kernel_rfl
def errW (cv : Bool) : Int := if cv then 0 else 110
def WorstRet (ev : Int) (w : World) (e : Ending) (w' : World) : Prop := ∃ s0 s1 s2 s3 : Int, e = .returned (.tuple #[.agg #[.int .i64 s0, .int .i64 s1, .int .i64 s2, .int .i64 s3], .int .i64 ev]) ∧ Ext w w'
set_option maxRecDepth 100000 in
set_option maxHeartbeats 800000 in
theorem freed_any (o : Opt) (w : World) (hr : RA sltCells 3 w w.heap.size o.a o.n o.c o.l) :
    Calls Try.prog 60 #[.agg (optCells o).toArray, .int .i64 ((o.n : Int) - 1)] w (WorstRet (errW (canP o.op)) w) := by
  have HCAN := Lib.hid (fun (W : World) (hx : Ext w W) => can_any o W (ra_ext hr hx))
  have hn0 : canP o.op = true → 0 < o.n := by
    intro h
    have hl := hr.len
    have := can_chain h
    unfold Opt.op at this
    dsimp only at this
    omega
  have hle := hr.le
  obtain ⟨id, i1, i2, sat, sf, st, i6, size, a, n, c, l⟩ := o
  dsimp only at hr hn0 hle
  generalize canP (Opt.op ⟨id, i1, i2, sat, sf, st, i6, size, a, n, c, l⟩) = cv at HCAN hn0 ⊢
  change Hid (∀ (W : World), Ext w W → Calls Try.prog 66 #[.agg #[.int .i64 id, .int .i64 i1, .int .i64 i2, .int .i64 sat, .int .i64 sf, .int .i64 st, .int .i64 i6, .int .i64 size, .slice a n c]] W fun e w' => e = .returned (.bool cv) ∧ Ext W w') at HCAN
  show Calls Try.prog 60 #[.agg #[.int .i64 id, .int .i64 i1, .int .i64 i2, .int .i64 sat, .int .i64 sf, .int .i64 st, .int .i64 i6, .int .i64 size, .slice a n c], .int .i64 ((n : Int) - 1)] w _
  have hw1 : IntKind.i64.wrap ((n : Int) - 1) = (n : Int) - 1 := IntWalk.i64_in _ (by omega)
  cases cv
  · clear hr hn0 hle
    show Calls _ _ _ _ (WorstRet 110 w)
    go_enter Try.func60, Try.ntmps60
    go_wp2_with fail
    have J1 : OBlk (w.alloc (.cells #[.int .i64 id, .int .i64 i1, .int .i64 i2, .int .i64 sat, .int .i64 sf, .int .i64 st, .int .i64 i6, .int .i64 size, .slice a n c] 27)) w.heap.size id i1 i2 sat sf st i6 size a n c := Blk.new _ _ _
    have J1 := J1.alloc (.cells #[.int .i64 0, .int .i64 0, .int .i64 0, .int .i64 0] 101)
    have J2 := Blk.new_at (g := w.heap.size + 1) (w.alloc (.cells #[.int .i64 id, .int .i64 i1, .int .i64 i2, .int .i64 sat, .int .i64 sf, .int .i64 st, .int .i64 i6, .int .i64 size, .slice a n c] 27)) 101 #[.int .i64 0, .int .i64 0, .int .i64 0, .int .i64 0] (by simp)
    have hx1 : Ext w ((w.alloc (.cells #[.int .i64 id, .int .i64 i1, .int .i64 i2, .int .i64 sat, .int .i64 sf, .int .i64 st, .int .i64 i6, .int .i64 size, .slice a n c] 27)).alloc (.cells #[.int .i64 0, .int .i64 0, .int .i64 0, .int .i64 0] 101)) := (by repeat (first | exact Below.refl _ _ | assumption | refine Below.drew ?_ | refine below_drewN ?_ _ | refine bl_alloc ?_ _ | refine Below.setCell ?_ (by first | (simp; done) | omega | (simp; omega)) _ | refine bl_then ?_ (by assumption)))
    generalize (w.alloc (.cells #[.int .i64 id, .int .i64 i1, .int .i64 i2, .int .i64 sat, .int .i64 sf, .int .i64 st, .int .i64 i6, .int .i64 size, .slice a n c] 27)).alloc (.cells #[.int .i64 0, .int .i64 0, .int .i64 0, .int .i64 0] 101) = W1 at J1 J2 hx1 ⊢
    have hgw : w.heap.size ≤ w.heap.size + 1 := by omega
    have hc := HCAN.out _ hx1
    clear HCAN
    refine hc.mono ?_
    clear hc
    rintro e w3 ⟨rfl, hy⟩
    have hx := Ext.trans hx1 hy
    have J1 := J1.ext hy
    have J2 := J2.ext hy
    generalize w.heap.size + 1 = g2 at J2 hgw ⊢
    generalize hg1 : w.heap.size = g1 at J1 hgw ⊢
    have HG1 := Lib.hid hg1
    have q0 : w3.cell? ⟨g2, 0, none⟩ = some (.int .i64 0) := J2.cell 0
    have q1 : w3.cell? ⟨g2, 1, none⟩ = some (.int .i64 0) := J2.cell 1
    have q2 : w3.cell? ⟨g2, 2, none⟩ = some (.int .i64 0) := J2.cell 2
    have q3 : w3.cell? ⟨g2, 3, none⟩ = some (.int .i64 0) := J2.cell 3
    have f0 := J2.frozen 0
    have f1 := J2.frozen 1
    have f2 := J2.frozen 2
    have f3 := J2.frozen 3
    clear hy hx1 hg1
    go_wp2
    have hx3 : Ext w ((((w3.setCell ⟨g2, 0, none⟩ (.int .i64 0)).setCell ⟨g2, 1, none⟩ (.int .i64 0)).setCell ⟨g2, 2, none⟩ (.int .i64 0)).setCell ⟨g2, 3, none⟩ (.int .i64 0)) := by
      have := HG1.out
      subst this
      exact (((hx.setCell hgw _).setCell hgw _).setCell hgw _).setCell hgw _
    exact bodyPost_ret (results_rt Try.results60 _ _ g2 _ _ rfl rfl (J2.set4 (.int .i64 0) (.int .i64 0) (.int .i64 0) (.int .i64 0)) _ Try.underlying101 rfl sto_size) rfl ⟨_, _, _, _, rfl, hx3⟩
  · show Calls _ _ _ _ (WorstRet 0 w)
    obtain ⟨k, hk⟩ : ∃ k : Nat, (n : Int) - 1 = (k : Int) := ⟨n - 1, by have := hn0 rfl; omega⟩
    have hkn : k < n := by omega
    obtain ⟨b, off, hz, hA, _, hcell⟩ := hr.at_ slt_len hkn
    have HB := Lib.hid (fun W => min_any (k : Int) 0 (k : Int) W)
    rw [inB_iff.2 (show 0 ≤ (k : Int) ∧ (k : Int) ≤ (k : Int) by omega)] at HB
    generalize l[k] = s at hcell
    obtain ⟨p, fr, tt⟩ := s
    have c2 : w.cell? ⟨b, off + k * 3 + 2, none⟩ = some (.int .i64 tt) := hcell 2 (by omega)
    have c1 : w.cell? ⟨b, off + k * 3 + 1, none⟩ = some (.int .i64 fr) := hcell 1 (by omega)
    have c0 : w.cell? ⟨b, off + k * 3, none⟩ = some (.int .i64 p) := hcell 0 (by omega)
    have hk2 : (k : Int) < (n : Int) := by omega
    replace hw1 : IntKind.i64.wrap ((n : Int) - 1) = (k : Int) := hw1.trans hk
    rw [hk]
    subst hA
    clear hr hcell hz hk hn0 hle
    go_enter Try.func60, Try.ntmps60
    go_wp2_with fail
    have J1 : OBlk (w.alloc (.cells #[.int .i64 id, .int .i64 i1, .int .i64 i2, .int .i64 sat, .int .i64 sf, .int .i64 st, .int .i64 i6, .int .i64 size, .slice (some ⟨b, off, none⟩) n c] 27)) w.heap.size id i1 i2 sat sf st i6 size (some ⟨b, off, none⟩) n c := Blk.new _ _ _
    have J1 := J1.alloc (.cells #[.int .i64 0, .int .i64 0, .int .i64 0, .int .i64 0] 101)
    have J2 := Blk.new_at (g := w.heap.size + 1) (w.alloc (.cells #[.int .i64 id, .int .i64 i1, .int .i64 i2, .int .i64 sat, .int .i64 sf, .int .i64 st, .int .i64 i6, .int .i64 size, .slice (some ⟨b, off, none⟩) n c] 27)) 101 #[.int .i64 0, .int .i64 0, .int .i64 0, .int .i64 0] (by simp)
    have hx1 : Ext w ((w.alloc (.cells #[.int .i64 id, .int .i64 i1, .int .i64 i2, .int .i64 sat, .int .i64 sf, .int .i64 st, .int .i64 i6, .int .i64 size, .slice (some ⟨b, off, none⟩) n c] 27)).alloc (.cells #[.int .i64 0, .int .i64 0, .int .i64 0, .int .i64 0] 101)) := (by repeat (first | exact Below.refl _ _ | assumption | refine Below.drew ?_ | refine below_drewN ?_ _ | refine bl_alloc ?_ _ | refine Below.setCell ?_ (by first | (simp; done) | omega | (simp; omega)) _ | refine bl_then ?_ (by assumption)))
    generalize (w.alloc (.cells #[.int .i64 id, .int .i64 i1, .int .i64 i2, .int .i64 sat, .int .i64 sf, .int .i64 st, .int .i64 i6, .int .i64 size, .slice (some ⟨b, off, none⟩) n c] 27)).alloc (.cells #[.int .i64 0, .int .i64 0, .int .i64 0, .int .i64 0] 101) = W1 at J1 J2 hx1 ⊢
    have hgw : w.heap.size ≤ w.heap.size + 1 := by omega
    have hc := HCAN.out _ hx1
    clear HCAN
    refine hc.mono ?_
    clear hc
    rintro e w3 ⟨rfl, hy⟩
    have hx := Ext.trans hx1 hy
    have J1 := J1.ext hy
    have J2 := J2.ext hy
    generalize w.heap.size + 1 = g2 at J2 hgw ⊢
    generalize hg1 : w.heap.size = g1 at J1 hgw ⊢
    have HG1 := Lib.hid hg1
    have q0 : w3.cell? ⟨g2, 0, none⟩ = some (.int .i64 0) := J2.cell 0
    have q1 : w3.cell? ⟨g2, 1, none⟩ = some (.int .i64 0) := J2.cell 1
    have q2 : w3.cell? ⟨g2, 2, none⟩ = some (.int .i64 0) := J2.cell 2
    have q3 : w3.cell? ⟨g2, 3, none⟩ = some (.int .i64 0) := J2.cell 3
    have f0 := J2.frozen 0
    have f1 := J2.frozen 1
    have f2 := J2.frozen 2
    have f3 := J2.frozen 3
    clear hy hx1 hg1
    have c0 := ext_cell hx c0
    have c1 := ext_cell hx c1
    have c2 := ext_cell hx c2
    have d0 : w3.cell? ⟨g1, 0, none⟩ = some (.int .i64 id) := J1.cell 0
    have d4 : w3.cell? ⟨g1, 4, none⟩ = some (.int .i64 sf) := J1.cell 4
    have d6 : w3.cell? ⟨g1, 7, none⟩ = some (.int .i64 size) := J1.cell 7
    have d8 : w3.cell? ⟨g1, 8, none⟩ = some (.slice (some ⟨b, off, none⟩) n c) := J1.cell 8
    go_wp2_with fail
    refine (HB.out _).mono ?_
    rintro e w4 ⟨rfl, rfl⟩
    go_wp2_with fail
    go_region
    have J3 := J2.set4 (.int .i64 id) (.int .i64 size) (.int .i64 sf) (.int .i64 tt)
    have hx3 : Ext w ((((w3.setCell ⟨g2, 0, none⟩ (.int .i64 id)).setCell ⟨g2, 1, none⟩ (.int .i64 size)).setCell ⟨g2, 2, none⟩ (.int .i64 sf)).setCell ⟨g2, 3, none⟩ (.int .i64 tt)).drew := by
      have := HG1.out
      subst this
      exact ((((hx.setCell hgw _).setCell hgw _).setCell hgw _).setCell hgw _).drew
    generalize (((w3.setCell ⟨g2, 0, none⟩ (.int .i64 id)).setCell ⟨g2, 1, none⟩ (.int .i64 size)).setCell ⟨g2, 2, none⟩ (.int .i64 sf)).setCell ⟨g2, 3, none⟩ (.int .i64 tt) = W5 at J3 hx3 ⊢
    have J3 := J3.drew
    generalize W5.drew = W6 at J3 hx3 ⊢
    go_wp2
    exact bodyPost_ret (results_rt Try.results60 _ _ g2 _ _ rfl rfl J3 _ Try.underlying101 rfl sto_size) rfl ⟨_, _, _, _, rfl, hx3⟩
set_option maxRecDepth 100000 in
set_option maxHeartbeats 800000 in
theorem worst_any (o : Opt) (w : World) (hr : RA sltCells 3 w w.heap.size o.a o.n o.c o.l) :
    Calls Try.prog 51 #[.agg (optCells o).toArray] w (WorstRet (errW (canP o.op)) w) := by
  have hle := hr.le
  have HFR := Lib.hid (fun (W : World) (hx : Ext w W) => freed_any o W (ra_ext hr hx))
  obtain ⟨id, i1, i2, sat, sf, st, i6, size, a, n, c, l⟩ := o
  dsimp only at hle
  generalize errW (canP (Opt.op ⟨id, i1, i2, sat, sf, st, i6, size, a, n, c, l⟩)) = ev at HFR ⊢
  change Hid (∀ (W : World), Ext w W → Calls Try.prog 60 #[.agg #[.int .i64 id, .int .i64 i1, .int .i64 i2, .int .i64 sat, .int .i64 sf, .int .i64 st, .int .i64 i6, .int .i64 size, .slice a n c], .int .i64 ((n : Int) - 1)] W (WorstRet ev W)) at HFR
  show Calls Try.prog 51 #[.agg #[.int .i64 id, .int .i64 i1, .int .i64 i2, .int .i64 sat, .int .i64 sf, .int .i64 st, .int .i64 i6, .int .i64 size, .slice a n c]] w _
  have hw1 : IntKind.i64.wrap ((n : Int) - 1) = (n : Int) - 1 := IntWalk.i64_in _ (by omega)
  clear hr hle
  go_enter Try.func51, Try.ntmps51
  go_wp2_with fail
  have J1 : OBlk (w.alloc (.cells #[.int .i64 id, .int .i64 i1, .int .i64 i2, .int .i64 sat, .int .i64 sf, .int .i64 st, .int .i64 i6, .int .i64 size, .slice a n c] 27)) w.heap.size id i1 i2 sat sf st i6 size a n c := Blk.new _ _ _
  have J1 := J1.alloc (.cells #[.int .i64 0, .int .i64 0, .int .i64 0, .int .i64 0] 101)
  have J2 := Blk.new_at (g := w.heap.size + 1) (w.alloc (.cells #[.int .i64 id, .int .i64 i1, .int .i64 i2, .int .i64 sat, .int .i64 sf, .int .i64 st, .int .i64 i6, .int .i64 size, .slice a n c] 27)) 101 #[.int .i64 0, .int .i64 0, .int .i64 0, .int .i64 0] (by simp)
  have hx1 : Ext w ((w.alloc (.cells #[.int .i64 id, .int .i64 i1, .int .i64 i2, .int .i64 sat, .int .i64 sf, .int .i64 st, .int .i64 i6, .int .i64 size, .slice a n c] 27)).alloc (.cells #[.int .i64 0, .int .i64 0, .int .i64 0, .int .i64 0] 101)) := (by repeat (first | exact Below.refl _ _ | assumption | refine Below.drew ?_ | refine below_drewN ?_ _ | refine bl_alloc ?_ _ | refine Below.setCell ?_ (by first | (simp; done) | omega | (simp; omega)) _ | refine bl_then ?_ (by assumption)))
  generalize (w.alloc (.cells #[.int .i64 id, .int .i64 i1, .int .i64 i2, .int .i64 sat, .int .i64 sf, .int .i64 st, .int .i64 i6, .int .i64 size, .slice a n c] 27)).alloc (.cells #[.int .i64 0, .int .i64 0, .int .i64 0, .int .i64 0] 101) = W1 at J1 J2 hx1 ⊢
  have hgw : w.heap.size ≤ w.heap.size + 1 := by omega
  have hc := HFR.out _ hx1
  clear HFR
  refine hc.mono ?_
  clear hc
  rintro e w3 ⟨s0, s1, s2, s3, rfl, hy⟩
  have hx := Ext.trans hx1 hy
  have J2 := J2.ext hy
  generalize w.heap.size + 1 = g2 at J2 hgw ⊢
  have q0 : w3.cell? ⟨g2, 0, none⟩ = some (.int .i64 0) := J2.cell 0
  have q1 : w3.cell? ⟨g2, 1, none⟩ = some (.int .i64 0) := J2.cell 1
  have q2 : w3.cell? ⟨g2, 2, none⟩ = some (.int .i64 0) := J2.cell 2
  have q3 : w3.cell? ⟨g2, 3, none⟩ = some (.int .i64 0) := J2.cell 3
  have f0 := J2.frozen 0
  have f1 := J2.frozen 1
  have f2 := J2.frozen 2
  have f3 := J2.frozen 3
  clear hy hx1
  go_wp2
  have hx3 : Ext w ((((w3.setCell ⟨g2, 0, none⟩ (.int .i64 s0)).setCell ⟨g2, 1, none⟩ (.int .i64 s1)).setCell ⟨g2, 2, none⟩ (.int .i64 s2)).setCell ⟨g2, 3, none⟩ (.int .i64 s3)) := (((hx.setCell hgw _).setCell hgw _).setCell hgw _).setCell hgw _
  exact bodyPost_ret (results_rt Try.results51 _ _ g2 _ _ rfl rfl (J2.set4 (.int .i64 s0) (.int .i64 s1) (.int .i64 s2) (.int .i64 s3)) _ Try.underlying101 rfl sto_size) rfl ⟨_, _, _, _, rfl, hx3⟩
end Go.Proofs.Ytikphbgfcpamgaa
namespace Go.Proofs.Ytikphbgfcpamgaa
open Go.RowKit

theorem pickP_bd (c n : Int) (hn : 0 < n) : 0 ≤ pickP c n ∧ pickP c n < n := ⟨Int.emod_nonneg _ (by omega), Int.emod_lt_of_pos _ hn⟩
theorem pick11_any (c n : Int) (w : World) (h1 : -9223372036854775808 ≤ c) (h2 : c ≤ 9223372036854775807) (hn : 0 < n) (hn2 : n ≤ 2000000) :
    Calls Try.prog 49 #[.int .i64 c, .int .i64 n] w fun e w' => e = .returned (.int .i64 (pickP c n)) ∧ w = w' := by
  have hn0 : ¬ n = 0 := by omega
  have hn1 : (n == 0) = false := by simp; omega
  by_cases hc : c < 0
  · have hp : pickP c n = -((c + 1).tmod n) := by unfold pickP; rw [if_pos hc, ← Int.tmod_eq_emod_of_nonneg (by omega), Int.neg_tmod]
    have hb := pickP_bd c n hn
    rw [hp] at hb ⊢
    have hb1 := hb.1
    have hb2 := hb.2
    clear hb hp
    go_enter Try.func49, Try.ntmps49
    go_wp2
    go_ret
    exact ⟨rfl, rfl⟩
  · have hp : pickP c n = c % n := by unfold pickP; rw [if_neg hc]
    have hb := pickP_bd c n hn
    rw [hp] at hb ⊢
    have hb1 := hb.1
    have hb2 := hb.2
    clear hb hp
    go_enter Try.func49, Try.ntmps49
    go_wp2
    go_ret
    exact ⟨rfl, rfl⟩
theorem pick20_any (c n : Int) (w : World) (h1 : -9223372036854775808 ≤ c) (h2 : c ≤ 9223372036854775807) (hn : 0 < n) (hn2 : n ≤ 2000000) :
    Calls Try.prog 34 #[.int .i64 c, .int .i64 n] w fun e w' => e = .returned (.int .i64 (pickP c n)) ∧ w = w' := by
  have hn0 : ¬ n = 0 := by omega
  have hn1 : (n == 0) = false := by simp; omega
  by_cases hc : c < 0
  · have hp : pickP c n = -((c + 1).tmod n) := by unfold pickP; rw [if_pos hc, ← Int.tmod_eq_emod_of_nonneg (by omega), Int.neg_tmod]
    have hb := pickP_bd c n hn
    rw [hp] at hb ⊢
    have hb1 := hb.1
    have hb2 := hb.2
    clear hb hp
    go_enter Try.func34, Try.ntmps34
    go_wp2
    go_ret
    exact ⟨rfl, rfl⟩
  · have hp : pickP c n = c % n := by unfold pickP; rw [if_neg hc]
    have hb := pickP_bd c n hn
    rw [hp] at hb ⊢
    have hb1 := hb.1
    have hb2 := hb.2
    clear hb hp
    go_enter Try.func34, Try.ntmps34
    go_wp2
    go_ret
    exact ⟨rfl, rfl⟩
theorem pickl_any (c n : Int) (w : World) (h1 : -9223372036854775808 ≤ c) (h2 : c ≤ 9223372036854775807) (hn : 0 < n) (hn2 : n ≤ 2000000) :
    Calls Try.prog 12 #[.int .i64 c, .int .i64 n] w fun e w' => e = .returned (.int .i64 (pickP c n)) ∧ w = w' := by
  have hn0 : ¬ n = 0 := by omega
  have hn1 : (n == 0) = false := by simp; omega
  by_cases hc : c < 0
  · have hp : pickP c n = -((c + 1).tmod n) := by unfold pickP; rw [if_pos hc, ← Int.tmod_eq_emod_of_nonneg (by omega), Int.neg_tmod]
    have hb := pickP_bd c n hn
    rw [hp] at hb ⊢
    have hb1 := hb.1
    have hb2 := hb.2
    clear hb hp
    go_enter Try.func12, Try.ntmps12
    go_wp2
    go_ret
    exact ⟨rfl, rfl⟩
  · have hp : pickP c n = c % n := by unfold pickP; rw [if_neg hc]
    have hb := pickP_bd c n hn
    rw [hp] at hb ⊢
    have hb1 := hb.1
    have hb2 := hb.2
    clear hb hp
    go_enter Try.func12, Try.ntmps12
    go_wp2
    go_ret
    exact ⟨rfl, rfl⟩
theorem proper_any (a b : Int) (w : World) :
    Calls Try.prog 70 #[.agg #[.int .i64 a, .int .i64 b]] w fun e w' => e = .returned (.bool (spellOK a b)) ∧ Ext w w' := by
  by_cases h1 : 0 ≤ a
  · by_cases h2 : a < b
    · have hs : spellOK a b = decide (b ≤ 1000001) := by simp [spellOK, h1, h2]
      rw [hs]
      clear hs
      go_enter Try.func70, Try.ntmps70
      go_wp2
      go_ret
      exact ⟨by first | rfl | simp [*], (by repeat (first | exact Below.refl _ _ | assumption | refine Below.drew ?_ | refine below_drewN ?_ _ | refine bl_alloc ?_ _ | refine Below.setCell ?_ (by first | (simp; done) | omega | (simp; omega)) _ | refine bl_then ?_ (by assumption)))⟩
    · have hs : spellOK a b = false := by simp [spellOK, h1, h2]
      rw [hs]
      clear hs
      go_enter Try.func70, Try.ntmps70
      go_wp2
      go_ret
      exact ⟨by first | rfl | simp [*], (by repeat (first | exact Below.refl _ _ | assumption | refine Below.drew ?_ | refine below_drewN ?_ _ | refine bl_alloc ?_ _ | refine Below.setCell ?_ (by first | (simp; done) | omega | (simp; omega)) _ | refine bl_then ?_ (by assumption)))⟩
  · have hs : spellOK a b = false := by simp [spellOK, h1]
    rw [hs]
    clear hs
    go_enter Try.func70, Try.ntmps70
    go_wp2
    go_ret
    exact ⟨by first | rfl | simp [*], (by repeat (first | exact Below.refl _ _ | assumption | refine Below.drew ?_ | refine below_drewN ?_ _ | refine bl_alloc ?_ _ | refine Below.setCell ?_ (by first | (simp; done) | omega | (simp; omega)) _ | refine bl_then ?_ (by assumption)))⟩
set_option maxRecDepth 100000 in
set_option maxHeartbeats 4000000 in
theorem rcan_any (o : Opt) (w : World) (hr : RA sltCells 3 w w.heap.size o.a o.n o.c o.l) :
    Calls Try.prog 65 #[.agg (optCells o).toArray] w fun e w' => e = .returned (.bool (canP o.op)) ∧ Ext w w' := by
  obtain ⟨id, i1, i2, sat, sf, st, i6, size, a, n, c, l⟩ := o
  dsimp only at hr
  show Calls Try.prog 65 #[.agg #[.int .i64 id, .int .i64 i1, .int .i64 i2, .int .i64 sat, .int .i64 sf, .int .i64 st, .int .i64 i6, .int .i64 size, .slice a n c]] w _
  have hln := hr.len
  have hle := hr.le
  obtain ⟨cv, hcv⟩ : ∃ cv, cv = chainP st l := ⟨_, rfl⟩
  obtain ⟨cb, hcb⟩ : ∃ cb, cb = canP (Opt.op ⟨id, i1, i2, sat, sf, st, i6, size, a, n, c, l⟩) := ⟨_, rfl⟩
  have hc : cb = (cv && inB id 0 63 && inB size 1 1000000 && spellOK sf st && inB (n : Int) 1 6) := by
    rw [hcb, hcv]
    unfold canP Opt.op inB
    dsimp only
    rw [hln]
    congr 1
    rw [decide_eq_decide]
    omega
  rw [← hcb]
  have hst : spellOK sf st = true → 0 ≤ st := fun h => by simp [spellOK] at h; omega
  have h3 := fun W => proper_any sf st W
  generalize spellOK sf st = b3 at h3 hc hst
  have H3 := Lib.hid h3
  have HCB := Lib.hid hc
  have HST := Lib.hid hst
  have HC0 : Hid (cv = chainP st (l.drop 0)) := Lib.hid hcv
  have HR := Lib.hid hr
  have HLN := Lib.hid hln
  clear hr hln hc hcv hcb h3 hst
  by_cases k1 : id < 0
  · have k1' : ¬ 0 ≤ id := by omega
    obtain rfl : cb = false := by simp [HCB.out, inB, *]
    clear HCB
    go_enter Try.func65, Try.ntmps65
    go_upto_region 1 with (fail)
    have J1 : OBlk (w.alloc (.cells #[.int .i64 id, .int .i64 i1, .int .i64 i2, .int .i64 sat, .int .i64 sf, .int .i64 st, .int .i64 i6, .int .i64 size, .slice a n c] 27)) w.heap.size id i1 i2 sat sf st i6 size a n c := Blk.new _ _ _
    have hx1 : Ext w (w.alloc (.cells #[.int .i64 id, .int .i64 i1, .int .i64 i2, .int .i64 sat, .int .i64 sf, .int .i64 st, .int .i64 i6, .int .i64 size, .slice a n c] 27)) := bl_alloc (Below.refl _ _) _
    generalize w.alloc (.cells #[.int .i64 id, .int .i64 i1, .int .i64 i2, .int .i64 sat, .int .i64 sf, .int .i64 st, .int .i64 i6, .int .i64 size, .slice a n c] 27) = W1 at J1 hx1 ⊢
    generalize w.heap.size = g1 at J1 ⊢
    have q0 : W1.cell? ⟨g1, 0, none⟩ = some (.int .i64 id) := J1.cell 0
    have q4 : W1.cell? ⟨g1, 4, none⟩ = some (.int .i64 sf) := J1.cell 4
    have q5 : W1.cell? ⟨g1, 5, none⟩ = some (.int .i64 st) := J1.cell 5
    have q7 : W1.cell? ⟨g1, 7, none⟩ = some (.int .i64 size) := J1.cell 7
    have q8 : W1.cell? ⟨g1, 8, none⟩ = some (.slice a n c) := J1.cell 8
    go_wp2
    go_ret
    exact ⟨rfl, hx1⟩
  by_cases k2 : 63 < id
  · have k2' : ¬ id ≤ 63 := by omega
    obtain rfl : cb = false := by simp [HCB.out, inB, *]
    clear HCB
    go_enter Try.func65, Try.ntmps65
    go_upto_region 1 with (fail)
    have J1 : OBlk (w.alloc (.cells #[.int .i64 id, .int .i64 i1, .int .i64 i2, .int .i64 sat, .int .i64 sf, .int .i64 st, .int .i64 i6, .int .i64 size, .slice a n c] 27)) w.heap.size id i1 i2 sat sf st i6 size a n c := Blk.new _ _ _
    have hx1 : Ext w (w.alloc (.cells #[.int .i64 id, .int .i64 i1, .int .i64 i2, .int .i64 sat, .int .i64 sf, .int .i64 st, .int .i64 i6, .int .i64 size, .slice a n c] 27)) := bl_alloc (Below.refl _ _) _
    generalize w.alloc (.cells #[.int .i64 id, .int .i64 i1, .int .i64 i2, .int .i64 sat, .int .i64 sf, .int .i64 st, .int .i64 i6, .int .i64 size, .slice a n c] 27) = W1 at J1 hx1 ⊢
    generalize w.heap.size = g1 at J1 ⊢
    have q0 : W1.cell? ⟨g1, 0, none⟩ = some (.int .i64 id) := J1.cell 0
    have q4 : W1.cell? ⟨g1, 4, none⟩ = some (.int .i64 sf) := J1.cell 4
    have q5 : W1.cell? ⟨g1, 5, none⟩ = some (.int .i64 st) := J1.cell 5
    have q7 : W1.cell? ⟨g1, 7, none⟩ = some (.int .i64 size) := J1.cell 7
    have q8 : W1.cell? ⟨g1, 8, none⟩ = some (.slice a n c) := J1.cell 8
    go_wp2
    go_ret
    exact ⟨rfl, hx1⟩
  by_cases k3 : size < 1
  · have k3' : ¬ 1 ≤ size := by omega
    obtain rfl : cb = false := by simp [HCB.out, inB, *]
    clear HCB
    go_enter Try.func65, Try.ntmps65
    go_upto_region 1 with (fail)
    have J1 : OBlk (w.alloc (.cells #[.int .i64 id, .int .i64 i1, .int .i64 i2, .int .i64 sat, .int .i64 sf, .int .i64 st, .int .i64 i6, .int .i64 size, .slice a n c] 27)) w.heap.size id i1 i2 sat sf st i6 size a n c := Blk.new _ _ _
    have hx1 : Ext w (w.alloc (.cells #[.int .i64 id, .int .i64 i1, .int .i64 i2, .int .i64 sat, .int .i64 sf, .int .i64 st, .int .i64 i6, .int .i64 size, .slice a n c] 27)) := bl_alloc (Below.refl _ _) _
    generalize w.alloc (.cells #[.int .i64 id, .int .i64 i1, .int .i64 i2, .int .i64 sat, .int .i64 sf, .int .i64 st, .int .i64 i6, .int .i64 size, .slice a n c] 27) = W1 at J1 hx1 ⊢
    generalize w.heap.size = g1 at J1 ⊢
    have q0 : W1.cell? ⟨g1, 0, none⟩ = some (.int .i64 id) := J1.cell 0
    have q4 : W1.cell? ⟨g1, 4, none⟩ = some (.int .i64 sf) := J1.cell 4
    have q5 : W1.cell? ⟨g1, 5, none⟩ = some (.int .i64 st) := J1.cell 5
    have q7 : W1.cell? ⟨g1, 7, none⟩ = some (.int .i64 size) := J1.cell 7
    have q8 : W1.cell? ⟨g1, 8, none⟩ = some (.slice a n c) := J1.cell 8
    go_wp2
    go_ret
    exact ⟨rfl, hx1⟩
  by_cases k4 : 1000000 < size
  · have k4' : ¬ size ≤ 1000000 := by omega
    obtain rfl : cb = false := by simp [HCB.out, inB, *]
    clear HCB
    go_enter Try.func65, Try.ntmps65
    go_upto_region 1 with (fail)
    have J1 : OBlk (w.alloc (.cells #[.int .i64 id, .int .i64 i1, .int .i64 i2, .int .i64 sat, .int .i64 sf, .int .i64 st, .int .i64 i6, .int .i64 size, .slice a n c] 27)) w.heap.size id i1 i2 sat sf st i6 size a n c := Blk.new _ _ _
    have hx1 : Ext w (w.alloc (.cells #[.int .i64 id, .int .i64 i1, .int .i64 i2, .int .i64 sat, .int .i64 sf, .int .i64 st, .int .i64 i6, .int .i64 size, .slice a n c] 27)) := bl_alloc (Below.refl _ _) _
    generalize w.alloc (.cells #[.int .i64 id, .int .i64 i1, .int .i64 i2, .int .i64 sat, .int .i64 sf, .int .i64 st, .int .i64 i6, .int .i64 size, .slice a n c] 27) = W1 at J1 hx1 ⊢
    generalize w.heap.size = g1 at J1 ⊢
    have q0 : W1.cell? ⟨g1, 0, none⟩ = some (.int .i64 id) := J1.cell 0
    have q4 : W1.cell? ⟨g1, 4, none⟩ = some (.int .i64 sf) := J1.cell 4
    have q5 : W1.cell? ⟨g1, 5, none⟩ = some (.int .i64 st) := J1.cell 5
    have q7 : W1.cell? ⟨g1, 7, none⟩ = some (.int .i64 size) := J1.cell 7
    have q8 : W1.cell? ⟨g1, 8, none⟩ = some (.slice a n c) := J1.cell 8
    go_wp2
    go_ret
    exact ⟨rfl, hx1⟩
  go_enter Try.func65, Try.ntmps65
  go_upto_region 1 with (fail)
  have J1 : OBlk (w.alloc (.cells #[.int .i64 id, .int .i64 i1, .int .i64 i2, .int .i64 sat, .int .i64 sf, .int .i64 st, .int .i64 i6, .int .i64 size, .slice a n c] 27)) w.heap.size id i1 i2 sat sf st i6 size a n c := Blk.new _ _ _
  have hx1 : Ext w (w.alloc (.cells #[.int .i64 id, .int .i64 i1, .int .i64 i2, .int .i64 sat, .int .i64 sf, .int .i64 st, .int .i64 i6, .int .i64 size, .slice a n c] 27)) := bl_alloc (Below.refl _ _) _
  generalize w.alloc (.cells #[.int .i64 id, .int .i64 i1, .int .i64 i2, .int .i64 sat, .int .i64 sf, .int .i64 st, .int .i64 i6, .int .i64 size, .slice a n c] 27) = W1 at J1 hx1 ⊢
  generalize w.heap.size = g1 at J1 ⊢
  have q0 : W1.cell? ⟨g1, 0, none⟩ = some (.int .i64 id) := J1.cell 0
  have q4 : W1.cell? ⟨g1, 4, none⟩ = some (.int .i64 sf) := J1.cell 4
  have q5 : W1.cell? ⟨g1, 5, none⟩ = some (.int .i64 st) := J1.cell 5
  have q7 : W1.cell? ⟨g1, 7, none⟩ = some (.int .i64 size) := J1.cell 7
  have q8 : W1.cell? ⟨g1, 8, none⟩ = some (.slice a n c) := J1.cell 8
  go_wp2_with fail
  refine (H3.out _).mono ?_
  rintro e W2 ⟨rfl, hy⟩
  have hx2 := Ext.trans hx1 hy
  have J2 := J1.ext hy
  have q5 := ext_cell hy q5
  have q8 := ext_cell hy q8
  clear hx1 hy J1 q0 q4 q7 H3
  cases b3
  · obtain rfl : cb = false := by rw [HCB.out]; simp
    go_wp2
    go_ret
    exact ⟨rfl, hx2⟩
  have hst0 := HST.out rfl
  by_cases k5 : (n : Int) < 1
  · obtain rfl : cb = false := by rw [HCB.out, show inB (n : Int) 1 6 = false from by simp [inB]; omega]; simp
    go_wp2
    go_ret
    exact ⟨rfl, hx2⟩
  by_cases k6 : 6 < (n : Int)
  · obtain rfl : cb = false := by rw [HCB.out, show inB (n : Int) 1 6 = false from by simp [inB]; omega]; simp
    go_wp2
    go_ret
    exact ⟨rfl, hx2⟩
  have hcc : cb = cv := by rw [HCB.out, inB_iff.2 (show (0 : Int) ≤ id ∧ id ≤ 63 by omega), inB_iff.2 (show 1 ≤ size ∧ size ≤ 1000000 by omega), inB_iff.2 (show (1 : Int) ≤ (n : Int) ∧ (n : Int) ≤ 6 by omega)]; simp
  subst hcc
  clear HCB
  go_wp2_with fail
  clear q5 q8
  go_loopw [3, 4] (fun y x wr => ∃ (k : Nat) (e : Int), k ≤ n ∧ x = .int .i64 k ∧ y = .int .i64 e ∧ 0 ≤ e ∧ Hid (cb = chainP e (l.drop k)) ∧ OBlk wr g1 id i1 i2 sat sf st i6 size a n c ∧ Ext w wr) (fun _ x _ => n - (intOf x).toNat)
  case atStart => exact ⟨0, st, Nat.zero_le _, rfl, rfl, hst0, HC0, J2, hx2⟩
  case round =>
    clear HC0 J2 hx2 hst0
    obtain ⟨k, e, hk, rfl, rfl, he0, HC, J2, hx⟩ := hrel
    have q8 : wr.cell? ⟨g1, 8, none⟩ = some (.slice a n c) := J2.cell 8
    by_cases hkn : k < n
    · obtain ⟨b, o, hz, hA, _, hcell⟩ := (ra_ext HR.out hx).at_ slt_len hkn
      have hcv := HC.out
      rw [List.drop_eq_getElem_cons hz] at hcv
      generalize l[k] = s at hcv hcell
      obtain ⟨p, fr, tt⟩ := s
      simp only [chainP, spellOK] at hcv
      have c1 : wr.cell? ⟨b, o + k * 3 + 1, none⟩ = some (.int .i64 fr) := hcell 1 (by omega)
      have c2 : wr.cell? ⟨b, o + k * 3 + 2, none⟩ = some (.int .i64 tt) := hcell 2 (by omega)
      have HCV := Lib.hid hcv
      have hkz : (k : Int) < (n : Int) := by omega
      subst hA
      have hy : Ext wr (wr.alloc (.cells #[.int .i64 fr, .int .i64 tt] 24)) := bl_alloc (Below.refl _ _) _
      have J3 := Blk.new wr 24 #[.int .i64 fr, .int .i64 tt]
      clear hcell hz HC hcv
      go_upto_region 8 with (fail)
      have J2 := J2.ext hy
      have hx2 := Ext.trans hx hy
      generalize wr.heap.size = g3 at J3 ⊢
      generalize wr.alloc (.cells #[.int .i64 fr, .int .i64 tt] 24) = W3 at J2 J3 hx2 ⊢
      have d0 : W3.cell? ⟨g3, 0, none⟩ = some (.int .i64 fr) := J3.cell 0
      have d1 : W3.cell? ⟨g3, 1, none⟩ = some (.int .i64 tt) := J3.cell 1
      clear c1 c2 q8 hy hx J3
      by_cases m1 : fr < e
      · obtain rfl : cb = false := by rw [HCV.out, decide_eq_false (by omega)]; rfl
        clear HCV
        go_wp2
        go_ret
        exact ⟨rfl, hx2⟩
      by_cases m2 : tt ≤ fr
      · obtain rfl : cb = false := by rw [HCV.out, decide_eq_false (show ¬ fr < tt by omega)]; simp
        clear HCV
        go_wp2
        go_ret
        exact ⟨rfl, hx2⟩
      by_cases m3 : 1000001 < tt
      · obtain rfl : cb = false := by rw [HCV.out, decide_eq_false (show ¬ tt ≤ 1000001 by omega)]; simp
        clear HCV
        go_wp2
        go_ret
        exact ⟨rfl, hx2⟩
      have HC2 : Hid (cb = chainP tt (l.drop (k + 1))) := Lib.hid (by rw [HCV.out, decide_eq_true (show e ≤ fr by omega), decide_eq_true (show 0 ≤ fr by omega), decide_eq_true (show fr < tt by omega), decide_eq_true (show tt ≤ 1000001 by omega)]; rfl)
      have ht0 : 0 ≤ tt := by omega
      clear HCV
      go_wp2
      go_roundw
      case rel => exact ⟨k + 1, tt, by omega, by go_num, rfl, ht0, HC2, J2, hx2⟩
      case measure => simp [intOf]; omega
    · obtain rfl : cb = true := by rw [HC.out, List.drop_of_length_le (by rw [HLN.out]; omega)]; rfl
      have hkz : ¬ (k : Int) < (n : Int) := by omega
      go_wp2
      go_ret
      exact ⟨rfl, hx⟩
end Go.Proofs.Ytikphbgfcpamgaa
