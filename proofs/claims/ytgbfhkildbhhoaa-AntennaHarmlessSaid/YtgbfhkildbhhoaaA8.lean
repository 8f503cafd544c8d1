/- Assign. -/
import Derived.Test.YtgbfhkildbhhoaaA7
namespace Go.Proofs.Ytgbfhkildbhhoaa
open Go.RowKit

/-- The first antenna that is free. -/
def findA (u : List Int) (t : Int) : Nat → Nat → Option Nat
  | _, 0 => none
  | k, f + 1 => if u.getD k 0 ≤ t then some k else findA u t (k + 1) f
def stepA (M : Nat) (l : List Use) (s : List Int × List Int) (i : Nat) : List Int × List Int :=
  match findA s.1 (frP l i) 0 M with
  | some k => (s.1.set k (ttP l i), s.2.set i (k : Int))
  | none => s
def assignL (l : List Use) (M : Nat) : List Int × List Int := (orderP l).foldl (stepA M l) (List.replicate 8 0, List.replicate l.length 0)
def assignP (l : List Use) (m : Int) : List Int × Bool × Int :=
  if (clashP l m).2.2 = 0 ∧ (clashP l m).1 < 0 then ((assignL l m.toNat).2, true, 0) else ([], false, (clashP l m).2.2)
/-- What Assign hands back. -/
def AssignRet (r : List Int × Bool × Int) (w : World) (e : Ending) (w' : World) : Prop := ∃ v, e = .returned (.tuple #[v, .bool r.2.1, .int .i64 r.2.2]) ∧ w'.ownsRow w.heap.size 3 1 v r.1.length (r.1.flatMap intCells) ∧ Below w.heap.size w w'
def intArr (l : List Int) : Array Value := (l.flatMap intCells).toArray
theorem intFlat (l : List Int) : l.flatMap intCells = l.map (Value.int .i64) := by
  induction l with
  | nil => rfl
  | cons x r ih => rw [List.flatMap_cons, ih]; rfl
theorem intArr_set (l : List Int) (i : Nat) (x : Int) : (intArr l).setIfInBounds i (.int .i64 x) = intArr (l.set i x) := by
  rw [intArr, intArr, intFlat, intFlat, List.map_set]; simp
theorem intArr_at (l : List Int) (i : Nat) (h : i < l.length) : (intArr l)[i]? = some (.int .i64 (l.getD i 0)) := by
  rw [intArr, intFlat]; simp [h]
theorem Blk.own {w : World} {g n : Nat} {l : List Int} {base : Nat} (h : Blk w g 3 (intArr l)) (hl : l.length = n) (hb : base ≤ g) (hn : n ≤ 1000) : w.ownsRow base 3 1 (.slice (some ⟨g, 0, none⟩) n n) n (l.flatMap intCells) := by
  have hs : (l.flatMap intCells).length = n := by rw [intFlat, List.length_map, hl]
  refine ⟨by omega, .inr ⟨g, n, _, rfl, hb, h, Nat.le_refl _, by unfold maxLen; omega, by simp [intArr, hs], ?_⟩⟩
  rw [intArr, List.take_of_length_le (by show (l.flatMap intCells).length ≤ _; omega)]
theorem make_ints (n : Nat) (hn : n ≤ 1000) (w : World) : (Instr.makeSlice 28 (.int .i64 (n : Int)) (.int .i64 (n : Int))).run Try.prog w = .ok (.slice (some ⟨w.heap.size, 0, none⟩) n n) (w.alloc (.cells (intArr (List.replicate n 0)) 3)) := by
  obtain ⟨i, hi, hz, h1, h8⟩ := info_parts info_int
  have h := run_make_rowN 28 3 i _ Try.underlying28 hi hz .i64 .i64 n n (Nat.le_refl _) (by rw [h8]; omega) (by omega) w
  rw [h, h1, Nat.mul_one]
  have : madeCells (Value.int .i64 0).cells n = intArr (List.replicate n 0) := by
    apply Array.ext'
    rw [intArr, intFlat, List.map_replicate]
    exact toList_madeCells_one _ _
  rw [this]
theorem own_far {w : World} {base : Nat} {e : TypeId} {size : Nat} {v : Value} {n : Nat} {xs : List Value} (h : w.ownsRow base e size v n xs) {p : Addr} (hp : p.block < base) (u : Value) : (w.setCell p u).ownsRow base e size v n xs := by
  refine ⟨h.1, ?_⟩
  rcases h.2 with hn | ⟨g, cap, cur, rfl, hb, hgg, r⟩
  · exact .inl hn
  · exact .inr ⟨g, cap, cur, rfl, hb, (Below.heap_setCell w p u g (by omega)).trans hgg, r⟩
theorem inB_of {m : Int} (h : inB m 0 8 = true) : ∃ M : Nat, m = M ∧ M ≤ 8 := by
  rw [inB_iff] at h
  exact ⟨m.toNat, by omega, by omega⟩

set_option maxHeartbeats 4000000 in
theorem assign_any (l : List Use) (m : Int) (SA : Option Addr) (n c : Nat) (w : World) (hr : RA useCells 3 w w.heap.size SA n c l) (hn : n ≤ mxS) :
    Calls Try.prog 22 #[.slice SA n c, .int .i64 m] w (AssignRet (assignP l m) w) := by
  have hC := clash_any l m SA n c w hr hn
  have hnm : n ≤ 1000 := by have : n ≤ 19 := hn; omega
  have hO := fun (W : World) (hW : Ext w W) => order_any l SA n c W ((hr.below hW).more (Below.size hW)) hn
  have hle := hr.le
  have hL := hr.len
  have HR := Lib.hid hr
  have HL := Lib.hid hL
  have HO := Lib.hid hO
  clear hr hO hL
  rw [assignP]
  have hin : (clashP l m).2.2 = 0 → ∃ M : Nat, m = M ∧ M ≤ 8 := fun h => by
    rw [clashP] at h
    split at h
    · rename_i h2
      exact inB_of (by simp at h2; exact h2.2)
    · exact absurd h (by decide)
  generalize clashP l m = r at hC hin ⊢
  obtain ⟨ct, cl, ce⟩ := r
  dsimp only at hin ⊢
  by_cases hok : ce = 0 ∧ ct < 0
  · obtain ⟨he, ht⟩ := hok
    obtain ⟨M, rfl, hM⟩ := hin he
    subst he
    rw [if_pos ⟨rfl, ht⟩, Int.toNat_natCast]
    have HC := Lib.hid hC
    clear hC hin
    have hmk := make_ints n hnm
    obtain ⟨fin, hfin⟩ : ∃ f, f = assignL l M := ⟨_, rfl⟩
    have HFIN := Lib.hid hfin
    clear hfin
    go_enter Try.func22, Try.ntmps22
    go_wp2_with fail
    refine HC.out.mono ?_
    rintro e W1 ⟨v1, rfl, _, hx1⟩
    clear HC
    go_upto_region 5 with (fail)
    clear hmk
    have hx2 : Ext w (W1.alloc (.cells (intArr (List.replicate n 0)) 3)) := Ext.trans hx1 (bl_alloc (Below.refl _ _) _)
    have JO : Blk (W1.alloc (.cells (intArr (List.replicate n 0)) 3)) W1.heap.size 3 (intArr (List.replicate n 0)) := Blk.new _ _ _
    have hgo : w.heap.size ≤ W1.heap.size := Below.size hx1
    generalize W1.heap.size = go at JO hgo ⊢
    generalize W1.alloc (.cells (intArr (List.replicate n 0)) 3) = W2 at JO hx2 ⊢
    clear hx1
    go_upto_region 6 with (fail)
    have hx3 : Ext w (W2.alloc (.cells #[.int .i64 0, .int .i64 0, .int .i64 0, .int .i64 0, .int .i64 0, .int .i64 0, .int .i64 0, .int .i64 0] 94)) := Ext.trans hx2 (bl_alloc (Below.refl _ _) _)
    have JU : Blk (W2.alloc (.cells #[.int .i64 0, .int .i64 0, .int .i64 0, .int .i64 0, .int .i64 0, .int .i64 0, .int .i64 0, .int .i64 0] 94)) W2.heap.size 94 (intArr (List.replicate 8 0)) := Blk.new _ _ _
    have JO : Blk (W2.alloc (.cells #[.int .i64 0, .int .i64 0, .int .i64 0, .int .i64 0, .int .i64 0, .int .i64 0, .int .i64 0, .int .i64 0] 94)) go 3 (intArr (List.replicate n 0)) := JO.alloc _
    have hgu : w.heap.size ≤ W2.heap.size := Below.size hx2
    generalize W2.heap.size = gu at JU hgu ⊢
    generalize W2.alloc (.cells #[.int .i64 0, .int .i64 0, .int .i64 0, .int .i64 0, .int .i64 0, .int .i64 0, .int .i64 0, .int .i64 0] 94) = W3 at JO JU hx3 ⊢
    have hne : go ≠ gu := JO.ne_ JU (by decide)
    have hne' : gu ≠ go := fun e => hne e.symm
    clear hx2
    have HJO := Lib.hid JO
    have HJU := Lib.hid JU
    clear JO JU
    go_wp2_with fail
    refine (HO.out _ hx3).mono ?_
    rintro e W4 ⟨v, rfl, hown, hy⟩
    obtain ⟨A2, c2, hv, h2c, h2m⟩ := own_slice hown
    rw [order_len, HL.out] at hv h2c
    have hx4 := Ext.trans hx3 hy
    have hro := RA.of_own (cells := natCells) (l := orderP l) (by rw [order_len, HL.out, hv] at hown; exact hown) (by rw [order_len, HL.out]) (by omega)
    subst hv
    have hgo3 := HJO.out.lt
    have hgu3 := HJU.out.lt
    have HO4 : Hid (W4.ownsRow W3.heap.size 3 1 (.slice A2 n c2) n ((orderP l).flatMap natCells)) := Lib.hid (by rw [order_len, HL.out] at hown; exact hown)
    have HU4 := Lib.hid (HJU.out.ext hy)
    have HG4 := Lib.hid (HJO.out.ext hy)
    have hbase : w.heap.size ≤ W3.heap.size := Below.size hx3
    obtain ⟨b3, hb3⟩ : ∃ b, b = W3.heap.size := ⟨_, rfl⟩
    rw [← hb3] at HO4 hgo3 hgu3 hbase
    have H0 : Hid (((orderP l).drop 0).foldl (stepA M l) (List.replicate 8 0, List.replicate n 0) = fin) := Lib.hid (by rw [HFIN.out, assignL, HL.out]; rfl)
    clear hro hown hx3 hy HO HJO HJU hb3
    go_wp2_with fail
    go_loopw [35] (fun x wr => ∃ (k : Nat) (us os : List Int), k ≤ n ∧ x = .int .i64 k ∧ us.length = 8 ∧ os.length = n ∧ Hid (((orderP l).drop k).foldl (stepA M l) (us, os) = fin) ∧ Hid (Blk wr gu 94 (intArr us)) ∧ Hid (Blk wr go 3 (intArr os)) ∧ Hid (wr.ownsRow b3 3 1 (.slice A2 n c2) n ((orderP l).flatMap natCells)) ∧ Ext w wr) (fun x _ => n - (intOf x).toNat)
    case atStart => exact ⟨0, _, _, Nat.zero_le _, rfl, by simp, by simp, H0, HU4, HG4, HO4, hx4⟩
    case round =>
      clear H0 HU4 HG4 HO4 hx4
      obtain ⟨k, us, os, hk, rfl, hus, hos, HS, HU, HG, HW, hx⟩ := hrel
      by_cases hkn : k < n
      · have hro := RA.of_own (cells := natCells) (l := orderP l) HW.out (by rw [order_len, HL.out]) (by omega)
        obtain ⟨b2, o2, hz, hA2, _, hc2⟩ := hro.at_ nat_len hkn
        have hdk : (orderP l).drop k = (orderP l)[k] :: (orderP l).drop (k + 1) := List.drop_eq_getElem_cons hz
        have hmem := order_mem l _ (List.getElem_mem hz)
        have hs := HS.out
        rw [hdk, List.foldl_cons] at hs
        have d0 : wr.cell? ⟨b2, o2 + k * 1, none⟩ = some (.int .i64 ((orderP l)[k] : Int)) := hc2 0 (by omega)
        rw [Nat.mul_one] at d0
        generalize (orderP l)[k] = i at hs hmem d0
        rw [HL.out] at hmem
        obtain ⟨b, o, hA, -, cx, cy⟩ := (HR.out.below hx).use_at hmem
        have hin : (i : Int) < n := by omega
        rw [stepA] at hs
        dsimp only at hs
        generalize ttP l i = tt at hs cy
        generalize frP l i = t at hs cx
        have HS2 := Lib.hid hs
        subst hA2 hA
        clear hs hdk hc2 HS hz hro
        go_wp2_with fail
        clear d0
        obtain ⟨wo, hwo⟩ : ∃ wo, wo = wr := ⟨_, rfl⟩
        rw [← hwo] at HU HG HW hx cx cy ⊢
        clear hwo
        have HF0 := Lib.hid (show findA us t 0 (M - 0) = findA us t 0 M from rfl)
        go_loopw [40] (fun x wi => ∃ j : Nat, j ≤ M ∧ x = .int .i64 j ∧ Hid (findA us t j (M - j) = findA us t 0 M) ∧ Ext wo wi) (fun x _ => M - (intOf x).toNat)
        case atStart => exact ⟨0, Nat.zero_le _, rfl, HF0, Ext.refl _⟩
        case round =>
          clear HF0
          obtain ⟨j, hj, rfl, HFJ, hxi⟩ := hrel
          obtain ⟨wi, hwi⟩ : ∃ wi, wi = wr := ⟨_, rfl⟩
          rw [← hwi] at hxi ⊢
          clear hwi
          have cx := ext_cell hxi cx
          have cy := ext_cell hxi cy
          have hxw := Ext.trans hx hxi
          have HU := Lib.hid (HU.out.ext hxi)
          have HG := Lib.hid (HG.out.ext hxi)
          have HW := Lib.hid (own_ext HW.out hxi)
          by_cases hjm : j < M
          · have hj8 : (j : Int) < 8 := by omega
            have du : wi.cell? ⟨gu, j, none⟩ = some (.int .i64 (us.getD j 0)) := (HU.out.cell j).trans (intArr_at us j (by omega))
            have hfj := HFJ.out
            rw [show M - j = (M - (j + 1)) + 1 by omega, findA] at hfj
            generalize us.getD j 0 = ua at hfj du
            have HFJ2 := Lib.hid hfj
            clear hfj HFJ
            go_wp2_with fail
            refine wp_region_obl 10 (fun ix vals v w1 => match ix with | 0 => v = .int .i64 (j : Int) | 1 => v = .pointer (some ⟨gu, j, none⟩) | 2 => v = .int .i64 ua | 3 => v = .slice (some ⟨b, o, none⟩) n c | 4 => v = .int .i64 (i : Int) | 5 => v = .pointer (some ⟨b, o + i * 3, none⟩) | 6 => v = .pointer (some ⟨b, o + i * 3 + 1, none⟩) | 7 => v = .pointer (some ⟨b, o + i * 3 + 1, none⟩) | 8 => v = .int .i64 t | _ => v = .bool (decide (ua ≤ t))) (by kernel_rfl) (by kernel_rfl) ?_ ?_ ?_ ?_
            · intro ix vals v w1 w2 hi hr hx
              match ix, hr with
              | 0, hr => exact hr
              | 1, hr => exact hr
              | 2, hr => exact hr
              | 3, hr => exact hr
              | 4, hr => exact hr
              | 5, hr => exact hr
              | 6, hr => exact hr
              | 7, hr => exact hr
              | 8, hr => exact hr
              | (kx + 9), hr => exact hr
            · intro ix vals vals_ v w1 hi hv hr
              exact hr
            · refine ⟨?_, ?_, ?_, ?_, ?_, ?_, ?_, ?_, ?_, ?_, trivial⟩
              · intro vals w1 hx hd ha
                clear hd ha
                simp only [Lf]
                go_wp2
                exact ⟨rfl, Ext.refl _, rfl⟩
              · intro vals w1 hx hd ha
                have e0 : vals 0 = .int .i64 (j : Int) := hd 0 (by decide)
                clear hd ha
                simp only [Lf, dstAt, Act.put, List.getElem?_toArray, List.getElem?_cons_zero, Option.bind_some, List.setIfInBounds_toArray, List.set_cons_zero, List.set_cons_succ]
                simp only [e0]
                clear e0
                go_wp2
                exact ⟨rfl, Ext.refl _, rfl⟩
              · intro vals w1 hx hd ha
                have e1 : vals 1 = .pointer (some ⟨gu, j, none⟩) := hd 1 (by decide)
                clear hd ha
                simp only [Lf, dstAt, Act.put, List.getElem?_toArray, List.getElem?_cons_zero, List.getElem?_cons_succ, Option.bind_some, List.setIfInBounds_toArray, List.set_cons_zero, List.set_cons_succ]
                simp only [e1]
                clear e1
                have du := ext_cell hx du
                go_wp2
                exact ⟨rfl, Ext.refl _, rfl⟩
              · intro vals w1 hx hd ha
                clear hd ha
                simp only [Lf, dstAt, Act.put, List.getElem?_toArray, List.getElem?_cons_zero, List.getElem?_cons_succ, Option.bind_some, List.setIfInBounds_toArray, List.set_cons_zero, List.set_cons_succ]
                go_wp2
                exact ⟨rfl, Ext.refl _, rfl⟩
              · intro vals w1 hx hd ha
                clear hd ha
                simp only [Lf, dstAt, Act.put, List.getElem?_toArray, List.getElem?_cons_zero, List.getElem?_cons_succ, Option.bind_some, List.setIfInBounds_toArray, List.set_cons_zero, List.set_cons_succ]
                go_wp2
                exact ⟨rfl, Ext.refl _, rfl⟩
              · intro vals w1 hx hd ha
                have e3 : vals 3 = .slice (some ⟨b, o, none⟩) n c := hd 3 (by decide)
                have e4 : vals 4 = .int .i64 (i : Int) := hd 4 (by decide)
                clear hd ha
                simp only [Lf, dstAt, Act.put, List.getElem?_toArray, List.getElem?_cons_zero, List.getElem?_cons_succ, Option.bind_some, List.setIfInBounds_toArray, List.set_cons_zero, List.set_cons_succ]
                simp only [e3, e4]
                clear e3 e4
                go_wp2
                exact ⟨rfl, Ext.refl _, rfl⟩
              · intro vals w1 hx hd ha
                have e5 : vals 5 = .pointer (some ⟨b, o + i * 3, none⟩) := hd 5 (by decide)
                clear hd ha
                simp only [Lf, dstAt, Act.put, List.getElem?_toArray, List.getElem?_cons_zero, List.getElem?_cons_succ, Option.bind_some, List.setIfInBounds_toArray, List.set_cons_zero, List.set_cons_succ]
                simp only [e5]
                clear e5
                go_wp2
                exact ⟨rfl, Ext.refl _, rfl⟩
              · intro vals w1 hx hd ha
                have e6 : vals 6 = .pointer (some ⟨b, o + i * 3 + 1, none⟩) := hd 6 (by decide)
                clear hd ha
                simp only [Lf, dstAt, Act.put, List.getElem?_toArray, List.getElem?_cons_zero, List.getElem?_cons_succ, Option.bind_some, List.setIfInBounds_toArray, List.set_cons_zero, List.set_cons_succ]
                simp only [e6]
                clear e6
                go_wp2
                exact ⟨rfl, Ext.refl _, rfl⟩
              · intro vals w1 hx hd ha
                have e7 : vals 7 = .pointer (some ⟨b, o + i * 3 + 1, none⟩) := hd 7 (by decide)
                clear hd ha
                simp only [Lf, dstAt, Act.put, List.getElem?_toArray, List.getElem?_cons_zero, List.getElem?_cons_succ, Option.bind_some, List.setIfInBounds_toArray, List.set_cons_zero, List.set_cons_succ]
                simp only [e7]
                clear e7
                have cx := ext_cell hx cx
                go_wp2
                exact ⟨rfl, Ext.refl _, rfl⟩
              · intro vals w1 hx hd ha
                have e2 : vals 2 = .int .i64 ua := hd 2 (by decide)
                have e8 : vals 8 = .int .i64 t := hd 8 (by decide)
                clear hd ha
                simp only [Lf, dstAt, Act.put, List.getElem?_toArray, List.getElem?_cons_zero, List.getElem?_cons_succ, Option.bind_some, List.setIfInBounds_toArray, List.set_cons_zero, List.set_cons_succ]
                simp only [e2, e8]
                clear e2 e8
                go_wp2
                exact ⟨rfl, Ext.refl _, rfl⟩
            intro vals w5 hx5 hf
            have e9 : vals 9 = .bool (decide (ua ≤ t)) := hf 9 (by omega)
            clear hf
            have hx5 := hx5.undrew
            refine tail0 (by kernel_rfl) ?_
            simp only [Lf, dstAt, Act.put, List.getElem?_toArray, List.getElem?_cons_zero, List.getElem?_cons_succ, Option.bind_some, List.setIfInBounds_toArray, List.set_cons_zero, List.set_cons_succ]
            rw [e9]
            clear e9
            have cy := ext_cell hx5 cy
            have du := ext_cell hx5 du
            have HU := Lib.hid (HU.out.ext hx5)
            have HG := Lib.hid (HG.out.ext hx5)
            have HW := Lib.hid (own_ext HW.out hx5)
            have hxi5 := Ext.trans hxi hx5
            have hxw5 := Ext.trans hxw hx5
            clear hx5 cx hxw
            by_cases hle2 : ua ≤ t
            · have hd : decide (ua ≤ t) = true := by simpa using hle2
              have hs := HS2.out
              have hfj := HFJ2.out
              rw [if_pos hle2] at hfj
              rw [← hfj] at hs
              dsimp only at hs
              have HF := Lib.hid hs
              have hfz : w5.frozen? ⟨gu, j, none⟩ = false := HU.out.frozen j
              clear hs hfj HFJ2 HS2
              go_upto_region 14 with (fail)
              have JU := HU.out.set_ j (.int .i64 tt)
              rw [intArr_set] at JU
              have JO := HG.out.far (p := ⟨gu, j, none⟩) hne (.int .i64 tt)
              have JW := own_far HW.out (p := ⟨gu, j, none⟩) hgu3 (.int .i64 tt)
              have hx6 := hxw5.setCell (p := ⟨gu, j, none⟩) hgu (.int .i64 tt)
              generalize w5.setCell ⟨gu, j, none⟩ (.int .i64 tt) = w6 at JU JO JW hx6 ⊢
              have dg : w6.cell? ⟨go, i, none⟩ = some (.int .i64 (os.getD i 0)) := (JO.cell i).trans (intArr_at os i (by omega))
              have hfz : w6.frozen? ⟨go, i, none⟩ = false := JO.frozen i
              have HU := Lib.hid (JU.far (p := ⟨go, i, none⟩) hne' (.int .i64 (j : Int)))
              have JG := JO.set_ i (.int .i64 (j : Int))
              rw [intArr_set] at JG
              have HG := Lib.hid JG
              have HW := Lib.hid (own_far JW (p := ⟨go, i, none⟩) hgo3 (.int .i64 (j : Int)))
              have hx7 := hx6.setCell (p := ⟨go, i, none⟩) hgo (.int .i64 (j : Int))
              clear JU JO JW JG hx6 hxw5 hxi5 hxi cy du hx
              go_wp2
              go_roundw
              case rel => exact ⟨k + 1, us.set j tt, os.set i (j : Int), by omega, by go_num, by simpa using hus, by simpa using hos, HF, HU, HG, HW, hx7⟩
              case measure => simp [intOf]; omega
            · have hd : decide (ua ≤ t) = false := by simpa using hle2
              have hfj := HFJ2.out
              rw [if_neg hle2] at hfj
              have HF := Lib.hid hfj
              clear hfj HFJ2
              go_wp2
              go_roundw
              case rel => exact ⟨j + 1, by omega, by go_num, HF, hxi5⟩
              case measure => simp [intOf]; omega
          · have hfj := HFJ.out
            rw [show M - j = 0 by omega, findA] at hfj
            have hs := HS2.out
            rw [← hfj] at hs
            dsimp only at hs
            have HF := Lib.hid hs
            clear hs hfj HFJ HS2 cx cy
            go_wp2
            go_roundw
            case rel => exact ⟨k + 1, us, os, by omega, by go_num, hus, hos, HF, HU, HG, HW, hxw⟩
            case measure => simp [intOf]; omega
      · have hs := HS.out
        rw [List.drop_of_length_le (by rw [order_len, HL.out]; omega), List.foldl_nil] at hs
        have HE : Hid (wr.ownsRow w.heap.size 3 1 (.slice (some ⟨go, 0, none⟩) n n) os.length (os.flatMap intCells)) := Lib.hid (by rw [hos]; exact HG.out.own hos hgo hnm)
        have HF := Lib.hid hs
        clear hs HS HU HG HW
        go_wp2
        refine bodyPost_ret (v := .tuple #[.slice (some ⟨go, 0, none⟩) n n, .bool true, .int .i64 0]) (by simp [results, Try.results22, go_sem]) rfl ⟨_, rfl, ?_, hx⟩
        have hfe := HF.out.trans HFIN.out
        show wr.ownsRow _ _ _ _ (assignL l M).2.length ((assignL l M).2.flatMap intCells)
        rw [← hfe]
        exact HE.out
  · rw [if_neg hok]
    have HC := Lib.hid hC
    clear hC hin
    go_enter Try.func22, Try.ntmps22
    go_wp2_with fail
    refine HC.out.mono ?_
    rintro e W1 ⟨v1, rfl, _, hx1⟩
    clear HC
    by_cases h0 : ce = 0
    · have ht : ¬ ct < 0 := fun h => hok ⟨h0, h⟩
      have ht' : 0 ≤ ct := by omega
      subst h0
      clear hok
      go_wp2
      refine bodyPost_ret (v := .tuple #[.slice none 0 0, .bool false, .int .i64 0]) (by simp [results, Try.results22, go_sem]) rfl ⟨_, rfl, World.ownsRow_nil _ _ _ _, hx1⟩
    · clear hok
      go_wp2
      refine bodyPost_ret (v := .tuple #[.slice none 0 0, .bool false, .int .i64 ce]) (by simp [results, Try.results22, go_sem]) rfl ⟨_, rfl, World.ownsRow_nil _ _ _ _, hx1⟩
end Go.Proofs.Ytgbfhkildbhhoaa
