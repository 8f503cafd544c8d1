/- places: the slots of options in order, or that they are not carried together. -/
import Derived.Test.YtikphbgfcpamgaaP14
import Derived.Test.YtikphbgfcpamgaaP01
import Derived.BigQuiet
namespace Go.Proofs.Ytikphbgfcpamgaa
open Go.RowKit

structure Ops (w : World) (B : Nat) (A : Option Addr) (n c : Nat) (os : List Opt) : Prop where
  out : RA optCells 9 w B A n c os
  each : ∀ o ∈ os, RA sltCells 3 w B o.a o.n o.c o.l
theorem Ops.below {w w' : World} {B n c : Nat} {A : Option Addr} {os : List Opt} (h : Ops w B A n c os) (hb : Below B w w') : Ops w' B A n c os := ⟨h.out.below hb, fun r hr => (h.each r hr).below hb⟩
theorem Ops.more {w : World} {B B' n c : Nat} {A : Option Addr} {os : List Opt} (h : Ops w B A n c os) (hb : B ≤ B') : Ops w B' A n c os := ⟨h.out.more hb, fun r hr => (h.each r hr).more hb⟩
theorem Ops.ext {w w' : World} {n c : Nat} {A : Option Addr} {os : List Opt} (h : Ops w w.heap.size A n c os) (hx : Ext w w') : Ops w' w'.heap.size A n c os := (h.below hx).more (Below.size hx)
def opsP (os : List Opt) : List Op := os.map Opt.op
def sat0 (os : List Opt) : Int := match os with
  | [] => 0
  | o :: _ => o.sat
theorem okL_ops (os : List Opt) : okL (opsP os) = (decide (os.length ≤ 8) && okR (sat0 os) [] (opsP os)) := by
  unfold okL opsP
  rw [List.length_map]
  cases os <;> rfl
def srtC (l : List Op) : List Plc := if carP l then srt l else []
def seenM (l : List Int) : Int → Option Value := fun k => if k ∈ l then some (.bool true) else none
theorem seenM_get (l : List Int) (k : Int) : (seenM l k).getD (.bool false) = .bool (decide (k ∈ l)) := by
  unfold seenM
  by_cases h : k ∈ l <;> simp [h]
theorem seenM_put (l : List Int) (x : Int) : ∀ k, (if k = x then some (Value.bool true) else seenM l k) = seenM (l ++ [x]) k := fun k => by
  unfold seenM
  by_cases h : k = x <;> by_cases h2 : k ∈ l <;> simp [h, h2]
theorem zero_bool (w : World) : (zeroValue 4).run Try.prog w = .ok (.bool false) w := by kernel_rfl
theorem zero_int (w : World) : (zeroValue 3).run Try.prog w = .ok (.int .i64 0) w := by kernel_rfl
section
variable {P : Program} {w : World} {ops : Array Oper} {rest : List Oper} {o : Oper} {a : Act} {Q : Exit → Act → World → Prop}
theorem wpList_mapUpdate_run (hg : o.guard = none) (m x v : Operand) (t : TypeId) (hop : o.op = Op.mapUpdate t m x v) {M X V : Value} {w' : World} (hm : a.eval m = M) (hx : a.eval x = X) (hv : a.eval v = V)
    (hrun : (Instr.mapUpdate t M X V).run P w = .ok () w') (hK : wpList P ops Q rest (a.put o.dst undef) w') : wpList P ops Q (o :: rest) a w := by
  refine wpList_plain hg fun K hK' => ?_
  unfold Oper.wp
  simp [execOp, hop, hm, hx, hv, hrun, Result.andThen]
  exact hK' _ _ hK
end
theorem wpList_append_run_ {P : Program} {w : World} {ops : Array Oper} {rest : List Oper} {o : Oper} {a : Act} {Q : Exit → Act → World → Prop}
    (hg : o.guard = none) (s x : Operand) (t : TypeId) (hop : o.op = Op.call { callee := Callee.builtin Builtin.append, args := #[s, x], argTypes := #[t, t] })
    {v1 v2 v' : Value} {w' : World} (hs : a.eval s = v1) (hx : a.eval x = v2) (hrun : (Builtin.append_ #[t, t] o.type #[v1, v2]).run P w = .ok v' w')
    (hK : wpList P ops Q rest (a.put o.dst v') w') : wpList P ops Q (o :: rest) a w := by
  refine wpList_plain hg fun K hK' => ?_
  unfold Oper.wp
  simp [execOp, hop, resolve, invoke, builtin, hs, hx, hrun, Result.andThen]
  exact hK' _ _ hK
theorem MapI.ne_blk {w : World} {g g' : Nat} {f : Int → Option Value} {t : TypeId} {cs : Array Value} (h : MapI w g f) (j : Blk w g' t cs) : g' ≠ g := by
  rintro rfl
  obtain ⟨L, c, h1, _⟩ := h
  have j2 : w.heap[g']? = some (.cells cs t (0, 0)) := j
  rw [j2] at h1
  injection h1 with h1
  cases h1
theorem MapI.mid {w w' : World} {g : Nat} {f : Int → Option Value} (h : MapI w g f) (hk : w'.heap[g]? = w.heap[g]?) : MapI w' g f := by
  obtain ⟨L, c, h1, h2⟩ := h
  exact ⟨L, c, hk.trans h1, h2⟩
theorem MapI.ne_own {w : World} {g base : Nat} {f : Int → Option Value} {v : Value} {n s : Nat} {t : TypeId} {xs : List Value} (h : MapI w g f) (ho : w.ownsRow base t s v n xs) : v.ownBlock ≠ some g := by
  rcases ho.2 with ⟨hv, _⟩ | ⟨b, cap, cur, hv, hb, hg, _⟩
  · subst hv; simp [Value.ownBlock]
  · subst hv
    intro e
    have e : b = g := by simpa [Value.ownBlock] using e
    subst e
    obtain ⟨L, c, h1, _⟩ := h
    rw [hg] at h1
    injection h1 with h1
    cases h1
theorem RA.of_own {α : Type} {cells : α → List Value} {s : Nat} {w : World} {base n c : Nat} {A : Option Addr} {e : TypeId} {l : List α} (h : w.ownsRow base e s (.slice A n c) n (l.flatMap cells)) (hl : l.length = n) (hn : n ≤ 100000) : RA cells s w w.heap.size A n c l := by
  obtain ⟨A', c', hv, h1, h2⟩ := own_slice h
  injection hv with e1 e2 e3
  subst e1 e3
  exact ⟨Reads.of_own h, hl, h1, h2, by omega⟩
theorem own_map {w w' : World} {base g n s : Nat} {v : Value} {t : TypeId} {xs : List Value} {f : Int → Option Value} (ho : w.ownsRow base t s v n xs) (hm : MapI w g f) (hg : w.grownBy w' (some g)) : w'.ownsRow base t s v n xs := by
  have hne := hm.ne_own ho
  refine ⟨ho.1, ?_⟩
  rcases ho.2 with hn | ⟨b, cap, cur, hv, hb, hgg, r⟩
  · exact .inl hn
  · exact .inr ⟨b, cap, cur, hv, hb, (hg.block b (Array.getElem?_eq_some_iff.1 hgg).1 (fun e => hne (by rw [hv]; simpa [Value.ownBlock] using e))).trans hgg, r⟩
def PlacesRet (cb : Bool) (S : List Plc) (w : World) (e : Ending) (w' : World) : Prop := ∃ v, e = .returned (.tuple #[v, .bool cb]) ∧ OwnP w' w.heap.size v S ∧ Ext w w'
set_option maxRecDepth 100000 in
set_option maxHeartbeats 2000000 in
theorem places_any (os : List Opt) (A : Option Addr) (n c : Nat) (w : World) (hr : Ops w w.heap.size A n c os) :
    Calls Try.prog 36 #[.slice A n c] w (PlacesRet (carP (opsP os)) (srtC (opsP os)) w) := by
  have hln := hr.out.len
  have hle := hr.out.le
  obtain ⟨cb, hcb⟩ : ∃ b, b = carP (opsP os) := ⟨_, rfl⟩
  obtain ⟨S, hS⟩ : ∃ S, S = srtC (opsP os) := ⟨_, rfl⟩
  rw [← hcb, ← hS]
  have hfalse : cb = false → S = [] := fun h => by rw [hS, srtC, ← hcb, h]; rfl
  have hok : okL (opsP os) = (decide (n ≤ 8) && okR (sat0 os) [] (opsP os)) := by rw [okL_ops, hln]
  have HFALSE := Lib.hid hfalse
  have HLN := Lib.hid hln
  by_cases h8 : n ≤ 8
  · have h8z : ¬ (8 : Int) < (n : Int) := by omega
    have HC0 : Hid (cb = (okR (sat0 os) [] ((opsP os).drop 0) && adjP (sortP ltP (raw (opsP os))))) := Lib.hid (by rw [hcb, carP, hok, decide_eq_true h8]; rfl)
    have HS := Lib.hid (fun h : cb = true => (show S = sortP ltP (raw (opsP os)) by rw [hS, srtC, ← hcb, h]; rfl))
    have HRAW0 : Hid (raw (opsP os) = [] ++ rawF 0 ((opsP os).drop 0)) := Lib.hid rfl
    have HR := Lib.hid hr
    have HS0 : Hid (∀ W, 0 < n → Ext w W → ∃ b o, A = some ⟨b, o, none⟩ ∧ W.cell? ⟨b, o + 3, none⟩ = some (.int .i64 (sat0 os))) := Lib.hid (fun W h0 hx => by
      obtain ⟨b, o, hz, hA, _, hc⟩ := (hr.ext hx).out.at_ opt_len h0
      have h3 : W.cell? ⟨b, o + 0 * 9 + 3, none⟩ = some (.int .i64 os[0].sat) := hc 3 (by omega)
      rw [Nat.zero_mul, Nat.add_zero] at h3
      refine ⟨b, o, hA, ?_⟩
      rw [h3]
      cases os with
      | nil => simp at hz
      | cons x r => rfl)
    generalize sat0 os = s0 at HC0 HS0
    generalize raw (opsP os) = R at HC0 HS HRAW0
    clear hr hln hcb hS hfalse hok hle
    have hmm : ∀ w : World, (Instr.makeMap 104 none).run Try.prog w = .ok (.map (some w.heap.size)) (w.alloc (.map #[] 0)) := fun w => by simp [Instr.makeMap]
    go_enter Try.func36, Try.ntmps36
    go_wp2
    clear hmm
    have hx : Ext w (w.alloc (.map #[] 0)) := bl_alloc (Below.refl _ _) _
    have hm0 := MapI.new w
    obtain ⟨gm, hgm⟩ : ∃ g, g = w.heap.size := ⟨_, rfl⟩
    have hgw : w.heap.size ≤ gm := by omega
    rw [← hgm] at hm0 ⊢
    have HM0 : Hid (MapI (w.alloc (.map #[] 0)) gm (seenM [])) := Lib.hid (hm0.congr fun _ => rfl)
    rw [hgm]
    rw [← hgm]
    have HG := Lib.hid hgw
    clear hgm hm0 hgw
    generalize w.alloc (.map #[] 0) = W0 at hx HM0 ⊢
    go_loopw [4, 19] (fun v y wr => ∃ (k : Nat) (seen : List Int) (acc : List Plc), k ≤ n ∧ y = .int .i64 k ∧ Hid (cb = (okR s0 seen ((opsP os).drop k) && adjP (sortP ltP R))) ∧ Hid (R = acc ++ rawF k ((opsP os).drop k)) ∧ acc.length ≤ 6 * k ∧ Hid (OwnP wr w.heap.size v acc) ∧ Hid (MapI wr gm (seenM seen)) ∧ Ext w wr) (fun _ y _ => n - (intOf y).toNat)
    case atStart => exact ⟨0, [], [], Nat.zero_le _, rfl, HC0, HRAW0, Nat.zero_le _, Lib.hid (World.ownsRow_nil _ _ _ _), HM0, hx⟩
    case round =>
      clear HC0 HRAW0 HM0 hx
      obtain ⟨k, seen, acc, hk, rfl, HC, HRW, hal, HO, HM, hx⟩ := hrel
      obtain ⟨A4, c4, hv4, hc4, _⟩ := own_slice HO.out
      subst hv4
      by_cases hkn : k < n
      · obtain ⟨b, off, hz, hA, _, hcell⟩ := (HR.out.ext hx).out.at_ opt_len hkn
        have hsl := HR.out.each os[k] (List.getElem_mem hz)
        obtain ⟨b0, off0, hA0, hs0⟩ := HS0.out wr (by omega) hx
        rw [hA] at hA0
        injection hA0 with hA0
        injection hA0 with e1 e2
        subst e1 e2
        have hdrop : (opsP os).drop k = os[k].op :: (opsP os).drop (k + 1) := by
          unfold opsP
          rw [← List.map_drop, List.drop_eq_getElem_cons hz, List.map_cons, List.map_drop]
        have hcb := HC.out
        have hraw := HRW.out
        rw [hdrop, okR] at hcb
        rw [hdrop, rawF] at hraw
        generalize os[k] = o at hcell hsl hcb hraw
        have HW := Lib.hid (fun W hx => worst_any o W (ra_ext hsl hx))
        have HSL := Lib.hid hsl
        have HCAN := Lib.hid (fun h : canP o.op = true => (can_chain h).2.2.2)
        generalize hcv : canP o.op = cv at hcb HW HCAN
        obtain ⟨id, i1, i2, sat, sf, st, i6, size, a, m, d, l⟩ := o
        dsimp only [Opt.op] at hraw HSL HCAN
        change Hid (∀ (W : World), Ext w W → Calls Try.prog 51 #[.agg #[.int .i64 id, .int .i64 i1, .int .i64 i2, .int .i64 sat, .int .i64 sf, .int .i64 st, .int .i64 i6, .int .i64 size, .slice a m d]] W (WorstRet (errW cv) W)) at HW
        generalize hev : errW cv = ev at HW
        have HEV := Lib.hid hev
        clear hev
        have c0 : wr.cell? ⟨b, off + k * 9, none⟩ = some (.int .i64 id) := hcell 0 (by omega)
        have c1 : wr.cell? ⟨b, off + k * 9 + 1, none⟩ = some (.int .i64 i1) := hcell 1 (by omega)
        have c2 : wr.cell? ⟨b, off + k * 9 + 2, none⟩ = some (.int .i64 i2) := hcell 2 (by omega)
        have c3 : wr.cell? ⟨b, off + k * 9 + 3, none⟩ = some (.int .i64 sat) := hcell 3 (by omega)
        have c4_ : wr.cell? ⟨b, off + k * 9 + 4, none⟩ = some (.int .i64 sf) := hcell 4 (by omega)
        have c5 : wr.cell? ⟨b, off + k * 9 + 5, none⟩ = some (.int .i64 st) := hcell 5 (by omega)
        have c6 : wr.cell? ⟨b, off + k * 9 + 6, none⟩ = some (.int .i64 i6) := hcell 6 (by omega)
        have c7 : wr.cell? ⟨b, off + k * 9 + 7, none⟩ = some (.int .i64 size) := hcell 7 (by omega)
        have c8 : wr.cell? ⟨b, off + k * 9 + 8, none⟩ = some (.slice a m d) := hcell 8 (by omega)
        replace hcb : cb = ((cv && decide (sat = s0) && !decide (id ∈ seen) && l.all (fun s => inB s.p 0 63) && okR s0 (seen ++ [id]) ((opsP os).drop (k + 1))) && adjP (sortP ltP R)) := hcb
        have HCB := Lib.hid hcb
        have HRAW := Lib.hid hraw
        subst hA
        clear hcell hsl hcb hraw hdrop hz HC HRW hcv
        go_upto_region 8 with (fail)
        have J1 : OBlk (wr.alloc (.cells #[.int .i64 id, .int .i64 i1, .int .i64 i2, .int .i64 sat, .int .i64 sf, .int .i64 st, .int .i64 i6, .int .i64 size, .slice a m d] 27)) wr.heap.size id i1 i2 sat sf st i6 size a m d := Blk.new _ _ _
        have hy : Ext wr (wr.alloc (.cells #[.int .i64 id, .int .i64 i1, .int .i64 i2, .int .i64 sat, .int .i64 sf, .int .i64 st, .int .i64 i6, .int .i64 size, .slice a m d] 27)) := bl_alloc (Below.refl _ _) _
        generalize wr.heap.size = g1 at J1 ⊢
        generalize wr.alloc (.cells #[.int .i64 id, .int .i64 i1, .int .i64 i2, .int .i64 sat, .int .i64 sf, .int .i64 st, .int .i64 i6, .int .i64 size, .slice a m d] 27) = W2 at J1 hy ⊢
        have hx2 := Ext.trans hx hy
        have d0 : W2.cell? ⟨g1, 0, none⟩ = some (.int .i64 id) := J1.cell 0
        have d1 : W2.cell? ⟨g1, 1, none⟩ = some (.int .i64 i1) := J1.cell 1
        have d2 : W2.cell? ⟨g1, 2, none⟩ = some (.int .i64 i2) := J1.cell 2
        have d3 : W2.cell? ⟨g1, 3, none⟩ = some (.int .i64 sat) := J1.cell 3
        have d4 : W2.cell? ⟨g1, 4, none⟩ = some (.int .i64 sf) := J1.cell 4
        have d5 : W2.cell? ⟨g1, 5, none⟩ = some (.int .i64 st) := J1.cell 5
        have d6 : W2.cell? ⟨g1, 6, none⟩ = some (.int .i64 i6) := J1.cell 6
        have d7 : W2.cell? ⟨g1, 7, none⟩ = some (.int .i64 size) := J1.cell 7
        have d8 : W2.cell? ⟨g1, 8, none⟩ = some (.slice a m d) := J1.cell 8
        clear c0 c1 c2 c3 c4_ c5 c6 c7 c8
        go_wp2_with fail
        have hc := HW.out _ hx2
        clear HW
        refine hc.mono ?_
        clear hc
        rintro e W3 ⟨s0_, s1_, s2_, s3_, rfl, hy3⟩
        clear d0 d1 d2 d3 d4 d5 d6 d7 d8
        go_upto_region 9 with (fail)
        have hya : Ext W3 (W3.alloc (.cells #[.int .i64 s0_, .int .i64 s1_, .int .i64 s2_, .int .i64 s3_] 101)) := bl_alloc (Below.refl _ _) _
        generalize W3.alloc (.cells #[.int .i64 s0_, .int .i64 s1_, .int .i64 s2_, .int .i64 s3_] 101) = W4 at hya ⊢
        have hy4 := Ext.trans hy3 hya
        have hy24 := Ext.trans hy hy4
        have hx4 := Ext.trans hx2 hy4
        have J1 := J1.ext hy4
        have hs0 := ext_cell hy24 hs0
        have HO4 := Lib.hid (HO.out.ext hy24)
        have HM4 := Lib.hid (HM.out.ext hy24)
        have HSL4 := Lib.hid (ra_ext HSL.out hx4)
        clear hya hy3 hy4 hy hx2 hx HO HM hy24 HR HS0
        have d0 : W4.cell? ⟨g1, 0, none⟩ = some (.int .i64 id) := J1.cell 0
        have d3 : W4.cell? ⟨g1, 3, none⟩ = some (.int .i64 sat) := J1.cell 3
        have d8 : W4.cell? ⟨g1, 8, none⟩ = some (.slice a m d) := J1.cell 8
        cases cv
        · have h1 : ev = 110 := HEV.out.symm
          subst h1
          have HF : Hid (cb = false) := Lib.hid (by rw [HCB.out]; simp)
          clear HEV HCB HCAN
          refine wp_region_obl 17 (fun ix vals v w1 => match ix with | 0 => v = .int .i64 110 | 1 => v = .bool true | 2 => v = .bool true | 3 => v = undef | 4 => v = undef | 5 => v = undef | 6 => v = undef | 7 => v = undef | 8 => v = undef | 9 => v = undef | 10 => v = .bool true | 11 => v = .bool true | 12 => v = undef | 13 => v = undef | 14 => v = undef | 15 => v = undef | _ => v = .bool true) (by kernel_rfl) (by kernel_rfl) ?_ ?_ ?_ ?_
          · intro ix vals v w1 w2 hi hr hx
            match ix, hr with
            | 0, hr => exact hr
            | 1, hr => exact hr
            | 2, hr => exact hr
            | 3, hr => exact hr
            | 4, hr => exact hr
            | 5, hr => exact hr
            | 6, hr => exact hr
            | 7, hr => exact hr
            | 8, hr => exact hr
            | 9, hr => exact hr
            | 10, hr => exact hr
            | 11, hr => exact hr
            | 12, hr => exact hr
            | 13, hr => exact hr
            | 14, hr => exact hr
            | 15, hr => exact hr
            | (kx + 16), hr => exact hr
          · intro ix vals vals_ v w1 hi hv hr
            exact hr
          · refine ⟨?_, ?_, ?_, ?_, ?_, ?_, ?_, ?_, ?_, ?_, ?_, ?_, ?_, ?_, ?_, ?_, ?_, trivial⟩
            · intro vals w1 hx hd ha
              clear hd ha
              simp only [Lf]
              go_wp2
              exact ⟨rfl, Ext.refl _, rfl⟩
            · intro vals w1 hx hd ha
              have e0 : vals 0 = .int .i64 110 := hd 0 (by decide)
              clear hd ha
              simp only [Lf, dstAt, Act.put, List.getElem?_toArray, List.getElem?_cons_zero, Option.bind_some, List.setIfInBounds_toArray, List.set_cons_zero, List.set_cons_succ]
              simp only [e0]
              clear e0
              go_wp2
              exact ⟨rfl, Ext.refl _, rfl⟩
            · intro vals w1 hx hd ha
              have e1 : vals 1 = .bool true := hd 1 (by decide)
              clear hd ha
              simp only [Lf, dstAt, Act.put, List.getElem?_toArray, List.getElem?_cons_zero, List.getElem?_cons_succ, Option.bind_some, List.setIfInBounds_toArray, List.set_cons_zero, List.set_cons_succ]
              simp only [e1]
              clear e1
              go_wp2
              exact ⟨rfl, Ext.refl _, rfl⟩
            · intro vals w1 hx hd ha
              have e2 : vals 2 = .bool true := hd 2 (by decide)
              clear hd ha
              simp only [Lf, dstAt, Act.put, List.getElem?_toArray, List.getElem?_cons_zero, List.getElem?_cons_succ, Option.bind_some, List.setIfInBounds_toArray, List.set_cons_zero, List.set_cons_succ]
              simp only [e2]
              clear e2
              go_wp2
              exact ⟨rfl, Ext.refl _, rfl⟩
            · intro vals w1 hx hd ha
              have e2 : vals 2 = .bool true := hd 2 (by decide)
              have e3 : vals 3 = undef := hd 3 (by decide)
              clear hd ha
              simp only [Lf, dstAt, Act.put, List.getElem?_toArray, List.getElem?_cons_zero, List.getElem?_cons_succ, Option.bind_some, List.setIfInBounds_toArray, List.set_cons_zero, List.set_cons_succ]
              simp only [e2, e3]
              clear e2 e3
              have d3 := ext_cell hx d3
              go_wp2
              exact ⟨rfl, Ext.refl _, rfl⟩
            · intro vals w1 hx hd ha
              have e2 : vals 2 = .bool true := hd 2 (by decide)
              clear hd ha
              simp only [Lf, dstAt, Act.put, List.getElem?_toArray, List.getElem?_cons_zero, List.getElem?_cons_succ, Option.bind_some, List.setIfInBounds_toArray, List.set_cons_zero, List.set_cons_succ]
              simp only [e2]
              clear e2
              go_wp2
              exact ⟨rfl, Ext.refl _, rfl⟩
            · intro vals w1 hx hd ha
              have e2 : vals 2 = .bool true := hd 2 (by decide)
              have e5 : vals 5 = undef := hd 5 (by decide)
              clear hd ha
              simp only [Lf, dstAt, Act.put, List.getElem?_toArray, List.getElem?_cons_zero, List.getElem?_cons_succ, Option.bind_some, List.setIfInBounds_toArray, List.set_cons_zero, List.set_cons_succ]
              simp only [e2, e5]
              clear e2 e5
              go_wp2
              exact ⟨rfl, Ext.refl _, rfl⟩
            · intro vals w1 hx hd ha
              have e2 : vals 2 = .bool true := hd 2 (by decide)
              have e6 : vals 6 = undef := hd 6 (by decide)
              clear hd ha
              simp only [Lf, dstAt, Act.put, List.getElem?_toArray, List.getElem?_cons_zero, List.getElem?_cons_succ, Option.bind_some, List.setIfInBounds_toArray, List.set_cons_zero, List.set_cons_succ]
              simp only [e2, e6]
              clear e2 e6
              go_wp2
              exact ⟨rfl, Ext.refl _, rfl⟩
            · intro vals w1 hx hd ha
              have e2 : vals 2 = .bool true := hd 2 (by decide)
              have e7 : vals 7 = undef := hd 7 (by decide)
              clear hd ha
              simp only [Lf, dstAt, Act.put, List.getElem?_toArray, List.getElem?_cons_zero, List.getElem?_cons_succ, Option.bind_some, List.setIfInBounds_toArray, List.set_cons_zero, List.set_cons_succ]
              simp only [e2, e7]
              clear e2 e7
              have hs0 := ext_cell hx hs0
              go_wp2
              exact ⟨rfl, Ext.refl _, rfl⟩
            · intro vals w1 hx hd ha
              have e2 : vals 2 = .bool true := hd 2 (by decide)
              have e4 : vals 4 = undef := hd 4 (by decide)
              have e8 : vals 8 = undef := hd 8 (by decide)
              clear hd ha
              simp only [Lf, dstAt, Act.put, List.getElem?_toArray, List.getElem?_cons_zero, List.getElem?_cons_succ, Option.bind_some, List.setIfInBounds_toArray, List.set_cons_zero, List.set_cons_succ]
              simp only [e2, e4, e8]
              clear e2 e4 e8
              go_wp2
              exact ⟨rfl, Ext.refl _, rfl⟩
            · intro vals w1 hx hd ha
              have e2 : vals 2 = .bool true := hd 2 (by decide)
              have e9 : vals 9 = undef := hd 9 (by decide)
              clear hd ha
              simp only [Lf, dstAt, Act.put, List.getElem?_toArray, List.getElem?_cons_zero, List.getElem?_cons_succ, Option.bind_some, List.setIfInBounds_toArray, List.set_cons_zero, List.set_cons_succ]
              simp only [e2, e9]
              clear e2 e9
              go_wp2
              exact ⟨rfl, Ext.refl _, rfl⟩
            · intro vals w1 hx hd ha
              have e2 : vals 2 = .bool true := hd 2 (by decide)
              have e10 : vals 10 = .bool true := hd 10 (by decide)
              clear hd ha
              simp only [Lf, dstAt, Act.put, List.getElem?_toArray, List.getElem?_cons_zero, List.getElem?_cons_succ, Option.bind_some, List.setIfInBounds_toArray, List.set_cons_zero, List.set_cons_succ]
              simp only [e2, e10]
              clear e2 e10
              go_wp2
              exact ⟨rfl, Ext.refl _, rfl⟩
            · intro vals w1 hx hd ha
              have e11 : vals 11 = .bool true := hd 11 (by decide)
              clear hd ha
              simp only [Lf, dstAt, Act.put, List.getElem?_toArray, List.getElem?_cons_zero, List.getElem?_cons_succ, Option.bind_some, List.setIfInBounds_toArray, List.set_cons_zero, List.set_cons_succ]
              simp only [e11]
              clear e11
              go_wp2
              exact ⟨rfl, Ext.refl _, rfl⟩
            · intro vals w1 hx hd ha
              have e11 : vals 11 = .bool true := hd 11 (by decide)
              clear hd ha
              simp only [Lf, dstAt, Act.put, List.getElem?_toArray, List.getElem?_cons_zero, List.getElem?_cons_succ, Option.bind_some, List.setIfInBounds_toArray, List.set_cons_zero, List.set_cons_succ]
              simp only [e11]
              clear e11
              go_wp2
              exact ⟨rfl, Ext.refl _, rfl⟩
            · intro vals w1 hx hd ha
              have e11 : vals 11 = .bool true := hd 11 (by decide)
              have e13 : vals 13 = undef := hd 13 (by decide)
              clear hd ha
              simp only [Lf, dstAt, Act.put, List.getElem?_toArray, List.getElem?_cons_zero, List.getElem?_cons_succ, Option.bind_some, List.setIfInBounds_toArray, List.set_cons_zero, List.set_cons_succ]
              simp only [e11, e13]
              clear e11 e13
              have d0 := ext_cell hx d0
              go_wp2
              exact ⟨rfl, Ext.refl _, rfl⟩
            · intro vals w1 hx hd ha
              have e11 : vals 11 = .bool true := hd 11 (by decide)
              have e12 : vals 12 = undef := hd 12 (by decide)
              have e14 : vals 14 = undef := hd 14 (by decide)
              clear hd ha
              simp only [Lf, dstAt, Act.put, List.getElem?_toArray, List.getElem?_cons_zero, List.getElem?_cons_succ, Option.bind_some, List.setIfInBounds_toArray, List.set_cons_zero, List.set_cons_succ]
              simp only [e11, e12, e14]
              clear e11 e12 e14
              go_wp2
              exact ⟨rfl, Ext.refl _, rfl⟩
            · intro vals w1 hx hd ha
              have e11 : vals 11 = .bool true := hd 11 (by decide)
              have e15 : vals 15 = undef := hd 15 (by decide)
              clear hd ha
              simp only [Lf, dstAt, Act.put, List.getElem?_toArray, List.getElem?_cons_zero, List.getElem?_cons_succ, Option.bind_some, List.setIfInBounds_toArray, List.set_cons_zero, List.set_cons_succ]
              simp only [e11, e15]
              clear e11 e15
              go_wp2
              exact ⟨rfl, Ext.refl _, rfl⟩
          intro vals W5 hx5 hf
          have e16 : vals 16 = .bool true := hf 16 (by omega)
          clear hf
          have hx5 := hx5.undrew
          have hx4 := Ext.trans hx4 hx5
          refine tail0 (by kernel_rfl) ?_
          simp only [Lf, dstAt, Act.put, List.getElem?_toArray, List.getElem?_cons_zero, List.getElem?_cons_succ, Option.bind_some, List.setIfInBounds_toArray, List.set_cons_zero, List.set_cons_succ]
          rw [e16]
          clear e16
          go_wp2
          exact bodyPost_ret (v := .tuple #[.slice none 0 0, .bool false]) (by simp [results, Try.results36, go_sem]) rfl ⟨_, by rw [HF.out], by rw [HFALSE.out HF.out]; exact World.ownsRow_nil _ _ _ _, hx4⟩
        have h1 : ev = 0 := HEV.out.symm
        subst h1
        clear HEV
        obtain ⟨hm1, hm6⟩ := HCAN.out rfl
        clear HCAN
        have hml : l.length = m := HSL4.out.len
        rw [hml] at hm1 hm6
        have HML := Lib.hid hml
        clear hml
        by_cases hsat : ¬ sat = s0
        · have hne : (sat != s0) = true := by simpa using hsat
          have HF : Hid (cb = false) := Lib.hid (by rw [HCB.out, decide_eq_false hsat]; simp)
          clear HCB
          refine wp_region_obl 17 (fun ix vals v w1 => match ix with | 0 => v = .int .i64 0 | 1 => v = .bool false | 2 => v = .bool false | 3 => v = .pointer (some ⟨g1, 3, none⟩) | 4 => v = .int .i64 sat | 5 => v = .slice (some ⟨b, off, none⟩) n c | 6 => v = .pointer (some ⟨b, off, none⟩) | 7 => v = .pointer (some ⟨b, off + 3, none⟩) | 8 => v = .int .i64 s0 | 9 => v = .bool true | 10 => v = .bool true | 11 => v = .bool true | 12 => v = undef | 13 => v = undef | 14 => v = undef | 15 => v = undef | _ => v = .bool true) (by kernel_rfl) (by kernel_rfl) ?_ ?_ ?_ ?_
          · intro ix vals v w1 w2 hi hr hx
            match ix, hr with
            | 0, hr => exact hr
            | 1, hr => exact hr
            | 2, hr => exact hr
            | 3, hr => exact hr
            | 4, hr => exact hr
            | 5, hr => exact hr
            | 6, hr => exact hr
            | 7, hr => exact hr
            | 8, hr => exact hr
            | 9, hr => exact hr
            | 10, hr => exact hr
            | 11, hr => exact hr
            | 12, hr => exact hr
            | 13, hr => exact hr
            | 14, hr => exact hr
            | 15, hr => exact hr
            | (kx + 16), hr => exact hr
          · intro ix vals vals_ v w1 hi hv hr
            exact hr
          · refine ⟨?_, ?_, ?_, ?_, ?_, ?_, ?_, ?_, ?_, ?_, ?_, ?_, ?_, ?_, ?_, ?_, ?_, trivial⟩
            · intro vals w1 hx hd ha
              clear hd ha
              simp only [Lf]
              go_wp2
              exact ⟨rfl, Ext.refl _, rfl⟩
            · intro vals w1 hx hd ha
              have e0 : vals 0 = .int .i64 0 := hd 0 (by decide)
              clear hd ha
              simp only [Lf, dstAt, Act.put, List.getElem?_toArray, List.getElem?_cons_zero, Option.bind_some, List.setIfInBounds_toArray, List.set_cons_zero, List.set_cons_succ]
              simp only [e0]
              clear e0
              go_wp2
              exact ⟨rfl, Ext.refl _, rfl⟩
            · intro vals w1 hx hd ha
              have e1 : vals 1 = .bool false := hd 1 (by decide)
              clear hd ha
              simp only [Lf, dstAt, Act.put, List.getElem?_toArray, List.getElem?_cons_zero, List.getElem?_cons_succ, Option.bind_some, List.setIfInBounds_toArray, List.set_cons_zero, List.set_cons_succ]
              simp only [e1]
              clear e1
              go_wp2
              exact ⟨rfl, Ext.refl _, rfl⟩
            · intro vals w1 hx hd ha
              have e2 : vals 2 = .bool false := hd 2 (by decide)
              clear hd ha
              simp only [Lf, dstAt, Act.put, List.getElem?_toArray, List.getElem?_cons_zero, List.getElem?_cons_succ, Option.bind_some, List.setIfInBounds_toArray, List.set_cons_zero, List.set_cons_succ]
              simp only [e2]
              clear e2
              go_wp2
              exact ⟨rfl, Ext.refl _, rfl⟩
            · intro vals w1 hx hd ha
              have e2 : vals 2 = .bool false := hd 2 (by decide)
              have e3 : vals 3 = .pointer (some ⟨g1, 3, none⟩) := hd 3 (by decide)
              clear hd ha
              simp only [Lf, dstAt, Act.put, List.getElem?_toArray, List.getElem?_cons_zero, List.getElem?_cons_succ, Option.bind_some, List.setIfInBounds_toArray, List.set_cons_zero, List.set_cons_succ]
              simp only [e2, e3]
              clear e2 e3
              have d3 := ext_cell hx d3
              go_wp2
              exact ⟨rfl, Ext.refl _, rfl⟩
            · intro vals w1 hx hd ha
              have e2 : vals 2 = .bool false := hd 2 (by decide)
              clear hd ha
              simp only [Lf, dstAt, Act.put, List.getElem?_toArray, List.getElem?_cons_zero, List.getElem?_cons_succ, Option.bind_some, List.setIfInBounds_toArray, List.set_cons_zero, List.set_cons_succ]
              simp only [e2]
              clear e2
              go_wp2
              exact ⟨rfl, Ext.refl _, rfl⟩
            · intro vals w1 hx hd ha
              have e2 : vals 2 = .bool false := hd 2 (by decide)
              have e5 : vals 5 = .slice (some ⟨b, off, none⟩) n c := hd 5 (by decide)
              clear hd ha
              simp only [Lf, dstAt, Act.put, List.getElem?_toArray, List.getElem?_cons_zero, List.getElem?_cons_succ, Option.bind_some, List.setIfInBounds_toArray, List.set_cons_zero, List.set_cons_succ]
              simp only [e2, e5]
              clear e2 e5
              go_wp2
              exact ⟨rfl, Ext.refl _, rfl⟩
            · intro vals w1 hx hd ha
              have e2 : vals 2 = .bool false := hd 2 (by decide)
              have e6 : vals 6 = .pointer (some ⟨b, off, none⟩) := hd 6 (by decide)
              clear hd ha
              simp only [Lf, dstAt, Act.put, List.getElem?_toArray, List.getElem?_cons_zero, List.getElem?_cons_succ, Option.bind_some, List.setIfInBounds_toArray, List.set_cons_zero, List.set_cons_succ]
              simp only [e2, e6]
              clear e2 e6
              go_wp2
              exact ⟨rfl, Ext.refl _, rfl⟩
            · intro vals w1 hx hd ha
              have e2 : vals 2 = .bool false := hd 2 (by decide)
              have e7 : vals 7 = .pointer (some ⟨b, off + 3, none⟩) := hd 7 (by decide)
              clear hd ha
              simp only [Lf, dstAt, Act.put, List.getElem?_toArray, List.getElem?_cons_zero, List.getElem?_cons_succ, Option.bind_some, List.setIfInBounds_toArray, List.set_cons_zero, List.set_cons_succ]
              simp only [e2, e7]
              clear e2 e7
              have hs0 := ext_cell hx hs0
              go_wp2
              exact ⟨rfl, Ext.refl _, rfl⟩
            · intro vals w1 hx hd ha
              have e2 : vals 2 = .bool false := hd 2 (by decide)
              have e4 : vals 4 = .int .i64 sat := hd 4 (by decide)
              have e8 : vals 8 = .int .i64 s0 := hd 8 (by decide)
              clear hd ha
              simp only [Lf, dstAt, Act.put, List.getElem?_toArray, List.getElem?_cons_zero, List.getElem?_cons_succ, Option.bind_some, List.setIfInBounds_toArray, List.set_cons_zero, List.set_cons_succ]
              simp only [e2, e4, e8]
              clear e2 e4 e8
              go_wp2
              exact ⟨rfl, Ext.refl _, rfl⟩
            · intro vals w1 hx hd ha
              have e2 : vals 2 = .bool false := hd 2 (by decide)
              have e9 : vals 9 = .bool true := hd 9 (by decide)
              clear hd ha
              simp only [Lf, dstAt, Act.put, List.getElem?_toArray, List.getElem?_cons_zero, List.getElem?_cons_succ, Option.bind_some, List.setIfInBounds_toArray, List.set_cons_zero, List.set_cons_succ]
              simp only [e2, e9]
              clear e2 e9
              go_wp2
              exact ⟨rfl, Ext.refl _, rfl⟩
            · intro vals w1 hx hd ha
              have e2 : vals 2 = .bool false := hd 2 (by decide)
              have e10 : vals 10 = .bool true := hd 10 (by decide)
              clear hd ha
              simp only [Lf, dstAt, Act.put, List.getElem?_toArray, List.getElem?_cons_zero, List.getElem?_cons_succ, Option.bind_some, List.setIfInBounds_toArray, List.set_cons_zero, List.set_cons_succ]
              simp only [e2, e10]
              clear e2 e10
              go_wp2
              exact ⟨rfl, Ext.refl _, rfl⟩
            · intro vals w1 hx hd ha
              have e11 : vals 11 = .bool true := hd 11 (by decide)
              clear hd ha
              simp only [Lf, dstAt, Act.put, List.getElem?_toArray, List.getElem?_cons_zero, List.getElem?_cons_succ, Option.bind_some, List.setIfInBounds_toArray, List.set_cons_zero, List.set_cons_succ]
              simp only [e11]
              clear e11
              go_wp2
              exact ⟨rfl, Ext.refl _, rfl⟩
            · intro vals w1 hx hd ha
              have e11 : vals 11 = .bool true := hd 11 (by decide)
              clear hd ha
              simp only [Lf, dstAt, Act.put, List.getElem?_toArray, List.getElem?_cons_zero, List.getElem?_cons_succ, Option.bind_some, List.setIfInBounds_toArray, List.set_cons_zero, List.set_cons_succ]
              simp only [e11]
              clear e11
              go_wp2
              exact ⟨rfl, Ext.refl _, rfl⟩
            · intro vals w1 hx hd ha
              have e11 : vals 11 = .bool true := hd 11 (by decide)
              have e13 : vals 13 = undef := hd 13 (by decide)
              clear hd ha
              simp only [Lf, dstAt, Act.put, List.getElem?_toArray, List.getElem?_cons_zero, List.getElem?_cons_succ, Option.bind_some, List.setIfInBounds_toArray, List.set_cons_zero, List.set_cons_succ]
              simp only [e11, e13]
              clear e11 e13
              have d0 := ext_cell hx d0
              go_wp2
              exact ⟨rfl, Ext.refl _, rfl⟩
            · intro vals w1 hx hd ha
              have e11 : vals 11 = .bool true := hd 11 (by decide)
              have e12 : vals 12 = undef := hd 12 (by decide)
              have e14 : vals 14 = undef := hd 14 (by decide)
              clear hd ha
              simp only [Lf, dstAt, Act.put, List.getElem?_toArray, List.getElem?_cons_zero, List.getElem?_cons_succ, Option.bind_some, List.setIfInBounds_toArray, List.set_cons_zero, List.set_cons_succ]
              simp only [e11, e12, e14]
              clear e11 e12 e14
              go_wp2
              exact ⟨rfl, Ext.refl _, rfl⟩
            · intro vals w1 hx hd ha
              have e11 : vals 11 = .bool true := hd 11 (by decide)
              have e15 : vals 15 = undef := hd 15 (by decide)
              clear hd ha
              simp only [Lf, dstAt, Act.put, List.getElem?_toArray, List.getElem?_cons_zero, List.getElem?_cons_succ, Option.bind_some, List.setIfInBounds_toArray, List.set_cons_zero, List.set_cons_succ]
              simp only [e11, e15]
              clear e11 e15
              go_wp2
              exact ⟨rfl, Ext.refl _, rfl⟩
          intro vals W5 hx5 hf
          have e16 : vals 16 = .bool true := hf 16 (by omega)
          clear hf
          have hx5 := hx5.undrew
          have hx4 := Ext.trans hx4 hx5
          refine tail0 (by kernel_rfl) ?_
          simp only [Lf, dstAt, Act.put, List.getElem?_toArray, List.getElem?_cons_zero, List.getElem?_cons_succ, Option.bind_some, List.setIfInBounds_toArray, List.set_cons_zero, List.set_cons_succ]
          rw [e16]
          clear e16
          go_wp2
          exact bodyPost_ret (v := .tuple #[.slice none 0 0, .bool false]) (by simp [results, Try.results36, go_sem]) rfl ⟨_, by rw [HF.out], by rw [HFALSE.out HF.out]; exact World.ownsRow_nil _ _ _ _, hx4⟩
        have hsat : sat = s0 := Decidable.of_not_not hsat
        subst hsat
        by_cases hsn : id ∈ seen
        · have HF : Hid (cb = false) := Lib.hid (by rw [HCB.out, decide_eq_true hsn]; simp)
          clear HCB
          refine wp_region_obl 17 (fun ix vals v w1 => match ix with | 0 => v = .int .i64 0 | 1 => v = .bool false | 2 => v = .bool false | 3 => v = .pointer (some ⟨g1, 3, none⟩) | 4 => v = .int .i64 sat | 5 => v = .slice (some ⟨b, off, none⟩) n c | 6 => v = .pointer (some ⟨b, off, none⟩) | 7 => v = .pointer (some ⟨b, off + 3, none⟩) | 8 => v = .int .i64 sat | 9 => v = .bool false | 10 => v = .bool false | 11 => v = .bool false | 12 => v = .map (some gm) | 13 => v = .pointer (some ⟨g1, 0, none⟩) | 14 => v = .int .i64 id | 15 => v = .bool true | _ => v = .bool true) (by kernel_rfl) (by kernel_rfl) ?_ ?_ ?_ ?_
          · intro ix vals v w1 w2 hi hr hx
            match ix, hr with
            | 0, hr => exact hr
            | 1, hr => exact hr
            | 2, hr => exact hr
            | 3, hr => exact hr
            | 4, hr => exact hr
            | 5, hr => exact hr
            | 6, hr => exact hr
            | 7, hr => exact hr
            | 8, hr => exact hr
            | 9, hr => exact hr
            | 10, hr => exact hr
            | 11, hr => exact hr
            | 12, hr => exact hr
            | 13, hr => exact hr
            | 14, hr => exact hr
            | 15, hr => exact hr
            | (kx + 16), hr => exact hr
          · intro ix vals vals_ v w1 hi hv hr
            exact hr
          · refine ⟨?_, ?_, ?_, ?_, ?_, ?_, ?_, ?_, ?_, ?_, ?_, ?_, ?_, ?_, ?_, ?_, ?_, trivial⟩
            · intro vals w1 hx hd ha
              clear hd ha
              simp only [Lf]
              go_wp2
              exact ⟨rfl, Ext.refl _, rfl⟩
            · intro vals w1 hx hd ha
              have e0 : vals 0 = .int .i64 0 := hd 0 (by decide)
              clear hd ha
              simp only [Lf, dstAt, Act.put, List.getElem?_toArray, List.getElem?_cons_zero, Option.bind_some, List.setIfInBounds_toArray, List.set_cons_zero, List.set_cons_succ]
              simp only [e0]
              clear e0
              go_wp2
              exact ⟨rfl, Ext.refl _, rfl⟩
            · intro vals w1 hx hd ha
              have e1 : vals 1 = .bool false := hd 1 (by decide)
              clear hd ha
              simp only [Lf, dstAt, Act.put, List.getElem?_toArray, List.getElem?_cons_zero, List.getElem?_cons_succ, Option.bind_some, List.setIfInBounds_toArray, List.set_cons_zero, List.set_cons_succ]
              simp only [e1]
              clear e1
              go_wp2
              exact ⟨rfl, Ext.refl _, rfl⟩
            · intro vals w1 hx hd ha
              have e2 : vals 2 = .bool false := hd 2 (by decide)
              clear hd ha
              simp only [Lf, dstAt, Act.put, List.getElem?_toArray, List.getElem?_cons_zero, List.getElem?_cons_succ, Option.bind_some, List.setIfInBounds_toArray, List.set_cons_zero, List.set_cons_succ]
              simp only [e2]
              clear e2
              go_wp2
              exact ⟨rfl, Ext.refl _, rfl⟩
            · intro vals w1 hx hd ha
              have e2 : vals 2 = .bool false := hd 2 (by decide)
              have e3 : vals 3 = .pointer (some ⟨g1, 3, none⟩) := hd 3 (by decide)
              clear hd ha
              simp only [Lf, dstAt, Act.put, List.getElem?_toArray, List.getElem?_cons_zero, List.getElem?_cons_succ, Option.bind_some, List.setIfInBounds_toArray, List.set_cons_zero, List.set_cons_succ]
              simp only [e2, e3]
              clear e2 e3
              have d3 := ext_cell hx d3
              go_wp2
              exact ⟨rfl, Ext.refl _, rfl⟩
            · intro vals w1 hx hd ha
              have e2 : vals 2 = .bool false := hd 2 (by decide)
              clear hd ha
              simp only [Lf, dstAt, Act.put, List.getElem?_toArray, List.getElem?_cons_zero, List.getElem?_cons_succ, Option.bind_some, List.setIfInBounds_toArray, List.set_cons_zero, List.set_cons_succ]
              simp only [e2]
              clear e2
              go_wp2
              exact ⟨rfl, Ext.refl _, rfl⟩
            · intro vals w1 hx hd ha
              have e2 : vals 2 = .bool false := hd 2 (by decide)
              have e5 : vals 5 = .slice (some ⟨b, off, none⟩) n c := hd 5 (by decide)
              clear hd ha
              simp only [Lf, dstAt, Act.put, List.getElem?_toArray, List.getElem?_cons_zero, List.getElem?_cons_succ, Option.bind_some, List.setIfInBounds_toArray, List.set_cons_zero, List.set_cons_succ]
              simp only [e2, e5]
              clear e2 e5
              go_wp2
              exact ⟨rfl, Ext.refl _, rfl⟩
            · intro vals w1 hx hd ha
              have e2 : vals 2 = .bool false := hd 2 (by decide)
              have e6 : vals 6 = .pointer (some ⟨b, off, none⟩) := hd 6 (by decide)
              clear hd ha
              simp only [Lf, dstAt, Act.put, List.getElem?_toArray, List.getElem?_cons_zero, List.getElem?_cons_succ, Option.bind_some, List.setIfInBounds_toArray, List.set_cons_zero, List.set_cons_succ]
              simp only [e2, e6]
              clear e2 e6
              go_wp2
              exact ⟨rfl, Ext.refl _, rfl⟩
            · intro vals w1 hx hd ha
              have e2 : vals 2 = .bool false := hd 2 (by decide)
              have e7 : vals 7 = .pointer (some ⟨b, off + 3, none⟩) := hd 7 (by decide)
              clear hd ha
              simp only [Lf, dstAt, Act.put, List.getElem?_toArray, List.getElem?_cons_zero, List.getElem?_cons_succ, Option.bind_some, List.setIfInBounds_toArray, List.set_cons_zero, List.set_cons_succ]
              simp only [e2, e7]
              clear e2 e7
              have hs0 := ext_cell hx hs0
              go_wp2
              exact ⟨rfl, Ext.refl _, rfl⟩
            · intro vals w1 hx hd ha
              have e2 : vals 2 = .bool false := hd 2 (by decide)
              have e4 : vals 4 = .int .i64 sat := hd 4 (by decide)
              have e8 : vals 8 = .int .i64 sat := hd 8 (by decide)
              clear hd ha
              simp only [Lf, dstAt, Act.put, List.getElem?_toArray, List.getElem?_cons_zero, List.getElem?_cons_succ, Option.bind_some, List.setIfInBounds_toArray, List.set_cons_zero, List.set_cons_succ]
              simp only [e2, e4, e8]
              clear e2 e4 e8
              go_wp2
              exact ⟨rfl, Ext.refl _, rfl⟩
            · intro vals w1 hx hd ha
              have e2 : vals 2 = .bool false := hd 2 (by decide)
              have e9 : vals 9 = .bool false := hd 9 (by decide)
              clear hd ha
              simp only [Lf, dstAt, Act.put, List.getElem?_toArray, List.getElem?_cons_zero, List.getElem?_cons_succ, Option.bind_some, List.setIfInBounds_toArray, List.set_cons_zero, List.set_cons_succ]
              simp only [e2, e9]
              clear e2 e9
              go_wp2
              exact ⟨rfl, Ext.refl _, rfl⟩
            · intro vals w1 hx hd ha
              have e2 : vals 2 = .bool false := hd 2 (by decide)
              have e10 : vals 10 = .bool false := hd 10 (by decide)
              clear hd ha
              simp only [Lf, dstAt, Act.put, List.getElem?_toArray, List.getElem?_cons_zero, List.getElem?_cons_succ, Option.bind_some, List.setIfInBounds_toArray, List.set_cons_zero, List.set_cons_succ]
              simp only [e2, e10]
              clear e2 e10
              go_wp2
              exact ⟨rfl, Ext.refl _, rfl⟩
            · intro vals w1 hx hd ha
              have e11 : vals 11 = .bool false := hd 11 (by decide)
              clear hd ha
              simp only [Lf, dstAt, Act.put, List.getElem?_toArray, List.getElem?_cons_zero, List.getElem?_cons_succ, Option.bind_some, List.setIfInBounds_toArray, List.set_cons_zero, List.set_cons_succ]
              simp only [e11]
              clear e11
              go_wp2
              exact ⟨rfl, Ext.refl _, rfl⟩
            · intro vals w1 hx hd ha
              have e11 : vals 11 = .bool false := hd 11 (by decide)
              clear hd ha
              simp only [Lf, dstAt, Act.put, List.getElem?_toArray, List.getElem?_cons_zero, List.getElem?_cons_succ, Option.bind_some, List.setIfInBounds_toArray, List.set_cons_zero, List.set_cons_succ]
              simp only [e11]
              clear e11
              go_wp2
              exact ⟨rfl, Ext.refl _, rfl⟩
            · intro vals w1 hx hd ha
              have e11 : vals 11 = .bool false := hd 11 (by decide)
              have e13 : vals 13 = .pointer (some ⟨g1, 0, none⟩) := hd 13 (by decide)
              clear hd ha
              simp only [Lf, dstAt, Act.put, List.getElem?_toArray, List.getElem?_cons_zero, List.getElem?_cons_succ, Option.bind_some, List.setIfInBounds_toArray, List.set_cons_zero, List.set_cons_succ]
              simp only [e11, e13]
              clear e11 e13
              have d0 := ext_cell hx d0
              go_wp2
              exact ⟨rfl, Ext.refl _, rfl⟩
            · intro vals w1 hx hd ha
              have e11 : vals 11 = .bool false := hd 11 (by decide)
              have e12 : vals 12 = .map (some gm) := hd 12 (by decide)
              have e14 : vals 14 = .int .i64 id := hd 14 (by decide)
              clear hd ha
              simp only [Lf, dstAt, Act.put, List.getElem?_toArray, List.getElem?_cons_zero, List.getElem?_cons_succ, Option.bind_some, List.setIfInBounds_toArray, List.set_cons_zero, List.set_cons_succ]
              simp only [e11, e12, e14]
              clear e11 e12 e14
              have hlk := (HM4.out.ext hx.undrew).look Try.underlying104 Try.underlying3 (zero_bool _) id; rw [seenM_get, decide_eq_true hsn] at hlk
              go_wp2
              exact ⟨rfl, Ext.refl _, rfl⟩
            · intro vals w1 hx hd ha
              have e11 : vals 11 = .bool false := hd 11 (by decide)
              have e15 : vals 15 = .bool true := hd 15 (by decide)
              clear hd ha
              simp only [Lf, dstAt, Act.put, List.getElem?_toArray, List.getElem?_cons_zero, List.getElem?_cons_succ, Option.bind_some, List.setIfInBounds_toArray, List.set_cons_zero, List.set_cons_succ]
              simp only [e11, e15]
              clear e11 e15
              go_wp2
              exact ⟨rfl, Ext.refl _, rfl⟩
          intro vals W5 hx5 hf
          have e16 : vals 16 = .bool true := hf 16 (by omega)
          clear hf
          have hx5 := hx5.undrew
          have hx4 := Ext.trans hx4 hx5
          refine tail0 (by kernel_rfl) ?_
          simp only [Lf, dstAt, Act.put, List.getElem?_toArray, List.getElem?_cons_zero, List.getElem?_cons_succ, Option.bind_some, List.setIfInBounds_toArray, List.set_cons_zero, List.set_cons_succ]
          rw [e16]
          clear e16
          go_wp2
          exact bodyPost_ret (v := .tuple #[.slice none 0 0, .bool false]) (by simp [results, Try.results36, go_sem]) rfl ⟨_, by rw [HF.out], by rw [HFALSE.out HF.out]; exact World.ownsRow_nil _ _ _ _, hx4⟩
        have HCB2 : Hid (cb = ((l.all (fun s => inB s.p 0 63) && okR sat (seen ++ [id]) ((opsP os).drop (k + 1))) && adjP (sortP ltP R))) := Lib.hid (by rw [HCB.out, decide_eq_true rfl, decide_eq_false hsn]; simp [Bool.and_assoc])
        clear HCB
        refine wp_region_obl 17 (fun ix vals v w1 => match ix with | 0 => v = .int .i64 0 | 1 => v = .bool false | 2 => v = .bool false | 3 => v = .pointer (some ⟨g1, 3, none⟩) | 4 => v = .int .i64 sat | 5 => v = .slice (some ⟨b, off, none⟩) n c | 6 => v = .pointer (some ⟨b, off, none⟩) | 7 => v = .pointer (some ⟨b, off + 3, none⟩) | 8 => v = .int .i64 sat | 9 => v = .bool false | 10 => v = .bool false | 11 => v = .bool false | 12 => v = .map (some gm) | 13 => v = .pointer (some ⟨g1, 0, none⟩) | 14 => v = .int .i64 id | 15 => v = .bool false | _ => v = .bool false) (by kernel_rfl) (by kernel_rfl) ?_ ?_ ?_ ?_
        · intro ix vals v w1 w2 hi hr hx
          match ix, hr with
          | 0, hr => exact hr
          | 1, hr => exact hr
          | 2, hr => exact hr
          | 3, hr => exact hr
          | 4, hr => exact hr
          | 5, hr => exact hr
          | 6, hr => exact hr
          | 7, hr => exact hr
          | 8, hr => exact hr
          | 9, hr => exact hr
          | 10, hr => exact hr
          | 11, hr => exact hr
          | 12, hr => exact hr
          | 13, hr => exact hr
          | 14, hr => exact hr
          | 15, hr => exact hr
          | (kx + 16), hr => exact hr
        · intro ix vals vals_ v w1 hi hv hr
          exact hr
        · refine ⟨?_, ?_, ?_, ?_, ?_, ?_, ?_, ?_, ?_, ?_, ?_, ?_, ?_, ?_, ?_, ?_, ?_, trivial⟩
          · intro vals w1 hx hd ha
            clear hd ha
            simp only [Lf]
            go_wp2
            exact ⟨rfl, Ext.refl _, rfl⟩
          · intro vals w1 hx hd ha
            have e0 : vals 0 = .int .i64 0 := hd 0 (by decide)
            clear hd ha
            simp only [Lf, dstAt, Act.put, List.getElem?_toArray, List.getElem?_cons_zero, Option.bind_some, List.setIfInBounds_toArray, List.set_cons_zero, List.set_cons_succ]
            simp only [e0]
            clear e0
            go_wp2
            exact ⟨rfl, Ext.refl _, rfl⟩
          · intro vals w1 hx hd ha
            have e1 : vals 1 = .bool false := hd 1 (by decide)
            clear hd ha
            simp only [Lf, dstAt, Act.put, List.getElem?_toArray, List.getElem?_cons_zero, List.getElem?_cons_succ, Option.bind_some, List.setIfInBounds_toArray, List.set_cons_zero, List.set_cons_succ]
            simp only [e1]
            clear e1
            go_wp2
            exact ⟨rfl, Ext.refl _, rfl⟩
          · intro vals w1 hx hd ha
            have e2 : vals 2 = .bool false := hd 2 (by decide)
            clear hd ha
            simp only [Lf, dstAt, Act.put, List.getElem?_toArray, List.getElem?_cons_zero, List.getElem?_cons_succ, Option.bind_some, List.setIfInBounds_toArray, List.set_cons_zero, List.set_cons_succ]
            simp only [e2]
            clear e2
            go_wp2
            exact ⟨rfl, Ext.refl _, rfl⟩
          · intro vals w1 hx hd ha
            have e2 : vals 2 = .bool false := hd 2 (by decide)
            have e3 : vals 3 = .pointer (some ⟨g1, 3, none⟩) := hd 3 (by decide)
            clear hd ha
            simp only [Lf, dstAt, Act.put, List.getElem?_toArray, List.getElem?_cons_zero, List.getElem?_cons_succ, Option.bind_some, List.setIfInBounds_toArray, List.set_cons_zero, List.set_cons_succ]
            simp only [e2, e3]
            clear e2 e3
            have d3 := ext_cell hx d3
            go_wp2
            exact ⟨rfl, Ext.refl _, rfl⟩
          · intro vals w1 hx hd ha
            have e2 : vals 2 = .bool false := hd 2 (by decide)
            clear hd ha
            simp only [Lf, dstAt, Act.put, List.getElem?_toArray, List.getElem?_cons_zero, List.getElem?_cons_succ, Option.bind_some, List.setIfInBounds_toArray, List.set_cons_zero, List.set_cons_succ]
            simp only [e2]
            clear e2
            go_wp2
            exact ⟨rfl, Ext.refl _, rfl⟩
          · intro vals w1 hx hd ha
            have e2 : vals 2 = .bool false := hd 2 (by decide)
            have e5 : vals 5 = .slice (some ⟨b, off, none⟩) n c := hd 5 (by decide)
            clear hd ha
            simp only [Lf, dstAt, Act.put, List.getElem?_toArray, List.getElem?_cons_zero, List.getElem?_cons_succ, Option.bind_some, List.setIfInBounds_toArray, List.set_cons_zero, List.set_cons_succ]
            simp only [e2, e5]
            clear e2 e5
            go_wp2
            exact ⟨rfl, Ext.refl _, rfl⟩
          · intro vals w1 hx hd ha
            have e2 : vals 2 = .bool false := hd 2 (by decide)
            have e6 : vals 6 = .pointer (some ⟨b, off, none⟩) := hd 6 (by decide)
            clear hd ha
            simp only [Lf, dstAt, Act.put, List.getElem?_toArray, List.getElem?_cons_zero, List.getElem?_cons_succ, Option.bind_some, List.setIfInBounds_toArray, List.set_cons_zero, List.set_cons_succ]
            simp only [e2, e6]
            clear e2 e6
            go_wp2
            exact ⟨rfl, Ext.refl _, rfl⟩
          · intro vals w1 hx hd ha
            have e2 : vals 2 = .bool false := hd 2 (by decide)
            have e7 : vals 7 = .pointer (some ⟨b, off + 3, none⟩) := hd 7 (by decide)
            clear hd ha
            simp only [Lf, dstAt, Act.put, List.getElem?_toArray, List.getElem?_cons_zero, List.getElem?_cons_succ, Option.bind_some, List.setIfInBounds_toArray, List.set_cons_zero, List.set_cons_succ]
            simp only [e2, e7]
            clear e2 e7
            have hs0 := ext_cell hx hs0
            go_wp2
            exact ⟨rfl, Ext.refl _, rfl⟩
          · intro vals w1 hx hd ha
            have e2 : vals 2 = .bool false := hd 2 (by decide)
            have e4 : vals 4 = .int .i64 sat := hd 4 (by decide)
            have e8 : vals 8 = .int .i64 sat := hd 8 (by decide)
            clear hd ha
            simp only [Lf, dstAt, Act.put, List.getElem?_toArray, List.getElem?_cons_zero, List.getElem?_cons_succ, Option.bind_some, List.setIfInBounds_toArray, List.set_cons_zero, List.set_cons_succ]
            simp only [e2, e4, e8]
            clear e2 e4 e8
            go_wp2
            exact ⟨rfl, Ext.refl _, rfl⟩
          · intro vals w1 hx hd ha
            have e2 : vals 2 = .bool false := hd 2 (by decide)
            have e9 : vals 9 = .bool false := hd 9 (by decide)
            clear hd ha
            simp only [Lf, dstAt, Act.put, List.getElem?_toArray, List.getElem?_cons_zero, List.getElem?_cons_succ, Option.bind_some, List.setIfInBounds_toArray, List.set_cons_zero, List.set_cons_succ]
            simp only [e2, e9]
            clear e2 e9
            go_wp2
            exact ⟨rfl, Ext.refl _, rfl⟩
          · intro vals w1 hx hd ha
            have e2 : vals 2 = .bool false := hd 2 (by decide)
            have e10 : vals 10 = .bool false := hd 10 (by decide)
            clear hd ha
            simp only [Lf, dstAt, Act.put, List.getElem?_toArray, List.getElem?_cons_zero, List.getElem?_cons_succ, Option.bind_some, List.setIfInBounds_toArray, List.set_cons_zero, List.set_cons_succ]
            simp only [e2, e10]
            clear e2 e10
            go_wp2
            exact ⟨rfl, Ext.refl _, rfl⟩
          · intro vals w1 hx hd ha
            have e11 : vals 11 = .bool false := hd 11 (by decide)
            clear hd ha
            simp only [Lf, dstAt, Act.put, List.getElem?_toArray, List.getElem?_cons_zero, List.getElem?_cons_succ, Option.bind_some, List.setIfInBounds_toArray, List.set_cons_zero, List.set_cons_succ]
            simp only [e11]
            clear e11
            go_wp2
            exact ⟨rfl, Ext.refl _, rfl⟩
          · intro vals w1 hx hd ha
            have e11 : vals 11 = .bool false := hd 11 (by decide)
            clear hd ha
            simp only [Lf, dstAt, Act.put, List.getElem?_toArray, List.getElem?_cons_zero, List.getElem?_cons_succ, Option.bind_some, List.setIfInBounds_toArray, List.set_cons_zero, List.set_cons_succ]
            simp only [e11]
            clear e11
            go_wp2
            exact ⟨rfl, Ext.refl _, rfl⟩
          · intro vals w1 hx hd ha
            have e11 : vals 11 = .bool false := hd 11 (by decide)
            have e13 : vals 13 = .pointer (some ⟨g1, 0, none⟩) := hd 13 (by decide)
            clear hd ha
            simp only [Lf, dstAt, Act.put, List.getElem?_toArray, List.getElem?_cons_zero, List.getElem?_cons_succ, Option.bind_some, List.setIfInBounds_toArray, List.set_cons_zero, List.set_cons_succ]
            simp only [e11, e13]
            clear e11 e13
            have d0 := ext_cell hx d0
            go_wp2
            exact ⟨rfl, Ext.refl _, rfl⟩
          · intro vals w1 hx hd ha
            have e11 : vals 11 = .bool false := hd 11 (by decide)
            have e12 : vals 12 = .map (some gm) := hd 12 (by decide)
            have e14 : vals 14 = .int .i64 id := hd 14 (by decide)
            clear hd ha
            simp only [Lf, dstAt, Act.put, List.getElem?_toArray, List.getElem?_cons_zero, List.getElem?_cons_succ, Option.bind_some, List.setIfInBounds_toArray, List.set_cons_zero, List.set_cons_succ]
            simp only [e11, e12, e14]
            clear e11 e12 e14
            have hlk := (HM4.out.ext hx.undrew).look Try.underlying104 Try.underlying3 (zero_bool _) id; rw [seenM_get, decide_eq_false hsn] at hlk
            go_wp2
            exact ⟨rfl, Ext.refl _, rfl⟩
          · intro vals w1 hx hd ha
            have e11 : vals 11 = .bool false := hd 11 (by decide)
            have e15 : vals 15 = .bool false := hd 15 (by decide)
            clear hd ha
            simp only [Lf, dstAt, Act.put, List.getElem?_toArray, List.getElem?_cons_zero, List.getElem?_cons_succ, Option.bind_some, List.setIfInBounds_toArray, List.set_cons_zero, List.set_cons_succ]
            simp only [e11, e15]
            clear e11 e15
            go_wp2
            exact ⟨rfl, Ext.refl _, rfl⟩
        intro vals W5 hx5 hf
        have e16 : vals 16 = .bool false := hf 16 (by omega)
        clear hf
        have hx5 := hx5.undrew
        have hx4 := Ext.trans hx4 hx5
        refine tail0 (by kernel_rfl) ?_
        simp only [Lf, dstAt, Act.put, List.getElem?_toArray, List.getElem?_cons_zero, List.getElem?_cons_succ, Option.bind_some, List.setIfInBounds_toArray, List.set_cons_zero, List.set_cons_succ]
        rw [e16]
        clear e16
        clear hsn hs0 d3
        have HO5 := Lib.hid (HO4.out.ext hx5)
        have HM5 := Lib.hid (HM4.out.ext hx5)
        have HSL5 := Lib.hid (ra_ext HSL4.out hx5)
        have J1 := J1.ext hx5
        have d0 := ext_cell hx5 d0
        have d8 := ext_cell hx5 d8
        obtain ⟨W6, hu, hm6, hg6⟩ := HM5.out.update Try.underlying104 Try.underlying3 id (.bool true)
        have hx6 : Ext w W6 := hx4.grown hg6 (Below.size hx4) (fun q e => by injection e with e; have := HG.out; omega)
        have HM6 : Hid (MapI W6 gm (seenM (seen ++ [id]))) := Lib.hid (hm6.congr fun j => seenM_put seen id j)
        have HO6 : Hid (OwnP W6 w.heap.size (.slice A4 acc.length c4) acc) := Lib.hid (own_map HO5.out HM5.out hg6)
        have hne1 : g1 ≠ gm := by
          have h1 := HM5.out.ne_blk J1
          exact h1
        have J1 : OBlk W6 g1 id i1 i2 sat sf st i6 size a m d := J1.grown hg6 (fun e => by injection e with e; exact hne1 e)
        have HU := Lib.hid hu
        clear hu hm6 hg6 HO4 HO5 HM4 HM5 HSL5 hx5
        have HSL6 : Hid (∀ W, Ext w W → RA sltCells 3 W W.heap.size a m d l) := Lib.hid (fun W hW => ra_ext HSL.out hW)
        go_upto_region 11 with (fail)
        go_upto_region 12 with (refine wpList_mapUpdate_run rfl _ _ _ _ rfl rfl rfl rfl HU.out ?_)
        have d8 : W6.cell? ⟨g1, 8, none⟩ = some (.slice a m d) := J1.cell 8
        clear hx4 d0 HU
        go_wp2
        have HO60 : Hid (∃ v, OwnP W6 w.heap.size v acc ∧ v = .slice A4 acc.length c4) := Lib.hid ⟨_, HO6.out, rfl⟩
        have HC0 : Hid (cb = (((l.drop 0).all (fun s => inB s.p 0 63) && okR sat (seen ++ [id]) ((opsP os).drop (k + 1))) && adjP (sortP ltP R))) := HCB2
        have HR0 : Hid (R = acc ++ slotsAt k 0 (l.drop 0) ++ rawF (k + 1) ((opsP os).drop (k + 1))) := Lib.hid (by rw [HRAW.out]; simp)
        clear HCB2 HRAW HO60 J1 d8
        obtain ⟨okn, hokn⟩ : ∃ x, x = okR sat (seen ++ [id]) ((opsP os).drop (k + 1)) := ⟨_, rfl⟩
        rw [← hokn] at HC0
        have HOKN := Lib.hid hokn
        clear hokn
        go_loopw [4, 52] (fun v y wr => ∃ (j : Nat) (acc2 : List Plc), j ≤ m ∧ y = .int .i64 j ∧ Hid (cb = (((l.drop j).all (fun s => inB s.p 0 63) && okn) && adjP (sortP ltP R))) ∧ Hid (R = acc2 ++ slotsAt k j (l.drop j) ++ rawF (k + 1) ((opsP os).drop (k + 1))) ∧ Hid (acc2.length = acc.length + j) ∧ Hid (OwnP wr w.heap.size v acc2) ∧ Hid (MapI wr gm (seenM (seen ++ [id]))) ∧ Ext w wr) (fun _ y _ => m - (intOf y).toNat)
        case atStart => exact ⟨0, acc, Nat.zero_le _, rfl, HC0, HR0, Lib.hid rfl, HO6, HM6, hx6⟩
        case round =>
          clear HC0 HR0 HO6 HM6 hx6
          obtain ⟨j, acc2, hj, rfl, HC, HRW, hal2, HO, HM, hx⟩ := hrel
          obtain ⟨A5, c5, hv5, _, _⟩ := own_slice HO.out
          subst hv5
          by_cases hjm : j < m
          · obtain ⟨b2, o2, hz2, hA2, _, hcell⟩ := (HSL6.out wr hx).at_ slt_len hjm
            have hcb := HC.out
            have hraw := HRW.out
            rw [List.drop_eq_getElem_cons hz2] at hcb hraw
            rw [slotsAt] at hraw
            rw [List.all_cons] at hcb
            generalize l[j] = s at hcell hcb hraw
            obtain ⟨p, fr, tt⟩ := s
            dsimp only at hcb hraw
            have c0 : wr.cell? ⟨b2, o2 + j * 3, none⟩ = some (.int .i64 p) := hcell 0 (by omega)
            have c1 : wr.cell? ⟨b2, o2 + j * 3 + 1, none⟩ = some (.int .i64 fr) := hcell 1 (by omega)
            have c2 : wr.cell? ⟨b2, o2 + j * 3 + 2, none⟩ = some (.int .i64 tt) := hcell 2 (by omega)
            have hin := fun W => isIn_any p 0 63 W
            generalize inB p 0 63 = pin at hcb hin
            have HIN := Lib.hid hin
            have HCB := Lib.hid hcb
            have HRAW := Lib.hid hraw
            subst hA2
            clear hcell hcb hraw hin hz2 HC HRW
            go_upto_region 15 with (fail)
            have J3 := Blk.new wr 62 #[.int .i64 p, .int .i64 fr, .int .i64 tt]
            have hy : Ext wr (wr.alloc (.cells #[.int .i64 p, .int .i64 fr, .int .i64 tt] 62)) := bl_alloc (Below.refl _ _) _
            generalize wr.heap.size = g3 at J3 ⊢
            generalize wr.alloc (.cells #[.int .i64 p, .int .i64 fr, .int .i64 tt] 62) = W7 at J3 hy ⊢
            have hx7 := Ext.trans hx hy
            have HO7 := Lib.hid (HO.out.ext hy)
            have HM7 := Lib.hid (HM.out.ext hy)
            have d0 : W7.cell? ⟨g3, 0, none⟩ = some (.int .i64 p) := J3.cell 0
            have d1 : W7.cell? ⟨g3, 1, none⟩ = some (.int .i64 fr) := J3.cell 1
            have d2 : W7.cell? ⟨g3, 2, none⟩ = some (.int .i64 tt) := J3.cell 2
            clear c0 c1 c2 hy hx HO HM J3
            go_wp2_with fail
            have hc := HIN.out W7
            clear HIN
            refine hc.mono ?_
            clear hc
            rintro e W8 ⟨rfl, rfl⟩
            cases pin
            · have HF : Hid (cb = false) := Lib.hid (by rw [HCB.out]; simp)
              clear HCB HRAW HO7 HM7
              go_wp2
              exact bodyPost_ret (v := .tuple #[.slice none 0 0, .bool false]) (by simp [results, Try.results36, go_sem]) rfl ⟨_, by rw [HF.out], by rw [HFALSE.out HF.out]; exact World.ownsRow_nil _ _ _ _, hx7⟩
            · have HC2 : Hid (cb = (((l.drop (j + 1)).all (fun s => inB s.p 0 63) && okn) && adjP (sortP ltP R))) := Lib.hid (by rw [HCB.out]; simp)
              have HR2 : Hid (R = (acc2 ++ [⟨k, j, fr, tt⟩]) ++ slotsAt k (j + 1) (l.drop (j + 1)) ++ rawF (k + 1) ((opsP os).drop (k + 1))) := Lib.hid (by rw [HRAW.out]; simp)
              have hxa : Ext W7 (W7.alloc (.cells #[.int .i64 (k : Int), .int .i64 (j : Int), .int .i64 fr, .int .i64 tt] 83)) := bl_alloc (Below.refl _ _) _
              have hxw := Ext.trans hx7 hxa
              obtain ⟨v9, W9, hrun, hg9, ho9⟩ := plc_snoc 73 acc2 (.slice A5 acc2.length c5) ⟨k, j, fr, tt⟩ w.heap.size W7.heap.size (Blk.new _ _ _) (HO7.out.ext hxa) (by have := hal2.out; omega) (Below.size hxw)
              have hx9 : Ext w W9 := hxw.grown hg9 (Below.size hxw) (fun q e => (World.ownsRow.lt HO7.out q e).1)
              have HO9 : Hid (OwnP W9 w.heap.size v9 (acc2 ++ [⟨k, j, fr, tt⟩])) := Lib.hid ho9
              have HM9 : Hid (MapI W9 gm (seenM (seen ++ [id]))) := Lib.hid ((HM7.out.ext hxa).grown hg9 (fun e => HM7.out.ne_own HO7.out e.symm))
              have HRUN := Lib.hid hrun
              have hal9 : (acc2 ++ [(⟨k, j, fr, tt⟩ : Plc)]).length = acc.length + (j + 1)   := by have := hal2.out; simp; omega
              have HAL := Lib.hid hal9
              generalize acc2 ++ [(⟨k, j, fr, tt⟩ : Plc)] = acc3 at HR2 HO9 HAL
              clear hrun hg9 ho9 hxw hxa hal9 HCB HRAW HM7 hx7
              go_upto_region 17 with (fail)
              go_wp2_with (refine wpList_append_run_ rfl _ _ _ rfl rfl rfl HRUN.out ?_)
              go_roundw
              case rel => exact ⟨j + 1, acc3, by omega, by go_num, HC2, HR2, HAL, HO9, HM9, hx9⟩
              case measure => simp [intOf]; omega
          · have hfin : l.drop j = [] := List.drop_of_length_le (by have := HML.out; omega)
            have HC2 : Hid (cb = (okR sat (seen ++ [id]) ((opsP os).drop (k + 1)) && adjP (sortP ltP R))) := Lib.hid (by rw [HC.out, hfin, HOKN.out]; simp)
            have HR2 : Hid (R = acc2 ++ rawF (k + 1) ((opsP os).drop (k + 1))) := Lib.hid (by rw [HRW.out, hfin]; simp [slotsAt])
            have hl6 : acc2.length ≤ 6 * (k + 1) := by have := hal2.out; omega
            have HL6 := Lib.hid hl6
            clear HC HRW hfin hal2 hl6 HOKN
            go_wp2
            go_roundw
            case rel => exact ⟨k + 1, _, _, by omega, by go_num, HC2, HR2, HL6.out, HO, HM, hx⟩
            case measure => simp [intOf]; omega
      · have hdn : (opsP os).drop k = [] := List.drop_of_length_le (by unfold opsP; rw [List.length_map, HLN.out]; omega)
        have hcb := HC.out
        have hraw := HRW.out
        rw [hdn, okR, Bool.true_and] at hcb
        rw [hdn, rawF, List.append_nil] at hraw
        have hl48 : acc.length ≤ 48 := by omega
        have hra := RA.of_own HO.out rfl (by omega)
        have hso := sorted_any acc A4 acc.length c4 wr hra (by omega)
        subst hraw
        have HSO := Lib.hid hso
        have HCB := Lib.hid hcb
        have hlL : (sortP ltP R).length = R.length := length_sortP _ _
        generalize sortP ltP R = L at HSO HCB HS hlL
        have hl48 : L.length ≤ 48 := by omega
        have HLR := Lib.hid hlL
        clear hdn hcb hra hso HC HRW HM HO hal HS0 HR hlL
        generalize R.length = rl at HSO HLR
        have hrb : w.heap.size ≤ wr.heap.size := Below.size hx
        go_upto_region 20 with (fail)
        go_wp2_with fail
        have hc := HSO.out
        clear HSO
        refine hc.mono ?_
        clear hc
        rintro e W2 ⟨v, rfl, ho, hy⟩
        have hx := Ext.trans hx hy
        obtain ⟨A6, c6, hv6, hc6, hcm6⟩ := own_slice ho
        subst hv6
        have HRA := Lib.hid (RA.of_own ho rfl (by omega))
        have HO := Lib.hid (own_base ho hrb)
        have HSL2 := Lib.hid (fun h : cb = true => (HS.out h : S = L))
        have HC0 : Hid (cb = adjP (L.drop 0)) := Lib.hid (by rw [List.drop_zero]; exact HCB.out)
        clear ho hy HS HCB hc6 hcm6 hrb
        obtain ⟨m2, hm2⟩ : ∃ m2, m2 = L.length := ⟨_, rfl⟩
        have hm48 : m2 ≤ 48 := by omega
        rw [← hm2] at HRA
        have HM2 := Lib.hid hm2
        have HOW : Hid (OwnP W2 w.heap.size (.slice A6 m2 c6) L) := Lib.hid (by rw [hm2]; exact HO.out)
        rw [← hm2]
        clear hm2 HO hl48
        go_wp2
        go_loopw [12] (fun x wr => ∃ (i j : Nat), x = .int .i64 i ∧ Hid (i = j + 1) ∧ i ≤ 50 ∧ Hid (cb = adjP (L.drop j)) ∧ Ext W2 wr) (fun x _ => 50 - (intOf x).toNat)
        case atStart => exact ⟨1, 0, rfl, Lib.hid rfl, by omega, HC0, Ext.refl _⟩
        case round =>
          clear HC0
          obtain ⟨i, j, rfl, HIJ, hi50, HC, hx2⟩ := hrel
          have hra := ra_ext HRA.out hx2
          have hx := Ext.trans hx hx2
          by_cases him : i < m2
          · have hj : j < m2 := by have := HIJ.out; omega
            obtain ⟨b1, o1, hz1, hA1, _, hc1⟩ := hra.at_ plc_len him
            obtain ⟨b3, o3, hz3, hA3, _, hc3⟩ := hra.at_ plc_len hj
            rw [hA1] at hA3
            injection hA3 with hA3
            injection hA3 with e1 e2
            subst e1 e2
            have hcb := HC.out
            have hd : L.drop j = L[j] :: L[i] :: L.drop (i + 1) := by
              have h1 := HIJ.out
              subst h1
              rw [List.drop_eq_getElem_cons hz3, List.drop_eq_getElem_cons hz1]
            have hd2 : L.drop i = L[i] :: L.drop (i + 1) := List.drop_eq_getElem_cons hz1
            have hcb2 : cb = (decide (L[j].tt ≤ L[i].fr) && adjP (L.drop i)) := by
              rw [hcb, hd, hd2]
              rfl
            have hwj : IntKind.i64.wrap ((i : Int) - 1) = (j : Int) := by
              have h1 := HIJ.out
              subst h1
              rw [show (((j + 1 : Nat) : Int) - 1) = (j : Int) by omega]
              exact IntWalk.i64_in _ (by omega)
            generalize L[i] = p at hc1 hcb2
            generalize L[j] = q at hc3 hcb2
            obtain ⟨po, ps_, pf, pt⟩ := p
            obtain ⟨qo, qs_, qf, qt⟩ := q
            dsimp only at hcb2
            have c0 : wr.cell? ⟨b1, o1 + i * 4 + 2, none⟩ = some (.int .i64 pf) := hc1 2 (by omega)
            have c1 : wr.cell? ⟨b1, o1 + j * 4 + 2 + 1, none⟩ = some (.int .i64 qt) := hc3 3 (by omega)
            have HCB := Lib.hid hcb2
            have hiz : (i : Int) < (m2 : Int) := by omega
            have hjz : (j : Int) < (m2 : Int) := by omega
            subst hA1
            clear hra hcb hd hd2 hcb2 hc1 hc3 hz1 hz3 HC HRA
            go_upto_region 24 with (fail)
            refine wp_region_obl 14 (fun ix vals v w1 => match ix with | 0 => v = .slice (some ⟨b1, o1, none⟩) m2 c6 | 1 => v = .int .i64 (i : Int) | 2 => v = .pointer (some ⟨b1, o1 + i * 4, none⟩) | 3 => v = .pointer (some ⟨b1, o1 + i * 4 + 2, none⟩) | 4 => v = .pointer (some ⟨b1, o1 + i * 4 + 2, none⟩) | 5 => v = .int .i64 pf | 6 => v = .slice (some ⟨b1, o1, none⟩) m2 c6 | 7 => v = .int .i64 (i : Int) | 8 => v = .int .i64 (j : Int) | 9 => v = .pointer (some ⟨b1, o1 + j * 4, none⟩) | 10 => v = .pointer (some ⟨b1, o1 + j * 4 + 2, none⟩) | 11 => v = .pointer (some ⟨b1, o1 + j * 4 + 2 + 1, none⟩) | 12 => v = .int .i64 qt | _ => v = .bool (decide (pf < qt))) (by kernel_rfl) (by kernel_rfl) ?_ ?_ ?_ ?_
            · intro ix vals v w1 w2 hi hr hx
              match ix, hr with
              | 0, hr => exact hr
              | 1, hr => exact hr
              | 2, hr => exact hr
              | 3, hr => exact hr
              | 4, hr => exact hr
              | 5, hr => exact hr
              | 6, hr => exact hr
              | 7, hr => exact hr
              | 8, hr => exact hr
              | 9, hr => exact hr
              | 10, hr => exact hr
              | 11, hr => exact hr
              | 12, hr => exact hr
              | (kx + 13), hr => exact hr
            · intro ix vals vals_ v w1 hi hv hr
              exact hr
            · refine ⟨?_, ?_, ?_, ?_, ?_, ?_, ?_, ?_, ?_, ?_, ?_, ?_, ?_, ?_, trivial⟩
              · intro vals w1 hx hd ha
                clear hd ha
                simp only [Lf]
                go_wp2
                exact ⟨rfl, Ext.refl _, rfl⟩
              · intro vals w1 hx hd ha
                clear hd ha
                simp only [Lf, dstAt, Act.put, List.getElem?_toArray, List.getElem?_cons_zero, Option.bind_some, List.setIfInBounds_toArray, List.set_cons_zero, List.set_cons_succ]
                go_wp2
                exact ⟨rfl, Ext.refl _, rfl⟩
              · intro vals w1 hx hd ha
                have e0 : vals 0 = .slice (some ⟨b1, o1, none⟩) m2 c6 := hd 0 (by decide)
                have e1 : vals 1 = .int .i64 (i : Int) := hd 1 (by decide)
                clear hd ha
                simp only [Lf, dstAt, Act.put, List.getElem?_toArray, List.getElem?_cons_zero, List.getElem?_cons_succ, Option.bind_some, List.setIfInBounds_toArray, List.set_cons_zero, List.set_cons_succ]
                simp only [e0, e1]
                clear e0 e1
                go_wp2
                exact ⟨rfl, Ext.refl _, rfl⟩
              · intro vals w1 hx hd ha
                have e2 : vals 2 = .pointer (some ⟨b1, o1 + i * 4, none⟩) := hd 2 (by decide)
                clear hd ha
                simp only [Lf, dstAt, Act.put, List.getElem?_toArray, List.getElem?_cons_zero, List.getElem?_cons_succ, Option.bind_some, List.setIfInBounds_toArray, List.set_cons_zero, List.set_cons_succ]
                simp only [e2]
                clear e2
                go_wp2
                exact ⟨rfl, Ext.refl _, rfl⟩
              · intro vals w1 hx hd ha
                have e3 : vals 3 = .pointer (some ⟨b1, o1 + i * 4 + 2, none⟩) := hd 3 (by decide)
                clear hd ha
                simp only [Lf, dstAt, Act.put, List.getElem?_toArray, List.getElem?_cons_zero, List.getElem?_cons_succ, Option.bind_some, List.setIfInBounds_toArray, List.set_cons_zero, List.set_cons_succ]
                simp only [e3]
                clear e3
                go_wp2
                exact ⟨rfl, Ext.refl _, rfl⟩
              · intro vals w1 hx hd ha
                have e4 : vals 4 = .pointer (some ⟨b1, o1 + i * 4 + 2, none⟩) := hd 4 (by decide)
                clear hd ha
                simp only [Lf, dstAt, Act.put, List.getElem?_toArray, List.getElem?_cons_zero, List.getElem?_cons_succ, Option.bind_some, List.setIfInBounds_toArray, List.set_cons_zero, List.set_cons_succ]
                simp only [e4]
                clear e4
                have c0 := ext_cell hx c0
                go_wp2
                exact ⟨rfl, Ext.refl _, rfl⟩
              · intro vals w1 hx hd ha
                clear hd ha
                simp only [Lf, dstAt, Act.put, List.getElem?_toArray, List.getElem?_cons_zero, List.getElem?_cons_succ, Option.bind_some, List.setIfInBounds_toArray, List.set_cons_zero, List.set_cons_succ]
                go_wp2
                exact ⟨rfl, Ext.refl _, rfl⟩
              · intro vals w1 hx hd ha
                clear hd ha
                simp only [Lf, dstAt, Act.put, List.getElem?_toArray, List.getElem?_cons_zero, List.getElem?_cons_succ, Option.bind_some, List.setIfInBounds_toArray, List.set_cons_zero, List.set_cons_succ]
                go_wp2
                exact ⟨rfl, Ext.refl _, rfl⟩
              · intro vals w1 hx hd ha
                have e7 : vals 7 = .int .i64 (i : Int) := hd 7 (by decide)
                clear hd ha
                simp only [Lf, dstAt, Act.put, List.getElem?_toArray, List.getElem?_cons_zero, List.getElem?_cons_succ, Option.bind_some, List.setIfInBounds_toArray, List.set_cons_zero, List.set_cons_succ]
                simp only [e7]
                clear e7
                go_wp2
                exact ⟨rfl, Ext.refl _, rfl⟩
              · intro vals w1 hx hd ha
                have e6 : vals 6 = .slice (some ⟨b1, o1, none⟩) m2 c6 := hd 6 (by decide)
                have e8 : vals 8 = .int .i64 (j : Int) := hd 8 (by decide)
                clear hd ha
                simp only [Lf, dstAt, Act.put, List.getElem?_toArray, List.getElem?_cons_zero, List.getElem?_cons_succ, Option.bind_some, List.setIfInBounds_toArray, List.set_cons_zero, List.set_cons_succ]
                simp only [e6, e8]
                clear e6 e8
                go_wp2
                exact ⟨rfl, Ext.refl _, rfl⟩
              · intro vals w1 hx hd ha
                have e9 : vals 9 = .pointer (some ⟨b1, o1 + j * 4, none⟩) := hd 9 (by decide)
                clear hd ha
                simp only [Lf, dstAt, Act.put, List.getElem?_toArray, List.getElem?_cons_zero, List.getElem?_cons_succ, Option.bind_some, List.setIfInBounds_toArray, List.set_cons_zero, List.set_cons_succ]
                simp only [e9]
                clear e9
                go_wp2
                exact ⟨rfl, Ext.refl _, rfl⟩
              · intro vals w1 hx hd ha
                have e10 : vals 10 = .pointer (some ⟨b1, o1 + j * 4 + 2, none⟩) := hd 10 (by decide)
                clear hd ha
                simp only [Lf, dstAt, Act.put, List.getElem?_toArray, List.getElem?_cons_zero, List.getElem?_cons_succ, Option.bind_some, List.setIfInBounds_toArray, List.set_cons_zero, List.set_cons_succ]
                simp only [e10]
                clear e10
                go_wp2
                exact ⟨rfl, Ext.refl _, rfl⟩
              · intro vals w1 hx hd ha
                have e11 : vals 11 = .pointer (some ⟨b1, o1 + j * 4 + 2 + 1, none⟩) := hd 11 (by decide)
                clear hd ha
                simp only [Lf, dstAt, Act.put, List.getElem?_toArray, List.getElem?_cons_zero, List.getElem?_cons_succ, Option.bind_some, List.setIfInBounds_toArray, List.set_cons_zero, List.set_cons_succ]
                simp only [e11]
                clear e11
                have c1 := ext_cell hx c1
                go_wp2
                exact ⟨rfl, Ext.refl _, rfl⟩
              · intro vals w1 hx hd ha
                have e5 : vals 5 = .int .i64 pf := hd 5 (by decide)
                have e12 : vals 12 = .int .i64 qt := hd 12 (by decide)
                clear hd ha
                simp only [Lf, dstAt, Act.put, List.getElem?_toArray, List.getElem?_cons_zero, List.getElem?_cons_succ, Option.bind_some, List.setIfInBounds_toArray, List.set_cons_zero, List.set_cons_succ]
                simp only [e5, e12]
                clear e5 e12
                go_wp2
                exact ⟨rfl, Ext.refl _, rfl⟩
            intro vals W5 hx5 hf
            have e13 : vals 13 = .bool (decide (pf < qt)) := hf 13 (by omega)
            clear hf
            have hx5 := hx5.undrew
            have hx := Ext.trans hx hx5
            have hx2 := Ext.trans hx2 hx5
            refine tail0 (by kernel_rfl) ?_
            simp only [Lf, dstAt, Act.put, List.getElem?_toArray, List.getElem?_cons_zero, List.getElem?_cons_succ, Option.bind_some, List.setIfInBounds_toArray, List.set_cons_zero, List.set_cons_succ]
            rw [e13]
            clear e13 c0 c1 hx5
            by_cases hpq : pf < qt
            · have HF : Hid (cb = false) := Lib.hid (by rw [HCB.out, decide_eq_false (by omega)]; rfl)
              clear HCB
              go_wp2
              exact bodyPost_ret (v := .tuple #[.slice none 0 0, .bool false]) (by simp [results, Try.results36, go_sem]) rfl ⟨_, by rw [HF.out], by rw [HFALSE.out HF.out]; exact World.ownsRow_nil _ _ _ _, hx⟩
            · have HN : Hid (cb = adjP (L.drop i)) := Lib.hid (by rw [HCB.out, decide_eq_true (by omega)]; rfl)
              have hw1 : IntKind.i64.wrap ((i : Int) + 1) = ((i + 1 : Nat) : Int) := by rw [show (i : Int) + 1 = ((i + 1 : Nat) : Int) by omega]; exact IntWalk.i64_in _ (by omega)
              clear HCB hwj
              go_wp2
              go_roundw
              case rel => exact ⟨i + 1, i, by first | rfl | go_num, Lib.hid rfl, by omega, HN, hx2⟩
              case measure => simp [intOf]; omega
          · have HF : Hid (cb = true) := Lib.hid (by
              rw [HC.out]
              have h1 := HIJ.out
              have h2 := HM2.out
              have h3 : (L.drop j).length ≤ 1 := by rw [List.length_drop]; omega
              match hd : L.drop j, h3 with
              | [], _ => rfl
              | [x], _ => rfl)
            have hsl := HSL2.out HF.out
            have HOX := Lib.hid (HOW.out.ext hx2)
            clear HC HIJ HRA hra
            subst hsl
            go_wp2
            exact bodyPost_ret (v := .tuple #[.slice A6 m2 c6, .bool true]) (by simp [results, Try.results36, go_sem]) rfl ⟨_, by rw [HF.out], HOX.out, hx⟩
  · have hF : cb = false := by rw [hcb, carP, hok, decide_eq_false h8]; rfl
    have hSn := hfalse hF
    have h8z : (8 : Int) < (n : Int) := by omega
    subst hF hSn
    clear hr hln hcb hS hfalse hok HFALSE HLN
    go_enter Try.func36, Try.ntmps36
    go_wp2
    exact bodyPost_ret (v := .tuple #[.slice none 0 0, .bool false]) (by simp [results, Try.results36, go_sem]) rfl ⟨_, rfl, World.ownsRow_nil _ _ _ _, Ext.refl _⟩
end Go.Proofs.Ytikphbgfcpamgaa
