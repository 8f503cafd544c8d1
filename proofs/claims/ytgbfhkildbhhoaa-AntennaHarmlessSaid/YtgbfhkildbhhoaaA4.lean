/- antenna.Valid (printed by antenna_a4.py). -/
import Derived.Test.YtgbfhkildbhhoaaA3
namespace Go.Proofs.Ytgbfhkildbhhoaa
open Go.RowKit

theorem info_spl : (Try.prog.info? 24).map (fun i => (i.zero, i.size, i.bytes)) = some (some (.agg #[.int .i64 0, .int .i64 0]), 2, 16) := by kernel_rfl
theorem zero_spls (w : World) : (zeroValue 90).run Try.prog w = .ok (.slice none 0 0) w := by kernel_rfl
theorem spl_at (l : List Use) (u : Use) : (lstK u.sat l).any (fun s => meetP s u.spl) = l.any fun v => decide (v.sat = u.sat) && meetP v.spl u.spl := by
  induction l with
  | nil => rfl
  | cons v r ih =>
    unfold lstK at ih ⊢
    by_cases h : v.sat = u.sat
    · simp only [List.filter_cons, h, decide_true, if_true, List.map_cons, List.any_cons, ih, Bool.true_and]
    · simp only [List.filter_cons, h, decide_false, Bool.false_eq_true, if_false, List.any_cons, ih, Bool.false_and, Bool.false_or]
/-- A row of one's own, shut. -/
def OwnS (W : World) (b : Nat) (v : Value) (n : Nat) (xs : List Value) : Prop := W.ownsRow b 24 2 v n xs
theorem OwnS.ext {W W' : World} {b : Nat} {v : Value} {n : Nat} {xs : List Value} (h : OwnS W b v n xs) (hx : Ext W W') : OwnS W' b v n xs := own_ext h hx
theorem spl_grow {w : World} {base : Nat} {A : Option Addr} {n c : Nat} {xs : List Value} (ty : TypeId) (h : w.ownsRow base 24 2 (.slice A n c) n xs) (hf : c ≤ n) (hn : n ≤ 100) (gx : Nat) (uf ut : Int) (jx : Blk w gx 24 #[.int .i64 uf, .int .i64 ut]) :
    ∃ v' w', (Builtin.append_ #[90, 90] ty #[.slice A n c, .slice (some ⟨gx, 0, none⟩) 1 1]).run Try.prog w = .ok v' w' ∧ Ext w w' ∧ OwnS w' w.heap.size v' (n + 1) (xs ++ splCells ⟨uf, ut⟩) := by
  obtain ⟨i0, hi0, hz0, hz1, hz2⟩ := info_parts info_spl
  have hj : ∀ j u, (splCells ⟨uf, ut⟩)[j]? = some u → w.cell? ((⟨gx, 0, none⟩ : Addr).add j) = some u := fun j u hu => by rw [Addr.add_lit, Nat.zero_add, jx.cell]; simpa [splCells] using hu
  rcases h.2 with ⟨hv, hn0⟩ | ⟨g, cap, cur, hv, hb, hg, h1, h2, h3, h4⟩
  · injection hv with e1 e2 e3
    subst e1 e2 e3
    have hx0 : xs = [] := List.eq_nil_of_length_eq_zero (by simpa using h.1)
    subst hx0
    obtain ⟨v', w', r1, r2, r3, -⟩ := run_append_own (P := Try.prog) w w.heap.size 90 ty 24 i0 _ 2 16 Try.underlying90 hi0 hz0 hz1 hz2 rfl (by omega) _ 0 [] (World.ownsRow_nil _ _ _ _) ⟨gx, 0, none⟩ 1 1 (splCells ⟨uf, ut⟩) rfl hj (by simp [splCells, Value.oneCell']) (by unfold maxLen; omega) (by omega) (Nat.le_refl _)
    exact ⟨v', w', r1, ⟨r3.os, r3.tape, r3.output, r3.size, fun k hk => r3.block k hk (by simp [Value.ownBlock])⟩, r2⟩
  · injection hv with e1 e2 e3
    subst e1 e3
    obtain ⟨v', w', r1, r2, r3⟩ := run_append_arg_grows (P := Try.prog) (w := w) 90 ty 24 i0 _ 2 16 Try.underlying90 hi0 hz0 hz1 hz2 rfl (by omega) ⟨g, 0, none⟩ n c xs h.1 (fun j u hu => by
      rw [Addr.add_lit, Nat.zero_add, cell_of_row w g j cur _ _ hg]
      rw [← h4, List.getElem?_take] at hu
      split at hu
      · simpa using hu
      · cases hu) ⟨gx, 0, none⟩ 1 1 (splCells ⟨uf, ut⟩) rfl hj (by omega) (by unfold maxLen; omega) (by omega)
    exact ⟨v', w', r1, ⟨r3.os, r3.tape, r3.output, r3.size, fun k hk => r3.block k hk (by simp)⟩, r2⟩
theorem spl_fit {w : World} {g n c : Nat} {cur : Array Value} (ty : TypeId) (hg : w.heap[g]? = some (.cells cur 24 (0, 0))) (hs : cur.size = c * 2) (hf : n < c) (gx : Nat) (uf ut : Int) (jx : Blk w gx 24 #[.int .i64 uf, .int .i64 ut]) :
    ∃ w', (Builtin.append_ #[90, 90] ty #[.slice (some ⟨g, 0, none⟩) n c, .slice (some ⟨gx, 0, none⟩) 1 1]).run Try.prog w = .ok (.slice (some ⟨g, 0, none⟩) (n + 1) c) w' ∧ w.grownBy w' (some g) ∧ w'.heap[g]? = some (.cells (putC cur (n * 2) (splCells ⟨uf, ut⟩)) 24 (0, 0)) := by
  obtain ⟨i0, hi0, hz0, hz1, hz2⟩ := info_parts info_spl
  have hj : ∀ j u, (splCells ⟨uf, ut⟩)[j]? = some u → w.cell? ((⟨gx, 0, none⟩ : Addr).add j) = some u := fun j u hu => by rw [Addr.add_lit, Nat.zero_add, jx.cell]; simpa [splCells] using hu
  have hr := run_append_room (P := Try.prog) w 90 ty 24 i0 Try.underlying90 hi0 g n c cur hg ⟨gx, 0, none⟩ 1 1 (splCells ⟨uf, ut⟩) (by rw [hz1]; rfl) hj (by simp [splCells, Value.oneCell']) (by omega) (by rw [hz1, hs]; show n * 2 + 2 ≤ c * 2; omega)
  rw [hz1] at hr
  exact ⟨_, hr, ⟨rfl, rfl, rfl, by simp, fun k _ hk => setRow_other w g k _ (fun e => hk (by simp [e]))⟩, setRow_heap w g cur _ _ _ hg⟩
set_option maxRecDepth 100000 in
set_option maxHeartbeats 4000000 in
theorem valid_any (l : List Use) (SA : Option Addr) (n cc : Nat) (w : World) (hr : RA useCells 3 w w.heap.size SA n cc l) :
    Calls Try.prog 18 #[.slice SA n cc] w fun e w' => e = .returned (.bool (validU l)) ∧ Ext w w' := by
  have HR := Lib.hid hr
  have HL := Lib.hid hr.len
  have hle := hr.le
  have hv : validU l = (decide (n ≤ 64) && validR [] l) := by rw [validU, hr.len]
  rw [hv]
  clear hr hv
  obtain ⟨vr, hvr⟩ : ∃ b, b = validR [] l := ⟨_, rfl⟩
  rw [← hvr]
  have HVR := Lib.hid hvr
  clear hvr
  by_cases h64 : n ≤ 64
  · skip
    rw [decide_eq_true h64, Bool.true_and]
    have hmm : ∀ w : World, (Instr.makeMap 87 none).run Try.prog w = .ok (.map (some w.heap.size)) (w.alloc (.map #[] 0)) := fun w => by simp [Instr.makeMap]
    go_enter Try.func18, Try.ntmps18
    go_wp2
    clear hmm
    have hx : Ext w (w.alloc (.map #[] 0)) := bl_alloc (Below.refl _ _) _
    have HM : Hid (SpM w.heap.size (w.alloc (.map #[] 0)) w.heap.size [] (fun _ => none)) := Lib.hid (SpM.new _ _)
    obtain ⟨g3, hg3⟩ : ∃ g, g = w.heap.size := ⟨_, rfl⟩
    have hg3w : w.heap.size ≤ g3 := by omega
    rw [← hg3]
    have HM0 : Hid (SpM w.heap.size (w.alloc (.map #[] 0)) g3 [] (fun _ => none)) := Lib.hid (by have h := HM.out; rw [hg3]; exact h)
    clear HM hg3
    generalize w.alloc (.map #[] 0) = W0 at hx HM0 ⊢
    go_loopw [12] (fun y wr => ∃ k : Nat, k ≤ n ∧ y = .int .i64 k ∧ Hid (vr = validR (l.take k) (l.drop k)) ∧ Hid (∃ f, SpM w.heap.size wr g3 (l.take k) f) ∧ Ext w wr) (fun y _ => n - (intOf y).toNat)
    case atStart => exact ⟨0, Nat.zero_le _, rfl, HVR, Lib.hid ⟨_, HM0.out⟩, hx⟩
    case round =>
      clear HM0 HVR hx
      obtain ⟨k, hk, rfl, HV, HM, hx⟩ := hrel
      by_cases hkn : k < n
      · skip
        obtain ⟨f, hm⟩ := HM.out
        obtain ⟨gb, go, hz, hA, _, hc⟩ := (HR.out.below hx).at_ use_len hkn
        have hst := validR_drop l k hz
        rw [← HV.out] at hst
        have htk : l.take (k + 1) = l.take k ++ [l[k]] := List.take_succ_eq_append_getElem hz
        have hlk : (l.take k).length ≤ 64 := by rw [List.length_take]; omega
        generalize l[k] = u at hc hst htk
        obtain ⟨us, uf, ut⟩ := u
        have d0 : wr.cell? ⟨gb, go + k * 3, none⟩ = some (.int .i64 us) := hc 0 (by omega)
        have d1 : wr.cell? ⟨gb, go + k * 3 + 1, none⟩ = some (.int .i64 uf) := hc 1 (by omega)
        have d2 : wr.cell? ⟨gb, go + k * 3 + 2, none⟩ = some (.int .i64 ut) := hc 2 (by omega)
        generalize l.take k = P at hst htk hm hlk
        have hlu := lstK_len us P
        have hsa := spl_at P ⟨us, uf, ut⟩
        have hadd : addsP P ⟨us, uf, ut⟩ = (formedP ⟨us, uf, ut⟩ && !((lstK us P).any fun s => meetP s ⟨uf, ut⟩)) := by rw [addsP, ← hsa]; rfl
        rw [hadd] at hst
        have hfo := fun W => isFormed_any us uf ut W
        generalize formedP ⟨us, uf, ut⟩ = q1 at hst hfo
        have HFO := Lib.hid hfo
        have HST := Lib.hid hst
        have HTK := Lib.hid htk
        have HM := Lib.hid hm
        clear hc hst htk hm hsa hadd hfo hz HV
        subst hA
        go_upto_region 7 with (fail)
        clear d0 d1 d2
        have hy : Ext wr (wr.alloc (.cells #[.int .i64 us, .int .i64 uf, .int .i64 ut] 26)) := bl_alloc (Below.refl _ _) _
        have J : Blk (wr.alloc (.cells #[.int .i64 us, .int .i64 uf, .int .i64 ut] 26)) wr.heap.size 26 #[.int .i64 us, .int .i64 uf, .int .i64 ut] := Blk.new _ _ _
        obtain ⟨g5, hg5⟩ : ∃ g, g = wr.heap.size := ⟨_, rfl⟩
        rw [← hg5] at J ⊢
        generalize wr.alloc (.cells #[.int .i64 us, .int .i64 uf, .int .i64 ut] 26) = W1 at hy J ⊢
        have hx := Ext.trans hx hy
        have HM := Lib.hid (HM.out.ext hy)
        clear hy hg5
        have d0 : W1.cell? ⟨g5, 0, none⟩ = some (.int .i64 us) := J.cell 0
        have d1 : W1.cell? ⟨g5, 1, none⟩ = some (.int .i64 uf) := J.cell 1
        have d2 : W1.cell? ⟨g5, 2, none⟩ = some (.int .i64 ut) := J.cell 2
        go_wp2_with (fail)
        refine (HFO.out _).mono ?_
        rintro e W2 ⟨rfl, hy⟩
        have hx := Ext.trans hx hy
        have HM := Lib.hid (HM.out.ext hy)
        have J := J.ext hy
        clear hy d0 d1 d2 HFO
        cases q1
        · skip
          have hvf : vr = false := by rw [HST.out]; rfl
          have HVF := Lib.hid hvf
          clear hvf
          go_wp2
          go_ret
          exact ⟨by rw [HVF.out]; rfl, hx⟩
        · skip
          have hlk2 := fun W (h : Ext W2 W) => (HM.out.ext h).map.look Try.underlying87 Try.underlying3 (zero_spls W) us
          obtain ⟨v, hv⟩ : ∃ v, v = (f us).getD (.slice none 0 0) := ⟨_, rfl⟩
          rw [← hv] at hlk2
          have hown := HM.out.at_ us
          rw [← hv] at hown
          obtain ⟨Av, cv, hvs, _, hcvm⟩ := own_slice hown
          have hd0 := hlk2 W2 (Ext.refl _)
          have HLK := Lib.hid hlk2
          have HV0 := Lib.hid hv
          obtain ⟨nv, hnv⟩ : ∃ m, m = (lstK us P).length := ⟨_, rfl⟩
          rw [← hnv] at hvs hown hlu
          have HNV := Lib.hid hnv
          clear hv hlk2 hnv
          subst hvs
          have hrv := RA.of_own (cells := splCells) hown HNV.out.symm (by omega)
          have hcon := fun W (h : Ext W2 W) => conSpl 49 #[.pointer (some ⟨g5, 0, none⟩)] (fun s => meetP s ⟨uf, ut⟩) (lstK us P) Av nv cv W ((hrv.below h).more (Below.size h)) (by omega) (enters_fn Try.func49 (by kernel_rfl) rfl) (fun s W3 h3 => valid1_any s.fr s.tt uf ut g5 W3 (ext_cell (Ext.trans h h3) (J.cell 1)) (ext_cell (Ext.trans h h3) (J.cell 2)))
          have HCON := Lib.hid (hcon W2 (Ext.refl _))
          clear hcon hrv
          have HOWN := Lib.hid hown
          clear hown
          have d0 : W2.cell? ⟨g5, 0, none⟩ = some (.int .i64 us) := J.cell 0
          have d1 : W2.cell? ⟨g5, 1, none⟩ = some (.int .i64 uf) := J.cell 1
          have d2 : W2.cell? ⟨g5, 2, none⟩ = some (.int .i64 ut) := J.cell 2
          generalize ((lstK us P).any fun s => meetP s ⟨uf, ut⟩) = q2 at HST HCON
          go_wp2_with (fail)
          refine HCON.out.mono ?_
          rintro e W3 ⟨rfl, hy⟩
          have hx := Ext.trans hx hy
          clear d0 d1 d2 hd0
          cases q2
          · skip
            have hvt : vr = validR (P ++ [⟨us, uf, ut⟩]) (l.drop (k + 1)) := by rw [HST.out, HTK.out]; rfl
            have HVT := Lib.hid hvt
            clear hvt
            have HM := Lib.hid (HM.out.ext hy)
            have HOWN := Lib.hid (own_ext HOWN.out hy)
            have HLK : Hid (∀ W, Ext W3 W → _) := Lib.hid (fun W h => HLK.out W (Ext.trans hy h))
            have J := J.ext hy
            clear hy
            have d0 : W3.cell? ⟨g5, 0, none⟩ = some (.int .i64 us) := J.cell 0
            have d1 : W3.cell? ⟨g5, 1, none⟩ = some (.int .i64 uf) := J.cell 1
            have d2 : W3.cell? ⟨g5, 2, none⟩ = some (.int .i64 ut) := J.cell 2
            go_upto_region 9 with (fail)
            have hws := Below.size hx
            by_cases hfull : cv ≤ nv
            · skip
              refine wp_region_obl 11 (fun ix vals v w1 => match ix with | 0 => v = .map (some g3) | 1 => v = .pointer (some ⟨g5, 0, none⟩) | 2 => v = .int .i64 us | 3 => v = .map (some g3) | 4 => v = .pointer (some ⟨g5, 0, none⟩) | 5 => v = .int .i64 us | 6 => v = .slice Av nv cv | 7 => v = .pointer (some ⟨g5, 1, none⟩) | 8 => v = .agg #[.int .i64 uf, .int .i64 ut] | 9 => ∃ gx, v = .slice (some ⟨gx, 0, none⟩) 1 1 ∧ Blk w1 gx 24 #[.int .i64 uf, .int .i64 ut] | _ => OwnS w1 W3.heap.size v (nv + 1) ((lstK us P).flatMap splCells ++ splCells ⟨uf, ut⟩)) (by kernel_rfl) (by kernel_rfl) ?_ ?_ ?_ ?_
              · intro ix vals v w1 w2 hi hr hx
                match ix, hr with
                | 0, hr => exact hr
                | 1, hr => exact hr
                | 2, hr => exact hr
                | 3, hr => exact hr
                | 4, hr => exact hr
                | 5, hr => exact hr
                | 6, hr => exact hr
                | 7, hr => exact hr
                | 8, hr => exact hr
                | 9, hr => obtain ⟨gx, h1, h2⟩ := hr; exact ⟨gx, h1, h2.ext hx⟩
                | (kx + 10), hr => exact hr.ext hx
              · intro ix vals vals_ v w1 hi hv hr
                exact hr
              · refine obls_ofT [some 27, some 28, some 29, some 30, some 31, some 32, some 33, some 34, some 35, some 36, some 37, none] [(3, .map (some g3)), (5, .pointer (some ⟨g5, 0, none⟩))] 39 (by kernel_rfl) (by kernel_rfl) ⟨by kernel_rfl, by kernel_rfl, trivial⟩ ?_
                refine ⟨?_, ?_, ?_, ?_, ?_, ?_, ?_, ?_, ?_, ?_, ?_, trivial⟩
                · intro vals w1 hx hd
                  refine .run [(3, .map (some g3))] { dst := some 0, op := Go.Op.move (Go.Operand.const (.map (some g3))), type := 87, pos := "", after := #[], guard := none } 27 ⟨.out (by kernel_rfl) (by kernel_rfl), trivial⟩ (by kernel_rfl) (by kernel_rfl) (by kernel_rfl) rfl rfl rfl ?_
                  clear hd
                  go_wp2
                  exact ⟨rfl, Ext.refl _, rfl⟩
                · intro vals w1 hx hd
                  refine .run [(5, .pointer (some ⟨g5, 0, none⟩))] { dst := some 0, op := Go.Op.fieldAddr 26 (Go.Operand.const (.pointer (some ⟨g5, 0, none⟩))) 0, type := 0, pos := "", after := #[], guard := none } 28 ⟨.out (by kernel_rfl) (by kernel_rfl), trivial⟩ (by kernel_rfl) (by kernel_rfl) (by kernel_rfl) rfl rfl rfl ?_
                  clear hd
                  go_wp2
                  exact ⟨rfl, Ext.refl _, rfl⟩
                · intro vals w1 hx hd
                  have e1 : vals 1 = .pointer (some ⟨g5, 0, none⟩) := hd 1 (by decide)
                  refine .run [(28, .pointer (some ⟨g5, 0, none⟩))] { dst := some 0, op := Go.Op.load 3 (Go.Operand.const (.pointer (some ⟨g5, 0, none⟩))), type := 3, pos := "", after := #[], guard := none } 29 ⟨.inn 1 (by kernel_rfl) e1, trivial⟩ (by kernel_rfl) (by kernel_rfl) (by kernel_rfl) rfl rfl rfl ?_
                  clear hd e1
                  have d0 := ext_cell hx d0
                  go_wp2
                  exact ⟨rfl, Ext.refl _, rfl⟩
                · intro vals w1 hx hd
                  refine .run [(3, .map (some g3))] { dst := some 0, op := Go.Op.move (Go.Operand.const (.map (some g3))), type := 87, pos := "", after := #[], guard := none } 30 ⟨.out (by kernel_rfl) (by kernel_rfl), trivial⟩ (by kernel_rfl) (by kernel_rfl) (by kernel_rfl) rfl rfl rfl ?_
                  clear hd
                  go_wp2
                  exact ⟨rfl, Ext.refl _, rfl⟩
                · intro vals w1 hx hd
                  refine .run [(5, .pointer (some ⟨g5, 0, none⟩))] { dst := some 0, op := Go.Op.fieldAddr 26 (Go.Operand.const (.pointer (some ⟨g5, 0, none⟩))) 0, type := 0, pos := "", after := #[], guard := none } 31 ⟨.out (by kernel_rfl) (by kernel_rfl), trivial⟩ (by kernel_rfl) (by kernel_rfl) (by kernel_rfl) rfl rfl rfl ?_
                  clear hd
                  go_wp2
                  exact ⟨rfl, Ext.refl _, rfl⟩
                · intro vals w1 hx hd
                  have e4 : vals 4 = .pointer (some ⟨g5, 0, none⟩) := hd 4 (by decide)
                  refine .run [(31, .pointer (some ⟨g5, 0, none⟩))] { dst := some 0, op := Go.Op.load 3 (Go.Operand.const (.pointer (some ⟨g5, 0, none⟩))), type := 3, pos := "", after := #[], guard := none } 32 ⟨.inn 4 (by kernel_rfl) e4, trivial⟩ (by kernel_rfl) (by kernel_rfl) (by kernel_rfl) rfl rfl rfl ?_
                  clear hd e4
                  have d0 := ext_cell hx d0
                  go_wp2
                  exact ⟨rfl, Ext.refl _, rfl⟩
                · intro vals w1 hx hd
                  have e3 : vals 3 = .map (some g3) := hd 3 (by decide)
                  have e5 : vals 5 = .int .i64 us := hd 5 (by decide)
                  refine .run [(30, .map (some g3)), (32, .int .i64 us)] { dst := some 0, op := Go.Op.lookup 87 (Go.Operand.const (.map (some g3))) (Go.Operand.const (.int .i64 us)) false, type := 90, pos := "", after := #[], guard := none } 33 ⟨.inn 3 (by kernel_rfl) e3, .inn 5 (by kernel_rfl) e5, trivial⟩ (by kernel_rfl) (by kernel_rfl) (by kernel_rfl) rfl rfl rfl ?_
                  clear hd e3 e5
                  have hl9 := HLK.out w1 hx.undrew
                  go_wp2
                  exact ⟨rfl, Ext.refl _, rfl⟩
                · intro vals w1 hx hd
                  refine .run [(5, .pointer (some ⟨g5, 0, none⟩))] { dst := some 0, op := Go.Op.fieldAddr 26 (Go.Operand.const (.pointer (some ⟨g5, 0, none⟩))) 1, type := 0, pos := "", after := #[], guard := none } 34 ⟨.out (by kernel_rfl) (by kernel_rfl), trivial⟩ (by kernel_rfl) (by kernel_rfl) (by kernel_rfl) rfl rfl rfl ?_
                  clear hd
                  go_wp2
                  exact ⟨rfl, Ext.refl _, rfl⟩
                · intro vals w1 hx hd
                  have e7 : vals 7 = .pointer (some ⟨g5, 1, none⟩) := hd 7 (by decide)
                  refine .run [(34, .pointer (some ⟨g5, 1, none⟩))] { dst := some 0, op := Go.Op.load 24 (Go.Operand.const (.pointer (some ⟨g5, 1, none⟩))), type := 24, pos := "", after := #[], guard := none } 35 ⟨.inn 7 (by kernel_rfl) e7, trivial⟩ (by kernel_rfl) (by kernel_rfl) (by kernel_rfl) rfl rfl rfl ?_
                  clear hd e7
                  have d1 := ext_cell hx d1
                  have d2 := ext_cell hx d2
                  go_wp2
                  exact ⟨rfl, Ext.refl _, rfl⟩
                · intro vals w1 hx hd
                  have e8 : vals 8 = .agg #[.int .i64 uf, .int .i64 ut] := hd 8 (by decide)
                  refine .run [(35, .agg #[.int .i64 uf, .int .i64 ut])] { dst := some 0, op := Go.Op.buildSlice 90 1 #[(0, (Go.Operand.const (.agg #[.int .i64 uf, .int .i64 ut])))], type := 90, pos := "", after := #[], guard := none } 36 ⟨.inn 8 (by kernel_rfl) e8, trivial⟩ (by kernel_rfl) (by kernel_rfl) (by kernel_rfl) rfl rfl rfl ?_
                  clear hd e8
                  go_wp2
                  exact ⟨rfl, (by repeat (first | exact Below.refl _ _ | assumption | refine Below.drew ?_ | refine below_drewN ?_ _ | refine bl_alloc ?_ _ | refine Below.setCell ?_ (by first | (simp; done) | omega | (simp; omega)) _ | refine bl_then ?_ (by assumption))), _, rfl, Blk.new _ _ _⟩
                · intro vals w1 hx hd
                  have e6 : vals 6 = .slice Av nv cv := hd 6 (by decide)
                  have r9 : (fun v w1 => ∃ gx, v = .slice (some ⟨gx, 0, none⟩) 1 1 ∧ Blk w1 gx 24 #[.int .i64 uf, .int .i64 ut]) (vals 9) w1 := hd 9 (by decide)
                  dsimp only at r9
                  obtain ⟨gx, e_9, jx⟩ := r9
                  refine .run [(33, .slice Av nv cv), (36, .slice (some ⟨gx, 0, none⟩) 1 1)] { dst := some 0, op := Go.Op.call { callee := Go.Callee.builtin Go.Builtin.append, args := #[(Go.Operand.const (.slice Av nv cv)), (Go.Operand.const (.slice (some ⟨gx, 0, none⟩) 1 1))], argTypes := #[90, 90] }, type := 90, pos := "", after := #[], guard := none } 37 ⟨.inn 6 (by kernel_rfl) e6, .inn 9 (by kernel_rfl) e_9, trivial⟩ (by kernel_rfl) (by kernel_rfl) (by kernel_rfl) rfl rfl rfl ?_
                  clear hd e6 e_9
                  have hzz := Below.size hx.undrew
                  obtain ⟨v9, w9, hrun, hx9, hown9⟩ := spl_grow _ (own_ext HOWN.out hx.undrew) hfull (by omega) gx uf ut jx
                  refine wpList_append_run_ rfl _ _ _ rfl rfl rfl hrun ?_
                  clear hrun
                  go_wp2
                  exact ⟨rfl, hx9, own_base hown9 hzz⟩
              intro vals W4 hy hf
              have e0 : vals 0 = .map (some g3) := hf 0 (by omega)
              have e2 : vals 2 = .int .i64 us := hf 2 (by omega)
              have hown0 : OwnS W4 W3.heap.size (vals 10) (nv + 1) ((lstK us P).flatMap splCells ++ splCells ⟨uf, ut⟩) := hf 10 (by omega)
              clear hf d0 d1 d2 HLK
              have hy := hy.undrew
              have hx4 := Ext.trans hx hy
              have hm5 := (HM.out.ext hy).map
              obtain ⟨v2, hv2⟩ : ∃ v, v = vals 10 := ⟨_, rfl⟩
              rw [← hv2] at hown0
              have e10 := hv2.symm
              have hown2 : W4.ownsRow w.heap.size 24 2 v2 (nv + 1) ((lstK us P).flatMap splCells ++ splCells ⟨uf, ut⟩) := own_base hown0 hws
              have hg2 : W3.grownBy W4 ((f us).getD (.slice none 0 0)).ownBlock := ⟨hy.os, hy.tape, hy.output, hy.size, fun i hi _ => hy.block i hi⟩
              have hnew2 : v2.ownBlock = ((f us).getD (.slice none 0 0)).ownBlock ∨ ∃ b, W3.heap.size ≤ b ∧ v2.ownBlock = some b := by
                rcases hown0.2 with ⟨_, hn⟩ | ⟨b, _, _, rfl, hb, _⟩
                · omega
                · exact .inr ⟨b, hb, rfl⟩
              clear hown0 hv2 hy
              obtain ⟨W6, hu6, hm6, hg6⟩ := hm5.update Try.underlying87 Try.underlying3 us v2
              have hm7 := HM.out.put ⟨us, uf, ut⟩ v2 (by rw [← HNV.out]; exact hown2) hg2 hnew2 hm6 hg6
              have hws4 := hx4.size
              have hx6 : Ext w W6 := hx4.grown hg6 hws4 (fun q e => by injection e with e; omega)
              have HUP := Lib.hid hu6
              have HM7 := Lib.hid hm7
              clear hown2 hg2 hnew2 hm5 hm6 hg6 hu6 hm7 HM HOWN hx4 hws4
              refine tail1 11 _ (by kernel_rfl) (by kernel_rfl) rfl ?_
              simp only [Lf, dstAt, Act.put, List.getElem?_toArray, List.getElem?_cons_zero, List.getElem?_cons_succ, Option.bind_some, List.setIfInBounds_toArray, List.set_cons_zero, List.set_cons_succ]
              rw [e0, e2, e10]
              clear e0 e2 e10
              go_wp2_with (refine wpList_mapUpdate_run rfl _ _ _ _ rfl rfl rfl rfl HUP.out ?_)
              clear HUP
              go_roundw
              case rel => exact ⟨k + 1, by omega, by go_num, Lib.hid (by rw [HTK.out]; exact HVT.out), Lib.hid ⟨_, by rw [HTK.out]; exact HM7.out⟩, hx6⟩
              case measure => simp [intOf]; omega
            · skip
              obtain ⟨g0, cur, hA0, hb0, hg0, hs0, ht0⟩ : ∃ g0 cur, Av = some ⟨g0, 0, none⟩ ∧ w.heap.size ≤ g0 ∧ W3.heap[g0]? = some (.cells cur 24 (0, 0)) ∧ cur.size = cv * 2 ∧ cur.toList.take (nv * 2) = (lstK us P).flatMap splCells := by
                rcases HOWN.out.2 with ⟨hv, _⟩ | ⟨g, cap, cur, hv, hb, hg, h1, h2, h3, h4⟩
                · injection hv with _ _ e3; omega
                · injection hv with e1 _ e3; subst e1 e3; exact ⟨g, cur, rfl, hb, hg, h3, h4⟩
              subst hA0
              have hcf : nv < cv := by omega
              have hgl : g0 < W3.heap.size := (Array.getElem?_eq_some_iff.1 hg0).1
              have hfit : nv * 2 + (splCells ⟨uf, ut⟩).length ≤ cur.size := by rw [hs0]; show nv * 2 + 2 ≤ cv * 2; omega
              have hob : ((f us).getD (.slice none 0 0)).ownBlock = some g0 := by rw [← HV0.out]; rfl
              have hg3n : g3 ≠ g0 := by
                have hm3 := HM.out
                cases hff : f us with
                | none => rw [hff] at hob; cases hob
                | some v0 =>
                  rw [hff] at hob
                  obtain ⟨_, b0, h0, h1⟩ := hm3.own _ _ hff
                  simp only [Option.getD_some] at hob
                  rw [h0] at hob
                  injection hob with hob
                  subst hob
                  exact fun e => h1 e.symm
              have hg5n : g5 ≠ g0 := by
                rintro rfl
                have := J
                unfold Blk at this
                rw [hg0] at this
                injection this with this
                injection this with _ h2
                exact absurd h2 (by decide)
              obtain ⟨o1, ho1⟩ : ∃ o, o = Obj.cells (putC cur (nv * 2) (splCells ⟨uf, ut⟩)) 24 (0, 0) := ⟨_, rfl⟩
              have HC1 : Hid (∀ W, TG g0 o1 W3 W → ∃ cu, W.heap[g0]? = some (.cells cu 24 (0, 0)) ∧ cu.size = cv * 2 ∧ putC cu (nv * 2) (splCells ⟨uf, ut⟩) = putC cur (nv * 2) (splCells ⟨uf, ut⟩)) := Lib.hid (fun W h => by
                rcases h.2 with h2 | h2
                · exact ⟨cur, h2.trans hg0, hs0, rfl⟩
                · exact ⟨_, by rw [h2, ho1], by rw [putC_size hfit]; exact hs0, putC_twice hfit⟩)
              have HLT : Hid (∀ W, TG g0 o1 W3 W → (Instr.lookup 87 (.map (some g3)) (.int .i64 us) false).run Try.prog W = .ok (.slice (some ⟨g0, 0, none⟩) nv cv) W) := Lib.hid (fun W h => by
                have hl := (HM.out.map.grown h.1 (by intro e; injection e with e; exact hg3n e)).look Try.underlying87 Try.underlying3 (zero_spls W) us
                rw [← HV0.out] at hl
                exact hl)
              have HO1 := Lib.hid ho1
              have HG0 := Lib.hid hg0
              have hT := tg_tr g0 o1
              have HFIT := Lib.hid hfit
              have HT0 := Lib.hid ht0
              have HOB := Lib.hid hob
              clear ho1 hg0 hfit ht0 hob
              refine RB.wp_region_obl (T := _) hT 11 (fun ix vals v w1 => match ix with | 0 => v = .map (some g3) | 1 => v = .pointer (some ⟨g5, 0, none⟩) | 2 => v = .int .i64 us | 3 => v = .map (some g3) | 4 => v = .pointer (some ⟨g5, 0, none⟩) | 5 => v = .int .i64 us | 6 => v = .slice (some ⟨g0, 0, none⟩) nv cv | 7 => v = .pointer (some ⟨g5, 1, none⟩) | 8 => v = .agg #[.int .i64 uf, .int .i64 ut] | 9 => ∃ gx, v = .slice (some ⟨gx, 0, none⟩) 1 1 ∧ gx ≠ g0 ∧ Blk w1 gx 24 #[.int .i64 uf, .int .i64 ut] | _ => v = .slice (some ⟨g0, 0, none⟩) (nv + 1) cv ∧ w1.heap[g0]? = some o1) (by kernel_rfl) (by kernel_rfl) ?_ ?_ ?_ ?_
              · intro ix vals v w1 w2 hi hr hx
                match ix, hr with
                | 0, hr => exact hr
                | 1, hr => exact hr
                | 2, hr => exact hr
                | 3, hr => exact hr
                | 4, hr => exact hr
                | 5, hr => exact hr
                | 6, hr => exact hr
                | 7, hr => exact hr
                | 8, hr => exact hr
                | 9, hr => obtain ⟨gx, h1, h2, h3⟩ := hr; exact ⟨gx, h1, h2, hx.blk h3 h2⟩
                | (kx + 10), hr => exact ⟨hr.1, by rcases hx.2 with h | h; exact h.trans hr.2; exact h⟩
              · intro ix vals vals_ v w1 hi hv hr
                exact hr
              · refine ⟨?_, ?_, ?_, ?_, ?_, ?_, ?_, ?_, ?_, ?_, ?_, trivial⟩
                · intro vals w1 hx hd ha
                  clear hd ha
                  simp only [Lf]
                  go_wp2
                  exact ⟨rfl, hT.refl _, rfl⟩
                · intro vals w1 hx hd ha
                  clear hd ha
                  simp only [Lf, dstAt, Act.put, List.getElem?_toArray, List.getElem?_cons_zero, Option.bind_some, List.setIfInBounds_toArray, List.set_cons_zero, List.set_cons_succ]
                  go_wp2
                  exact ⟨rfl, hT.refl _, rfl⟩
                · intro vals w1 hx hd ha
                  have e1 : vals 1 = .pointer (some ⟨g5, 0, none⟩) := hd 1 (by decide)
                  clear hd ha
                  simp only [Lf, dstAt, Act.put, List.getElem?_toArray, List.getElem?_cons_zero, List.getElem?_cons_succ, Option.bind_some, List.setIfInBounds_toArray, List.set_cons_zero, List.set_cons_succ]
                  simp only [e1]
                  clear e1
                  have d0 := hx.undrew.cell d0 hg5n
                  go_wp2
                  exact ⟨rfl, hT.refl _, rfl⟩
                · intro vals w1 hx hd ha
                  clear hd ha
                  simp only [Lf, dstAt, Act.put, List.getElem?_toArray, List.getElem?_cons_zero, List.getElem?_cons_succ, Option.bind_some, List.setIfInBounds_toArray, List.set_cons_zero, List.set_cons_succ]
                  go_wp2
                  exact ⟨rfl, hT.refl _, rfl⟩
                · intro vals w1 hx hd ha
                  clear hd ha
                  simp only [Lf, dstAt, Act.put, List.getElem?_toArray, List.getElem?_cons_zero, List.getElem?_cons_succ, Option.bind_some, List.setIfInBounds_toArray, List.set_cons_zero, List.set_cons_succ]
                  go_wp2
                  exact ⟨rfl, hT.refl _, rfl⟩
                · intro vals w1 hx hd ha
                  have e4 : vals 4 = .pointer (some ⟨g5, 0, none⟩) := hd 4 (by decide)
                  clear hd ha
                  simp only [Lf, dstAt, Act.put, List.getElem?_toArray, List.getElem?_cons_zero, List.getElem?_cons_succ, Option.bind_some, List.setIfInBounds_toArray, List.set_cons_zero, List.set_cons_succ]
                  simp only [e4]
                  clear e4
                  have d0 := hx.undrew.cell d0 hg5n
                  go_wp2
                  exact ⟨rfl, hT.refl _, rfl⟩
                · intro vals w1 hx hd ha
                  have e3 : vals 3 = .map (some g3) := hd 3 (by decide)
                  have e5 : vals 5 = .int .i64 us := hd 5 (by decide)
                  clear hd ha
                  simp only [Lf, dstAt, Act.put, List.getElem?_toArray, List.getElem?_cons_zero, List.getElem?_cons_succ, Option.bind_some, List.setIfInBounds_toArray, List.set_cons_zero, List.set_cons_succ]
                  simp only [e3]
                  simp only [e5]
                  clear e3 e5
                  have hl9 := HLT.out w1 hx.undrew
                  go_wp2
                  exact ⟨rfl, hT.refl _, rfl⟩
                · intro vals w1 hx hd ha
                  clear hd ha
                  simp only [Lf, dstAt, Act.put, List.getElem?_toArray, List.getElem?_cons_zero, List.getElem?_cons_succ, Option.bind_some, List.setIfInBounds_toArray, List.set_cons_zero, List.set_cons_succ]
                  go_wp2
                  exact ⟨rfl, hT.refl _, rfl⟩
                · intro vals w1 hx hd ha
                  have e7 : vals 7 = .pointer (some ⟨g5, 1, none⟩) := hd 7 (by decide)
                  clear hd ha
                  simp only [Lf, dstAt, Act.put, List.getElem?_toArray, List.getElem?_cons_zero, List.getElem?_cons_succ, Option.bind_some, List.setIfInBounds_toArray, List.set_cons_zero, List.set_cons_succ]
                  simp only [e7]
                  clear e7
                  have d1 := hx.undrew.cell d1 hg5n
                  have d2 := hx.undrew.cell d2 hg5n
                  go_wp2
                  exact ⟨rfl, hT.refl _, rfl⟩
                · intro vals w1 hx hd ha
                  have e8 : vals 8 = .agg #[.int .i64 uf, .int .i64 ut] := hd 8 (by decide)
                  clear hd ha
                  simp only [Lf, dstAt, Act.put, List.getElem?_toArray, List.getElem?_cons_zero, List.getElem?_cons_succ, Option.bind_some, List.setIfInBounds_toArray, List.set_cons_zero, List.set_cons_succ]
                  simp only [e8]
                  clear e8
                  have hz9 := hx.undrew.1.size
                  go_wp2
                  exact ⟨rfl, TG.of_ext (by repeat (first | exact Below.refl _ _ | assumption | refine Below.drew ?_ | refine below_drewN ?_ _ | refine bl_alloc ?_ _ | refine Below.setCell ?_ (by first | (simp; done) | omega | (simp; omega)) _ | refine bl_then ?_ (by assumption))) (by omega), _, rfl, by omega, Blk.new _ _ _⟩
                · intro vals w1 hx hd ha
                  have e6 : vals 6 = .slice (some ⟨g0, 0, none⟩) nv cv := hd 6 (by decide)
                  have r9 : (fun v w1 => ∃ gx, v = .slice (some ⟨gx, 0, none⟩) 1 1 ∧ gx ≠ g0 ∧ Blk w1 gx 24 #[.int .i64 uf, .int .i64 ut]) (vals 9) w1 := hd 9 (by decide)
                  dsimp only at r9
                  clear hd ha
                  simp only [Lf, dstAt, Act.put, List.getElem?_toArray, List.getElem?_cons_zero, List.getElem?_cons_succ, Option.bind_some, List.setIfInBounds_toArray, List.set_cons_zero, List.set_cons_succ]
                  simp only [e6]
                  clear e6
                  obtain ⟨gx, e_9, hgx, jx⟩ := r9
                  rw [e_9]
                  obtain ⟨cu, hcu, hcs, hcp⟩ := HC1.out w1 hx.undrew
                  obtain ⟨w9, hrun, hgr, hh9⟩ := spl_fit 90 hcu hcs hcf gx uf ut jx
                  rw [hcp, ← HO1.out] at hh9
                  refine wpList_append_run_ rfl _ _ _ rfl rfl rfl hrun ?_
                  clear hrun
                  go_wp2
                  exact ⟨rfl, ⟨hgr, .inr hh9⟩, rfl, hh9⟩
              intro vals W4 hy hf
              have e0 : vals 0 = .map (some g3) := hf 0 (by omega)
              have e2 : vals 2 = .int .i64 us := hf 2 (by omega)
              obtain ⟨e10, hh4⟩ : vals 10 = .slice (some ⟨g0, 0, none⟩) (nv + 1) cv ∧ W4.heap[g0]? = some o1 := hf 10 (by omega)
              clear hf d0 d1 d2 HLT HC1 HLK
              have hy := hy.undrew
              have hx4 : Ext w W4 := hx.grown hy.1 hws (fun q e => by injection e with e; omega)
              have hm5 := HM.out.map.grown hy.1 (by intro e; injection e with e; exact hg3n e)
              obtain ⟨v2, hv2⟩ : ∃ v, v = Value.slice (some ⟨g0, 0, none⟩) (nv + 1) cv := ⟨_, rfl⟩
              rw [← hv2] at e10
              rw [HO1.out] at hh4
              have hown2 : W4.ownsRow w.heap.size 24 2 v2 (nv + 1) ((lstK us P).flatMap splCells ++ splCells ⟨uf, ut⟩) := by
                have hlx : ((lstK us P).flatMap splCells).length = nv * 2 := HOWN.out.1
                refine ⟨by rw [List.length_append, hlx]; show nv * 2 + 2 = (nv + 1) * 2; omega, .inr ⟨g0, cv, _, hv2, hb0, hh4, by omega, hcvm, by rw [putC_size HFIT.out]; exact hs0, ?_⟩⟩
                have hpt := putC_take HFIT.out
                rw [HT0.out] at hpt
                rw [show (nv + 1) * 2 = nv * 2 + (splCells ⟨uf, ut⟩).length by show _ = nv * 2 + 2; omega]
                exact hpt
              have hg2 : W3.grownBy W4 ((f us).getD (.slice none 0 0)).ownBlock := by rw [HOB.out]; exact hy.1
              have hnew2 : v2.ownBlock = ((f us).getD (.slice none 0 0)).ownBlock ∨ ∃ b, W3.heap.size ≤ b ∧ v2.ownBlock = some b := .inl (by rw [HOB.out, hv2]; rfl)
              clear hh4 hv2 hy hT
              obtain ⟨W6, hu6, hm6, hg6⟩ := hm5.update Try.underlying87 Try.underlying3 us v2
              have hm7 := HM.out.put ⟨us, uf, ut⟩ v2 (by rw [← HNV.out]; exact hown2) hg2 hnew2 hm6 hg6
              have hws4 := hx4.size
              have hx6 : Ext w W6 := hx4.grown hg6 hws4 (fun q e => by injection e with e; omega)
              have HUP := Lib.hid hu6
              have HM7 := Lib.hid hm7
              clear hown2 hg2 hnew2 hm5 hm6 hg6 hu6 hm7 HM HOWN hx4 hws4
              refine tail1 11 _ (by kernel_rfl) (by kernel_rfl) rfl ?_
              simp only [Lf, dstAt, Act.put, List.getElem?_toArray, List.getElem?_cons_zero, List.getElem?_cons_succ, Option.bind_some, List.setIfInBounds_toArray, List.set_cons_zero, List.set_cons_succ]
              rw [e0, e2, e10]
              clear e0 e2 e10
              go_wp2_with (refine wpList_mapUpdate_run rfl _ _ _ _ rfl rfl rfl rfl HUP.out ?_)
              clear HUP
              go_roundw
              case rel => exact ⟨k + 1, by omega, by go_num, Lib.hid (by rw [HTK.out]; exact HVT.out), Lib.hid ⟨_, by rw [HTK.out]; exact HM7.out⟩, hx6⟩
              case measure => simp [intOf]; omega
          · skip
            have hvf : vr = false := by rw [HST.out]; rfl
            have HVF := Lib.hid hvf
            clear hvf
            go_wp2
            go_ret
            exact ⟨by rw [HVF.out]; rfl, hx⟩
      · skip
        have hvt : vr = true := by rw [HV.out, List.drop_of_length_le (by rw [HL.out]; omega)]; rfl
        have HVT := Lib.hid hvt
        clear hvt HV HM
        go_wp2
        go_ret
        exact ⟨by rw [HVT.out]; rfl, hx⟩
  · skip
    rw [decide_eq_false h64, Bool.false_and]
    have h65 : (64 : Int) < (n : Int) := by omega
    go_enter Try.func18, Try.ntmps18
    go_wp2
    go_ret
    exact ⟨rfl, Ext.refl _⟩

end Go.Proofs.Ytgbfhkildbhhoaa
