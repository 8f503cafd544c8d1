/- Build's grow: by induction on the slots that are left. -/
import Derived.Test.YtikphbgfcpamgaaP19
namespace Go.Proofs.Ytikphbgfcpamgaa
open Go.RowKit

set_option maxRecDepth 100000 in
set_option maxHeartbeats 2000000 in
theorem grow_any {B gl gmb gfb gpb gg gk gm : Nat} {LA : Option Addr} {ln lc : Nat} {ps : List Plc} {st : Int} (h1 : B ≤ gg) (h2 : B ≤ gk) (h3 : B ≤ gm) (hkm : gk ≠ gm) (hl : ln ≤ 48) (h8 : ∀ p ∈ ps, p.opt < 8) (f : Nat) :
    ∀ (at_ d : Nat) (v : Value) (T : List Brn) (M : Stt → Option Value) (w : World), GSt w B gl gmb gfb gpb gg gk gm LA ln lc ps st v T M → at_ ≤ ln → d < 256 → ln - at_ < f →
    Calls Try.prog 38 #[.agg #[.int .i64 at_, .int .i64 d], .pointer (some ⟨gl, 0, none⟩), .pointer (some ⟨gmb, 0, none⟩), .pointer (some ⟨gfb, 0, none⟩), .pointer (some ⟨gpb, 0, none⟩)] w (GrowRet B gl gmb gfb gpb gg gk gm LA ln lc ps st v (bld T (dt (ps.drop at_) d)) w) := by
  induction f with
  | zero => intro at_ d v T M w _ _ _ h; omega
  | succ f ih =>
    intro at_ d v T M w G hat hd hf
    have IH := Lib.hid ih
    have HG := Lib.hid G
    have hln : ps.length = ln := G.env.rl.len
    have HLN := Lib.hid hln
    have H8 := Lib.hid h8
    obtain ⟨X, hX⟩ : ∃ X, X = bld T (dt (ps.drop at_) d) := ⟨_, rfl⟩
    rw [← hX]
    have HX := Lib.hid hX
    clear ih G hln h8 hX
    go_enter Try.func38, Try.ntmps38
    go_wp2
    have J5 := Blk.new w 81 #[.int .i64 (at_ : Int), .int .i64 (d : Int)]
    have hx0 : Ext w (w.alloc (.cells #[.int .i64 (at_ : Int), .int .i64 (d : Int)] 81)) := (by repeat (first | exact Below.refl _ _ | assumption | refine Below.drew ?_ | refine below_drewN ?_ _ | refine bl_alloc ?_ _ | refine Below.setCell ?_ (by first | (simp; done) | omega | (simp; omega)) _ | refine bl_then ?_ (by assumption)))
    obtain ⟨g5, hg5⟩ : ∃ g, g = w.heap.size := ⟨_, rfl⟩
    rw [← hg5] at J5 ⊢
    have HG5 := Lib.hid hg5
    clear hg5
    generalize w.alloc (.cells #[.int .i64 (at_ : Int), .int .i64 (d : Int)] 81) = W0 at J5 hx0 ⊢
    have HD0 : Hid (dt (ps.drop at_) d = dt (ps.drop at_) d) := Lib.hid rfl
    go_loopw [] (fun wr => ∃ k : Nat, at_ ≤ k ∧ k ≤ ln ∧ Hid (dt (ps.drop at_) d = dt (ps.drop k) d) ∧ Blk wr g5 81 #[.int .i64 (k : Int), .int .i64 (d : Int)] ∧ Ext w wr) (fun wr => ln - (match wr.cell? ⟨g5, 0, none⟩ with | some u => (intOf u).toNat | none => 0))
    case atStart => exact ⟨at_, Nat.le_refl _, hat, HD0, J5, hx0⟩
    case round =>
      clear HD0 J5 hx0
      obtain ⟨k, hk1, hk2, HD, J5, hx⟩ := hrel
      have hG := HG.out.ext hx
      have l0 : wr.cell? ⟨gl, 0, none⟩ = some (.slice LA ln lc) := hG.env.jl.cell 0
      have s0 : wr.cell? ⟨g5, 0, none⟩ = some (.int .i64 (k : Int)) := J5.cell 0
      have s1 : wr.cell? ⟨g5, 1, none⟩ = some (.int .i64 (d : Int)) := J5.cell 1
      have HS0_ := Lib.hid s0
      by_cases hkl : k < ln
      · obtain ⟨b, o, hz, hA, hbB, hcell⟩ := hG.env.rl.at_ plc_len hkl
        have hp8 := H8.out _ (List.getElem_mem hz)
        have hD : dt (ps.drop k) d = if d.testBit ps[k].opt then dt (ps.drop (k + 1)) d else .node ps[k].fr ps[k].opt ps[k].slot (dt (ps.drop (k + 1)) d) (dt (ps.drop (k + 1)) (d ||| 2 ^ ps[k].opt)) := by
          rw [List.drop_eq_getElem_cons hz, dt]
        generalize ps[k] = p at hcell hp8 hD
        obtain ⟨po, pl, pf, pt⟩ := p
        dsimp only at hp8 hD
        have c0 : wr.cell? ⟨b, o + k * 4, none⟩ = some (.int .i64 (po : Int)) := hcell 0 (by omega)
        have c1 : wr.cell? ⟨b, o + k * 4 + 1, none⟩ = some (.int .i64 (pl : Int)) := hcell 1 (by omega)
        have c2 : wr.cell? ⟨b, o + k * 4 + 2, none⟩ = some (.int .i64 pf) := hcell 2 (by omega)
        have c3 : wr.cell? ⟨b, o + k * 4 + 3, none⟩ = some (.int .i64 pt) := hcell 3 (by omega)
        have hbit := bit_i64 ⟨d, hd⟩ ⟨po, hp8⟩
        dsimp only at hbit
        have hkz : (k : Int) < (ln : Int) := by omega
        have HHD := Lib.hid hD
        subst hA
        clear hcell hz hD
        cases ht : d.testBit po
        · rw [ht, if_neg (by simp)] at hbit
          have HDN : Hid (dt (ps.drop k) d = .node pf po pl (dt (ps.drop (k + 1)) d) (dt (ps.drop (k + 1)) (d ||| 2 ^ po))) := Lib.hid (by rw [HHD.out, ht, if_neg (by simp)])
          clear HHD
          go_upto_region 1 with (fail)
          refine wp_region_obl 18 (fun ix vals v w1 => match ix with | 0 => v = .pointer (some ⟨g5, 0, none⟩) | 1 => v = .int .i64 (k : Int) | 2 => v = .slice (some ⟨b, o, none⟩) ln lc | 3 => v = .int .i64 (ln : Int) | 4 => v = .bool true | 5 => v = .bool true | 6 => v = .pointer (some ⟨g5, 1, none⟩) | 7 => v = .int .i64 (d : Int) | 8 => v = .slice (some ⟨b, o, none⟩) ln lc | 9 => v = .pointer (some ⟨g5, 0, none⟩) | 10 => v = .int .i64 (k : Int) | 11 => v = .pointer (some ⟨b, o + k * 4, none⟩) | 12 => v = .pointer (some ⟨b, o + k * 4, none⟩) | 13 => v = .int .i64 (po : Int) | 14 => v = .int .i64 ((d : Int) / 2 ^ po) | 15 => v = .int .i64 0 | 16 => v = .bool false | _ => v = .bool false) (by kernel_rfl) (by kernel_rfl) ?_ ?_ ?_ ?_
          · intro ix vals v w1 w2 hi hr hx
            match ix, hr with
            | 0, hr => exact hr
            | 1, hr => exact hr
            | 2, hr => exact hr
            | 3, hr => exact hr
            | 4, hr => exact hr
            | 5, hr => exact hr
            | 6, hr => exact hr
            | 7, hr => exact hr
            | 8, hr => exact hr
            | 9, hr => exact hr
            | 10, hr => exact hr
            | 11, hr => exact hr
            | 12, hr => exact hr
            | 13, hr => exact hr
            | 14, hr => exact hr
            | 15, hr => exact hr
            | 16, hr => exact hr
            | (kx + 17), hr => exact hr
          · intro ix vals vals_ v w1 hi hv hr
            exact hr
          · refine ⟨?_, ?_, ?_, ?_, ?_, ?_, ?_, ?_, ?_, ?_, ?_, ?_, ?_, ?_, ?_, ?_, ?_, ?_, trivial⟩
            · intro vals w1 hx hd ha
              clear hd ha
              simp only [Lf]
              go_wp2
              exact ⟨rfl, Ext.refl _, rfl⟩
            · intro vals w1 hx hd ha
              have e0 : vals 0 = .pointer (some ⟨g5, 0, none⟩) := hd 0 (by decide)
              clear hd ha
              simp only [Lf, dstAt, Act.put, List.getElem?_toArray, List.getElem?_cons_zero, Option.bind_some, List.setIfInBounds_toArray, List.set_cons_zero, List.set_cons_succ]
              simp only [e0]
              clear e0
              have s0 := ext_cell hx s0
              go_wp2
              exact ⟨rfl, Ext.refl _, rfl⟩
            · intro vals w1 hx hd ha
              clear hd ha
              simp only [Lf, dstAt, Act.put, List.getElem?_toArray, List.getElem?_cons_zero, List.getElem?_cons_succ, Option.bind_some, List.setIfInBounds_toArray, List.set_cons_zero, List.set_cons_succ]
              have l0 := ext_cell hx l0
              go_wp2
              exact ⟨rfl, Ext.refl _, rfl⟩
            · intro vals w1 hx hd ha
              have e2 : vals 2 = .slice (some ⟨b, o, none⟩) ln lc := hd 2 (by decide)
              clear hd ha
              simp only [Lf, dstAt, Act.put, List.getElem?_toArray, List.getElem?_cons_zero, List.getElem?_cons_succ, Option.bind_some, List.setIfInBounds_toArray, List.set_cons_zero, List.set_cons_succ]
              simp only [e2]
              clear e2
              go_wp2
              exact ⟨rfl, Ext.refl _, rfl⟩
            · intro vals w1 hx hd ha
              have e1 : vals 1 = .int .i64 (k : Int) := hd 1 (by decide)
              have e3 : vals 3 = .int .i64 (ln : Int) := hd 3 (by decide)
              clear hd ha
              simp only [Lf, dstAt, Act.put, List.getElem?_toArray, List.getElem?_cons_zero, List.getElem?_cons_succ, Option.bind_some, List.setIfInBounds_toArray, List.set_cons_zero, List.set_cons_succ]
              simp only [e1, e3]
              clear e1 e3
              go_wp2
              exact ⟨rfl, Ext.refl _, rfl⟩
            · intro vals w1 hx hd ha
              have e4 : vals 4 = .bool true := hd 4 (by decide)
              clear hd ha
              simp only [Lf, dstAt, Act.put, List.getElem?_toArray, List.getElem?_cons_zero, List.getElem?_cons_succ, Option.bind_some, List.setIfInBounds_toArray, List.set_cons_zero, List.set_cons_succ]
              simp only [e4]
              clear e4
              go_wp2
              exact ⟨rfl, Ext.refl _, rfl⟩
            · intro vals w1 hx hd ha
              have e5 : vals 5 = .bool true := hd 5 (by decide)
              clear hd ha
              simp only [Lf, dstAt, Act.put, List.getElem?_toArray, List.getElem?_cons_zero, List.getElem?_cons_succ, Option.bind_some, List.setIfInBounds_toArray, List.set_cons_zero, List.set_cons_succ]
              simp only [e5]
              clear e5
              go_wp2
              exact ⟨rfl, Ext.refl _, rfl⟩
            · intro vals w1 hx hd ha
              have e5 : vals 5 = .bool true := hd 5 (by decide)
              have e6 : vals 6 = .pointer (some ⟨g5, 1, none⟩) := hd 6 (by decide)
              clear hd ha
              simp only [Lf, dstAt, Act.put, List.getElem?_toArray, List.getElem?_cons_zero, List.getElem?_cons_succ, Option.bind_some, List.setIfInBounds_toArray, List.set_cons_zero, List.set_cons_succ]
              simp only [e5, e6]
              clear e5 e6
              have s1 := ext_cell hx s1
              go_wp2
              exact ⟨rfl, Ext.refl _, rfl⟩
            · intro vals w1 hx hd ha
              have e5 : vals 5 = .bool true := hd 5 (by decide)
              clear hd ha
              simp only [Lf, dstAt, Act.put, List.getElem?_toArray, List.getElem?_cons_zero, List.getElem?_cons_succ, Option.bind_some, List.setIfInBounds_toArray, List.set_cons_zero, List.set_cons_succ]
              simp only [e5]
              clear e5
              have l0 := ext_cell hx l0
              go_wp2
              exact ⟨rfl, Ext.refl _, rfl⟩
            · intro vals w1 hx hd ha
              have e5 : vals 5 = .bool true := hd 5 (by decide)
              clear hd ha
              simp only [Lf, dstAt, Act.put, List.getElem?_toArray, List.getElem?_cons_zero, List.getElem?_cons_succ, Option.bind_some, List.setIfInBounds_toArray, List.set_cons_zero, List.set_cons_succ]
              simp only [e5]
              clear e5
              go_wp2
              exact ⟨rfl, Ext.refl _, rfl⟩
            · intro vals w1 hx hd ha
              have e5 : vals 5 = .bool true := hd 5 (by decide)
              have e9 : vals 9 = .pointer (some ⟨g5, 0, none⟩) := hd 9 (by decide)
              clear hd ha
              simp only [Lf, dstAt, Act.put, List.getElem?_toArray, List.getElem?_cons_zero, List.getElem?_cons_succ, Option.bind_some, List.setIfInBounds_toArray, List.set_cons_zero, List.set_cons_succ]
              simp only [e5, e9]
              clear e5 e9
              have s0 := ext_cell hx s0
              go_wp2
              exact ⟨rfl, Ext.refl _, rfl⟩
            · intro vals w1 hx hd ha
              have e5 : vals 5 = .bool true := hd 5 (by decide)
              have e8 : vals 8 = .slice (some ⟨b, o, none⟩) ln lc := hd 8 (by decide)
              have e10 : vals 10 = .int .i64 (k : Int) := hd 10 (by decide)
              clear hd ha
              simp only [Lf, dstAt, Act.put, List.getElem?_toArray, List.getElem?_cons_zero, List.getElem?_cons_succ, Option.bind_some, List.setIfInBounds_toArray, List.set_cons_zero, List.set_cons_succ]
              simp only [e5, e8, e10]
              clear e5 e8 e10
              go_wp2
              exact ⟨rfl, Ext.refl _, rfl⟩
            · intro vals w1 hx hd ha
              have e5 : vals 5 = .bool true := hd 5 (by decide)
              have e11 : vals 11 = .pointer (some ⟨b, o + k * 4, none⟩) := hd 11 (by decide)
              clear hd ha
              simp only [Lf, dstAt, Act.put, List.getElem?_toArray, List.getElem?_cons_zero, List.getElem?_cons_succ, Option.bind_some, List.setIfInBounds_toArray, List.set_cons_zero, List.set_cons_succ]
              simp only [e5, e11]
              clear e5 e11
              go_wp2
              exact ⟨rfl, Ext.refl _, rfl⟩
            · intro vals w1 hx hd ha
              have e5 : vals 5 = .bool true := hd 5 (by decide)
              have e12 : vals 12 = .pointer (some ⟨b, o + k * 4, none⟩) := hd 12 (by decide)
              clear hd ha
              simp only [Lf, dstAt, Act.put, List.getElem?_toArray, List.getElem?_cons_zero, List.getElem?_cons_succ, Option.bind_some, List.setIfInBounds_toArray, List.set_cons_zero, List.set_cons_succ]
              simp only [e5, e12]
              clear e5 e12
              have c0 := ext_cell hx c0
              go_wp2
              exact ⟨rfl, Ext.refl _, rfl⟩
            · intro vals w1 hx hd ha
              have e5 : vals 5 = .bool true := hd 5 (by decide)
              have e7 : vals 7 = .int .i64 (d : Int) := hd 7 (by decide)
              have e13 : vals 13 = .int .i64 (po : Int) := hd 13 (by decide)
              clear hd ha
              simp only [Lf, dstAt, Act.put, List.getElem?_toArray, List.getElem?_cons_zero, List.getElem?_cons_succ, Option.bind_some, List.setIfInBounds_toArray, List.set_cons_zero, List.set_cons_succ]
              simp only [e5, e7, e13]
              clear e5 e7 e13
              go_wp2
              exact ⟨rfl, Ext.refl _, rfl⟩
            · intro vals w1 hx hd ha
              have e5 : vals 5 = .bool true := hd 5 (by decide)
              have e14 : vals 14 = .int .i64 ((d : Int) / 2 ^ po) := hd 14 (by decide)
              clear hd ha
              simp only [Lf, dstAt, Act.put, List.getElem?_toArray, List.getElem?_cons_zero, List.getElem?_cons_succ, Option.bind_some, List.setIfInBounds_toArray, List.set_cons_zero, List.set_cons_succ]
              simp only [e5, e14]
              clear e5 e14
              go_wp2
              exact ⟨rfl, Ext.refl _, rfl⟩
            · intro vals w1 hx hd ha
              have e5 : vals 5 = .bool true := hd 5 (by decide)
              have e15 : vals 15 = .int .i64 0 := hd 15 (by decide)
              clear hd ha
              simp only [Lf, dstAt, Act.put, List.getElem?_toArray, List.getElem?_cons_zero, List.getElem?_cons_succ, Option.bind_some, List.setIfInBounds_toArray, List.set_cons_zero, List.set_cons_succ]
              simp only [e5, e15]
              clear e5 e15
              go_wp2
              exact ⟨rfl, Ext.refl _, rfl⟩
            · intro vals w1 hx hd ha
              have e5 : vals 5 = .bool true := hd 5 (by decide)
              have e16 : vals 16 = .bool false := hd 16 (by decide)
              clear hd ha
              simp only [Lf, dstAt, Act.put, List.getElem?_toArray, List.getElem?_cons_zero, List.getElem?_cons_succ, Option.bind_some, List.setIfInBounds_toArray, List.set_cons_zero, List.set_cons_succ]
              simp only [e5, e16]
              clear e5 e16
              go_wp2
              exact ⟨rfl, Ext.refl _, rfl⟩
          intro vals W5 hx5 hf
          have e17 : vals 17 = .bool false := hf 17 (by omega)
          clear hf
          have hx5 := hx5.undrew
          have hx := Ext.trans hx hx5
          have hG := hG.ext hx5
          have J5 := J5.ext hx5
          have s0 := ext_cell hx5 s0
          have s1 := ext_cell hx5 s1
          have l0 := ext_cell hx5 l0
          have c0 := ext_cell hx5 c0
          have c1 := ext_cell hx5 c1
          have c2 := ext_cell hx5 c2
          have c3 := ext_cell hx5 c3
          clear hx5
          refine tail0 (by kernel_rfl) ?_
          simp only [Lf, dstAt, Act.put, List.getElem?_toArray, List.getElem?_cons_zero, List.getElem?_cons_succ, Option.bind_some, List.setIfInBounds_toArray, List.set_cons_zero, List.set_cons_succ]
          rw [e17]
          clear e17
          clear hbit
          have hne : ((k : Int) == (ln : Int)) = false := by simp; omega
          have m0 : W5.cell? ⟨gmb, 0, none⟩ = some (.map (some gm)) := hG.env.jm.cell 0
          have hlk := hG.map.look key_stt Try.underlying78 (zero_int W5) ⟨k, d⟩ #[.int .i64 (k : Int), .int .i64 (d : Int)] rfl true
          rw [if_pos rfl] at hlk
          have HDX : Hid (X = bld T (dt (ps.drop k) d)) := Lib.hid (by rw [HX.out, HD.out])
          have HGN := Lib.hid hG
          have HJ5 := Lib.hid J5
          clear HD HX hG J5 HS0_
          cases hM : M ⟨k, d⟩ with
          | some u =>
            obtain ⟨i, hu, hrep⟩ := HGN.out.met _ _ hM
            rw [hM, hu] at hlk
            have hXT : X = (T, i) := by rw [HDX.out]; exact bld_met HGN.out.gr.nd hrep
            have hlk2 : (Instr.lookup 78 (.map (some gm)) (.agg #[.int .i64 (k : Int), .int .i64 (d : Int)]) true).run Try.prog W5 = .ok (.tuple #[.int .i64 i, .bool true]) W5 := hlk
            have HXT := Lib.hid hXT
            clear hlk hXT hM hu hrep
            go_wp2
            go_ret
            rw [HXT.out]
            exact ⟨v, M, rfl, HGN.out, Grw.of_ext hx⟩
          | none =>
            rw [hM] at hlk
            have hlk2 : (Instr.lookup 78 (.map (some gm)) (.agg #[.int .i64 (k : Int), .int .i64 (d : Int)]) true).run Try.prog W5 = .ok (.tuple #[.int .i64 0, .bool false]) W5 := hlk
            clear hlk hM
            go_upto_region 8 with (fail)
            clear hlk2 m0 hne
            go_upto_region 9 with (fail)
            have J9 := Blk.new W5 83 #[.int .i64 (po : Int), .int .i64 (pl : Int), .int .i64 pf, .int .i64 pt]
            have hy : Ext W5 (W5.alloc (.cells #[.int .i64 (po : Int), .int .i64 (pl : Int), .int .i64 pf, .int .i64 pt] 83)) := bl_alloc (Below.refl _ _) _
            generalize W5.heap.size = g9 at J9 ⊢
            generalize W5.alloc (.cells #[.int .i64 (po : Int), .int .i64 (pl : Int), .int .i64 pf, .int .i64 pt] 83) = W6 at J9 hy ⊢
            have hx6 := Ext.trans hx hy
            have G6 := HGN.out.ext hy
            have J56 := HJ5.out.ext hy
            have HJ9 := Lib.hid J9
            have s0 := ext_cell hy s0
            have s1 := ext_cell hy s1
            have fb0 : W6.cell? ⟨gfb, 0, none⟩ = some (.func (.func 38) #[] #[.pointer (some ⟨gl, 0, none⟩), .pointer (some ⟨gmb, 0, none⟩), .pointer (some ⟨gfb, 0, none⟩), .pointer (some ⟨gpb, 0, none⟩)]) := G6.env.jf.cell 0
            have hw1 : IntKind.i64.wrap ((k : Int) + 1) = (k : Int) + 1 := IntWalk.i64_in _ (by omega)
            have hc1 : Calls Try.prog 38 #[.agg #[.int .i64 ((k : Int) + 1), .int .i64 (d : Int)], .pointer (some ⟨gl, 0, none⟩), .pointer (some ⟨gmb, 0, none⟩), .pointer (some ⟨gfb, 0, none⟩), .pointer (some ⟨gpb, 0, none⟩)] W6 (GrowRet B gl gmb gfb gpb gg gk gm (some ⟨b, o, none⟩) ln lc ps st v (bld T (dt (ps.drop (k + 1)) d)) W6) := IH.out (k + 1) d v T M W6 G6 (by omega) hd (by omega)
            have HXN : Hid (X = (put (bld (bld T (dt (ps.drop (k + 1)) d)).1 (dt (ps.drop (k + 1)) (d ||| 2 ^ po))).1 ⟨pf, po, pl, (bld (bld T (dt (ps.drop (k + 1)) d)).1 (dt (ps.drop (k + 1)) (d ||| 2 ^ po))).2, (bld T (dt (ps.drop (k + 1)) d)).2⟩, ((pos ⟨pf, po, pl, (bld (bld T (dt (ps.drop (k + 1)) d)).1 (dt (ps.drop (k + 1)) (d ||| 2 ^ po))).2, (bld T (dt (ps.drop (k + 1)) d)).2⟩ (bld (bld T (dt (ps.drop (k + 1)) d)).1 (dt (ps.drop (k + 1)) (d ||| 2 ^ po))).1 : Nat) : Int))) := Lib.hid (by rw [HDX.out, HDN.out, bld])
            have hfr1 : FromP (PS ps) (bld T (dt (ps.drop (k + 1)) d)).1 := HGN.out.frm.bld (subs_dt H8.out (ln - (k + 1)) (k + 1) d (by rw [HLN.out]; omega) hd)
            have hrep : Rep X.1 X.2 (dt (ps.drop k) d) := by rw [HDX.out]; exact bld_rep _ _
            have hfrX : FromP (PS ps) X.1 := by
              rw [HDX.out]
              exact HGN.out.frm.bld (subs_dt H8.out (ln - k) k d (by rw [HLN.out]; omega) hd)
            have HREP := Lib.hid hrep
            have HFRX := Lib.hid hfrX
            have HFR1 := Lib.hid hfr1
            have HG6 := Lib.hid G6
            have HJ56 := Lib.hid J56
            generalize bld T (dt (ps.drop (k + 1)) d) = P1 at hc1 HXN HFR1
            obtain ⟨T1, k1⟩ := P1
            have HC1 := Lib.hid hc1
            clear hc1 hfr1 hrep hfrX hy J9 J56 HDX HDN HGN HJ5 G6
            go_wp2_with fail
            have hc := HC1.out
            clear HC1
            refine hc.mono ?_
            clear hc
            rintro e W7 ⟨v7, M7, rfl, G7, hw7⟩
            have J5 := HG6.out.blk hw7 HJ56.out (by decide) (by decide)
            have J9 := HG6.out.blk hw7 HJ9.out (by decide) (by decide)
            try dsimp only at G7
            have HG7 := Lib.hid G7
            have HW7 := Lib.hid hw7
            have HJ5 := Lib.hid J5
            have HJ9 := Lib.hid J9
            have s0 : W7.cell? ⟨g5, 0, none⟩ = some (.int .i64 (k : Int)) := J5.cell 0
            have s1 : W7.cell? ⟨g5, 1, none⟩ = some (.int .i64 (d : Int)) := J5.cell 1
            have q0 : W7.cell? ⟨g9, 0, none⟩ = some (.int .i64 (po : Int)) := J9.cell 0
            have fb0 : W7.cell? ⟨gfb, 0, none⟩ = some (.func (.func 38) #[] #[.pointer (some ⟨gl, 0, none⟩), .pointer (some ⟨gmb, 0, none⟩), .pointer (some ⟨gfb, 0, none⟩), .pointer (some ⟨gpb, 0, none⟩)]) := G7.env.jf.cell 0
            obtain ⟨hor, hor2⟩ := or_i64 ⟨d, hd⟩ ⟨po, hp8⟩
            dsimp only at hor hor2
            have hpw : IntKind.i64.wrap ((2 : Int) ^ po) = (2 : Int) ^ po := by
              have h1 : (2 : Nat) ^ po ≤ 128 := Nat.le_trans (Nat.pow_le_pow_right (by decide) (show po ≤ 7 by omega)) (by decide)
              have h2 : ((2 : Int) ^ po) = ((2 ^ po : Nat) : Int) := by simp
              rw [h2]
              generalize (2 : Nat) ^ po = z at h1
              exact IntWalk.i64_in _ (by omega)
            have hpo0 : (0 : Int) ≤ (po : Int) := by omega
            have hpo8 : (po : Int) ≤ 64 := by omega
            clear G7 hw7 J5 J9 HG6
            go_upto_region 10 with (fail)
            refine wp_region_obl 11 (fun ix vals v w1 => match ix with | 0 => v = .func (.func 38) #[] #[.pointer (some ⟨gl, 0, none⟩), .pointer (some ⟨gmb, 0, none⟩), .pointer (some ⟨gfb, 0, none⟩), .pointer (some ⟨gpb, 0, none⟩)] | 1 => v = .pointer (some ⟨g5, 0, none⟩) | 2 => v = .int .i64 (k : Int) | 3 => v = .int .i64 ((k : Int) + 1) | 4 => v = .pointer (some ⟨g5, 1, none⟩) | 5 => v = .int .i64 (d : Int) | 6 => v = .pointer (some ⟨g9, 0, none⟩) | 7 => v = .int .i64 (po : Int) | 8 => v = .int .i64 ((2 : Int) ^ po) | 9 => v = .int .i64 ((d ||| 2 ^ po : Nat) : Int) | _ => v = .agg #[.int .i64 ((k : Int) + 1), .int .i64 ((d ||| 2 ^ po : Nat) : Int)]) (by kernel_rfl) (by kernel_rfl) ?_ ?_ ?_ ?_
            · intro ix vals v w1 w2 hi hr hx
              match ix, hr with
              | 0, hr => exact hr
              | 1, hr => exact hr
              | 2, hr => exact hr
              | 3, hr => exact hr
              | 4, hr => exact hr
              | 5, hr => exact hr
              | 6, hr => exact hr
              | 7, hr => exact hr
              | 8, hr => exact hr
              | 9, hr => exact hr
              | (kx + 10), hr => exact hr
            · intro ix vals vals_ v w1 hi hv hr
              exact hr
            · refine ⟨?_, ?_, ?_, ?_, ?_, ?_, ?_, ?_, ?_, ?_, ?_, trivial⟩
              · intro vals w1 hx hd ha
                clear hd ha
                simp only [Lf]
                have fb0 := ext_cell hx fb0
                go_wp2
                exact ⟨rfl, Ext.refl _, rfl⟩
              · intro vals w1 hx hd ha
                clear hd ha
                simp only [Lf, dstAt, Act.put, List.getElem?_toArray, List.getElem?_cons_zero, Option.bind_some, List.setIfInBounds_toArray, List.set_cons_zero, List.set_cons_succ]
                go_wp2
                exact ⟨rfl, Ext.refl _, rfl⟩
              · intro vals w1 hx hd ha
                have e1 : vals 1 = .pointer (some ⟨g5, 0, none⟩) := hd 1 (by decide)
                clear hd ha
                simp only [Lf, dstAt, Act.put, List.getElem?_toArray, List.getElem?_cons_zero, List.getElem?_cons_succ, Option.bind_some, List.setIfInBounds_toArray, List.set_cons_zero, List.set_cons_succ]
                simp only [e1]
                clear e1
                have s0 := ext_cell hx s0
                go_wp2
                exact ⟨rfl, Ext.refl _, rfl⟩
              · intro vals w1 hx hd ha
                have e2 : vals 2 = .int .i64 (k : Int) := hd 2 (by decide)
                clear hd ha
                simp only [Lf, dstAt, Act.put, List.getElem?_toArray, List.getElem?_cons_zero, List.getElem?_cons_succ, Option.bind_some, List.setIfInBounds_toArray, List.set_cons_zero, List.set_cons_succ]
                simp only [e2]
                clear e2
                go_wp2
                exact ⟨rfl, Ext.refl _, rfl⟩
              · intro vals w1 hx hd ha
                clear hd ha
                simp only [Lf, dstAt, Act.put, List.getElem?_toArray, List.getElem?_cons_zero, List.getElem?_cons_succ, Option.bind_some, List.setIfInBounds_toArray, List.set_cons_zero, List.set_cons_succ]
                go_wp2
                exact ⟨rfl, Ext.refl _, rfl⟩
              · intro vals w1 hx hd ha
                have e4 : vals 4 = .pointer (some ⟨g5, 1, none⟩) := hd 4 (by decide)
                clear hd ha
                simp only [Lf, dstAt, Act.put, List.getElem?_toArray, List.getElem?_cons_zero, List.getElem?_cons_succ, Option.bind_some, List.setIfInBounds_toArray, List.set_cons_zero, List.set_cons_succ]
                simp only [e4]
                clear e4
                have s1 := ext_cell hx s1
                go_wp2
                exact ⟨rfl, Ext.refl _, rfl⟩
              · intro vals w1 hx hd ha
                clear hd ha
                simp only [Lf, dstAt, Act.put, List.getElem?_toArray, List.getElem?_cons_zero, List.getElem?_cons_succ, Option.bind_some, List.setIfInBounds_toArray, List.set_cons_zero, List.set_cons_succ]
                go_wp2
                exact ⟨rfl, Ext.refl _, rfl⟩
              · intro vals w1 hx hd ha
                have e6 : vals 6 = .pointer (some ⟨g9, 0, none⟩) := hd 6 (by decide)
                clear hd ha
                simp only [Lf, dstAt, Act.put, List.getElem?_toArray, List.getElem?_cons_zero, List.getElem?_cons_succ, Option.bind_some, List.setIfInBounds_toArray, List.set_cons_zero, List.set_cons_succ]
                simp only [e6]
                clear e6
                have q0 := ext_cell hx q0
                go_wp2
                exact ⟨rfl, Ext.refl _, rfl⟩
              · intro vals w1 hx hd ha
                have e7 : vals 7 = .int .i64 (po : Int) := hd 7 (by decide)
                clear hd ha
                simp only [Lf, dstAt, Act.put, List.getElem?_toArray, List.getElem?_cons_zero, List.getElem?_cons_succ, Option.bind_some, List.setIfInBounds_toArray, List.set_cons_zero, List.set_cons_succ]
                simp only [e7]
                clear e7
                go_wp2
                exact ⟨rfl, Ext.refl _, rfl⟩
              · intro vals w1 hx hd ha
                have e5 : vals 5 = .int .i64 (d : Int) := hd 5 (by decide)
                have e8 : vals 8 = .int .i64 ((2 : Int) ^ po) := hd 8 (by decide)
                clear hd ha
                simp only [Lf, dstAt, Act.put, List.getElem?_toArray, List.getElem?_cons_zero, List.getElem?_cons_succ, Option.bind_some, List.setIfInBounds_toArray, List.set_cons_zero, List.set_cons_succ]
                simp only [e5, e8]
                clear e5 e8
                go_wp2
                exact ⟨rfl, Ext.refl _, rfl⟩
              · intro vals w1 hx hd ha
                have e3 : vals 3 = .int .i64 ((k : Int) + 1) := hd 3 (by decide)
                have e9 : vals 9 = .int .i64 ((d ||| 2 ^ po : Nat) : Int) := hd 9 (by decide)
                clear hd ha
                simp only [Lf, dstAt, Act.put, List.getElem?_toArray, List.getElem?_cons_zero, List.getElem?_cons_succ, Option.bind_some, List.setIfInBounds_toArray, List.set_cons_zero, List.set_cons_succ]
                simp only [e3, e9]
                clear e3 e9
                go_wp2
                exact ⟨rfl, Ext.refl _, rfl⟩
            intro vz W8 hx8 hf
            have z0 : vz 0 = .func (.func 38) #[] #[.pointer (some ⟨gl, 0, none⟩), .pointer (some ⟨gmb, 0, none⟩), .pointer (some ⟨gfb, 0, none⟩), .pointer (some ⟨gpb, 0, none⟩)] := hf 0 (by omega)
            have z10 : vz 10 = .agg #[.int .i64 ((k : Int) + 1), .int .i64 ((d ||| 2 ^ po : Nat) : Int)] := hf 10 (by omega)
            clear hf fb0 s0 s1 q0 hor hpw
            have hx8 := hx8.undrew
            have G8 := HG7.out.ext hx8
            have HJ58 := Lib.hid (HJ5.out.ext hx8)
            have HJ98 := Lib.hid (HJ9.out.ext hx8)
            have hc2 : Calls Try.prog 38 #[.agg #[.int .i64 ((k : Int) + 1), .int .i64 ((d ||| 2 ^ po : Nat) : Int)], .pointer (some ⟨gl, 0, none⟩), .pointer (some ⟨gmb, 0, none⟩), .pointer (some ⟨gfb, 0, none⟩), .pointer (some ⟨gpb, 0, none⟩)] W8 (GrowRet B gl gmb gfb gpb gg gk gm (some ⟨b, o, none⟩) ln lc ps st v7 (bld T1 (dt (ps.drop (k + 1)) (d ||| 2 ^ po))) W8) := IH.out (k + 1) (d ||| 2 ^ po) v7 T1 M7 W8 G8 (by omega) hor2 (by omega)
            have hfr2 : FromP (PS ps) (bld T1 (dt (ps.drop (k + 1)) (d ||| 2 ^ po))).1 := FromP.bld HFR1.out (subs_dt H8.out (ln - (k + 1)) (k + 1) _ (by rw [HLN.out]; omega) hor2)
            have hxn := HXN.out
            try dsimp only at hxn
            generalize bld T1 (dt (ps.drop (k + 1)) (d ||| 2 ^ po)) = P2 at hc2 hxn hfr2
            obtain ⟨T2, k2⟩ := P2
            try dsimp only at hxn
            generalize d ||| 2 ^ po = d2 at hc2 z10 hor2
            have HXN2 := Lib.hid hxn
            have HFR2 := Lib.hid hfr2
            have HC2 := Lib.hid hc2
            have HG8 := Lib.hid G8
            have HW8 : Hid (Grw gg gk gm v v7 w W8) := Lib.hid (((Grw.of_ext hx6).trans HW7.out).trans (Grw.of_ext hx8))
            clear hc2 hxn hfr2 HXN HG7 HJ5 HJ9 hx8 G8 HW7 HFR1
            refine tailF 11 _ _ 1 (by kernel_rfl) rfl ?_ (fun a w q => tail1 12 _ (by kernel_rfl) (by kernel_rfl) rfl q)
            simp only [Lf, dstAt, Act.put, List.getElem?_toArray, List.getElem?_cons_zero, List.getElem?_cons_succ, Option.bind_some, List.setIfInBounds_toArray, List.set_cons_zero, List.set_cons_succ]
            rw [z0, z10]
            clear z0 z10
            go_wp2_with fail
            have hc := HC2.out
            clear HC2
            refine hc.mono ?_
            clear hc
            rintro e W9 ⟨v9, M9, rfl, G9, hw9⟩
            have J5 := HG8.out.blk hw9 HJ58.out (by decide) (by decide)
            have J9 := HG8.out.blk hw9 HJ98.out (by decide) (by decide)
            try dsimp only at G9
            have HG9 := Lib.hid G9
            have HW9 : Hid (Grw gg gk gm v v9 w W9) := Lib.hid (HW8.out.trans hw9)
            have hn9 : T2.length ≤ 800000 := by have := ps_len (by rw [HLN.out]; exact hl) G9.gr.nd HFR2.out; omega
            clear HG8 HJ58 HJ98 HW8 hw9
            go_upto_region 11 with (fail)
            obtain ⟨T3, hT3⟩ : ∃ T3, T3 = put T2 (⟨pf, (po : Int), (pl : Int), k2, k1⟩ : Brn) := ⟨_, rfl⟩
            obtain ⟨kb, hkb⟩ : ∃ kb, kb = pos (⟨pf, (po : Int), (pl : Int), k2, k1⟩ : Brn) T2 := ⟨_, rfl⟩
            have hnS := fun {b : Nat} {t : TypeId} {cs : Array Value} (j : Blk W9 b t cs) (n1 : t ≠ 88) (n2 : t ≠ 30) => (show ¬ SB gg gk v9 b from fun h => by
              rcases h with e | e | e
              · exact j.ne_ G9.gr.blk n1 e
              · exact G9.gr.map.ne_blk j e
              · exact own_blk_ne G9.gr.row j (fun e => n2 e.symm) e)
            have HBR := Lib.hid (fun (w1 : World) (hx : FT W9.heap.size (SB gg gk v9) (FinB gg gk B st v9 (put T2 (⟨pf, (po : Int), (pl : Int), k2, k1⟩ : Brn)) W9.heap.size) W9 w1) => branch_ft (⟨pf, (po : Int), (pl : Int), k2, k1⟩ : Brn) G9.gr hn9 G9.env.hB hx)
            have hT := ft_tr W9.heap.size (SB gg gk v9) (FinB gg gk B st v9 (put T2 (⟨pf, (po : Int), (pl : Int), k2, k1⟩ : Brn)) W9.heap.size)
            have HXK : Hid (X = (T3, (kb : Int))) := Lib.hid (by rw [HXN2.out, hT3, hkb])
            have HPE : Hid (∃ R, T3 = T2 ++ R) := Lib.hid (by rw [hT3]; exact put_ext T2 _)
            rw [← hT3] at HBR hT
            rw [← hkb] at HBR
            clear hT3 hkb HXN2
            change Hid (∀ (w1 : World), FT W9.heap.size (SB gg gk v9) (FinB gg gk B st v9 T3 W9.heap.size) W9 w1 → Calls Try.prog 39 #[.pointer (some ⟨gg, 0, none⟩), .agg #[.int .i64 pf, .int .i64 (po : Int), .int .i64 (pl : Int), .int .i64 k2, .int .i64 k1]] w1 fun e w' => e = .returned (.int .i64 (kb : Int)) ∧ FT W9.heap.size (SB gg gk v9) (FinB gg gk B st v9 T3 W9.heap.size) w1 w' ∧ FinB gg gk B st v9 T3 W9.heap.size w') at HBR
            have nm := hnS G9.env.jm (by decide) (by decide)
            have np := hnS G9.env.jp (by decide) (by decide)
            have n5 := hnS J5 (by decide) (by decide)
            have n9 := hnS J9 (by decide) (by decide)
            have lm := G9.env.jm.lt
            have lp := G9.env.jp.lt
            have l5 := J5.lt
            have l9 := J9.lt
            have m0 : W9.cell? ⟨gmb, 0, none⟩ = some (.map (some gm)) := G9.env.jm.cell 0
            have p0 : W9.cell? ⟨gpb, 0, none⟩ = some (.pointer (some ⟨gg, 0, none⟩)) := G9.env.jp.cell 0
            have s0 : W9.cell? ⟨g5, 0, none⟩ = some (.int .i64 (k : Int)) := J5.cell 0
            have s1 : W9.cell? ⟨g5, 1, none⟩ = some (.int .i64 (d : Int)) := J5.cell 1
            have q0 : W9.cell? ⟨g9, 0, none⟩ = some (.int .i64 (po : Int)) := J9.cell 0
            have q1 : W9.cell? ⟨g9, 1, none⟩ = some (.int .i64 (pl : Int)) := J9.cell 1
            have q2 : W9.cell? ⟨g9, 2, none⟩ = some (.int .i64 pf) := J9.cell 2
            have HJ5 := Lib.hid J5
            clear G9 J5 J9 hnS
            refine RB.wp_region_obl (T := _) hT 14 (fun ix vals v w1 => match ix with | 0 => v = .map (some gm) | 1 => v = .agg #[.int .i64 (k : Int), .int .i64 (d : Int)] | 2 => v = .pointer (some ⟨gg, 0, none⟩) | 3 => v = .pointer (some ⟨g9, 2, none⟩) | 4 => v = .pointer (some ⟨g9, 2, none⟩) | 5 => v = .int .i64 pf | 6 => v = .pointer (some ⟨g9, 0, none⟩) | 7 => v = .int .i64 (po : Int) | 8 => v = .pointer (some ⟨g9, 1, none⟩) | 9 => v = .int .i64 (pl : Int) | 10 => v = .int .i64 k2 | 11 => v = .int .i64 k1 | 12 => v = .agg #[.int .i64 pf, .int .i64 (po : Int), .int .i64 (pl : Int), .int .i64 k2, .int .i64 k1] | _ => v = .int .i64 (kb : Int) ∧ FinB gg gk B st v9 T3 W9.heap.size w1) (by kernel_rfl) (by kernel_rfl) ?_ ?_ ?_ ?_
            · intro ix vals v w1 w2 hi hr hx
              match ix, hr with
              | 0, hr => exact hr
              | 1, hr => exact hr
              | 2, hr => exact hr
              | 3, hr => exact hr
              | 4, hr => exact hr
              | 5, hr => exact hr
              | 6, hr => exact hr
              | 7, hr => exact hr
              | 8, hr => exact hr
              | 9, hr => exact hr
              | 10, hr => exact hr
              | 11, hr => exact hr
              | 12, hr => exact hr
              | (kx + 13), hr => exact ⟨hr.1, hx.fin hr.2⟩
            · intro ix vals vals_ v w1 hi hv hr
              exact hr
            · refine ⟨?_, ?_, ?_, ?_, ?_, ?_, ?_, ?_, ?_, ?_, ?_, ?_, ?_, ?_, trivial⟩
              · intro vals w1 hx hd ha
                clear hd ha
                simp only [Lf]
                have m0 := hx.undrew.cell m0 lm nm
                go_wp2
                exact ⟨rfl, hT.refl _, rfl⟩
              · intro vals w1 hx hd ha
                clear hd ha
                simp only [Lf, dstAt, Act.put, List.getElem?_toArray, List.getElem?_cons_zero, Option.bind_some, List.setIfInBounds_toArray, List.set_cons_zero, List.set_cons_succ]
                have s0 := hx.undrew.cell s0 l5 n5; have s1 := hx.undrew.cell s1 l5 n5
                go_wp2
                exact ⟨rfl, hT.refl _, rfl⟩
              · intro vals w1 hx hd ha
                clear hd ha
                simp only [Lf, dstAt, Act.put, List.getElem?_toArray, List.getElem?_cons_zero, List.getElem?_cons_succ, Option.bind_some, List.setIfInBounds_toArray, List.set_cons_zero, List.set_cons_succ]
                have p0 := hx.undrew.cell p0 lp np
                go_wp2
                exact ⟨rfl, hT.refl _, rfl⟩
              · intro vals w1 hx hd ha
                clear hd ha
                simp only [Lf, dstAt, Act.put, List.getElem?_toArray, List.getElem?_cons_zero, List.getElem?_cons_succ, Option.bind_some, List.setIfInBounds_toArray, List.set_cons_zero, List.set_cons_succ]
                go_wp2
                exact ⟨rfl, hT.refl _, rfl⟩
              · intro vals w1 hx hd ha
                have e3 : vals 3 = .pointer (some ⟨g9, 2, none⟩) := hd 3 (by decide)
                clear hd ha
                simp only [Lf, dstAt, Act.put, List.getElem?_toArray, List.getElem?_cons_zero, List.getElem?_cons_succ, Option.bind_some, List.setIfInBounds_toArray, List.set_cons_zero, List.set_cons_succ]
                simp only [e3]
                clear e3
                go_wp2
                exact ⟨rfl, hT.refl _, rfl⟩
              · intro vals w1 hx hd ha
                have e4 : vals 4 = .pointer (some ⟨g9, 2, none⟩) := hd 4 (by decide)
                clear hd ha
                simp only [Lf, dstAt, Act.put, List.getElem?_toArray, List.getElem?_cons_zero, List.getElem?_cons_succ, Option.bind_some, List.setIfInBounds_toArray, List.set_cons_zero, List.set_cons_succ]
                simp only [e4]
                clear e4
                have q2 := hx.undrew.cell q2 l9 n9
                go_wp2
                exact ⟨rfl, hT.refl _, rfl⟩
              · intro vals w1 hx hd ha
                clear hd ha
                simp only [Lf, dstAt, Act.put, List.getElem?_toArray, List.getElem?_cons_zero, List.getElem?_cons_succ, Option.bind_some, List.setIfInBounds_toArray, List.set_cons_zero, List.set_cons_succ]
                go_wp2
                exact ⟨rfl, hT.refl _, rfl⟩
              · intro vals w1 hx hd ha
                have e6 : vals 6 = .pointer (some ⟨g9, 0, none⟩) := hd 6 (by decide)
                clear hd ha
                simp only [Lf, dstAt, Act.put, List.getElem?_toArray, List.getElem?_cons_zero, List.getElem?_cons_succ, Option.bind_some, List.setIfInBounds_toArray, List.set_cons_zero, List.set_cons_succ]
                simp only [e6]
                clear e6
                have q0 := hx.undrew.cell q0 l9 n9
                go_wp2
                exact ⟨rfl, hT.refl _, rfl⟩
              · intro vals w1 hx hd ha
                clear hd ha
                simp only [Lf, dstAt, Act.put, List.getElem?_toArray, List.getElem?_cons_zero, List.getElem?_cons_succ, Option.bind_some, List.setIfInBounds_toArray, List.set_cons_zero, List.set_cons_succ]
                go_wp2
                exact ⟨rfl, hT.refl _, rfl⟩
              · intro vals w1 hx hd ha
                have e8 : vals 8 = .pointer (some ⟨g9, 1, none⟩) := hd 8 (by decide)
                clear hd ha
                simp only [Lf, dstAt, Act.put, List.getElem?_toArray, List.getElem?_cons_zero, List.getElem?_cons_succ, Option.bind_some, List.setIfInBounds_toArray, List.set_cons_zero, List.set_cons_succ]
                simp only [e8]
                clear e8
                have q1 := hx.undrew.cell q1 l9 n9
                go_wp2
                exact ⟨rfl, hT.refl _, rfl⟩
              · intro vals w1 hx hd ha
                clear hd ha
                simp only [Lf, dstAt, Act.put, List.getElem?_toArray, List.getElem?_cons_zero, List.getElem?_cons_succ, Option.bind_some, List.setIfInBounds_toArray, List.set_cons_zero, List.set_cons_succ]
                go_wp2
                exact ⟨rfl, hT.refl _, rfl⟩
              · intro vals w1 hx hd ha
                clear hd ha
                simp only [Lf, dstAt, Act.put, List.getElem?_toArray, List.getElem?_cons_zero, List.getElem?_cons_succ, Option.bind_some, List.setIfInBounds_toArray, List.set_cons_zero, List.set_cons_succ]
                go_wp2
                exact ⟨rfl, hT.refl _, rfl⟩
              · intro vals w1 hx hd ha
                have e5 : vals 5 = .int .i64 pf := hd 5 (by decide)
                have e7 : vals 7 = .int .i64 (po : Int) := hd 7 (by decide)
                have e9 : vals 9 = .int .i64 (pl : Int) := hd 9 (by decide)
                have e10 : vals 10 = .int .i64 k2 := hd 10 (by decide)
                have e11 : vals 11 = .int .i64 k1 := hd 11 (by decide)
                clear hd ha
                simp only [Lf, dstAt, Act.put, List.getElem?_toArray, List.getElem?_cons_zero, List.getElem?_cons_succ, Option.bind_some, List.setIfInBounds_toArray, List.set_cons_zero, List.set_cons_succ]
                simp only [e5, e7, e9, e10, e11]
                clear e5 e7 e9 e10 e11
                go_wp2
                exact ⟨rfl, hT.refl _, rfl⟩
              · intro vals w1 hx hd ha
                have e2 : vals 2 = .pointer (some ⟨gg, 0, none⟩) := hd 2 (by decide)
                have e12 : vals 12 = .agg #[.int .i64 pf, .int .i64 (po : Int), .int .i64 (pl : Int), .int .i64 k2, .int .i64 k1] := hd 12 (by decide)
                clear hd ha
                simp only [Lf, dstAt, Act.put, List.getElem?_toArray, List.getElem?_cons_zero, List.getElem?_cons_succ, Option.bind_some, List.setIfInBounds_toArray, List.set_cons_zero, List.set_cons_succ]
                simp only [e2]
                simp only [e12]
                clear e2 e12
                go_wp2_with fail
                refine (HBR.out w1 hx.undrew).mono ?_
                rintro e w2 ⟨rfl, hft, hfin⟩
                go_wp2
                exact ⟨rfl, hft, rfl, hfin⟩
            intro vz W10 hx10 hf
            have z0 : vz 0 = .map (some gm) := hf 0 (by omega)
            have z1 : vz 1 = .agg #[.int .i64 (k : Int), .int .i64 (d : Int)] := hf 1 (by omega)
            obtain ⟨z13, v10, g10, o10⟩ : vz 13 = .int .i64 (kb : Int) ∧ FinB gg gk B st v9 T3 W9.heap.size W10 := hf 13 (by omega)
            clear hf HBR m0 p0 s0 s1 q0 q1 q2 hT
            have hx10 := hx10.undrew
            have henv10 := HG9.out.env_ft h1 h2 hx10
            have hngm : ¬ SB gg gk v9 gm := fun e => by
              rcases e with e | e | e
              · exact HG9.out.map.ne_blk HG9.out.gr.blk e.symm
              · exact hkm e.symm
              · exact HG9.out.map.ne_own HG9.out.gr.row e
            have hmap10 := HG9.out.map.keep (hx10.oth gm HG9.out.map.lt hngm)
            have hmet10 : MetOK ps T3 M9 := fun s u hs => by
              obtain ⟨i, h1, h2⟩ := HG9.out.met s u hs
              exact ⟨i, h1, h2.grow HPE.out⟩
            have hj5 := hx10.blk HJ5.out l5 n5
            have hw10 : Grw gg gk gm v v10 w W10 := HW9.out.trans ⟨hx10.os, hx10.tape, hx10.output, hx10.size, fun i hi a1 a2 _ a4 => hx10.oth i hi (fun e => by
              rcases e with e | e | e
              · exact a1 e
              · exact a2 e
              · exact a4 e), o10⟩
            obtain ⟨W11, hu, hm11, hgb⟩ := hmap10.update key_stt Try.underlying78 ⟨k, d⟩ #[.int .i64 (k : Int), .int .i64 (d : Int)] rfl (.int .i64 (kb : Int))
            have hw11 := hw10.trans (Grw.of_map hgb (.inr (.inr rfl)))
            have henv11 := henv10.mapd hmap10 h3 hgb
            have hgr11 : Gr W11 gg gk B st v10 T3 := ⟨g10.blk.grown hgb (fun e => hmap10.ne_blk g10.blk (by injection e)), g10.row.kept hgb (.inr (hmap10.ne_own g10.row)), g10.map.keep (hgb.block gk g10.map.lt (fun e => hkm (by injection e))), g10.nd⟩
            have hrepX := HREP.out
            have hfrX := HFRX.out
            rw [HXK.out] at hrepX hfrX
            have hG11 : GSt W11 B gl gmb gfb gpb gg gk gm (some ⟨b, o, none⟩) ln lc ps st v10 T3 (fun j => if j = ⟨k, d⟩ then some (.int .i64 (kb : Int)) else M9 j) := ⟨henv11, hgr11, hm11, hmet10.put hrepX, hfrX⟩
            have hj11 := hj5.grown hgb (fun e => hmap10.ne_blk hj5 (by injection e))
            have hlk := hm11.look key_stt Try.underlying78 (zero_int W11) ⟨k, d⟩ #[.int .i64 (k : Int), .int .i64 (d : Int)] rfl false
            rw [if_neg (by simp), if_pos rfl] at hlk
            have hlk2 : (Instr.lookup 78 (.map (some gm)) (.agg #[.int .i64 (k : Int), .int .i64 (d : Int)]) false).run Try.prog W11 = .ok (.int .i64 (kb : Int)) W11 := hlk
            have HG11 := Lib.hid hG11
            have HW11 := Lib.hid hw11
            have HU := Lib.hid hu
            have m0 : W11.cell? ⟨gmb, 0, none⟩ = some (.map (some gm)) := henv11.jm.cell 0
            have s0 : W11.cell? ⟨g5, 0, none⟩ = some (.int .i64 (k : Int)) := hj11.cell 0
            have s1 : W11.cell? ⟨g5, 1, none⟩ = some (.int .i64 (d : Int)) := hj11.cell 1
            clear hlk hG11 hw11 hu henv10 hngm hmap10 hmet10 hj5 hw10 hm11 hgb henv11 hgr11 hrepX hfrX hj11 g10 o10 hx10 HG9 HW9 HJ5
            refine tail1 14 _ (by kernel_rfl) (by kernel_rfl) rfl ?_
            simp only [Lf, dstAt, Act.put, List.getElem?_toArray, List.getElem?_cons_zero, List.getElem?_cons_succ, Option.bind_some, List.setIfInBounds_toArray, List.set_cons_zero, List.set_cons_succ]
            rw [z0, z1, z13]
            clear z0 z1 z13
            go_upto_region 12 with (refine wpList_mapUpdate_run rfl _ _ _ _ rfl rfl rfl rfl HU.out ?_)
            clear HU
            go_wp2
            go_ret
            rw [HXK.out]
            exact ⟨v10, _, rfl, HG11.out, HW11.out⟩
        · rw [ht, if_pos rfl] at hbit
          have HDN : Hid (dt (ps.drop at_) d = dt (ps.drop (k + 1)) d) := Lib.hid (by rw [HD.out, HHD.out, ht, if_pos rfl])
          clear HHD HD
          go_upto_region 1 with (fail)
          refine wp_region_obl 18 (fun ix vals v w1 => match ix with | 0 => v = .pointer (some ⟨g5, 0, none⟩) | 1 => v = .int .i64 (k : Int) | 2 => v = .slice (some ⟨b, o, none⟩) ln lc | 3 => v = .int .i64 (ln : Int) | 4 => v = .bool true | 5 => v = .bool true | 6 => v = .pointer (some ⟨g5, 1, none⟩) | 7 => v = .int .i64 (d : Int) | 8 => v = .slice (some ⟨b, o, none⟩) ln lc | 9 => v = .pointer (some ⟨g5, 0, none⟩) | 10 => v = .int .i64 (k : Int) | 11 => v = .pointer (some ⟨b, o + k * 4, none⟩) | 12 => v = .pointer (some ⟨b, o + k * 4, none⟩) | 13 => v = .int .i64 (po : Int) | 14 => v = .int .i64 ((d : Int) / 2 ^ po) | 15 => v = .int .i64 1 | 16 => v = .bool true | _ => v = .bool true) (by kernel_rfl) (by kernel_rfl) ?_ ?_ ?_ ?_
          · intro ix vals v w1 w2 hi hr hx
            match ix, hr with
            | 0, hr => exact hr
            | 1, hr => exact hr
            | 2, hr => exact hr
            | 3, hr => exact hr
            | 4, hr => exact hr
            | 5, hr => exact hr
            | 6, hr => exact hr
            | 7, hr => exact hr
            | 8, hr => exact hr
            | 9, hr => exact hr
            | 10, hr => exact hr
            | 11, hr => exact hr
            | 12, hr => exact hr
            | 13, hr => exact hr
            | 14, hr => exact hr
            | 15, hr => exact hr
            | 16, hr => exact hr
            | (kx + 17), hr => exact hr
          · intro ix vals vals_ v w1 hi hv hr
            exact hr
          · refine ⟨?_, ?_, ?_, ?_, ?_, ?_, ?_, ?_, ?_, ?_, ?_, ?_, ?_, ?_, ?_, ?_, ?_, ?_, trivial⟩
            · intro vals w1 hx hd ha
              clear hd ha
              simp only [Lf]
              go_wp2
              exact ⟨rfl, Ext.refl _, rfl⟩
            · intro vals w1 hx hd ha
              have e0 : vals 0 = .pointer (some ⟨g5, 0, none⟩) := hd 0 (by decide)
              clear hd ha
              simp only [Lf, dstAt, Act.put, List.getElem?_toArray, List.getElem?_cons_zero, Option.bind_some, List.setIfInBounds_toArray, List.set_cons_zero, List.set_cons_succ]
              simp only [e0]
              clear e0
              have s0 := ext_cell hx s0
              go_wp2
              exact ⟨rfl, Ext.refl _, rfl⟩
            · intro vals w1 hx hd ha
              clear hd ha
              simp only [Lf, dstAt, Act.put, List.getElem?_toArray, List.getElem?_cons_zero, List.getElem?_cons_succ, Option.bind_some, List.setIfInBounds_toArray, List.set_cons_zero, List.set_cons_succ]
              have l0 := ext_cell hx l0
              go_wp2
              exact ⟨rfl, Ext.refl _, rfl⟩
            · intro vals w1 hx hd ha
              have e2 : vals 2 = .slice (some ⟨b, o, none⟩) ln lc := hd 2 (by decide)
              clear hd ha
              simp only [Lf, dstAt, Act.put, List.getElem?_toArray, List.getElem?_cons_zero, List.getElem?_cons_succ, Option.bind_some, List.setIfInBounds_toArray, List.set_cons_zero, List.set_cons_succ]
              simp only [e2]
              clear e2
              go_wp2
              exact ⟨rfl, Ext.refl _, rfl⟩
            · intro vals w1 hx hd ha
              have e1 : vals 1 = .int .i64 (k : Int) := hd 1 (by decide)
              have e3 : vals 3 = .int .i64 (ln : Int) := hd 3 (by decide)
              clear hd ha
              simp only [Lf, dstAt, Act.put, List.getElem?_toArray, List.getElem?_cons_zero, List.getElem?_cons_succ, Option.bind_some, List.setIfInBounds_toArray, List.set_cons_zero, List.set_cons_succ]
              simp only [e1, e3]
              clear e1 e3
              go_wp2
              exact ⟨rfl, Ext.refl _, rfl⟩
            · intro vals w1 hx hd ha
              have e4 : vals 4 = .bool true := hd 4 (by decide)
              clear hd ha
              simp only [Lf, dstAt, Act.put, List.getElem?_toArray, List.getElem?_cons_zero, List.getElem?_cons_succ, Option.bind_some, List.setIfInBounds_toArray, List.set_cons_zero, List.set_cons_succ]
              simp only [e4]
              clear e4
              go_wp2
              exact ⟨rfl, Ext.refl _, rfl⟩
            · intro vals w1 hx hd ha
              have e5 : vals 5 = .bool true := hd 5 (by decide)
              clear hd ha
              simp only [Lf, dstAt, Act.put, List.getElem?_toArray, List.getElem?_cons_zero, List.getElem?_cons_succ, Option.bind_some, List.setIfInBounds_toArray, List.set_cons_zero, List.set_cons_succ]
              simp only [e5]
              clear e5
              go_wp2
              exact ⟨rfl, Ext.refl _, rfl⟩
            · intro vals w1 hx hd ha
              have e5 : vals 5 = .bool true := hd 5 (by decide)
              have e6 : vals 6 = .pointer (some ⟨g5, 1, none⟩) := hd 6 (by decide)
              clear hd ha
              simp only [Lf, dstAt, Act.put, List.getElem?_toArray, List.getElem?_cons_zero, List.getElem?_cons_succ, Option.bind_some, List.setIfInBounds_toArray, List.set_cons_zero, List.set_cons_succ]
              simp only [e5, e6]
              clear e5 e6
              have s1 := ext_cell hx s1
              go_wp2
              exact ⟨rfl, Ext.refl _, rfl⟩
            · intro vals w1 hx hd ha
              have e5 : vals 5 = .bool true := hd 5 (by decide)
              clear hd ha
              simp only [Lf, dstAt, Act.put, List.getElem?_toArray, List.getElem?_cons_zero, List.getElem?_cons_succ, Option.bind_some, List.setIfInBounds_toArray, List.set_cons_zero, List.set_cons_succ]
              simp only [e5]
              clear e5
              have l0 := ext_cell hx l0
              go_wp2
              exact ⟨rfl, Ext.refl _, rfl⟩
            · intro vals w1 hx hd ha
              have e5 : vals 5 = .bool true := hd 5 (by decide)
              clear hd ha
              simp only [Lf, dstAt, Act.put, List.getElem?_toArray, List.getElem?_cons_zero, List.getElem?_cons_succ, Option.bind_some, List.setIfInBounds_toArray, List.set_cons_zero, List.set_cons_succ]
              simp only [e5]
              clear e5
              go_wp2
              exact ⟨rfl, Ext.refl _, rfl⟩
            · intro vals w1 hx hd ha
              have e5 : vals 5 = .bool true := hd 5 (by decide)
              have e9 : vals 9 = .pointer (some ⟨g5, 0, none⟩) := hd 9 (by decide)
              clear hd ha
              simp only [Lf, dstAt, Act.put, List.getElem?_toArray, List.getElem?_cons_zero, List.getElem?_cons_succ, Option.bind_some, List.setIfInBounds_toArray, List.set_cons_zero, List.set_cons_succ]
              simp only [e5, e9]
              clear e5 e9
              have s0 := ext_cell hx s0
              go_wp2
              exact ⟨rfl, Ext.refl _, rfl⟩
            · intro vals w1 hx hd ha
              have e5 : vals 5 = .bool true := hd 5 (by decide)
              have e8 : vals 8 = .slice (some ⟨b, o, none⟩) ln lc := hd 8 (by decide)
              have e10 : vals 10 = .int .i64 (k : Int) := hd 10 (by decide)
              clear hd ha
              simp only [Lf, dstAt, Act.put, List.getElem?_toArray, List.getElem?_cons_zero, List.getElem?_cons_succ, Option.bind_some, List.setIfInBounds_toArray, List.set_cons_zero, List.set_cons_succ]
              simp only [e5, e8, e10]
              clear e5 e8 e10
              go_wp2
              exact ⟨rfl, Ext.refl _, rfl⟩
            · intro vals w1 hx hd ha
              have e5 : vals 5 = .bool true := hd 5 (by decide)
              have e11 : vals 11 = .pointer (some ⟨b, o + k * 4, none⟩) := hd 11 (by decide)
              clear hd ha
              simp only [Lf, dstAt, Act.put, List.getElem?_toArray, List.getElem?_cons_zero, List.getElem?_cons_succ, Option.bind_some, List.setIfInBounds_toArray, List.set_cons_zero, List.set_cons_succ]
              simp only [e5, e11]
              clear e5 e11
              go_wp2
              exact ⟨rfl, Ext.refl _, rfl⟩
            · intro vals w1 hx hd ha
              have e5 : vals 5 = .bool true := hd 5 (by decide)
              have e12 : vals 12 = .pointer (some ⟨b, o + k * 4, none⟩) := hd 12 (by decide)
              clear hd ha
              simp only [Lf, dstAt, Act.put, List.getElem?_toArray, List.getElem?_cons_zero, List.getElem?_cons_succ, Option.bind_some, List.setIfInBounds_toArray, List.set_cons_zero, List.set_cons_succ]
              simp only [e5, e12]
              clear e5 e12
              have c0 := ext_cell hx c0
              go_wp2
              exact ⟨rfl, Ext.refl _, rfl⟩
            · intro vals w1 hx hd ha
              have e5 : vals 5 = .bool true := hd 5 (by decide)
              have e7 : vals 7 = .int .i64 (d : Int) := hd 7 (by decide)
              have e13 : vals 13 = .int .i64 (po : Int) := hd 13 (by decide)
              clear hd ha
              simp only [Lf, dstAt, Act.put, List.getElem?_toArray, List.getElem?_cons_zero, List.getElem?_cons_succ, Option.bind_some, List.setIfInBounds_toArray, List.set_cons_zero, List.set_cons_succ]
              simp only [e5, e7, e13]
              clear e5 e7 e13
              go_wp2
              exact ⟨rfl, Ext.refl _, rfl⟩
            · intro vals w1 hx hd ha
              have e5 : vals 5 = .bool true := hd 5 (by decide)
              have e14 : vals 14 = .int .i64 ((d : Int) / 2 ^ po) := hd 14 (by decide)
              clear hd ha
              simp only [Lf, dstAt, Act.put, List.getElem?_toArray, List.getElem?_cons_zero, List.getElem?_cons_succ, Option.bind_some, List.setIfInBounds_toArray, List.set_cons_zero, List.set_cons_succ]
              simp only [e5, e14]
              clear e5 e14
              go_wp2
              exact ⟨rfl, Ext.refl _, rfl⟩
            · intro vals w1 hx hd ha
              have e5 : vals 5 = .bool true := hd 5 (by decide)
              have e15 : vals 15 = .int .i64 1 := hd 15 (by decide)
              clear hd ha
              simp only [Lf, dstAt, Act.put, List.getElem?_toArray, List.getElem?_cons_zero, List.getElem?_cons_succ, Option.bind_some, List.setIfInBounds_toArray, List.set_cons_zero, List.set_cons_succ]
              simp only [e5, e15]
              clear e5 e15
              go_wp2
              exact ⟨rfl, Ext.refl _, rfl⟩
            · intro vals w1 hx hd ha
              have e5 : vals 5 = .bool true := hd 5 (by decide)
              have e16 : vals 16 = .bool true := hd 16 (by decide)
              clear hd ha
              simp only [Lf, dstAt, Act.put, List.getElem?_toArray, List.getElem?_cons_zero, List.getElem?_cons_succ, Option.bind_some, List.setIfInBounds_toArray, List.set_cons_zero, List.set_cons_succ]
              simp only [e5, e16]
              clear e5 e16
              go_wp2
              exact ⟨rfl, Ext.refl _, rfl⟩
          intro vals W5 hx5 hf
          have e17 : vals 17 = .bool true := hf 17 (by omega)
          clear hf
          have hx5 := hx5.undrew
          have hx := Ext.trans hx hx5
          have hG := hG.ext hx5
          have J5 := J5.ext hx5
          have s0 := ext_cell hx5 s0
          have s1 := ext_cell hx5 s1
          have l0 := ext_cell hx5 l0
          have c0 := ext_cell hx5 c0
          have c1 := ext_cell hx5 c1
          have c2 := ext_cell hx5 c2
          have c3 := ext_cell hx5 c3
          clear hx5
          refine tail0 (by kernel_rfl) ?_
          simp only [Lf, dstAt, Act.put, List.getElem?_toArray, List.getElem?_cons_zero, List.getElem?_cons_succ, Option.bind_some, List.setIfInBounds_toArray, List.set_cons_zero, List.set_cons_succ]
          rw [e17]
          clear e17
          have f0 := J5.frozen 0
          have hw1 : IntKind.i64.wrap ((k : Int) + 1) = ((k : Int) + 1) := IntWalk.i64_in _ (by omega)
          have hgw : w.heap.size ≤ g5 := by have := HG5.out; omega
          have J6 : Blk (W5.setCell ⟨g5, 0, none⟩ (.int .i64 ((k : Int) + 1))) g5 81 #[.int .i64 ((k : Int) + 1), .int .i64 (d : Int)] := by
            have h := J5.set_ 0 (.int .i64 ((k : Int) + 1))
            simp only [List.setIfInBounds_toArray, List.set_cons_zero] at h
            exact h
          have hx6 : Ext w (W5.setCell ⟨g5, 0, none⟩ (.int .i64 ((k : Int) + 1))) := hx.setCell hgw _
          have HJ6 := Lib.hid J6
          have HX6 := Lib.hid hx6
          have hm1 : (W5.setCell ⟨g5, 0, none⟩ (.int .i64 ((k : Int) + 1))).cell? ⟨g5, 0, none⟩ = some (.int .i64 ((k : Int) + 1)) := J6.cell 0
          have HM1 := Lib.hid hm1
          have HM0 : Hid (wr.cell? ⟨g5, 0, none⟩ = some (.int .i64 (k : Int))) := HS0_
          clear hbit hG c0 c1 c2 c3 J5 J6 hx6 hm1 l0 hx
          go_wp2
          go_roundw
          case rel => exact ⟨k + 1, by omega, by omega, HDN, HJ6.out, HX6.out⟩
          case measure =>
            rw [HM1.out, HM0.out]
            simp [intOf]
            omega
      · obtain rfl : k = ln := by omega
        have HXE : Hid (X = (T, -1)) := Lib.hid (by rw [HX.out, HD.out, List.drop_of_length_le (by rw [HLN.out]; exact Nat.le_refl _)]; rfl)
        go_upto_region 1 with (fail)
        refine wp_region_obl 18 (fun ix vals v w1 => match ix with | 0 => v = .pointer (some ⟨g5, 0, none⟩) | 1 => v = .int .i64 (k : Int) | 2 => v = .slice LA k lc | 3 => v = .int .i64 (k : Int) | 4 => v = .bool false | 5 => v = .bool false | 6 => v = undef | 7 => v = undef | 8 => v = undef | 9 => v = undef | 10 => v = undef | 11 => v = undef | 12 => v = undef | 13 => v = undef | 14 => v = undef | 15 => v = undef | 16 => v = undef | _ => v = .bool false) (by kernel_rfl) (by kernel_rfl) ?_ ?_ ?_ ?_
        · intro ix vals v w1 w2 hi hr hx
          match ix, hr with
          | 0, hr => exact hr
          | 1, hr => exact hr
          | 2, hr => exact hr
          | 3, hr => exact hr
          | 4, hr => exact hr
          | 5, hr => exact hr
          | 6, hr => exact hr
          | 7, hr => exact hr
          | 8, hr => exact hr
          | 9, hr => exact hr
          | 10, hr => exact hr
          | 11, hr => exact hr
          | 12, hr => exact hr
          | 13, hr => exact hr
          | 14, hr => exact hr
          | 15, hr => exact hr
          | 16, hr => exact hr
          | (kx + 17), hr => exact hr
        · intro ix vals vals_ v w1 hi hv hr
          exact hr
        · refine ⟨?_, ?_, ?_, ?_, ?_, ?_, ?_, ?_, ?_, ?_, ?_, ?_, ?_, ?_, ?_, ?_, ?_, ?_, trivial⟩
          · intro vals w1 hx hd ha
            clear hd ha
            simp only [Lf]
            go_wp2
            exact ⟨rfl, Ext.refl _, rfl⟩
          · intro vals w1 hx hd ha
            have e0 : vals 0 = .pointer (some ⟨g5, 0, none⟩) := hd 0 (by decide)
            clear hd ha
            simp only [Lf, dstAt, Act.put, List.getElem?_toArray, List.getElem?_cons_zero, Option.bind_some, List.setIfInBounds_toArray, List.set_cons_zero, List.set_cons_succ]
            simp only [e0]
            clear e0
            have s0 := ext_cell hx s0
            go_wp2
            exact ⟨rfl, Ext.refl _, rfl⟩
          · intro vals w1 hx hd ha
            clear hd ha
            simp only [Lf, dstAt, Act.put, List.getElem?_toArray, List.getElem?_cons_zero, List.getElem?_cons_succ, Option.bind_some, List.setIfInBounds_toArray, List.set_cons_zero, List.set_cons_succ]
            have l0 := ext_cell hx l0
            go_wp2
            exact ⟨rfl, Ext.refl _, rfl⟩
          · intro vals w1 hx hd ha
            have e2 : vals 2 = .slice LA k lc := hd 2 (by decide)
            clear hd ha
            simp only [Lf, dstAt, Act.put, List.getElem?_toArray, List.getElem?_cons_zero, List.getElem?_cons_succ, Option.bind_some, List.setIfInBounds_toArray, List.set_cons_zero, List.set_cons_succ]
            simp only [e2]
            clear e2
            go_wp2
            exact ⟨rfl, Ext.refl _, rfl⟩
          · intro vals w1 hx hd ha
            have e1 : vals 1 = .int .i64 (k : Int) := hd 1 (by decide)
            have e3 : vals 3 = .int .i64 (k : Int) := hd 3 (by decide)
            clear hd ha
            simp only [Lf, dstAt, Act.put, List.getElem?_toArray, List.getElem?_cons_zero, List.getElem?_cons_succ, Option.bind_some, List.setIfInBounds_toArray, List.set_cons_zero, List.set_cons_succ]
            simp only [e1, e3]
            clear e1 e3
            go_wp2
            exact ⟨rfl, Ext.refl _, rfl⟩
          · intro vals w1 hx hd ha
            have e4 : vals 4 = .bool false := hd 4 (by decide)
            clear hd ha
            simp only [Lf, dstAt, Act.put, List.getElem?_toArray, List.getElem?_cons_zero, List.getElem?_cons_succ, Option.bind_some, List.setIfInBounds_toArray, List.set_cons_zero, List.set_cons_succ]
            simp only [e4]
            clear e4
            go_wp2
            exact ⟨rfl, Ext.refl _, rfl⟩
          · intro vals w1 hx hd ha
            have e5 : vals 5 = .bool false := hd 5 (by decide)
            clear hd ha
            simp only [Lf, dstAt, Act.put, List.getElem?_toArray, List.getElem?_cons_zero, List.getElem?_cons_succ, Option.bind_some, List.setIfInBounds_toArray, List.set_cons_zero, List.set_cons_succ]
            simp only [e5]
            clear e5
            go_wp2
            exact ⟨rfl, Ext.refl _, rfl⟩
          · intro vals w1 hx hd ha
            have e5 : vals 5 = .bool false := hd 5 (by decide)
            have e6 : vals 6 = undef := hd 6 (by decide)
            clear hd ha
            simp only [Lf, dstAt, Act.put, List.getElem?_toArray, List.getElem?_cons_zero, List.getElem?_cons_succ, Option.bind_some, List.setIfInBounds_toArray, List.set_cons_zero, List.set_cons_succ]
            simp only [e5, e6]
            clear e5 e6
            go_wp2
            exact ⟨rfl, Ext.refl _, rfl⟩
          · intro vals w1 hx hd ha
            have e5 : vals 5 = .bool false := hd 5 (by decide)
            clear hd ha
            simp only [Lf, dstAt, Act.put, List.getElem?_toArray, List.getElem?_cons_zero, List.getElem?_cons_succ, Option.bind_some, List.setIfInBounds_toArray, List.set_cons_zero, List.set_cons_succ]
            simp only [e5]
            clear e5
            have l0 := ext_cell hx l0
            go_wp2
            exact ⟨rfl, Ext.refl _, rfl⟩
          · intro vals w1 hx hd ha
            have e5 : vals 5 = .bool false := hd 5 (by decide)
            clear hd ha
            simp only [Lf, dstAt, Act.put, List.getElem?_toArray, List.getElem?_cons_zero, List.getElem?_cons_succ, Option.bind_some, List.setIfInBounds_toArray, List.set_cons_zero, List.set_cons_succ]
            simp only [e5]
            clear e5
            go_wp2
            exact ⟨rfl, Ext.refl _, rfl⟩
          · intro vals w1 hx hd ha
            have e5 : vals 5 = .bool false := hd 5 (by decide)
            have e9 : vals 9 = undef := hd 9 (by decide)
            clear hd ha
            simp only [Lf, dstAt, Act.put, List.getElem?_toArray, List.getElem?_cons_zero, List.getElem?_cons_succ, Option.bind_some, List.setIfInBounds_toArray, List.set_cons_zero, List.set_cons_succ]
            simp only [e5, e9]
            clear e5 e9
            have s0 := ext_cell hx s0
            go_wp2
            exact ⟨rfl, Ext.refl _, rfl⟩
          · intro vals w1 hx hd ha
            have e5 : vals 5 = .bool false := hd 5 (by decide)
            have e8 : vals 8 = undef := hd 8 (by decide)
            have e10 : vals 10 = undef := hd 10 (by decide)
            clear hd ha
            simp only [Lf, dstAt, Act.put, List.getElem?_toArray, List.getElem?_cons_zero, List.getElem?_cons_succ, Option.bind_some, List.setIfInBounds_toArray, List.set_cons_zero, List.set_cons_succ]
            simp only [e5, e8, e10]
            clear e5 e8 e10
            go_wp2
            exact ⟨rfl, Ext.refl _, rfl⟩
          · intro vals w1 hx hd ha
            have e5 : vals 5 = .bool false := hd 5 (by decide)
            have e11 : vals 11 = undef := hd 11 (by decide)
            clear hd ha
            simp only [Lf, dstAt, Act.put, List.getElem?_toArray, List.getElem?_cons_zero, List.getElem?_cons_succ, Option.bind_some, List.setIfInBounds_toArray, List.set_cons_zero, List.set_cons_succ]
            simp only [e5, e11]
            clear e5 e11
            go_wp2
            exact ⟨rfl, Ext.refl _, rfl⟩
          · intro vals w1 hx hd ha
            have e5 : vals 5 = .bool false := hd 5 (by decide)
            have e12 : vals 12 = undef := hd 12 (by decide)
            clear hd ha
            simp only [Lf, dstAt, Act.put, List.getElem?_toArray, List.getElem?_cons_zero, List.getElem?_cons_succ, Option.bind_some, List.setIfInBounds_toArray, List.set_cons_zero, List.set_cons_succ]
            simp only [e5, e12]
            clear e5 e12
            go_wp2
            exact ⟨rfl, Ext.refl _, rfl⟩
          · intro vals w1 hx hd ha
            have e5 : vals 5 = .bool false := hd 5 (by decide)
            have e7 : vals 7 = undef := hd 7 (by decide)
            have e13 : vals 13 = undef := hd 13 (by decide)
            clear hd ha
            simp only [Lf, dstAt, Act.put, List.getElem?_toArray, List.getElem?_cons_zero, List.getElem?_cons_succ, Option.bind_some, List.setIfInBounds_toArray, List.set_cons_zero, List.set_cons_succ]
            simp only [e5, e7, e13]
            clear e5 e7 e13
            go_wp2
            exact ⟨rfl, Ext.refl _, rfl⟩
          · intro vals w1 hx hd ha
            have e5 : vals 5 = .bool false := hd 5 (by decide)
            have e14 : vals 14 = undef := hd 14 (by decide)
            clear hd ha
            simp only [Lf, dstAt, Act.put, List.getElem?_toArray, List.getElem?_cons_zero, List.getElem?_cons_succ, Option.bind_some, List.setIfInBounds_toArray, List.set_cons_zero, List.set_cons_succ]
            simp only [e5, e14]
            clear e5 e14
            go_wp2
            exact ⟨rfl, Ext.refl _, rfl⟩
          · intro vals w1 hx hd ha
            have e5 : vals 5 = .bool false := hd 5 (by decide)
            have e15 : vals 15 = undef := hd 15 (by decide)
            clear hd ha
            simp only [Lf, dstAt, Act.put, List.getElem?_toArray, List.getElem?_cons_zero, List.getElem?_cons_succ, Option.bind_some, List.setIfInBounds_toArray, List.set_cons_zero, List.set_cons_succ]
            simp only [e5, e15]
            clear e5 e15
            go_wp2
            exact ⟨rfl, Ext.refl _, rfl⟩
          · intro vals w1 hx hd ha
            have e5 : vals 5 = .bool false := hd 5 (by decide)
            have e16 : vals 16 = undef := hd 16 (by decide)
            clear hd ha
            simp only [Lf, dstAt, Act.put, List.getElem?_toArray, List.getElem?_cons_zero, List.getElem?_cons_succ, Option.bind_some, List.setIfInBounds_toArray, List.set_cons_zero, List.set_cons_succ]
            simp only [e5, e16]
            clear e5 e16
            go_wp2
            exact ⟨rfl, Ext.refl _, rfl⟩
        intro vals W5 hx5 hf
        have e17 : vals 17 = .bool false := hf 17 (by omega)
        clear hf
        have hx5 := hx5.undrew
        have hx := Ext.trans hx hx5
        have hG := hG.ext hx5
        have s0 := ext_cell hx5 s0
        have l0 := ext_cell hx5 l0
        clear hx5
        refine tail0 (by kernel_rfl) ?_
        simp only [Lf, dstAt, Act.put, List.getElem?_toArray, List.getElem?_cons_zero, List.getElem?_cons_succ, Option.bind_some, List.setIfInBounds_toArray, List.set_cons_zero, List.set_cons_succ]
        rw [e17]
        clear e17
        have HG5_ := Lib.hid hG
        clear HD hG J5
        go_wp2
        go_ret
        rw [HXE.out]
        exact ⟨v, M, rfl, HG5_.out, Grw.of_ext hx⟩
end Go.Proofs.Ytikphbgfcpamgaa
