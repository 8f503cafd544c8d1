/- Uses of options. -/
import Derived.Test.YtgbfhkildbhhoaaA5
namespace Go.Proofs.Ytgbfhkildbhhoaa
open Go.RowKit

structure Slt where
  p : Int
  fr : Int
  tt : Int
/-- An option: its integers, and the slice of its slots with what it holds. -/
structure Opt where
  i0 : Int
  i1 : Int
  i2 : Int
  sat : Int
  i4 : Int
  i5 : Int
  i6 : Int
  i7 : Int
  a : Option Addr
  n : Nat
  c : Nat
  l : List Slt
structure Psn where
  sat : Int
  st : Int
  f1 : Int
  t1 : Int
  f2 : Int
  t2 : Int
def sltCells (s : Slt) : List Value := [.int .i64 s.p, .int .i64 s.fr, .int .i64 s.tt]
def optCells (o : Opt) : List Value := [.int .i64 o.i0, .int .i64 o.i1, .int .i64 o.i2, .int .i64 o.sat, .int .i64 o.i4, .int .i64 o.i5, .int .i64 o.i6, .int .i64 o.i7, .slice o.a o.n o.c]
def psnCells (p : Psn) : List Value := [.int .i64 p.sat, .int .i64 p.st, .int .i64 p.f1, .int .i64 p.t1, .int .i64 p.f2, .int .i64 p.t2]
theorem slt_len (x : Slt) : (sltCells x).length = 3 := rfl
theorem opt_len (x : Opt) : (optCells x).length = 9 := rfl
theorem psn_len (x : Psn) : (psnCells x).length = 6 := rfl
/-- Options, below a block. -/
structure Ops (w : World) (B : Nat) (A : Option Addr) (n c : Nat) (os : List Opt) : Prop where
  out : RA optCells 9 w B A n c os
  each : ∀ o ∈ os, RA sltCells 3 w B o.a o.n o.c o.l
theorem Ops.below {w w' : World} {B n c : Nat} {A : Option Addr} {os : List Opt} (h : Ops w B A n c os) (hb : Below B w w') : Ops w' B A n c os := ⟨h.out.below hb, fun r hr => (h.each r hr).below hb⟩
theorem Ops.more {w : World} {B B' n c : Nat} {A : Option Addr} {os : List Opt} (h : Ops w B A n c os) (hb : B ≤ B') : Ops w B' A n c os := ⟨h.out.more hb, fun r hr => (h.each r hr).more hb⟩

/-- The pass of a slot has the satellite of the option. -/
def satOf (ps : List Psn) (p : Int) : Int := match ps[p.toNat]? with | some q => q.sat | none => 0
def staOf (ps : List Psn) (p : Int) : Int := match ps[p.toNat]? with | some q => q.st | none => 0
def slotsL (ps : List Psn) (st sat : Int) : List Slt → List Use → Option (List Use)
  | [], out => some out
  | s :: r, out => if inB s.p 0 ((ps.length : Int) - 1) && decide (satOf ps s.p = sat) && formedP ⟨sat, s.fr, s.tt⟩ then slotsL ps st sat r (if staOf ps s.p = st then out ++ [⟨sat, s.fr, s.tt⟩] else out) else none
def usesL (ps : List Psn) (st : Int) : List Opt → List Use → Option (List Use)
  | [], out => some out
  | o :: r, out => if o.l.length ≤ 6 then (slotsL ps st o.sat o.l out).bind (usesL ps st r) else none
def outOf : Option (List Use) → List Use × Int
  | some out => (out, 0)
  | none => ([], 170)
def usesP (os : List Opt) (ps : List Psn) (st : Int) : List Use × Int :=
  if os.length ≤ 64 ∧ ps.length ≤ 64 then outOf (usesL ps st os []) else ([], 170)
theorem slotsL_cons (ps : List Psn) (st sat : Int) (s : Slt) (r : List Slt) (out : List Use) : slotsL ps st sat (s :: r) out = if inB s.p 0 ((ps.length : Int) - 1) && decide (satOf ps s.p = sat) && formedP ⟨sat, s.fr, s.tt⟩ then slotsL ps st sat r (if staOf ps s.p = st then out ++ [⟨sat, s.fr, s.tt⟩] else out) else none := by rw [slotsL]
theorem usesL_cons (ps : List Psn) (st : Int) (o : Opt) (r : List Opt) (out : List Use) : usesL ps st (o :: r) out = if o.l.length ≤ 6 then (slotsL ps st o.sat o.l out).bind (usesL ps st r) else none := by rw [usesL]
/-- What Uses hands back. -/
def UsesRet (r : List Use × Int) (w : World) (e : Ending) (w' : World) : Prop := ∃ v, e = .returned (.tuple #[v, .int .i64 r.2]) ∧ w'.ownsRow w.heap.size 26 3 v r.1.length (r.1.flatMap useCells) ∧ Below w.heap.size w w'
theorem info_use : (Try.prog.info? 26).map (fun i => (i.zero, i.size, i.bytes)) = some (some (.agg #[.int .i64 0, .int .i64 0, .int .i64 0]), 3, 24) := by kernel_rfl

set_option maxRecDepth 100000 in
set_option maxHeartbeats 8000000 in
theorem uses_any (os : List Opt) (ps : List Psn) (st : Int) (OA : Option Addr) (on oc : Nat) (PA : Option Addr) (pn pc : Nat) (w : World) (ho : Ops w w.heap.size OA on oc os) (hp : RA psnCells 6 w w.heap.size PA pn pc ps) :
    Calls Try.prog 31 #[.slice OA on oc, .slice PA pn pc, .int .i64 st] w (UsesRet (usesP os ps st) w) := by
  have hol := ho.out.len
  have hpl := hp.len
  have hole := ho.out.le
  have hple := hp.le
  have HO := Lib.hid ho
  have HP := Lib.hid hp
  have HOL := Lib.hid hol
  have HPL := Lib.hid hpl
  unfold usesP
  rw [hol, hpl]
  clear ho hp hol hpl
  by_cases h64 : on ≤ 64 ∧ pn ≤ 64
  · rw [if_pos h64]
    have h1 : ¬ (64 : Int) < (on : Int) := by omega
    have h2 : ¬ (64 : Int) < (pn : Int) := by omega
    have hon : on ≤ 64 := h64.1
    have hpn : pn ≤ 64 := h64.2
    clear h64
    obtain ⟨R, hR⟩ : ∃ R, R = outOf (usesL ps st os []) := ⟨_, rfl⟩
    rw [← hR]
    obtain ⟨U, hU⟩ : ∃ U, U = usesL ps st (os.drop 0) [] := ⟨_, rfl⟩
    have HR : Hid (R = outOf U) := Lib.hid (by rw [hR, hU, List.drop_zero])
    have HU := Lib.hid hU.symm
    clear hR hU
    go_enter Try.func31, Try.ntmps31
    go_wp2_with fail
    go_loopw [8, 24] (fun y x wr => ∃ (k : Nat) (out : List Use), k ≤ on ∧ x = .int .i64 k ∧ Hid (usesL ps st (os.drop k) out = U) ∧ Hid (wr.ownsRow w.heap.size 26 3 y out.length (out.flatMap useCells)) ∧ out.length ≤ k * 6 ∧ Ext w wr) (fun _ x _ => on - (intOf x).toNat)
    case atStart => exact ⟨0, [], Nat.zero_le _, rfl, HU, Lib.hid (World.ownsRow_nil _ _ _ _), Nat.zero_le _, Ext.refl _⟩
    case round =>
      clear HU
      obtain ⟨k, out, hk, rfl, HS, HW, hol, hx⟩ := hrel
      by_cases hkn : k < on
      · obtain ⟨b, o, hz, hA, _, hc⟩ := HO.out.out.at_ opt_len hkn
        have hsl := HO.out.each os[k] (List.getElem_mem hz)
        have hs := HS.out
        rw [List.drop_eq_getElem_cons hz, usesL_cons] at hs
        generalize os[k] = op at hs hc hsl
        obtain ⟨i0, i1, i2, sat, i4, i5, i6, i7, sa, sn, sc, sl⟩ := op
        dsimp only at hs hsl
        have c0 : wr.cell? ⟨b, o + k * 9, none⟩ = some (.int .i64 i0) := ext_cell hx (hc 0 (by omega))
        have c1 : wr.cell? ⟨b, o + k * 9 + 1, none⟩ = some (.int .i64 i1) := ext_cell hx (hc 1 (by omega))
        have c2 : wr.cell? ⟨b, o + k * 9 + 2, none⟩ = some (.int .i64 i2) := ext_cell hx (hc 2 (by omega))
        have c3 : wr.cell? ⟨b, o + k * 9 + 3, none⟩ = some (.int .i64 sat) := ext_cell hx (hc 3 (by omega))
        have c4 : wr.cell? ⟨b, o + k * 9 + 4, none⟩ = some (.int .i64 i4) := ext_cell hx (hc 4 (by omega))
        have c5 : wr.cell? ⟨b, o + k * 9 + 5, none⟩ = some (.int .i64 i5) := ext_cell hx (hc 5 (by omega))
        have c6 : wr.cell? ⟨b, o + k * 9 + 6, none⟩ = some (.int .i64 i6) := ext_cell hx (hc 6 (by omega))
        have c7 : wr.cell? ⟨b, o + k * 9 + 7, none⟩ = some (.int .i64 i7) := ext_cell hx (hc 7 (by omega))
        have c8 : wr.cell? ⟨b, o + k * 9 + 8, none⟩ = some (.slice sa sn sc) := ext_cell hx (hc 8 (by omega))
        have hsnl := hsl.len
        have hsle := hsl.le
        rw [hsnl] at hs
        have HS2 := Lib.hid hs
        have HSL := Lib.hid hsl
        have HSN := Lib.hid hsnl
        subst hA
        clear hc hz hsl hs HS hsnl
        go_upto_region 7 with (fail)
        clear c0 c1 c2 c3 c4 c5 c6 c7 c8
        have hy : Ext wr (wr.alloc (.cells #[.int .i64 i0, .int .i64 i1, .int .i64 i2, .int .i64 sat, .int .i64 i4, .int .i64 i5, .int .i64 i6, .int .i64 i7, .slice sa sn sc] 74)) := bl_alloc (Below.refl _ _) _
        have J : Blk (wr.alloc (.cells #[.int .i64 i0, .int .i64 i1, .int .i64 i2, .int .i64 sat, .int .i64 i4, .int .i64 i5, .int .i64 i6, .int .i64 i7, .slice sa sn sc] 74)) wr.heap.size 74 #[.int .i64 i0, .int .i64 i1, .int .i64 i2, .int .i64 sat, .int .i64 i4, .int .i64 i5, .int .i64 i6, .int .i64 i7, .slice sa sn sc] := Blk.new _ _ _
        obtain ⟨g10, hg10⟩ : ∃ g, g = wr.heap.size := ⟨_, rfl⟩
        rw [← hg10] at J ⊢
        clear hg10
        generalize wr.alloc (.cells #[.int .i64 i0, .int .i64 i1, .int .i64 i2, .int .i64 sat, .int .i64 i4, .int .i64 i5, .int .i64 i6, .int .i64 i7, .slice sa sn sc] 74) = W3 at hy J ⊢
        have hx3 := Ext.trans hx hy
        have HW3 := Lib.hid (own_ext HW.out hy)
        have e8 : W3.cell? ⟨g10, 8, none⟩ = some (.slice sa sn sc) := J.cell 8
        have HJ := Lib.hid J
        clear hy J HW hx
        by_cases h6 : sn ≤ 6
        · have h6' : ¬ (6 : Int) < (sn : Int) := by omega
          have hs := HS2.out
          rw [if_pos h6] at hs
          obtain ⟨V, hV⟩ : ∃ V, V = slotsL ps st sat (sl.drop 0) out := ⟨_, rfl⟩
          have HS3 : Hid (V.bind (usesL ps st (os.drop (k + 1))) = U) := Lib.hid (by rw [hV]; exact hs)
          have HV := Lib.hid hV.symm
          clear hs HS2 hV
          go_wp2_with fail
          go_loopw [8, 35] (fun y x wi => ∃ (j : Nat) (o1 : List Use), j ≤ sn ∧ x = .int .i64 j ∧ Hid (slotsL ps st sat (sl.drop j) o1 = V) ∧ Hid (wi.ownsRow w.heap.size 26 3 y o1.length (o1.flatMap useCells)) ∧ o1.length ≤ k * 6 + j ∧ Hid (Blk wi g10 74 #[.int .i64 i0, .int .i64 i1, .int .i64 i2, .int .i64 sat, .int .i64 i4, .int .i64 i5, .int .i64 i6, .int .i64 i7, .slice sa sn sc]) ∧ Ext w wi) (fun _ x _ => sn - (intOf x).toNat)
          case atStart => exact ⟨0, out, Nat.zero_le _, rfl, HV, HW3, hol, HJ, hx3⟩
          case round =>
            clear HV HW3 HJ hx3 e8 hol
            obtain ⟨j, o1, hj, rfl, HV, HW, hol, HJ, hx⟩ := hrel
            by_cases hjn : j < sn
            · obtain ⟨b6, o6, hz, hA6, _, hc6⟩ := HSL.out.at_ slt_len hjn
              have hs := HV.out
              rw [List.drop_eq_getElem_cons hz, slotsL_cons, HPL.out] at hs
              generalize sl[j] = s at hs hc6
              obtain ⟨p, fr, tt⟩ := s
              dsimp only at hs
              have c0 : wr.cell? ⟨b6, o6 + j * 3, none⟩ = some (.int .i64 p) := ext_cell hx (hc6 0 (by omega))
              have c1 : wr.cell? ⟨b6, o6 + j * 3 + 1, none⟩ = some (.int .i64 fr) := ext_cell hx (hc6 1 (by omega))
              have c2 : wr.cell? ⟨b6, o6 + j * 3 + 2, none⟩ = some (.int .i64 tt) := ext_cell hx (hc6 2 (by omega))
              have HS4 := Lib.hid hs
              subst hA6
              clear hc6 hz hs HV
              go_upto_region 12 with (fail)
              clear c0 c1 c2
              have hy : Ext wr (wr.alloc (.cells #[.int .i64 p, .int .i64 fr, .int .i64 tt] 71)) := bl_alloc (Below.refl _ _) _
              have J : Blk (wr.alloc (.cells #[.int .i64 p, .int .i64 fr, .int .i64 tt] 71)) wr.heap.size 71 #[.int .i64 p, .int .i64 fr, .int .i64 tt] := Blk.new _ _ _
              obtain ⟨g12, hg12⟩ : ∃ g, g = wr.heap.size := ⟨_, rfl⟩
              rw [← hg12] at J ⊢
              clear hg12
              generalize wr.alloc (.cells #[.int .i64 p, .int .i64 fr, .int .i64 tt] 71) = W4 at hy J ⊢
              have hx4 := Ext.trans hx hy
              have HW4 := Lib.hid (own_ext HW.out hy)
              have HJ4 := Lib.hid (HJ.out.ext hy)
              have d1 : W4.cell? ⟨g12, 1, none⟩ = some (.int .i64 fr) := J.cell 1
              have d2 : W4.cell? ⟨g12, 2, none⟩ = some (.int .i64 tt) := J.cell 2
              have d3 : W4.cell? ⟨g10, 3, none⟩ = some (.int .i64 sat) := HJ4.out.cell 3
              clear hy HW HJ hx
              go_upto_region 13 with (fail)
              clear d1 d2 d3
              have hy : Ext W4 (W4.alloc (.cells #[.int .i64 sat, .int .i64 fr, .int .i64 tt] 26)) := bl_alloc (Below.refl _ _) _
              have J2 : Blk (W4.alloc (.cells #[.int .i64 sat, .int .i64 fr, .int .i64 tt] 26)) W4.heap.size 26 #[.int .i64 sat, .int .i64 fr, .int .i64 tt] := Blk.new _ _ _
              obtain ⟨g13, hg13⟩ : ∃ g, g = W4.heap.size := ⟨_, rfl⟩
              rw [← hg13] at J2 ⊢
              clear hg13
              generalize W4.alloc (.cells #[.int .i64 sat, .int .i64 fr, .int .i64 tt] 26) = W5 at hy J2 ⊢
              have hx5 := Ext.trans hx4 hy
              have HW5 := Lib.hid (own_ext HW4.out hy)
              have HJ5 := Lib.hid (HJ4.out.ext hy)
              have HS5 := Lib.hid (J.ext hy)
              have HU5 := Lib.hid J2
              clear hy HW4 HJ4 J J2 hx4
              have d0 : W5.cell? ⟨g12, 0, none⟩ = some (.int .i64 p) := HS5.out.cell 0
              have hI := fun w => isIn_any p 0 ((pn : Int) - 1) w
              have him : inB p 0 ((pn : Int) - 1) = true → ∃ m : Nat, p = m ∧ m < pn := fun h => by
                rw [inB_iff] at h
                exact ⟨p.toNat, by omega, by omega⟩
              have hs := HS4.out
              generalize inB p 0 ((pn : Int) - 1) = q1 at hs hI him
              have HI := Lib.hid hI
              have HS6 := Lib.hid hs
              clear hI hs HS4
              cases q1
              · clear him
                have hVn : V = none := by rw [← HS6.out]; rfl
                have HRN : Hid (R = ([], 170)) := Lib.hid (by rw [HR.out, ← HS3.out, hVn]; rfl)
                clear hVn HS6 HS3 HR
                refine wp_region_obl 22 (fun ix vals v w1 => match ix with | 0 => v = .pointer (some ⟨g12, 0, none⟩) | 1 => v = .int .i64 p | 2 => v = .slice PA pn pc | 3 => v = .int .i64 pn | 4 => v = .int .i64 (pn - 1) | 5 => v = .bool false | 6 => v = .bool true | 7 => v = .bool true | 8 => v = undef | 9 => v = undef | 10 => v = undef | 11 => v = undef | 12 => v = undef | 13 => v = undef | 14 => v = undef | 15 => v = undef | 16 => v = undef | 17 => v = .bool true | 18 => v = .bool true | 19 => v = undef | 20 => v = undef | _ => v = undef) (by kernel_rfl) (by kernel_rfl) ?_ ?_ ?_ ?_
                · intro ix vals v w1 w2 hi hr hx
                  match ix, hr with
                  | 0, hr => exact hr
                  | 1, hr => exact hr
                  | 2, hr => exact hr
                  | 3, hr => exact hr
                  | 4, hr => exact hr
                  | 5, hr => exact hr
                  | 6, hr => exact hr
                  | 7, hr => exact hr
                  | 8, hr => exact hr
                  | 9, hr => exact hr
                  | 10, hr => exact hr
                  | 11, hr => exact hr
                  | 12, hr => exact hr
                  | 13, hr => exact hr
                  | 14, hr => exact hr
                  | 15, hr => exact hr
                  | 16, hr => exact hr
                  | 17, hr => exact hr
                  | 18, hr => exact hr
                  | 19, hr => exact hr
                  | 20, hr => exact hr
                  | (kx + 21), hr => exact hr
                · intro ix vals vals_ v w1 hi hv hr
                  exact hr
                · refine obls_ofT [some 44, some 45, some 46, some 47, some 48, some 49, some 50, some 51, some 52, some 53, some 54, some 55, some 56, some 57, some 58, some 59, some 60, some 61, some 62, some 63, some 64, some 65, some 66] [(12, .pointer (some ⟨g12, 0, none⟩)), (1, .slice PA pn pc), (10, .pointer (some ⟨g10, 0, none⟩)), (13, .pointer (some ⟨g13, 0, none⟩))] 82 (by kernel_rfl) (by kernel_rfl) ⟨by kernel_rfl, by kernel_rfl, by kernel_rfl, by kernel_rfl, trivial⟩ ?_
                  refine ⟨?_, ?_, ?_, ?_, ?_, ?_, ?_, ?_, ?_, ?_, ?_, ?_, ?_, ?_, ?_, ?_, ?_, ?_, ?_, ?_, ?_, ?_, trivial⟩
                  · intro vals w1 hx hd
                    refine .run [(12, .pointer (some ⟨g12, 0, none⟩))] { dst := some 0, op := Go.Op.fieldAddr 71 (Go.Operand.const (.pointer (some ⟨g12, 0, none⟩))) 0, type := 0, pos := "", after := #[], guard := none } 44 ⟨.out (by kernel_rfl) (by kernel_rfl), trivial⟩ (by kernel_rfl) (by kernel_rfl) (by kernel_rfl) rfl rfl rfl ?_
                    clear hd
                    go_wp2
                    exact ⟨rfl, Ext.refl _, rfl⟩
                  · intro vals w1 hx hd
                    have e0 : vals 0 = .pointer (some ⟨g12, 0, none⟩) := hd 0 (by decide)
                    refine .run [(44, .pointer (some ⟨g12, 0, none⟩))] { dst := some 0, op := Go.Op.load 3 (Go.Operand.const (.pointer (some ⟨g12, 0, none⟩))), type := 3, pos := "", after := #[], guard := none } 45 ⟨.inn 0 (by kernel_rfl) e0, trivial⟩ (by kernel_rfl) (by kernel_rfl) (by kernel_rfl) rfl rfl rfl ?_
                    clear hd e0
                    have d0 := ext_cell hx d0
                    go_wp2
                    exact ⟨rfl, Ext.refl _, rfl⟩
                  · intro vals w1 hx hd
                    refine .run [(1, .slice PA pn pc)] { dst := some 0, op := Go.Op.move (Go.Operand.const (.slice PA pn pc)), type := 34, pos := "", after := #[], guard := none } 46 ⟨.out (by kernel_rfl) (by kernel_rfl), trivial⟩ (by kernel_rfl) (by kernel_rfl) (by kernel_rfl) rfl rfl rfl ?_
                    clear hd
                    go_wp2
                    exact ⟨rfl, Ext.refl _, rfl⟩
                  · intro vals w1 hx hd
                    have e2 : vals 2 = .slice PA pn pc := hd 2 (by decide)
                    refine .run [(46, .slice PA pn pc)] { dst := some 0, op := Go.Op.call { callee := Go.Callee.builtin Go.Builtin.len, args := #[(Go.Operand.const (.slice PA pn pc))], argTypes := #[34] }, type := 3, pos := "", after := #[], guard := none } 47 ⟨.inn 2 (by kernel_rfl) e2, trivial⟩ (by kernel_rfl) (by kernel_rfl) (by kernel_rfl) rfl rfl rfl ?_
                    clear hd e2
                    go_wp2
                    exact ⟨rfl, Ext.refl _, rfl⟩
                  · intro vals w1 hx hd
                    have e3 : vals 3 = .int .i64 pn := hd 3 (by decide)
                    refine .run [(47, .int .i64 pn)] { dst := some 0, op := Go.Op.binOp Go.BinOp.sub 3 (Go.Operand.const (.int .i64 pn)) (Go.Operand.const (Go.Value.int Go.IntKind.i64 1)) 3, type := 3, pos := "", after := #[], guard := none } 48 ⟨.inn 3 (by kernel_rfl) e3, trivial⟩ (by kernel_rfl) (by kernel_rfl) (by kernel_rfl) rfl rfl rfl ?_
                    clear hd e3
                    go_wp2
                    exact ⟨rfl, Ext.refl _, rfl⟩
                  · intro vals w1 hx hd
                    have e1 : vals 1 = .int .i64 p := hd 1 (by decide)
                    have e4 : vals 4 = .int .i64 (pn - 1) := hd 4 (by decide)
                    refine .run [(45, .int .i64 p), (48, .int .i64 (pn - 1))] { dst := some 0, op := Go.Op.call { callee := Go.Callee.value (Go.Operand.func 53), args := #[(Go.Operand.const (.int .i64 p)), Go.Operand.const (Go.Value.int Go.IntKind.i64 0), (Go.Operand.const (.int .i64 (pn - 1)))], argTypes := #[3, 3, 3] }, type := 4, pos := "", after := #[], guard := none } 49 ⟨.inn 1 (by kernel_rfl) e1, .inn 4 (by kernel_rfl) e4, trivial⟩ (by kernel_rfl) (by kernel_rfl) (by kernel_rfl) rfl rfl rfl ?_
                    clear hd e1 e4
                    go_wp2_with (go_at_call 53; refine (HI.out _).mono ?_; rintro e w' ⟨rfl, rfl⟩)
                    exact ⟨rfl, Ext.refl _, rfl⟩
                  · intro vals w1 hx hd
                    have e5 : vals 5 = .bool false := hd 5 (by decide)
                    refine .run [(49, .bool false)] { dst := some 0, op := Go.Op.unOp Go.UnOp.not 4 (Go.Operand.const (.bool false)), type := 4, pos := "", after := #[], guard := none } 50 ⟨.inn 5 (by kernel_rfl) e5, trivial⟩ (by kernel_rfl) (by kernel_rfl) (by kernel_rfl) rfl rfl rfl ?_
                    clear hd e5
                    go_wp2
                    exact ⟨rfl, Ext.refl _, rfl⟩
                  · intro vals w1 hx hd
                    have e6 : vals 6 = .bool true := hd 6 (by decide)
                    refine .run [(50, .bool true)] { dst := some 0, op := Go.Op.move (Go.Operand.const (.bool true)), type := 4, pos := "", after := #[], guard := none } 51 ⟨.inn 6 (by kernel_rfl) e6, trivial⟩ (by kernel_rfl) (by kernel_rfl) (by kernel_rfl) rfl rfl rfl ?_
                    clear hd e6
                    go_wp2
                    exact ⟨rfl, Ext.refl _, rfl⟩
                  · intro vals w1 hx hd
                    have e7 : vals 7 = .bool true := hd 7 (by decide)
                    exact .no [(51, .bool true)] 52 ⟨.inn 7 (by kernel_rfl) e7, trivial⟩ (by kernel_rfl) rfl (by kernel_rfl) rfl
                  · intro vals w1 hx hd
                    have e7 : vals 7 = .bool true := hd 7 (by decide)
                    exact .no [(51, .bool true)] 53 ⟨.inn 7 (by kernel_rfl) e7, trivial⟩ (by kernel_rfl) rfl (by kernel_rfl) rfl
                  · intro vals w1 hx hd
                    have e7 : vals 7 = .bool true := hd 7 (by decide)
                    exact .no [(51, .bool true)] 54 ⟨.inn 7 (by kernel_rfl) e7, trivial⟩ (by kernel_rfl) rfl (by kernel_rfl) rfl
                  · intro vals w1 hx hd
                    have e7 : vals 7 = .bool true := hd 7 (by decide)
                    exact .no [(51, .bool true)] 55 ⟨.inn 7 (by kernel_rfl) e7, trivial⟩ (by kernel_rfl) rfl (by kernel_rfl) rfl
                  · intro vals w1 hx hd
                    have e7 : vals 7 = .bool true := hd 7 (by decide)
                    exact .no [(51, .bool true)] 56 ⟨.inn 7 (by kernel_rfl) e7, trivial⟩ (by kernel_rfl) rfl (by kernel_rfl) rfl
                  · intro vals w1 hx hd
                    have e7 : vals 7 = .bool true := hd 7 (by decide)
                    exact .no [(51, .bool true)] 57 ⟨.inn 7 (by kernel_rfl) e7, trivial⟩ (by kernel_rfl) rfl (by kernel_rfl) rfl
                  · intro vals w1 hx hd
                    have e7 : vals 7 = .bool true := hd 7 (by decide)
                    exact .no [(51, .bool true)] 58 ⟨.inn 7 (by kernel_rfl) e7, trivial⟩ (by kernel_rfl) rfl (by kernel_rfl) rfl
                  · intro vals w1 hx hd
                    have e7 : vals 7 = .bool true := hd 7 (by decide)
                    exact .no [(51, .bool true)] 59 ⟨.inn 7 (by kernel_rfl) e7, trivial⟩ (by kernel_rfl) rfl (by kernel_rfl) rfl
                  · intro vals w1 hx hd
                    have e7 : vals 7 = .bool true := hd 7 (by decide)
                    exact .no [(51, .bool true)] 60 ⟨.inn 7 (by kernel_rfl) e7, trivial⟩ (by kernel_rfl) rfl (by kernel_rfl) rfl
                  · intro vals w1 hx hd
                    have e7 : vals 7 = .bool true := hd 7 (by decide)
                    have e16 : vals 16 = undef := hd 16 (by decide)
                    refine .run [(51, .bool true), (60, undef)] { dst := some 0, op := Go.Op.pick (Go.Operand.const (.bool true)) (Go.Operand.const (Go.Value.bool true)) (Go.Operand.const (undef)), type := 4, pos := "", after := #[], guard := none } 61 ⟨.inn 7 (by kernel_rfl) e7, .inn 16 (by kernel_rfl) e16, trivial⟩ (by kernel_rfl) (by kernel_rfl) (by kernel_rfl) rfl rfl rfl ?_
                    clear hd e7 e16
                    go_wp2
                    exact ⟨rfl, Ext.refl _, rfl⟩
                  · intro vals w1 hx hd
                    have e17 : vals 17 = .bool true := hd 17 (by decide)
                    refine .run [(61, .bool true)] { dst := some 0, op := Go.Op.move (Go.Operand.const (.bool true)), type := 4, pos := "", after := #[], guard := none } 62 ⟨.inn 17 (by kernel_rfl) e17, trivial⟩ (by kernel_rfl) (by kernel_rfl) (by kernel_rfl) rfl rfl rfl ?_
                    clear hd e17
                    go_wp2
                    exact ⟨rfl, Ext.refl _, rfl⟩
                  · intro vals w1 hx hd
                    have e18 : vals 18 = .bool true := hd 18 (by decide)
                    exact .no [(62, .bool true)] 63 ⟨.inn 18 (by kernel_rfl) e18, trivial⟩ (by kernel_rfl) rfl (by kernel_rfl) rfl
                  · intro vals w1 hx hd
                    have e18 : vals 18 = .bool true := hd 18 (by decide)
                    exact .no [(62, .bool true)] 64 ⟨.inn 18 (by kernel_rfl) e18, trivial⟩ (by kernel_rfl) rfl (by kernel_rfl) rfl
                  · intro vals w1 hx hd
                    have e18 : vals 18 = .bool true := hd 18 (by decide)
                    exact .no [(62, .bool true)] 65 ⟨.inn 18 (by kernel_rfl) e18, trivial⟩ (by kernel_rfl) rfl (by kernel_rfl) rfl
                intro vals W6 hy hf
                have e18 : vals 18 = .bool true := hf 18 (by omega)
                have hx6 := Ext.trans hx5 hy.undrew
                have hy := hy.undrew
                clear hf d0
                refine tail1 22 _ (by kernel_rfl) (by kernel_rfl) rfl ?_
                simp only [Lf, dstAt, Act.put, List.getElem?_toArray, List.getElem?_cons_zero, List.getElem?_cons_succ, Option.bind_some, List.setIfInBounds_toArray, List.set_cons_zero, List.set_cons_succ]
                rw [e18]
                clear e18
                go_wp2_with fail
                rw [HRN.out]
                exact bodyPost_ret (v := .tuple #[.slice none 0 0, .int .i64 170]) (by simp [results, Try.results31, go_sem]) rfl ⟨_, rfl, World.ownsRow_nil _ _ _ _, hx6⟩
              · obtain ⟨m, rfl, hm⟩ := him rfl
                clear him
                obtain ⟨pb, po, hz7, hA7, _, hc7⟩ := HP.out.at_ psn_len hm
                have hs := HS6.out
                have hso : satOf ps (m : Int) = ps[m].sat := by unfold satOf; rw [Int.toNat_natCast, List.getElem?_eq_getElem hz7]
                have hst : staOf ps (m : Int) = ps[m].st := by unfold staOf; rw [Int.toNat_natCast, List.getElem?_eq_getElem hz7]
                rw [hso, hst] at hs
                have k0 : W5.cell? ⟨pb, po + m * 6, none⟩ = some (.int .i64 ps[m].sat) := ext_cell hx5 (hc7 0 (by omega))
                have k1 : W5.cell? ⟨pb, po + m * 6 + 1, none⟩ = some (.int .i64 ps[m].st) := ext_cell hx5 (hc7 1 (by omega))
                generalize ps[m].sat = s2 at hs k0
                generalize ps[m].st = st2 at hs k1
                have HS7 := Lib.hid hs
                subst hA7
                clear hc7 hso hst hs HS6
                have d3 : W5.cell? ⟨g10, 3, none⟩ = some (.int .i64 sat) := HJ5.out.cell 3
                by_cases hq2 : s2 = sat
                · have hs := HS7.out
                  rw [decide_eq_true hq2, Bool.true_and, Bool.true_and] at hs
                  have hFO := fun W => isFormed_any sat fr tt W
                  generalize formedP ⟨sat, fr, tt⟩ = q3 at hs hFO
                  have HFO := Lib.hid hFO
                  have HS6 := Lib.hid hs
                  have u0 : W5.cell? ⟨g13, 0, none⟩ = some (.int .i64 sat) := HU5.out.cell 0
                  have u1 : W5.cell? ⟨g13, 1, none⟩ = some (.int .i64 fr) := HU5.out.cell 1
                  have u2 : W5.cell? ⟨g13, 2, none⟩ = some (.int .i64 tt) := HU5.out.cell 2
                  clear hs hFO HS7
                  cases q3
                  · have hVn : V = none := by rw [← HS6.out]; rfl
                    have HRN : Hid (R = ([], 170)) := Lib.hid (by rw [HR.out, ← HS3.out, hVn]; rfl)
                    clear hVn HS6 HS3 HR
                    refine wp_region_obl 22 (fun ix vals v w1 => match ix with | 0 => v = .pointer (some ⟨g12, 0, none⟩) | 1 => v = .int .i64 m | 2 => v = .slice (some ⟨pb, po, none⟩) pn pc | 3 => v = .int .i64 pn | 4 => v = .int .i64 (pn - 1) | 5 => v = .bool true | 6 => v = .bool false | 7 => v = .bool false | 8 => v = .slice (some ⟨pb, po, none⟩) pn pc | 9 => v = .pointer (some ⟨g12, 0, none⟩) | 10 => v = .int .i64 m | 11 => v = .pointer (some ⟨pb, po + m * 6, none⟩) | 12 => v = .pointer (some ⟨pb, po + m * 6, none⟩) | 13 => v = .int .i64 s2 | 14 => v = .pointer (some ⟨g10, 3, none⟩) | 15 => v = .int .i64 sat | 16 => v = .bool false | 17 => v = .bool false | 18 => v = .bool false | 19 => v = .agg #[.int .i64 sat, .int .i64 fr, .int .i64 tt] | 20 => v = .bool false | _ => v = .bool true) (by kernel_rfl) (by kernel_rfl) ?_ ?_ ?_ ?_
                    · intro ix vals v w1 w2 hi hr hx
                      match ix, hr with
                      | 0, hr => exact hr
                      | 1, hr => exact hr
                      | 2, hr => exact hr
                      | 3, hr => exact hr
                      | 4, hr => exact hr
                      | 5, hr => exact hr
                      | 6, hr => exact hr
                      | 7, hr => exact hr
                      | 8, hr => exact hr
                      | 9, hr => exact hr
                      | 10, hr => exact hr
                      | 11, hr => exact hr
                      | 12, hr => exact hr
                      | 13, hr => exact hr
                      | 14, hr => exact hr
                      | 15, hr => exact hr
                      | 16, hr => exact hr
                      | 17, hr => exact hr
                      | 18, hr => exact hr
                      | 19, hr => exact hr
                      | 20, hr => exact hr
                      | (kx + 21), hr => exact hr
                    · intro ix vals vals_ v w1 hi hv hr
                      exact hr
                    · refine obls_ofT [some 44, some 45, some 46, some 47, some 48, some 49, some 50, some 51, some 52, some 53, some 54, some 55, some 56, some 57, some 58, some 59, some 60, some 61, some 62, some 63, some 64, some 65, some 66] [(12, .pointer (some ⟨g12, 0, none⟩)), (1, .slice (some ⟨pb, po, none⟩) pn pc), (10, .pointer (some ⟨g10, 0, none⟩)), (13, .pointer (some ⟨g13, 0, none⟩))] 82 (by kernel_rfl) (by kernel_rfl) ⟨by kernel_rfl, by kernel_rfl, by kernel_rfl, by kernel_rfl, trivial⟩ ?_
                      refine ⟨?_, ?_, ?_, ?_, ?_, ?_, ?_, ?_, ?_, ?_, ?_, ?_, ?_, ?_, ?_, ?_, ?_, ?_, ?_, ?_, ?_, ?_, trivial⟩
                      · intro vals w1 hx hd
                        refine .run [(12, .pointer (some ⟨g12, 0, none⟩))] { dst := some 0, op := Go.Op.fieldAddr 71 (Go.Operand.const (.pointer (some ⟨g12, 0, none⟩))) 0, type := 0, pos := "", after := #[], guard := none } 44 ⟨.out (by kernel_rfl) (by kernel_rfl), trivial⟩ (by kernel_rfl) (by kernel_rfl) (by kernel_rfl) rfl rfl rfl ?_
                        clear hd
                        go_wp2
                        exact ⟨rfl, Ext.refl _, rfl⟩
                      · intro vals w1 hx hd
                        have e0 : vals 0 = .pointer (some ⟨g12, 0, none⟩) := hd 0 (by decide)
                        refine .run [(44, .pointer (some ⟨g12, 0, none⟩))] { dst := some 0, op := Go.Op.load 3 (Go.Operand.const (.pointer (some ⟨g12, 0, none⟩))), type := 3, pos := "", after := #[], guard := none } 45 ⟨.inn 0 (by kernel_rfl) e0, trivial⟩ (by kernel_rfl) (by kernel_rfl) (by kernel_rfl) rfl rfl rfl ?_
                        clear hd e0
                        have d0 := ext_cell hx d0
                        go_wp2
                        exact ⟨rfl, Ext.refl _, rfl⟩
                      · intro vals w1 hx hd
                        refine .run [(1, .slice (some ⟨pb, po, none⟩) pn pc)] { dst := some 0, op := Go.Op.move (Go.Operand.const (.slice (some ⟨pb, po, none⟩) pn pc)), type := 34, pos := "", after := #[], guard := none } 46 ⟨.out (by kernel_rfl) (by kernel_rfl), trivial⟩ (by kernel_rfl) (by kernel_rfl) (by kernel_rfl) rfl rfl rfl ?_
                        clear hd
                        go_wp2
                        exact ⟨rfl, Ext.refl _, rfl⟩
                      · intro vals w1 hx hd
                        have e2 : vals 2 = .slice (some ⟨pb, po, none⟩) pn pc := hd 2 (by decide)
                        refine .run [(46, .slice (some ⟨pb, po, none⟩) pn pc)] { dst := some 0, op := Go.Op.call { callee := Go.Callee.builtin Go.Builtin.len, args := #[(Go.Operand.const (.slice (some ⟨pb, po, none⟩) pn pc))], argTypes := #[34] }, type := 3, pos := "", after := #[], guard := none } 47 ⟨.inn 2 (by kernel_rfl) e2, trivial⟩ (by kernel_rfl) (by kernel_rfl) (by kernel_rfl) rfl rfl rfl ?_
                        clear hd e2
                        go_wp2
                        exact ⟨rfl, Ext.refl _, rfl⟩
                      · intro vals w1 hx hd
                        have e3 : vals 3 = .int .i64 pn := hd 3 (by decide)
                        refine .run [(47, .int .i64 pn)] { dst := some 0, op := Go.Op.binOp Go.BinOp.sub 3 (Go.Operand.const (.int .i64 pn)) (Go.Operand.const (Go.Value.int Go.IntKind.i64 1)) 3, type := 3, pos := "", after := #[], guard := none } 48 ⟨.inn 3 (by kernel_rfl) e3, trivial⟩ (by kernel_rfl) (by kernel_rfl) (by kernel_rfl) rfl rfl rfl ?_
                        clear hd e3
                        go_wp2
                        exact ⟨rfl, Ext.refl _, rfl⟩
                      · intro vals w1 hx hd
                        have e1 : vals 1 = .int .i64 m := hd 1 (by decide)
                        have e4 : vals 4 = .int .i64 (pn - 1) := hd 4 (by decide)
                        refine .run [(45, .int .i64 m), (48, .int .i64 (pn - 1))] { dst := some 0, op := Go.Op.call { callee := Go.Callee.value (Go.Operand.func 53), args := #[(Go.Operand.const (.int .i64 m)), Go.Operand.const (Go.Value.int Go.IntKind.i64 0), (Go.Operand.const (.int .i64 (pn - 1)))], argTypes := #[3, 3, 3] }, type := 4, pos := "", after := #[], guard := none } 49 ⟨.inn 1 (by kernel_rfl) e1, .inn 4 (by kernel_rfl) e4, trivial⟩ (by kernel_rfl) (by kernel_rfl) (by kernel_rfl) rfl rfl rfl ?_
                        clear hd e1 e4
                        go_wp2_with (go_at_call 53; refine (HI.out _).mono ?_; rintro e w' ⟨rfl, rfl⟩)
                        exact ⟨rfl, Ext.refl _, rfl⟩
                      · intro vals w1 hx hd
                        have e5 : vals 5 = .bool true := hd 5 (by decide)
                        refine .run [(49, .bool true)] { dst := some 0, op := Go.Op.unOp Go.UnOp.not 4 (Go.Operand.const (.bool true)), type := 4, pos := "", after := #[], guard := none } 50 ⟨.inn 5 (by kernel_rfl) e5, trivial⟩ (by kernel_rfl) (by kernel_rfl) (by kernel_rfl) rfl rfl rfl ?_
                        clear hd e5
                        go_wp2
                        exact ⟨rfl, Ext.refl _, rfl⟩
                      · intro vals w1 hx hd
                        have e6 : vals 6 = .bool false := hd 6 (by decide)
                        refine .run [(50, .bool false)] { dst := some 0, op := Go.Op.move (Go.Operand.const (.bool false)), type := 4, pos := "", after := #[], guard := none } 51 ⟨.inn 6 (by kernel_rfl) e6, trivial⟩ (by kernel_rfl) (by kernel_rfl) (by kernel_rfl) rfl rfl rfl ?_
                        clear hd e6
                        go_wp2
                        exact ⟨rfl, Ext.refl _, rfl⟩
                      · intro vals w1 hx hd
                        have e7 : vals 7 = .bool false := hd 7 (by decide)
                        refine .run [(1, .slice (some ⟨pb, po, none⟩) pn pc), (51, .bool false)] { dst := some 0, op := Go.Op.move (Go.Operand.const (.slice (some ⟨pb, po, none⟩) pn pc)), type := 34, pos := "", after := #[], guard := none } 52 ⟨.out (by kernel_rfl) (by kernel_rfl), .inn 7 (by kernel_rfl) e7, trivial⟩ (by kernel_rfl) (by kernel_rfl) (by kernel_rfl) rfl rfl rfl ?_
                        clear hd e7
                        go_wp2
                        exact ⟨rfl, Ext.refl _, rfl⟩
                      · intro vals w1 hx hd
                        have e7 : vals 7 = .bool false := hd 7 (by decide)
                        refine .run [(12, .pointer (some ⟨g12, 0, none⟩)), (51, .bool false)] { dst := some 0, op := Go.Op.fieldAddr 71 (Go.Operand.const (.pointer (some ⟨g12, 0, none⟩))) 0, type := 0, pos := "", after := #[], guard := none } 53 ⟨.out (by kernel_rfl) (by kernel_rfl), .inn 7 (by kernel_rfl) e7, trivial⟩ (by kernel_rfl) (by kernel_rfl) (by kernel_rfl) rfl rfl rfl ?_
                        clear hd e7
                        go_wp2
                        exact ⟨rfl, Ext.refl _, rfl⟩
                      · intro vals w1 hx hd
                        have e9 : vals 9 = .pointer (some ⟨g12, 0, none⟩) := hd 9 (by decide)
                        have e7 : vals 7 = .bool false := hd 7 (by decide)
                        refine .run [(53, .pointer (some ⟨g12, 0, none⟩)), (51, .bool false)] { dst := some 0, op := Go.Op.load 3 (Go.Operand.const (.pointer (some ⟨g12, 0, none⟩))), type := 3, pos := "", after := #[], guard := none } 54 ⟨.inn 9 (by kernel_rfl) e9, .inn 7 (by kernel_rfl) e7, trivial⟩ (by kernel_rfl) (by kernel_rfl) (by kernel_rfl) rfl rfl rfl ?_
                        clear hd e9 e7
                        have d0 := ext_cell hx d0
                        have h0m : (0 : Int) ≤ (m : Int) := by omega
                        go_wp2
                        exact ⟨rfl, Ext.refl _, rfl⟩
                      · intro vals w1 hx hd
                        have e8 : vals 8 = .slice (some ⟨pb, po, none⟩) pn pc := hd 8 (by decide)
                        have e10 : vals 10 = .int .i64 m := hd 10 (by decide)
                        have e7 : vals 7 = .bool false := hd 7 (by decide)
                        refine .run [(52, .slice (some ⟨pb, po, none⟩) pn pc), (54, .int .i64 m), (51, .bool false)] { dst := some 0, op := Go.Op.indexAddr 34 (Go.Operand.const (.slice (some ⟨pb, po, none⟩) pn pc)) (Go.Operand.const (.int .i64 m)), type := 0, pos := "", after := #[], guard := none } 55 ⟨.inn 8 (by kernel_rfl) e8, .inn 10 (by kernel_rfl) e10, .inn 7 (by kernel_rfl) e7, trivial⟩ (by kernel_rfl) (by kernel_rfl) (by kernel_rfl) rfl rfl rfl ?_
                        clear hd e8 e10 e7
                        have h0m : (0 : Int) ≤ (m : Int) := by omega
                        go_wp2
                        exact ⟨rfl, Ext.refl _, rfl⟩
                      · intro vals w1 hx hd
                        have e11 : vals 11 = .pointer (some ⟨pb, po + m * 6, none⟩) := hd 11 (by decide)
                        have e7 : vals 7 = .bool false := hd 7 (by decide)
                        refine .run [(55, .pointer (some ⟨pb, po + m * 6, none⟩)), (51, .bool false)] { dst := some 0, op := Go.Op.fieldAddr 76 (Go.Operand.const (.pointer (some ⟨pb, po + m * 6, none⟩))) 0, type := 0, pos := "", after := #[], guard := none } 56 ⟨.inn 11 (by kernel_rfl) e11, .inn 7 (by kernel_rfl) e7, trivial⟩ (by kernel_rfl) (by kernel_rfl) (by kernel_rfl) rfl rfl rfl ?_
                        clear hd e11 e7
                        go_wp2
                        exact ⟨rfl, Ext.refl _, rfl⟩
                      · intro vals w1 hx hd
                        have e12 : vals 12 = .pointer (some ⟨pb, po + m * 6, none⟩) := hd 12 (by decide)
                        have e7 : vals 7 = .bool false := hd 7 (by decide)
                        refine .run [(56, .pointer (some ⟨pb, po + m * 6, none⟩)), (51, .bool false)] { dst := some 0, op := Go.Op.load 3 (Go.Operand.const (.pointer (some ⟨pb, po + m * 6, none⟩))), type := 3, pos := "", after := #[], guard := none } 57 ⟨.inn 12 (by kernel_rfl) e12, .inn 7 (by kernel_rfl) e7, trivial⟩ (by kernel_rfl) (by kernel_rfl) (by kernel_rfl) rfl rfl rfl ?_
                        clear hd e12 e7
                        have k0 := ext_cell hx k0
                        go_wp2
                        exact ⟨rfl, Ext.refl _, rfl⟩
                      · intro vals w1 hx hd
                        have e7 : vals 7 = .bool false := hd 7 (by decide)
                        refine .run [(10, .pointer (some ⟨g10, 0, none⟩)), (51, .bool false)] { dst := some 0, op := Go.Op.fieldAddr 74 (Go.Operand.const (.pointer (some ⟨g10, 0, none⟩))) 3, type := 0, pos := "", after := #[], guard := none } 58 ⟨.out (by kernel_rfl) (by kernel_rfl), .inn 7 (by kernel_rfl) e7, trivial⟩ (by kernel_rfl) (by kernel_rfl) (by kernel_rfl) rfl rfl rfl ?_
                        clear hd e7
                        go_wp2
                        exact ⟨rfl, Ext.refl _, rfl⟩
                      · intro vals w1 hx hd
                        have e14 : vals 14 = .pointer (some ⟨g10, 3, none⟩) := hd 14 (by decide)
                        have e7 : vals 7 = .bool false := hd 7 (by decide)
                        refine .run [(58, .pointer (some ⟨g10, 3, none⟩)), (51, .bool false)] { dst := some 0, op := Go.Op.load 3 (Go.Operand.const (.pointer (some ⟨g10, 3, none⟩))), type := 3, pos := "", after := #[], guard := none } 59 ⟨.inn 14 (by kernel_rfl) e14, .inn 7 (by kernel_rfl) e7, trivial⟩ (by kernel_rfl) (by kernel_rfl) (by kernel_rfl) rfl rfl rfl ?_
                        clear hd e14 e7
                        have d3 := ext_cell hx d3
                        go_wp2
                        exact ⟨rfl, Ext.refl _, rfl⟩
                      · intro vals w1 hx hd
                        have e13 : vals 13 = .int .i64 s2 := hd 13 (by decide)
                        have e15 : vals 15 = .int .i64 sat := hd 15 (by decide)
                        have e7 : vals 7 = .bool false := hd 7 (by decide)
                        refine .run [(57, .int .i64 s2), (59, .int .i64 sat), (51, .bool false)] { dst := some 0, op := Go.Op.binOp Go.BinOp.neq 3 (Go.Operand.const (.int .i64 s2)) (Go.Operand.const (.int .i64 sat)) 3, type := 4, pos := "", after := #[], guard := none } 60 ⟨.inn 13 (by kernel_rfl) e13, .inn 15 (by kernel_rfl) e15, .inn 7 (by kernel_rfl) e7, trivial⟩ (by kernel_rfl) (by kernel_rfl) (by kernel_rfl) rfl rfl rfl ?_
                        clear hd e13 e15 e7
                        go_wp2
                        exact ⟨rfl, Ext.refl _, rfl⟩
                      · intro vals w1 hx hd
                        have e7 : vals 7 = .bool false := hd 7 (by decide)
                        have e16 : vals 16 = .bool false := hd 16 (by decide)
                        refine .run [(51, .bool false), (60, .bool false)] { dst := some 0, op := Go.Op.pick (Go.Operand.const (.bool false)) (Go.Operand.const (Go.Value.bool true)) (Go.Operand.const (.bool false)), type := 4, pos := "", after := #[], guard := none } 61 ⟨.inn 7 (by kernel_rfl) e7, .inn 16 (by kernel_rfl) e16, trivial⟩ (by kernel_rfl) (by kernel_rfl) (by kernel_rfl) rfl rfl rfl ?_
                        clear hd e7 e16
                        go_wp2
                        exact ⟨rfl, Ext.refl _, rfl⟩
                      · intro vals w1 hx hd
                        have e17 : vals 17 = .bool false := hd 17 (by decide)
                        refine .run [(61, .bool false)] { dst := some 0, op := Go.Op.move (Go.Operand.const (.bool false)), type := 4, pos := "", after := #[], guard := none } 62 ⟨.inn 17 (by kernel_rfl) e17, trivial⟩ (by kernel_rfl) (by kernel_rfl) (by kernel_rfl) rfl rfl rfl ?_
                        clear hd e17
                        go_wp2
                        exact ⟨rfl, Ext.refl _, rfl⟩
                      · intro vals w1 hx hd
                        have e18 : vals 18 = .bool false := hd 18 (by decide)
                        refine .run [(13, .pointer (some ⟨g13, 0, none⟩)), (62, .bool false)] { dst := some 0, op := Go.Op.load 26 (Go.Operand.const (.pointer (some ⟨g13, 0, none⟩))), type := 26, pos := "", after := #[], guard := none } 63 ⟨.out (by kernel_rfl) (by kernel_rfl), .inn 18 (by kernel_rfl) e18, trivial⟩ (by kernel_rfl) (by kernel_rfl) (by kernel_rfl) rfl rfl rfl ?_
                        clear hd e18
                        have u0 := ext_cell hx u0
                        have u1 := ext_cell hx u1
                        have u2 := ext_cell hx u2
                        go_wp2
                        exact ⟨rfl, Ext.refl _, rfl⟩
                      · intro vals w1 hx hd
                        have e19 : vals 19 = .agg #[.int .i64 sat, .int .i64 fr, .int .i64 tt] := hd 19 (by decide)
                        have e18 : vals 18 = .bool false := hd 18 (by decide)
                        refine .run [(63, .agg #[.int .i64 sat, .int .i64 fr, .int .i64 tt]), (62, .bool false)] { dst := some 0, op := Go.Op.call { callee := Go.Callee.value (Go.Operand.func 47), args := #[(Go.Operand.const (.agg #[.int .i64 sat, .int .i64 fr, .int .i64 tt]))], argTypes := #[26] }, type := 4, pos := "", after := #[], guard := none } 64 ⟨.inn 19 (by kernel_rfl) e19, .inn 18 (by kernel_rfl) e18, trivial⟩ (by kernel_rfl) (by kernel_rfl) (by kernel_rfl) rfl rfl rfl ?_
                        clear hd e19 e18
                        go_wp2_with (fail)
                        refine (HFO.out _).mono ?_
                        rintro e w' ⟨rfl, hb2⟩
                        go_wp2
                        exact ⟨rfl, hb2, rfl⟩
                      · intro vals w1 hx hd
                        have e20 : vals 20 = .bool false := hd 20 (by decide)
                        have e18 : vals 18 = .bool false := hd 18 (by decide)
                        refine .run [(64, .bool false), (62, .bool false)] { dst := some 0, op := Go.Op.unOp Go.UnOp.not 4 (Go.Operand.const (.bool false)), type := 4, pos := "", after := #[], guard := none } 65 ⟨.inn 20 (by kernel_rfl) e20, .inn 18 (by kernel_rfl) e18, trivial⟩ (by kernel_rfl) (by kernel_rfl) (by kernel_rfl) rfl rfl rfl ?_
                        clear hd e20 e18
                        go_wp2
                        exact ⟨rfl, Ext.refl _, rfl⟩
                    intro vals W6 hy hf
                    have e18 : vals 18 = .bool false := hf 18 (by omega)
                    have e21 : vals 21 = .bool true := hf 21 (by omega)
                    have hx6 := Ext.trans hx5 hy.undrew
                    have hy := hy.undrew
                    clear hf d0
                    refine tail1 22 _ (by kernel_rfl) (by kernel_rfl) rfl ?_
                    simp only [Lf, dstAt, Act.put, List.getElem?_toArray, List.getElem?_cons_zero, List.getElem?_cons_succ, Option.bind_some, List.setIfInBounds_toArray, List.set_cons_zero, List.set_cons_succ]
                    rw [e18, e21]
                    clear e18 e21
                    go_wp2_with fail
                    rw [HRN.out]
                    exact bodyPost_ret (v := .tuple #[.slice none 0 0, .int .i64 170]) (by simp [results, Try.results31, go_sem]) rfl ⟨_, rfl, World.ownsRow_nil _ _ _ _, hx6⟩
                  · skip
                    refine wp_region_obl 22 (fun ix vals v w1 => match ix with | 0 => v = .pointer (some ⟨g12, 0, none⟩) | 1 => v = .int .i64 m | 2 => v = .slice (some ⟨pb, po, none⟩) pn pc | 3 => v = .int .i64 pn | 4 => v = .int .i64 (pn - 1) | 5 => v = .bool true | 6 => v = .bool false | 7 => v = .bool false | 8 => v = .slice (some ⟨pb, po, none⟩) pn pc | 9 => v = .pointer (some ⟨g12, 0, none⟩) | 10 => v = .int .i64 m | 11 => v = .pointer (some ⟨pb, po + m * 6, none⟩) | 12 => v = .pointer (some ⟨pb, po + m * 6, none⟩) | 13 => v = .int .i64 s2 | 14 => v = .pointer (some ⟨g10, 3, none⟩) | 15 => v = .int .i64 sat | 16 => v = .bool false | 17 => v = .bool false | 18 => v = .bool false | 19 => v = .agg #[.int .i64 sat, .int .i64 fr, .int .i64 tt] | 20 => v = .bool true | _ => v = .bool false) (by kernel_rfl) (by kernel_rfl) ?_ ?_ ?_ ?_
                    · intro ix vals v w1 w2 hi hr hx
                      match ix, hr with
                      | 0, hr => exact hr
                      | 1, hr => exact hr
                      | 2, hr => exact hr
                      | 3, hr => exact hr
                      | 4, hr => exact hr
                      | 5, hr => exact hr
                      | 6, hr => exact hr
                      | 7, hr => exact hr
                      | 8, hr => exact hr
                      | 9, hr => exact hr
                      | 10, hr => exact hr
                      | 11, hr => exact hr
                      | 12, hr => exact hr
                      | 13, hr => exact hr
                      | 14, hr => exact hr
                      | 15, hr => exact hr
                      | 16, hr => exact hr
                      | 17, hr => exact hr
                      | 18, hr => exact hr
                      | 19, hr => exact hr
                      | 20, hr => exact hr
                      | (kx + 21), hr => exact hr
                    · intro ix vals vals_ v w1 hi hv hr
                      exact hr
                    · refine obls_ofT [some 44, some 45, some 46, some 47, some 48, some 49, some 50, some 51, some 52, some 53, some 54, some 55, some 56, some 57, some 58, some 59, some 60, some 61, some 62, some 63, some 64, some 65, some 66] [(12, .pointer (some ⟨g12, 0, none⟩)), (1, .slice (some ⟨pb, po, none⟩) pn pc), (10, .pointer (some ⟨g10, 0, none⟩)), (13, .pointer (some ⟨g13, 0, none⟩))] 82 (by kernel_rfl) (by kernel_rfl) ⟨by kernel_rfl, by kernel_rfl, by kernel_rfl, by kernel_rfl, trivial⟩ ?_
                      refine ⟨?_, ?_, ?_, ?_, ?_, ?_, ?_, ?_, ?_, ?_, ?_, ?_, ?_, ?_, ?_, ?_, ?_, ?_, ?_, ?_, ?_, ?_, trivial⟩
                      · intro vals w1 hx hd
                        refine .run [(12, .pointer (some ⟨g12, 0, none⟩))] { dst := some 0, op := Go.Op.fieldAddr 71 (Go.Operand.const (.pointer (some ⟨g12, 0, none⟩))) 0, type := 0, pos := "", after := #[], guard := none } 44 ⟨.out (by kernel_rfl) (by kernel_rfl), trivial⟩ (by kernel_rfl) (by kernel_rfl) (by kernel_rfl) rfl rfl rfl ?_
                        clear hd
                        go_wp2
                        exact ⟨rfl, Ext.refl _, rfl⟩
                      · intro vals w1 hx hd
                        have e0 : vals 0 = .pointer (some ⟨g12, 0, none⟩) := hd 0 (by decide)
                        refine .run [(44, .pointer (some ⟨g12, 0, none⟩))] { dst := some 0, op := Go.Op.load 3 (Go.Operand.const (.pointer (some ⟨g12, 0, none⟩))), type := 3, pos := "", after := #[], guard := none } 45 ⟨.inn 0 (by kernel_rfl) e0, trivial⟩ (by kernel_rfl) (by kernel_rfl) (by kernel_rfl) rfl rfl rfl ?_
                        clear hd e0
                        have d0 := ext_cell hx d0
                        go_wp2
                        exact ⟨rfl, Ext.refl _, rfl⟩
                      · intro vals w1 hx hd
                        refine .run [(1, .slice (some ⟨pb, po, none⟩) pn pc)] { dst := some 0, op := Go.Op.move (Go.Operand.const (.slice (some ⟨pb, po, none⟩) pn pc)), type := 34, pos := "", after := #[], guard := none } 46 ⟨.out (by kernel_rfl) (by kernel_rfl), trivial⟩ (by kernel_rfl) (by kernel_rfl) (by kernel_rfl) rfl rfl rfl ?_
                        clear hd
                        go_wp2
                        exact ⟨rfl, Ext.refl _, rfl⟩
                      · intro vals w1 hx hd
                        have e2 : vals 2 = .slice (some ⟨pb, po, none⟩) pn pc := hd 2 (by decide)
                        refine .run [(46, .slice (some ⟨pb, po, none⟩) pn pc)] { dst := some 0, op := Go.Op.call { callee := Go.Callee.builtin Go.Builtin.len, args := #[(Go.Operand.const (.slice (some ⟨pb, po, none⟩) pn pc))], argTypes := #[34] }, type := 3, pos := "", after := #[], guard := none } 47 ⟨.inn 2 (by kernel_rfl) e2, trivial⟩ (by kernel_rfl) (by kernel_rfl) (by kernel_rfl) rfl rfl rfl ?_
                        clear hd e2
                        go_wp2
                        exact ⟨rfl, Ext.refl _, rfl⟩
                      · intro vals w1 hx hd
                        have e3 : vals 3 = .int .i64 pn := hd 3 (by decide)
                        refine .run [(47, .int .i64 pn)] { dst := some 0, op := Go.Op.binOp Go.BinOp.sub 3 (Go.Operand.const (.int .i64 pn)) (Go.Operand.const (Go.Value.int Go.IntKind.i64 1)) 3, type := 3, pos := "", after := #[], guard := none } 48 ⟨.inn 3 (by kernel_rfl) e3, trivial⟩ (by kernel_rfl) (by kernel_rfl) (by kernel_rfl) rfl rfl rfl ?_
                        clear hd e3
                        go_wp2
                        exact ⟨rfl, Ext.refl _, rfl⟩
                      · intro vals w1 hx hd
                        have e1 : vals 1 = .int .i64 m := hd 1 (by decide)
                        have e4 : vals 4 = .int .i64 (pn - 1) := hd 4 (by decide)
                        refine .run [(45, .int .i64 m), (48, .int .i64 (pn - 1))] { dst := some 0, op := Go.Op.call { callee := Go.Callee.value (Go.Operand.func 53), args := #[(Go.Operand.const (.int .i64 m)), Go.Operand.const (Go.Value.int Go.IntKind.i64 0), (Go.Operand.const (.int .i64 (pn - 1)))], argTypes := #[3, 3, 3] }, type := 4, pos := "", after := #[], guard := none } 49 ⟨.inn 1 (by kernel_rfl) e1, .inn 4 (by kernel_rfl) e4, trivial⟩ (by kernel_rfl) (by kernel_rfl) (by kernel_rfl) rfl rfl rfl ?_
                        clear hd e1 e4
                        go_wp2_with (go_at_call 53; refine (HI.out _).mono ?_; rintro e w' ⟨rfl, rfl⟩)
                        exact ⟨rfl, Ext.refl _, rfl⟩
                      · intro vals w1 hx hd
                        have e5 : vals 5 = .bool true := hd 5 (by decide)
                        refine .run [(49, .bool true)] { dst := some 0, op := Go.Op.unOp Go.UnOp.not 4 (Go.Operand.const (.bool true)), type := 4, pos := "", after := #[], guard := none } 50 ⟨.inn 5 (by kernel_rfl) e5, trivial⟩ (by kernel_rfl) (by kernel_rfl) (by kernel_rfl) rfl rfl rfl ?_
                        clear hd e5
                        go_wp2
                        exact ⟨rfl, Ext.refl _, rfl⟩
                      · intro vals w1 hx hd
                        have e6 : vals 6 = .bool false := hd 6 (by decide)
                        refine .run [(50, .bool false)] { dst := some 0, op := Go.Op.move (Go.Operand.const (.bool false)), type := 4, pos := "", after := #[], guard := none } 51 ⟨.inn 6 (by kernel_rfl) e6, trivial⟩ (by kernel_rfl) (by kernel_rfl) (by kernel_rfl) rfl rfl rfl ?_
                        clear hd e6
                        go_wp2
                        exact ⟨rfl, Ext.refl _, rfl⟩
                      · intro vals w1 hx hd
                        have e7 : vals 7 = .bool false := hd 7 (by decide)
                        refine .run [(1, .slice (some ⟨pb, po, none⟩) pn pc), (51, .bool false)] { dst := some 0, op := Go.Op.move (Go.Operand.const (.slice (some ⟨pb, po, none⟩) pn pc)), type := 34, pos := "", after := #[], guard := none } 52 ⟨.out (by kernel_rfl) (by kernel_rfl), .inn 7 (by kernel_rfl) e7, trivial⟩ (by kernel_rfl) (by kernel_rfl) (by kernel_rfl) rfl rfl rfl ?_
                        clear hd e7
                        go_wp2
                        exact ⟨rfl, Ext.refl _, rfl⟩
                      · intro vals w1 hx hd
                        have e7 : vals 7 = .bool false := hd 7 (by decide)
                        refine .run [(12, .pointer (some ⟨g12, 0, none⟩)), (51, .bool false)] { dst := some 0, op := Go.Op.fieldAddr 71 (Go.Operand.const (.pointer (some ⟨g12, 0, none⟩))) 0, type := 0, pos := "", after := #[], guard := none } 53 ⟨.out (by kernel_rfl) (by kernel_rfl), .inn 7 (by kernel_rfl) e7, trivial⟩ (by kernel_rfl) (by kernel_rfl) (by kernel_rfl) rfl rfl rfl ?_
                        clear hd e7
                        go_wp2
                        exact ⟨rfl, Ext.refl _, rfl⟩
                      · intro vals w1 hx hd
                        have e9 : vals 9 = .pointer (some ⟨g12, 0, none⟩) := hd 9 (by decide)
                        have e7 : vals 7 = .bool false := hd 7 (by decide)
                        refine .run [(53, .pointer (some ⟨g12, 0, none⟩)), (51, .bool false)] { dst := some 0, op := Go.Op.load 3 (Go.Operand.const (.pointer (some ⟨g12, 0, none⟩))), type := 3, pos := "", after := #[], guard := none } 54 ⟨.inn 9 (by kernel_rfl) e9, .inn 7 (by kernel_rfl) e7, trivial⟩ (by kernel_rfl) (by kernel_rfl) (by kernel_rfl) rfl rfl rfl ?_
                        clear hd e9 e7
                        have d0 := ext_cell hx d0
                        have h0m : (0 : Int) ≤ (m : Int) := by omega
                        go_wp2
                        exact ⟨rfl, Ext.refl _, rfl⟩
                      · intro vals w1 hx hd
                        have e8 : vals 8 = .slice (some ⟨pb, po, none⟩) pn pc := hd 8 (by decide)
                        have e10 : vals 10 = .int .i64 m := hd 10 (by decide)
                        have e7 : vals 7 = .bool false := hd 7 (by decide)
                        refine .run [(52, .slice (some ⟨pb, po, none⟩) pn pc), (54, .int .i64 m), (51, .bool false)] { dst := some 0, op := Go.Op.indexAddr 34 (Go.Operand.const (.slice (some ⟨pb, po, none⟩) pn pc)) (Go.Operand.const (.int .i64 m)), type := 0, pos := "", after := #[], guard := none } 55 ⟨.inn 8 (by kernel_rfl) e8, .inn 10 (by kernel_rfl) e10, .inn 7 (by kernel_rfl) e7, trivial⟩ (by kernel_rfl) (by kernel_rfl) (by kernel_rfl) rfl rfl rfl ?_
                        clear hd e8 e10 e7
                        have h0m : (0 : Int) ≤ (m : Int) := by omega
                        go_wp2
                        exact ⟨rfl, Ext.refl _, rfl⟩
                      · intro vals w1 hx hd
                        have e11 : vals 11 = .pointer (some ⟨pb, po + m * 6, none⟩) := hd 11 (by decide)
                        have e7 : vals 7 = .bool false := hd 7 (by decide)
                        refine .run [(55, .pointer (some ⟨pb, po + m * 6, none⟩)), (51, .bool false)] { dst := some 0, op := Go.Op.fieldAddr 76 (Go.Operand.const (.pointer (some ⟨pb, po + m * 6, none⟩))) 0, type := 0, pos := "", after := #[], guard := none } 56 ⟨.inn 11 (by kernel_rfl) e11, .inn 7 (by kernel_rfl) e7, trivial⟩ (by kernel_rfl) (by kernel_rfl) (by kernel_rfl) rfl rfl rfl ?_
                        clear hd e11 e7
                        go_wp2
                        exact ⟨rfl, Ext.refl _, rfl⟩
                      · intro vals w1 hx hd
                        have e12 : vals 12 = .pointer (some ⟨pb, po + m * 6, none⟩) := hd 12 (by decide)
                        have e7 : vals 7 = .bool false := hd 7 (by decide)
                        refine .run [(56, .pointer (some ⟨pb, po + m * 6, none⟩)), (51, .bool false)] { dst := some 0, op := Go.Op.load 3 (Go.Operand.const (.pointer (some ⟨pb, po + m * 6, none⟩))), type := 3, pos := "", after := #[], guard := none } 57 ⟨.inn 12 (by kernel_rfl) e12, .inn 7 (by kernel_rfl) e7, trivial⟩ (by kernel_rfl) (by kernel_rfl) (by kernel_rfl) rfl rfl rfl ?_
                        clear hd e12 e7
                        have k0 := ext_cell hx k0
                        go_wp2
                        exact ⟨rfl, Ext.refl _, rfl⟩
                      · intro vals w1 hx hd
                        have e7 : vals 7 = .bool false := hd 7 (by decide)
                        refine .run [(10, .pointer (some ⟨g10, 0, none⟩)), (51, .bool false)] { dst := some 0, op := Go.Op.fieldAddr 74 (Go.Operand.const (.pointer (some ⟨g10, 0, none⟩))) 3, type := 0, pos := "", after := #[], guard := none } 58 ⟨.out (by kernel_rfl) (by kernel_rfl), .inn 7 (by kernel_rfl) e7, trivial⟩ (by kernel_rfl) (by kernel_rfl) (by kernel_rfl) rfl rfl rfl ?_
                        clear hd e7
                        go_wp2
                        exact ⟨rfl, Ext.refl _, rfl⟩
                      · intro vals w1 hx hd
                        have e14 : vals 14 = .pointer (some ⟨g10, 3, none⟩) := hd 14 (by decide)
                        have e7 : vals 7 = .bool false := hd 7 (by decide)
                        refine .run [(58, .pointer (some ⟨g10, 3, none⟩)), (51, .bool false)] { dst := some 0, op := Go.Op.load 3 (Go.Operand.const (.pointer (some ⟨g10, 3, none⟩))), type := 3, pos := "", after := #[], guard := none } 59 ⟨.inn 14 (by kernel_rfl) e14, .inn 7 (by kernel_rfl) e7, trivial⟩ (by kernel_rfl) (by kernel_rfl) (by kernel_rfl) rfl rfl rfl ?_
                        clear hd e14 e7
                        have d3 := ext_cell hx d3
                        go_wp2
                        exact ⟨rfl, Ext.refl _, rfl⟩
                      · intro vals w1 hx hd
                        have e13 : vals 13 = .int .i64 s2 := hd 13 (by decide)
                        have e15 : vals 15 = .int .i64 sat := hd 15 (by decide)
                        have e7 : vals 7 = .bool false := hd 7 (by decide)
                        refine .run [(57, .int .i64 s2), (59, .int .i64 sat), (51, .bool false)] { dst := some 0, op := Go.Op.binOp Go.BinOp.neq 3 (Go.Operand.const (.int .i64 s2)) (Go.Operand.const (.int .i64 sat)) 3, type := 4, pos := "", after := #[], guard := none } 60 ⟨.inn 13 (by kernel_rfl) e13, .inn 15 (by kernel_rfl) e15, .inn 7 (by kernel_rfl) e7, trivial⟩ (by kernel_rfl) (by kernel_rfl) (by kernel_rfl) rfl rfl rfl ?_
                        clear hd e13 e15 e7
                        go_wp2
                        exact ⟨rfl, Ext.refl _, rfl⟩
                      · intro vals w1 hx hd
                        have e7 : vals 7 = .bool false := hd 7 (by decide)
                        have e16 : vals 16 = .bool false := hd 16 (by decide)
                        refine .run [(51, .bool false), (60, .bool false)] { dst := some 0, op := Go.Op.pick (Go.Operand.const (.bool false)) (Go.Operand.const (Go.Value.bool true)) (Go.Operand.const (.bool false)), type := 4, pos := "", after := #[], guard := none } 61 ⟨.inn 7 (by kernel_rfl) e7, .inn 16 (by kernel_rfl) e16, trivial⟩ (by kernel_rfl) (by kernel_rfl) (by kernel_rfl) rfl rfl rfl ?_
                        clear hd e7 e16
                        go_wp2
                        exact ⟨rfl, Ext.refl _, rfl⟩
                      · intro vals w1 hx hd
                        have e17 : vals 17 = .bool false := hd 17 (by decide)
                        refine .run [(61, .bool false)] { dst := some 0, op := Go.Op.move (Go.Operand.const (.bool false)), type := 4, pos := "", after := #[], guard := none } 62 ⟨.inn 17 (by kernel_rfl) e17, trivial⟩ (by kernel_rfl) (by kernel_rfl) (by kernel_rfl) rfl rfl rfl ?_
                        clear hd e17
                        go_wp2
                        exact ⟨rfl, Ext.refl _, rfl⟩
                      · intro vals w1 hx hd
                        have e18 : vals 18 = .bool false := hd 18 (by decide)
                        refine .run [(13, .pointer (some ⟨g13, 0, none⟩)), (62, .bool false)] { dst := some 0, op := Go.Op.load 26 (Go.Operand.const (.pointer (some ⟨g13, 0, none⟩))), type := 26, pos := "", after := #[], guard := none } 63 ⟨.out (by kernel_rfl) (by kernel_rfl), .inn 18 (by kernel_rfl) e18, trivial⟩ (by kernel_rfl) (by kernel_rfl) (by kernel_rfl) rfl rfl rfl ?_
                        clear hd e18
                        have u0 := ext_cell hx u0
                        have u1 := ext_cell hx u1
                        have u2 := ext_cell hx u2
                        go_wp2
                        exact ⟨rfl, Ext.refl _, rfl⟩
                      · intro vals w1 hx hd
                        have e19 : vals 19 = .agg #[.int .i64 sat, .int .i64 fr, .int .i64 tt] := hd 19 (by decide)
                        have e18 : vals 18 = .bool false := hd 18 (by decide)
                        refine .run [(63, .agg #[.int .i64 sat, .int .i64 fr, .int .i64 tt]), (62, .bool false)] { dst := some 0, op := Go.Op.call { callee := Go.Callee.value (Go.Operand.func 47), args := #[(Go.Operand.const (.agg #[.int .i64 sat, .int .i64 fr, .int .i64 tt]))], argTypes := #[26] }, type := 4, pos := "", after := #[], guard := none } 64 ⟨.inn 19 (by kernel_rfl) e19, .inn 18 (by kernel_rfl) e18, trivial⟩ (by kernel_rfl) (by kernel_rfl) (by kernel_rfl) rfl rfl rfl ?_
                        clear hd e19 e18
                        go_wp2_with (fail)
                        refine (HFO.out _).mono ?_
                        rintro e w' ⟨rfl, hb2⟩
                        go_wp2
                        exact ⟨rfl, hb2, rfl⟩
                      · intro vals w1 hx hd
                        have e20 : vals 20 = .bool true := hd 20 (by decide)
                        have e18 : vals 18 = .bool false := hd 18 (by decide)
                        refine .run [(64, .bool true), (62, .bool false)] { dst := some 0, op := Go.Op.unOp Go.UnOp.not 4 (Go.Operand.const (.bool true)), type := 4, pos := "", after := #[], guard := none } 65 ⟨.inn 20 (by kernel_rfl) e20, .inn 18 (by kernel_rfl) e18, trivial⟩ (by kernel_rfl) (by kernel_rfl) (by kernel_rfl) rfl rfl rfl ?_
                        clear hd e20 e18
                        go_wp2
                        exact ⟨rfl, Ext.refl _, rfl⟩
                    intro vals W6 hy hf
                    have e18 : vals 18 = .bool false := hf 18 (by omega)
                    have e21 : vals 21 = .bool false := hf 21 (by omega)
                    have hx6 := Ext.trans hx5 hy.undrew
                    have hy := hy.undrew
                    clear hf d0
                    refine tail1 22 _ (by kernel_rfl) (by kernel_rfl) rfl ?_
                    simp only [Lf, dstAt, Act.put, List.getElem?_toArray, List.getElem?_cons_zero, List.getElem?_cons_succ, Option.bind_some, List.setIfInBounds_toArray, List.set_cons_zero, List.set_cons_succ]
                    rw [e18, e21]
                    clear e18 e21
                    have k1 := ext_cell hy k1
                    have d0 : W6.cell? ⟨g12, 0, none⟩ = some (.int .i64 m) := (HS5.out.ext hy).cell 0
                    have u0 := ext_cell hy u0
                    have u1 := ext_cell hy u1
                    have u2 := ext_cell hy u2
                    have HW6 := Lib.hid (own_ext HW5.out hy)
                    have HJ6 := Lib.hid (HJ5.out.ext hy)
                    clear d3 k0 HW5 HJ5 HS5 HU5 HI HFO hy hx5
                    have h0m : (0 : Int) ≤ (m : Int) := by omega
                    by_cases hst : st2 = st
                    · have HN : Hid (slotsL ps st sat (sl.drop (j + 1)) (o1 ++ [⟨sat, fr, tt⟩]) = V) := Lib.hid (by have := HS6.out; rw [if_pos hst] at this; exact this)
                      clear HS6
                      obtain ⟨A1, c1, hv, _, _⟩ := own_slice HW6.out
                      subst hv
                      have hxa : Ext W6 (W6.alloc (.cells #[.int .i64 sat, .int .i64 fr, .int .i64 tt] 26)) := bl_alloc (Below.refl _ _) _
                      have hrow := own_ext HW6.out hxa
                      have hx7 := Ext.trans hx6 hxa
                      have HJ7 := HJ6.out.ext hxa
                      have jx : Blk (W6.alloc (.cells #[.int .i64 sat, .int .i64 fr, .int .i64 tt] 26)) W6.heap.size 26 #[.int .i64 sat, .int .i64 fr, .int .i64 tt] := Blk.new _ _ _
                      obtain ⟨w7, hw7⟩ : ∃ w7, w7 = W6.alloc (.cells #[.int .i64 sat, .int .i64 fr, .int .i64 tt] 26) := ⟨_, rfl⟩
                      obtain ⟨gx, hgx⟩ : ∃ g, g = W6.heap.size := ⟨_, rfl⟩
                      rw [← hw7] at hx7 hrow jx HJ7
                      rw [← hgx] at jx
                      have hBs := Below.size hx7
                      obtain ⟨q0, hi0, hz0, hz1, hz2⟩ := info_parts info_use
                      obtain ⟨v2, W7, hr, hrow2, hg2, -⟩ := run_append_own (P := Try.prog) w7 w.heap.size 27 27 26 q0 _ 3 24 Try.underlying27 hi0 hz0 hz1 hz2 rfl (by omega) _ _ _ hrow ⟨gx, 0, none⟩ 1 1 (useCells ⟨sat, fr, tt⟩) rfl (by intro i u hu; rw [Addr.add_lit, Nat.zero_add, jx.cell]; simpa [useCells] using hu) (by simp [useCells, Value.oneCell']) (by unfold maxLen; omega) (by omega) (by omega)
                      have hx8 : Ext w W7 := hx7.grown hg2 hBs (fun q e => (World.ownsRow.lt hrow q e).1)
                      have HW8 : Hid (W7.ownsRow w.heap.size 26 3 v2 (o1 ++ [(⟨sat, fr, tt⟩ : Use)]).length ((o1 ++ [(⟨sat, fr, tt⟩ : Use)]).flatMap useCells)) := Lib.hid (by rw [List.length_append, List.flatMap_append]; simpa [useCells] using hrow2)
                      have HJ8 := Lib.hid (HJ7.grown hg2 (fun e => own_blk_ne hrow HJ7 (by decide) e.symm))
                      rw [hw7, hgx] at hr
                      have HRUN := Lib.hid hr
                      have hol8 : (o1 ++ [(⟨sat, fr, tt⟩ : Use)]).length ≤ k * 6 + (j + 1) := by rw [List.length_append]; simp; omega
                      generalize o1 ++ [(⟨sat, fr, tt⟩ : Use)] = o9 at HN HW8 hol8
                      clear hr hrow hrow2 hg2 jx hx7 hBs HW6 HJ6 HJ7 hw7 hgx hi0 hz0 hz1 hz2 hxa
                      go_wp2_with (refine wpList_append_run_ rfl _ _ _ rfl rfl rfl HRUN.out ?_)
                      clear HRUN
                      go_roundw
                      case rel => exact ⟨j + 1, o9, by omega, by go_num, HN, HW8, hol8, HJ8, hx8⟩
                      case measure => simp [intOf]; omega
                    · have HN : Hid (slotsL ps st sat (sl.drop (j + 1)) o1 = V) := Lib.hid (by have := HS6.out; rw [if_neg hst] at this; exact this)
                      clear HS6
                      go_wp2_with fail
                      go_roundw
                      case rel => exact ⟨j + 1, o1, by omega, by go_num, HN, HW6, by omega, HJ6, hx6⟩
                      case measure => simp [intOf]; omega
                · have HS6 := HS7
                  clear HS7
                  have hVn : V = none := by rw [← HS6.out, decide_eq_false hq2]; rfl
                  have HRN : Hid (R = ([], 170)) := Lib.hid (by rw [HR.out, ← HS3.out, hVn]; rfl)
                  clear hVn HS6 HS3 HR
                  refine wp_region_obl 22 (fun ix vals v w1 => match ix with | 0 => v = .pointer (some ⟨g12, 0, none⟩) | 1 => v = .int .i64 m | 2 => v = .slice (some ⟨pb, po, none⟩) pn pc | 3 => v = .int .i64 pn | 4 => v = .int .i64 (pn - 1) | 5 => v = .bool true | 6 => v = .bool false | 7 => v = .bool false | 8 => v = .slice (some ⟨pb, po, none⟩) pn pc | 9 => v = .pointer (some ⟨g12, 0, none⟩) | 10 => v = .int .i64 m | 11 => v = .pointer (some ⟨pb, po + m * 6, none⟩) | 12 => v = .pointer (some ⟨pb, po + m * 6, none⟩) | 13 => v = .int .i64 s2 | 14 => v = .pointer (some ⟨g10, 3, none⟩) | 15 => v = .int .i64 sat | 16 => v = .bool true | 17 => v = .bool true | 18 => v = .bool true | 19 => v = undef | 20 => v = undef | _ => v = undef) (by kernel_rfl) (by kernel_rfl) ?_ ?_ ?_ ?_
                  · intro ix vals v w1 w2 hi hr hx
                    match ix, hr with
                    | 0, hr => exact hr
                    | 1, hr => exact hr
                    | 2, hr => exact hr
                    | 3, hr => exact hr
                    | 4, hr => exact hr
                    | 5, hr => exact hr
                    | 6, hr => exact hr
                    | 7, hr => exact hr
                    | 8, hr => exact hr
                    | 9, hr => exact hr
                    | 10, hr => exact hr
                    | 11, hr => exact hr
                    | 12, hr => exact hr
                    | 13, hr => exact hr
                    | 14, hr => exact hr
                    | 15, hr => exact hr
                    | 16, hr => exact hr
                    | 17, hr => exact hr
                    | 18, hr => exact hr
                    | 19, hr => exact hr
                    | 20, hr => exact hr
                    | (kx + 21), hr => exact hr
                  · intro ix vals vals_ v w1 hi hv hr
                    exact hr
                  · refine obls_ofT [some 44, some 45, some 46, some 47, some 48, some 49, some 50, some 51, some 52, some 53, some 54, some 55, some 56, some 57, some 58, some 59, some 60, some 61, some 62, some 63, some 64, some 65, some 66] [(12, .pointer (some ⟨g12, 0, none⟩)), (1, .slice (some ⟨pb, po, none⟩) pn pc), (10, .pointer (some ⟨g10, 0, none⟩)), (13, .pointer (some ⟨g13, 0, none⟩))] 82 (by kernel_rfl) (by kernel_rfl) ⟨by kernel_rfl, by kernel_rfl, by kernel_rfl, by kernel_rfl, trivial⟩ ?_
                    refine ⟨?_, ?_, ?_, ?_, ?_, ?_, ?_, ?_, ?_, ?_, ?_, ?_, ?_, ?_, ?_, ?_, ?_, ?_, ?_, ?_, ?_, ?_, trivial⟩
                    · intro vals w1 hx hd
                      refine .run [(12, .pointer (some ⟨g12, 0, none⟩))] { dst := some 0, op := Go.Op.fieldAddr 71 (Go.Operand.const (.pointer (some ⟨g12, 0, none⟩))) 0, type := 0, pos := "", after := #[], guard := none } 44 ⟨.out (by kernel_rfl) (by kernel_rfl), trivial⟩ (by kernel_rfl) (by kernel_rfl) (by kernel_rfl) rfl rfl rfl ?_
                      clear hd
                      go_wp2
                      exact ⟨rfl, Ext.refl _, rfl⟩
                    · intro vals w1 hx hd
                      have e0 : vals 0 = .pointer (some ⟨g12, 0, none⟩) := hd 0 (by decide)
                      refine .run [(44, .pointer (some ⟨g12, 0, none⟩))] { dst := some 0, op := Go.Op.load 3 (Go.Operand.const (.pointer (some ⟨g12, 0, none⟩))), type := 3, pos := "", after := #[], guard := none } 45 ⟨.inn 0 (by kernel_rfl) e0, trivial⟩ (by kernel_rfl) (by kernel_rfl) (by kernel_rfl) rfl rfl rfl ?_
                      clear hd e0
                      have d0 := ext_cell hx d0
                      go_wp2
                      exact ⟨rfl, Ext.refl _, rfl⟩
                    · intro vals w1 hx hd
                      refine .run [(1, .slice (some ⟨pb, po, none⟩) pn pc)] { dst := some 0, op := Go.Op.move (Go.Operand.const (.slice (some ⟨pb, po, none⟩) pn pc)), type := 34, pos := "", after := #[], guard := none } 46 ⟨.out (by kernel_rfl) (by kernel_rfl), trivial⟩ (by kernel_rfl) (by kernel_rfl) (by kernel_rfl) rfl rfl rfl ?_
                      clear hd
                      go_wp2
                      exact ⟨rfl, Ext.refl _, rfl⟩
                    · intro vals w1 hx hd
                      have e2 : vals 2 = .slice (some ⟨pb, po, none⟩) pn pc := hd 2 (by decide)
                      refine .run [(46, .slice (some ⟨pb, po, none⟩) pn pc)] { dst := some 0, op := Go.Op.call { callee := Go.Callee.builtin Go.Builtin.len, args := #[(Go.Operand.const (.slice (some ⟨pb, po, none⟩) pn pc))], argTypes := #[34] }, type := 3, pos := "", after := #[], guard := none } 47 ⟨.inn 2 (by kernel_rfl) e2, trivial⟩ (by kernel_rfl) (by kernel_rfl) (by kernel_rfl) rfl rfl rfl ?_
                      clear hd e2
                      go_wp2
                      exact ⟨rfl, Ext.refl _, rfl⟩
                    · intro vals w1 hx hd
                      have e3 : vals 3 = .int .i64 pn := hd 3 (by decide)
                      refine .run [(47, .int .i64 pn)] { dst := some 0, op := Go.Op.binOp Go.BinOp.sub 3 (Go.Operand.const (.int .i64 pn)) (Go.Operand.const (Go.Value.int Go.IntKind.i64 1)) 3, type := 3, pos := "", after := #[], guard := none } 48 ⟨.inn 3 (by kernel_rfl) e3, trivial⟩ (by kernel_rfl) (by kernel_rfl) (by kernel_rfl) rfl rfl rfl ?_
                      clear hd e3
                      go_wp2
                      exact ⟨rfl, Ext.refl _, rfl⟩
                    · intro vals w1 hx hd
                      have e1 : vals 1 = .int .i64 m := hd 1 (by decide)
                      have e4 : vals 4 = .int .i64 (pn - 1) := hd 4 (by decide)
                      refine .run [(45, .int .i64 m), (48, .int .i64 (pn - 1))] { dst := some 0, op := Go.Op.call { callee := Go.Callee.value (Go.Operand.func 53), args := #[(Go.Operand.const (.int .i64 m)), Go.Operand.const (Go.Value.int Go.IntKind.i64 0), (Go.Operand.const (.int .i64 (pn - 1)))], argTypes := #[3, 3, 3] }, type := 4, pos := "", after := #[], guard := none } 49 ⟨.inn 1 (by kernel_rfl) e1, .inn 4 (by kernel_rfl) e4, trivial⟩ (by kernel_rfl) (by kernel_rfl) (by kernel_rfl) rfl rfl rfl ?_
                      clear hd e1 e4
                      go_wp2_with (go_at_call 53; refine (HI.out _).mono ?_; rintro e w' ⟨rfl, rfl⟩)
                      exact ⟨rfl, Ext.refl _, rfl⟩
                    · intro vals w1 hx hd
                      have e5 : vals 5 = .bool true := hd 5 (by decide)
                      refine .run [(49, .bool true)] { dst := some 0, op := Go.Op.unOp Go.UnOp.not 4 (Go.Operand.const (.bool true)), type := 4, pos := "", after := #[], guard := none } 50 ⟨.inn 5 (by kernel_rfl) e5, trivial⟩ (by kernel_rfl) (by kernel_rfl) (by kernel_rfl) rfl rfl rfl ?_
                      clear hd e5
                      go_wp2
                      exact ⟨rfl, Ext.refl _, rfl⟩
                    · intro vals w1 hx hd
                      have e6 : vals 6 = .bool false := hd 6 (by decide)
                      refine .run [(50, .bool false)] { dst := some 0, op := Go.Op.move (Go.Operand.const (.bool false)), type := 4, pos := "", after := #[], guard := none } 51 ⟨.inn 6 (by kernel_rfl) e6, trivial⟩ (by kernel_rfl) (by kernel_rfl) (by kernel_rfl) rfl rfl rfl ?_
                      clear hd e6
                      go_wp2
                      exact ⟨rfl, Ext.refl _, rfl⟩
                    · intro vals w1 hx hd
                      have e7 : vals 7 = .bool false := hd 7 (by decide)
                      refine .run [(1, .slice (some ⟨pb, po, none⟩) pn pc), (51, .bool false)] { dst := some 0, op := Go.Op.move (Go.Operand.const (.slice (some ⟨pb, po, none⟩) pn pc)), type := 34, pos := "", after := #[], guard := none } 52 ⟨.out (by kernel_rfl) (by kernel_rfl), .inn 7 (by kernel_rfl) e7, trivial⟩ (by kernel_rfl) (by kernel_rfl) (by kernel_rfl) rfl rfl rfl ?_
                      clear hd e7
                      go_wp2
                      exact ⟨rfl, Ext.refl _, rfl⟩
                    · intro vals w1 hx hd
                      have e7 : vals 7 = .bool false := hd 7 (by decide)
                      refine .run [(12, .pointer (some ⟨g12, 0, none⟩)), (51, .bool false)] { dst := some 0, op := Go.Op.fieldAddr 71 (Go.Operand.const (.pointer (some ⟨g12, 0, none⟩))) 0, type := 0, pos := "", after := #[], guard := none } 53 ⟨.out (by kernel_rfl) (by kernel_rfl), .inn 7 (by kernel_rfl) e7, trivial⟩ (by kernel_rfl) (by kernel_rfl) (by kernel_rfl) rfl rfl rfl ?_
                      clear hd e7
                      go_wp2
                      exact ⟨rfl, Ext.refl _, rfl⟩
                    · intro vals w1 hx hd
                      have e9 : vals 9 = .pointer (some ⟨g12, 0, none⟩) := hd 9 (by decide)
                      have e7 : vals 7 = .bool false := hd 7 (by decide)
                      refine .run [(53, .pointer (some ⟨g12, 0, none⟩)), (51, .bool false)] { dst := some 0, op := Go.Op.load 3 (Go.Operand.const (.pointer (some ⟨g12, 0, none⟩))), type := 3, pos := "", after := #[], guard := none } 54 ⟨.inn 9 (by kernel_rfl) e9, .inn 7 (by kernel_rfl) e7, trivial⟩ (by kernel_rfl) (by kernel_rfl) (by kernel_rfl) rfl rfl rfl ?_
                      clear hd e9 e7
                      have d0 := ext_cell hx d0
                      have h0m : (0 : Int) ≤ (m : Int) := by omega
                      go_wp2
                      exact ⟨rfl, Ext.refl _, rfl⟩
                    · intro vals w1 hx hd
                      have e8 : vals 8 = .slice (some ⟨pb, po, none⟩) pn pc := hd 8 (by decide)
                      have e10 : vals 10 = .int .i64 m := hd 10 (by decide)
                      have e7 : vals 7 = .bool false := hd 7 (by decide)
                      refine .run [(52, .slice (some ⟨pb, po, none⟩) pn pc), (54, .int .i64 m), (51, .bool false)] { dst := some 0, op := Go.Op.indexAddr 34 (Go.Operand.const (.slice (some ⟨pb, po, none⟩) pn pc)) (Go.Operand.const (.int .i64 m)), type := 0, pos := "", after := #[], guard := none } 55 ⟨.inn 8 (by kernel_rfl) e8, .inn 10 (by kernel_rfl) e10, .inn 7 (by kernel_rfl) e7, trivial⟩ (by kernel_rfl) (by kernel_rfl) (by kernel_rfl) rfl rfl rfl ?_
                      clear hd e8 e10 e7
                      have h0m : (0 : Int) ≤ (m : Int) := by omega
                      go_wp2
                      exact ⟨rfl, Ext.refl _, rfl⟩
                    · intro vals w1 hx hd
                      have e11 : vals 11 = .pointer (some ⟨pb, po + m * 6, none⟩) := hd 11 (by decide)
                      have e7 : vals 7 = .bool false := hd 7 (by decide)
                      refine .run [(55, .pointer (some ⟨pb, po + m * 6, none⟩)), (51, .bool false)] { dst := some 0, op := Go.Op.fieldAddr 76 (Go.Operand.const (.pointer (some ⟨pb, po + m * 6, none⟩))) 0, type := 0, pos := "", after := #[], guard := none } 56 ⟨.inn 11 (by kernel_rfl) e11, .inn 7 (by kernel_rfl) e7, trivial⟩ (by kernel_rfl) (by kernel_rfl) (by kernel_rfl) rfl rfl rfl ?_
                      clear hd e11 e7
                      go_wp2
                      exact ⟨rfl, Ext.refl _, rfl⟩
                    · intro vals w1 hx hd
                      have e12 : vals 12 = .pointer (some ⟨pb, po + m * 6, none⟩) := hd 12 (by decide)
                      have e7 : vals 7 = .bool false := hd 7 (by decide)
                      refine .run [(56, .pointer (some ⟨pb, po + m * 6, none⟩)), (51, .bool false)] { dst := some 0, op := Go.Op.load 3 (Go.Operand.const (.pointer (some ⟨pb, po + m * 6, none⟩))), type := 3, pos := "", after := #[], guard := none } 57 ⟨.inn 12 (by kernel_rfl) e12, .inn 7 (by kernel_rfl) e7, trivial⟩ (by kernel_rfl) (by kernel_rfl) (by kernel_rfl) rfl rfl rfl ?_
                      clear hd e12 e7
                      have k0 := ext_cell hx k0
                      go_wp2
                      exact ⟨rfl, Ext.refl _, rfl⟩
                    · intro vals w1 hx hd
                      have e7 : vals 7 = .bool false := hd 7 (by decide)
                      refine .run [(10, .pointer (some ⟨g10, 0, none⟩)), (51, .bool false)] { dst := some 0, op := Go.Op.fieldAddr 74 (Go.Operand.const (.pointer (some ⟨g10, 0, none⟩))) 3, type := 0, pos := "", after := #[], guard := none } 58 ⟨.out (by kernel_rfl) (by kernel_rfl), .inn 7 (by kernel_rfl) e7, trivial⟩ (by kernel_rfl) (by kernel_rfl) (by kernel_rfl) rfl rfl rfl ?_
                      clear hd e7
                      go_wp2
                      exact ⟨rfl, Ext.refl _, rfl⟩
                    · intro vals w1 hx hd
                      have e14 : vals 14 = .pointer (some ⟨g10, 3, none⟩) := hd 14 (by decide)
                      have e7 : vals 7 = .bool false := hd 7 (by decide)
                      refine .run [(58, .pointer (some ⟨g10, 3, none⟩)), (51, .bool false)] { dst := some 0, op := Go.Op.load 3 (Go.Operand.const (.pointer (some ⟨g10, 3, none⟩))), type := 3, pos := "", after := #[], guard := none } 59 ⟨.inn 14 (by kernel_rfl) e14, .inn 7 (by kernel_rfl) e7, trivial⟩ (by kernel_rfl) (by kernel_rfl) (by kernel_rfl) rfl rfl rfl ?_
                      clear hd e14 e7
                      have d3 := ext_cell hx d3
                      go_wp2
                      exact ⟨rfl, Ext.refl _, rfl⟩
                    · intro vals w1 hx hd
                      have e13 : vals 13 = .int .i64 s2 := hd 13 (by decide)
                      have e15 : vals 15 = .int .i64 sat := hd 15 (by decide)
                      have e7 : vals 7 = .bool false := hd 7 (by decide)
                      refine .run [(57, .int .i64 s2), (59, .int .i64 sat), (51, .bool false)] { dst := some 0, op := Go.Op.binOp Go.BinOp.neq 3 (Go.Operand.const (.int .i64 s2)) (Go.Operand.const (.int .i64 sat)) 3, type := 4, pos := "", after := #[], guard := none } 60 ⟨.inn 13 (by kernel_rfl) e13, .inn 15 (by kernel_rfl) e15, .inn 7 (by kernel_rfl) e7, trivial⟩ (by kernel_rfl) (by kernel_rfl) (by kernel_rfl) rfl rfl rfl ?_
                      clear hd e13 e15 e7
                      go_wp2
                      exact ⟨rfl, Ext.refl _, by simp [hq2]⟩
                    · intro vals w1 hx hd
                      have e7 : vals 7 = .bool false := hd 7 (by decide)
                      have e16 : vals 16 = .bool true := hd 16 (by decide)
                      refine .run [(51, .bool false), (60, .bool true)] { dst := some 0, op := Go.Op.pick (Go.Operand.const (.bool false)) (Go.Operand.const (Go.Value.bool true)) (Go.Operand.const (.bool true)), type := 4, pos := "", after := #[], guard := none } 61 ⟨.inn 7 (by kernel_rfl) e7, .inn 16 (by kernel_rfl) e16, trivial⟩ (by kernel_rfl) (by kernel_rfl) (by kernel_rfl) rfl rfl rfl ?_
                      clear hd e7 e16
                      go_wp2
                      exact ⟨rfl, Ext.refl _, rfl⟩
                    · intro vals w1 hx hd
                      have e17 : vals 17 = .bool true := hd 17 (by decide)
                      refine .run [(61, .bool true)] { dst := some 0, op := Go.Op.move (Go.Operand.const (.bool true)), type := 4, pos := "", after := #[], guard := none } 62 ⟨.inn 17 (by kernel_rfl) e17, trivial⟩ (by kernel_rfl) (by kernel_rfl) (by kernel_rfl) rfl rfl rfl ?_
                      clear hd e17
                      go_wp2
                      exact ⟨rfl, Ext.refl _, rfl⟩
                    · intro vals w1 hx hd
                      have e18 : vals 18 = .bool true := hd 18 (by decide)
                      exact .no [(62, .bool true)] 63 ⟨.inn 18 (by kernel_rfl) e18, trivial⟩ (by kernel_rfl) rfl (by kernel_rfl) rfl
                    · intro vals w1 hx hd
                      have e18 : vals 18 = .bool true := hd 18 (by decide)
                      exact .no [(62, .bool true)] 64 ⟨.inn 18 (by kernel_rfl) e18, trivial⟩ (by kernel_rfl) rfl (by kernel_rfl) rfl
                    · intro vals w1 hx hd
                      have e18 : vals 18 = .bool true := hd 18 (by decide)
                      exact .no [(62, .bool true)] 65 ⟨.inn 18 (by kernel_rfl) e18, trivial⟩ (by kernel_rfl) rfl (by kernel_rfl) rfl
                  intro vals W6 hy hf
                  have e18 : vals 18 = .bool true := hf 18 (by omega)
                  have hx6 := Ext.trans hx5 hy.undrew
                  have hy := hy.undrew
                  clear hf d0
                  refine tail1 22 _ (by kernel_rfl) (by kernel_rfl) rfl ?_
                  simp only [Lf, dstAt, Act.put, List.getElem?_toArray, List.getElem?_cons_zero, List.getElem?_cons_succ, Option.bind_some, List.setIfInBounds_toArray, List.set_cons_zero, List.set_cons_succ]
                  rw [e18]
                  clear e18
                  go_wp2_with fail
                  rw [HRN.out]
                  exact bodyPost_ret (v := .tuple #[.slice none 0 0, .int .i64 170]) (by simp [results, Try.results31, go_sem]) rfl ⟨_, rfl, World.ownsRow_nil _ _ _ _, hx6⟩
            · have hs := HV.out
              rw [List.drop_of_length_le (by rw [HSN.out]; omega), slotsL] at hs
              have HS4 : Hid (usesL ps st (os.drop (k + 1)) o1 = U) := Lib.hid (by rw [← HS3.out, ← hs]; rfl)
              clear hs HV HS3
              go_wp2
              go_roundw
              case rel => exact ⟨k + 1, o1, by omega, by go_num, HS4, HW, by omega, hx⟩
              case measure => simp [intOf]; omega
        · have h6' : (6 : Int) < (sn : Int) := by omega
          have hU : U = none := by rw [← HS2.out, if_neg h6]
          have HRN : Hid (R = ([], 170)) := Lib.hid (by rw [HR.out, hU]; rfl)
          clear hU HS2 HR
          go_wp2_with fail
          rw [HRN.out]
          exact bodyPost_ret (v := .tuple #[.slice none 0 0, .int .i64 170]) (by simp [results, Try.results31, go_sem]) rfl ⟨_, rfl, World.ownsRow_nil _ _ _ _, hx3⟩
      · have hs := HS.out
        rw [List.drop_of_length_le (by rw [HOL.out]; omega), usesL] at hs
        have HRN : Hid (R = (out, 0)) := Lib.hid (by rw [HR.out, ← hs]; rfl)
        obtain ⟨A1, c1, hv, _, _⟩ := own_slice HW.out
        subst hv
        clear hs HS HR
        go_wp2
        rw [HRN.out]
        exact bodyPost_ret (v := .tuple #[.slice A1 out.length c1, .int .i64 0]) (by simp [results, Try.results31, go_sem]) rfl ⟨_, rfl, HW.out, hx⟩
  · rw [if_neg h64]
    have h2 : (64 : Int) < (on : Int) ∨ (64 : Int) < (pn : Int) := by omega
    go_enter Try.func31, Try.ntmps31
    rcases h2 with h2 | h2
    · go_wp2_with fail
      exact bodyPost_ret (v := .tuple #[.slice none 0 0, .int .i64 170]) (by simp [results, Try.results31, go_sem]) rfl ⟨_, rfl, World.ownsRow_nil _ _ _ _, Ext.refl _⟩
    · go_wp2_with fail
      all_goals exact bodyPost_ret (v := .tuple #[.slice none 0 0, .int .i64 170]) (by simp [results, Try.results31, go_sem]) rfl ⟨_, rfl, World.ownsRow_nil _ _ _ _, Ext.refl _⟩
end Go.Proofs.Ytgbfhkildbhhoaa
