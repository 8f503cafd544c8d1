/- sane: the walk. -/
import Derived.Test.YtmlabgmigakcbaaP19
import Derived.Test.YtmlabgmigakcbaaP20
import Derived.Test.YtmlabgmigakcbaaP05
namespace Go.Proofs.Ytmlabgmigakcbaa
open Go.RowKit
theorem RA.nil_ {α : Type} {cells : α → List Value} {s : Nat} {w : World} {B : Nat} : RA cells s w B none 0 0 [] := ⟨Reads.none_, rfl, Nat.le_refl _, Nat.zero_le _, Nat.zero_le _⟩
theorem al1 (w : World) (t : TypeId) (cs : Array Value) : Blk (w.alloc (.cells cs t)) w.heap.size t cs ∧ Ext w (w.alloc (.cells cs t)) ∧ (w.alloc (.cells cs t)).heap.size = w.heap.size + 1 := ⟨Blk.new _ _ _, bl_alloc (Below.refl _ _) _, by simp⟩
theorem of_dec {b c : Bool} {w : World} {f : FuncId} {args : Array Value} {P : Program} (h : Calls P f args w fun e w' => e = .returned (.bool b) ∧ Ext w w') (hb : b = c) : Calls P f args w fun e w' => e = .returned (.bool c) ∧ Ext w w' := by rw [hb] at h; exact h
set_option maxRecDepth 100000 in
set_option maxHeartbeats 16000000 in
theorem sane_any (w : World) : Calls Try.prog 10 #[] w fun e w' => e = .returned (.bool true) ∧ Ext w w' := by
 have HEXA := Lib.hid (example_any w)
 go_enter Try.func10, Try.ntmps10
 go_wp2_with fail
 refine HEXA.out.mono ?_
 rintro e W1 ⟨k1, k2, k3, gs, rfl, hex, hx1⟩
 have HEX1 := Lib.hid hex
 clear hex HEXA
 go_upto_region 3 with (fail)
 obtain ⟨W2, hW2⟩ : ∃ W, W = (W1.alloc (.cells #[.int .i64 2] 3)).alloc (.cells #[.int .i64 7, .int .i64 2, .slice (some ⟨W1.heap.size, 0, none⟩) 1 1, .int .i64 102, .int .i64 102] 76) := ⟨_, rfl⟩
 rw [← hW2]
 obtain ⟨JA, J4, hx2⟩ := al2 W1 W2 _ _ _ _ hW2
 clear hW2
 generalize W1.heap.size + 1 = g4 at J4 ⊢
 generalize W1.heap.size = gA at JA J4 ⊢
 go_upto_region 4 with (fail)
 obtain ⟨W3, hW3⟩ : ∃ W, W = (W2.alloc (.cells #[.int .i64 0, .int .i64 1] 3)).alloc (.cells #[.int .i64 7, .int .i64 1, .slice (some ⟨W2.heap.size, 0, none⟩) 2 2, .int .i64 12, .int .i64 16] 76) := ⟨_, rfl⟩
 rw [← hW3]
 obtain ⟨JB, J5, hx3⟩ := al2 W2 W3 _ _ _ _ hW3
 clear hW3
 generalize W2.heap.size + 1 = g5 at J5 ⊢
 generalize W2.heap.size = gB at JB J5 ⊢
 go_upto_region 5 with (fail)
 obtain ⟨JC, hx4, _⟩ := al1 W3 63 #[.int .i64 3, .int .i64 7, .int .i64 14]
 generalize W3.heap.size = gC at JC ⊢
 generalize W3.alloc (.cells #[.int .i64 3, .int .i64 7, .int .i64 14] 63) = W4 at JC hx4 ⊢
 have hx24 := Ext.trans hx3 hx4
 have HJ4 := Lib.hid (J4.ext hx24)
 have HJ5 := Lib.hid (J5.ext hx4)
 have HA : Hid (RA natCells 1 W4 W4.heap.size (some ⟨gA, 0, none⟩) 1 1 [2]) := Lib.hid (RA.of_blk (JA.ext hx24) rfl rfl rfl (by omega))
 have HB : Hid (RA natCells 1 W4 W4.heap.size (some ⟨gB, 0, none⟩) 2 2 [0, 1]) := Lib.hid (RA.of_blk (JB.ext hx4) rfl rfl rfl (by omega))
 have HG : Hid (RA rcpCells 3 W4 W4.heap.size (some ⟨gC, 0, none⟩) 1 1 [⟨3, 7, 14⟩]) := Lib.hid (RA.of_blk JC rfl rfl rfl (by omega))
 have HJC := Lib.hid JC
 have HEX := Lib.hid (HEX1.out.ext (Ext.trans hx2 hx24))
 have HX4 := Lib.hid (Ext.trans hx1 (Ext.trans hx2 hx24))
 clear J4 J5 JA JB JC hx2 hx3 hx4 hx24 hx1 HEX1
 have hx := Ext.refl W4
 have a0 : W4.cell? ⟨g4, 0, none⟩ = some (.int .i64 7) := (HJ4.out.ext hx).cell 0
 have a1 : W4.cell? ⟨g4, 1, none⟩ = some (.int .i64 2) := (HJ4.out.ext hx).cell 1
 have a2 : W4.cell? ⟨g4, 2, none⟩ = some (.slice (some ⟨gA, 0, none⟩) 1 1) := (HJ4.out.ext hx).cell 2
 have a3 : W4.cell? ⟨g4, 3, none⟩ = some (.int .i64 102) := (HJ4.out.ext hx).cell 3
 have a4 : W4.cell? ⟨g4, 4, none⟩ = some (.int .i64 102) := (HJ4.out.ext hx).cell 4
 have b0 : W4.cell? ⟨g5, 0, none⟩ = some (.int .i64 7) := (HJ5.out.ext hx).cell 0
 have b1 : W4.cell? ⟨g5, 1, none⟩ = some (.int .i64 1) := (HJ5.out.ext hx).cell 1
 have b2 : W4.cell? ⟨g5, 2, none⟩ = some (.slice (some ⟨gB, 0, none⟩) 2 2) := (HJ5.out.ext hx).cell 2
 have b3 : W4.cell? ⟨g5, 3, none⟩ = some (.int .i64 12) := (HJ5.out.ext hx).cell 3
 have b4 : W4.cell? ⟨g5, 4, none⟩ = some (.int .i64 16) := (HJ5.out.ext hx).cell 4
 have HC : Hid (Calls Try.prog 35 #[.slice none 0 0, .slice none 0 0, .int .i64 50, .agg #[.int .i64 7, .int .i64 2, .slice (some ⟨gA, 0, none⟩) 1 1, .int .i64 102, .int .i64 102], .int .i64 0] W4 fun e w' => e = .returned (.bool true) ∧ Ext W4 w') := Lib.hid (of_dec (fated_any [] [] 50 fOpen 0 none none (some ⟨gA, 0, none⟩) 0 0 0 0 1 W4 RA.nil_ RA.nil_ HA.out) ev1)
 go_wp2_with fail
 refine HC.out.mono ?_
 rintro e W5 ⟨rfl, hy⟩
 have hx5 := Ext.trans hx hy
 clear a0 a1 a2 a3 a4 b0 b1 b2 b3 b4
 clear HC hx hy
 have a0 : W5.cell? ⟨g4, 0, none⟩ = some (.int .i64 7) := (HJ4.out.ext hx5).cell 0
 have a1 : W5.cell? ⟨g4, 1, none⟩ = some (.int .i64 2) := (HJ4.out.ext hx5).cell 1
 have a2 : W5.cell? ⟨g4, 2, none⟩ = some (.slice (some ⟨gA, 0, none⟩) 1 1) := (HJ4.out.ext hx5).cell 2
 have a3 : W5.cell? ⟨g4, 3, none⟩ = some (.int .i64 102) := (HJ4.out.ext hx5).cell 3
 have a4 : W5.cell? ⟨g4, 4, none⟩ = some (.int .i64 102) := (HJ4.out.ext hx5).cell 4
 have b0 : W5.cell? ⟨g5, 0, none⟩ = some (.int .i64 7) := (HJ5.out.ext hx5).cell 0
 have b1 : W5.cell? ⟨g5, 1, none⟩ = some (.int .i64 1) := (HJ5.out.ext hx5).cell 1
 have b2 : W5.cell? ⟨g5, 2, none⟩ = some (.slice (some ⟨gB, 0, none⟩) 2 2) := (HJ5.out.ext hx5).cell 2
 have b3 : W5.cell? ⟨g5, 3, none⟩ = some (.int .i64 12) := (HJ5.out.ext hx5).cell 3
 have b4 : W5.cell? ⟨g5, 4, none⟩ = some (.int .i64 16) := (HJ5.out.ext hx5).cell 4
 have HC : Hid (Calls Try.prog 35 #[.slice (some ⟨gC, 0, none⟩) 1 1, .slice none 0 0, .int .i64 50, .agg #[.int .i64 7, .int .i64 1, .slice (some ⟨gB, 0, none⟩) 2 2, .int .i64 12, .int .i64 16], .int .i64 0] W5 fun e w' => e = .returned (.bool true) ∧ Ext W5 w') := Lib.hid (of_dec (fated_any [⟨3, 7, 14⟩] [] 50 fBoth 0 (some ⟨gC, 0, none⟩) none (some ⟨gB, 0, none⟩) 1 1 0 0 2 W5 (ra_ext HG.out hx5) RA.nil_ (ra_ext HB.out hx5)) ev2)
 go_wp2_with fail
 refine HC.out.mono ?_
 rintro e W6 ⟨rfl, hy⟩
 have hx6 := Ext.trans hx5 hy
 clear a0 a1 a2 a3 a4 b0 b1 b2 b3 b4
 clear HC hx5 hy
 obtain ⟨JN, JI, hxa⟩ := al2 W6 _ 89 3 #[.int .i64 7, .int .i64 0, .bool false] #[.int .i64 1] rfl
 have HC : Hid (Calls Try.prog 35 #[.slice (some ⟨gC, 0, none⟩) 1 1, .slice (some ⟨W6.heap.size, 0, none⟩) 1 1, .int .i64 50, .agg #[.int .i64 7, .int .i64 1, .slice (some ⟨W6.heap.size + 1, 0, none⟩) 1 1, .int .i64 16, .int .i64 16], .int .i64 0] ((W6.alloc (.cells #[.int .i64 7, .int .i64 0, .bool false] 89)).alloc (.cells #[.int .i64 1] 3)) fun e w' => e = .returned (.bool true) ∧ Ext ((W6.alloc (.cells #[.int .i64 7, .int .i64 0, .bool false] 89)).alloc (.cells #[.int .i64 1] 3)) w') := Lib.hid (of_dec (fated_any [⟨3, 7, 14⟩] [⟨7, 0, false⟩] 50 fOne 0 (some ⟨gC, 0, none⟩) (some ⟨W6.heap.size, 0, none⟩) (some ⟨W6.heap.size + 1, 0, none⟩) 1 1 1 1 1 _ (ra_ext HG.out (Ext.trans hx6 hxa)) (RA.of_blk JN rfl rfl rfl (by omega)) (RA.of_blk JI rfl rfl rfl (by decide))) ev3)
 have HXA := Lib.hid (Ext.trans hx6 hxa)
 clear JN JI hxa
 go_wp2_with fail
 refine HC.out.mono ?_
 rintro e W7 ⟨rfl, hy⟩
 have hx7 := Ext.trans HXA.out hy
 clear HC hx6 hy HXA
 go_upto_region 6 with (fail)
 obtain ⟨JR, hxa, _⟩ := al1 W7 63 #[.int .i64 3, .int .i64 7, .int .i64 30]
 have hx7a := Ext.trans hx7 hxa
 have a0 : (W7.alloc (.cells #[.int .i64 3, .int .i64 7, .int .i64 30] 63)).cell? ⟨g4, 0, none⟩ = some (.int .i64 7) := (HJ4.out.ext hx7a).cell 0
 have a1 : (W7.alloc (.cells #[.int .i64 3, .int .i64 7, .int .i64 30] 63)).cell? ⟨g4, 1, none⟩ = some (.int .i64 2) := (HJ4.out.ext hx7a).cell 1
 have a2 : (W7.alloc (.cells #[.int .i64 3, .int .i64 7, .int .i64 30] 63)).cell? ⟨g4, 2, none⟩ = some (.slice (some ⟨gA, 0, none⟩) 1 1) := (HJ4.out.ext hx7a).cell 2
 have a3 : (W7.alloc (.cells #[.int .i64 3, .int .i64 7, .int .i64 30] 63)).cell? ⟨g4, 3, none⟩ = some (.int .i64 102) := (HJ4.out.ext hx7a).cell 3
 have a4 : (W7.alloc (.cells #[.int .i64 3, .int .i64 7, .int .i64 30] 63)).cell? ⟨g4, 4, none⟩ = some (.int .i64 102) := (HJ4.out.ext hx7a).cell 4
 have b0 : (W7.alloc (.cells #[.int .i64 3, .int .i64 7, .int .i64 30] 63)).cell? ⟨g5, 0, none⟩ = some (.int .i64 7) := (HJ5.out.ext hx7a).cell 0
 have b1 : (W7.alloc (.cells #[.int .i64 3, .int .i64 7, .int .i64 30] 63)).cell? ⟨g5, 1, none⟩ = some (.int .i64 1) := (HJ5.out.ext hx7a).cell 1
 have b2 : (W7.alloc (.cells #[.int .i64 3, .int .i64 7, .int .i64 30] 63)).cell? ⟨g5, 2, none⟩ = some (.slice (some ⟨gB, 0, none⟩) 2 2) := (HJ5.out.ext hx7a).cell 2
 have b3 : (W7.alloc (.cells #[.int .i64 3, .int .i64 7, .int .i64 30] 63)).cell? ⟨g5, 3, none⟩ = some (.int .i64 12) := (HJ5.out.ext hx7a).cell 3
 have b4 : (W7.alloc (.cells #[.int .i64 3, .int .i64 7, .int .i64 30] 63)).cell? ⟨g5, 4, none⟩ = some (.int .i64 16) := (HJ5.out.ext hx7a).cell 4
 clear hx7a
 have HC : Hid (Calls Try.prog 35 #[.slice (some ⟨W7.heap.size, 0, none⟩) 1 1, .slice none 0 0, .int .i64 50, .agg #[.int .i64 7, .int .i64 2, .slice (some ⟨gA, 0, none⟩) 1 1, .int .i64 102, .int .i64 102], .int .i64 1] (W7.alloc (.cells #[.int .i64 3, .int .i64 7, .int .i64 30] 63)) fun e w' => e = .returned (.bool true) ∧ Ext (W7.alloc (.cells #[.int .i64 3, .int .i64 7, .int .i64 30] 63)) w') := Lib.hid (of_dec (fated_any [⟨3, 7, 30⟩] [] 50 fOpen 1 (some ⟨W7.heap.size, 0, none⟩) none (some ⟨gA, 0, none⟩) 1 1 0 0 1 _ (RA.of_blk JR rfl rfl rfl (by omega)) RA.nil_ (ra_ext HA.out (Ext.trans hx7 hxa))) ev4)
 have HXA := Lib.hid (Ext.trans hx7 hxa)
 clear JR hxa
 go_wp2_with fail
 refine HC.out.mono ?_
 rintro e W8 ⟨rfl, hy⟩
 have hx8 := Ext.trans HXA.out hy
 clear a0 a1 a2 a3 a4 b0 b1 b2 b3 b4
 clear HC hx7 hy HXA
 have HC : Hid (Calls Try.prog 35 #[.slice none 0 0, .slice none 0 0, .int .i64 102, .agg #[.int .i64 7, .int .i64 3, .slice none 0 0, .int .i64 0, .int .i64 0], .int .i64 0] W8 fun e w' => e = .returned (.bool true) ∧ Ext W8 w') := Lib.hid (of_dec (fated_any [] [] 102 fLost 0 none none none 0 0 0 0 0 W8 RA.nil_ RA.nil_ RA.nil_) ev5)
 go_wp2_with fail
 refine HC.out.mono ?_
 rintro e W9 ⟨rfl, hy⟩
 have hx9 := Ext.trans hx8 hy
 clear HC hx8 hy
 go_upto_region 7 with (fail)
 have a0 : W9.cell? ⟨g4, 0, none⟩ = some (.int .i64 7) := (HJ4.out.ext hx9).cell 0
 have a1 : W9.cell? ⟨g4, 1, none⟩ = some (.int .i64 2) := (HJ4.out.ext hx9).cell 1
 have a2 : W9.cell? ⟨g4, 2, none⟩ = some (.slice (some ⟨gA, 0, none⟩) 1 1) := (HJ4.out.ext hx9).cell 2
 have a3 : W9.cell? ⟨g4, 3, none⟩ = some (.int .i64 102) := (HJ4.out.ext hx9).cell 3
 have a4 : W9.cell? ⟨g4, 4, none⟩ = some (.int .i64 102) := (HJ4.out.ext hx9).cell 4
 have b0 : W9.cell? ⟨g5, 0, none⟩ = some (.int .i64 7) := (HJ5.out.ext hx9).cell 0
 have b1 : W9.cell? ⟨g5, 1, none⟩ = some (.int .i64 1) := (HJ5.out.ext hx9).cell 1
 have b2 : W9.cell? ⟨g5, 2, none⟩ = some (.slice (some ⟨gB, 0, none⟩) 2 2) := (HJ5.out.ext hx9).cell 2
 have b3 : W9.cell? ⟨g5, 3, none⟩ = some (.int .i64 12) := (HJ5.out.ext hx9).cell 3
 have b4 : W9.cell? ⟨g5, 4, none⟩ = some (.int .i64 16) := (HJ5.out.ext hx9).cell 4
 obtain ⟨JF, hxa, _⟩ := al1 W9 76 #[.int .i64 7, .int .i64 1, .slice (some ⟨gB, 0, none⟩) 2 2, .int .i64 12, .int .i64 16, .int .i64 7, .int .i64 2, .slice (some ⟨gA, 0, none⟩) 1 1, .int .i64 102, .int .i64 102]
 have HC : Hid (Calls Try.prog 20 #[.slice (some ⟨W9.heap.size, 0, none⟩) 2 2] (W9.alloc (.cells #[.int .i64 7, .int .i64 1, .slice (some ⟨gB, 0, none⟩) 2 2, .int .i64 12, .int .i64 16, .int .i64 7, .int .i64 2, .slice (some ⟨gA, 0, none⟩) 1 1, .int .i64 102, .int .i64 102] 76)) fun e w' => ∃ v, e = .returned v ∧ OwnE w' (W9.alloc (.cells #[.int .i64 7, .int .i64 1, .slice (some ⟨gB, 0, none⟩) 2 2, .int .i64 12, .int .i64 16, .int .i64 7, .int .i64 2, .slice (some ⟨gA, 0, none⟩) 1 1, .int .i64 102, .int .i64 102] 76)).heap.size v [⟨16, 7⟩] ∧ Ext (W9.alloc (.cells #[.int .i64 7, .int .i64 1, .slice (some ⟨gB, 0, none⟩) 2 2, .int .i64 12, .int .i64 16, .int .i64 7, .int .i64 2, .slice (some ⟨gA, 0, none⟩) 1 1, .int .i64 102, .int .i64 102] 76)) w') := Lib.hid (by
  have h := Delivered_any [⟨fBoth, some ⟨gB, 0, none⟩, 2⟩, ⟨fOpen, some ⟨gA, 0, none⟩, 1⟩] (some ⟨W9.heap.size, 0, none⟩) 2 2 _ (RA.of_blk JF rfl rfl rfl (by omega)) (by omega)
  rw [show ([⟨fBoth, some ⟨gB, 0, none⟩, 2⟩, ⟨fOpen, some ⟨gA, 0, none⟩, 1⟩] : List Fte).map (·.p) = [fBoth, fOpen] from rfl, ev6b] at h
  exact h)
 have HXA := Lib.hid (Ext.trans hx9 hxa)
 clear JF hxa
 go_wp2_with fail
 refine HC.out.mono ?_
 rintro e Wa ⟨vE, rfl, hoe, hy⟩
 have hxa := Ext.trans HXA.out hy
 obtain ⟨EA, ec, hve, hec, _⟩ := own_slice hoe
 subst hve
 have HOE := Lib.hid hoe
 clear a0 a1 a2 a3 a4 b0 b1 b2 b3 b4
 clear HC hx9 hy HXA hoe
 go_upto_region 8 with (fail)
 obtain ⟨JL, JG, hxb⟩ := al2 Wa _ 3 3 #[.int .i64 0] #[.int .i64 9] rfl
 have hex := HEX.out.ext (Ext.trans hxa hxb)
 have HC : Hid (Calls Try.prog 26 #[.slice (some ⟨k1, 0, none⟩) 1 1, .slice (some ⟨k2, 0, none⟩) 2 2, .slice (some ⟨k3, 0, none⟩) 1 1, .slice (some ⟨Wa.heap.size, 0, none⟩) 1 1, .slice (some ⟨Wa.heap.size + 1, 0, none⟩) 1 1] ((Wa.alloc (.cells #[.int .i64 0] 3)).alloc (.cells #[.int .i64 9] 3)) (WrtRet (([⟨3, 7, 104⟩], [⟨7, 0, false⟩, ⟨7, 1, false⟩, ⟨7, 2, true⟩]), 0) ((Wa.alloc (.cells #[.int .i64 0] 3)).alloc (.cells #[.int .i64 9] 3)))) := Lib.hid (by
  have h := write_any [exOp gs] exP exS [0] [9] _ _ _ (some ⟨Wa.heap.size, 0, none⟩) (some ⟨Wa.heap.size + 1, 0, none⟩) 1 1 2 2 1 1 1 1 1 1 _ hex.ho hex.ps hex.st (RA.of_blk JL rfl rfl rfl (by omega)) (RA.of_blk JG rfl rfl rfl (by omega))
  rw [wrtV_map, hex.op, ev7] at h
  exact h)
 have HXA := Lib.hid (Ext.trans hxa hxb)
 have HXB := Lib.hid hxb
 clear JL JG hxb hex
 go_wp2_with fail
 refine HC.out.mono ?_
 rintro e Wb ⟨vR, vN, rfl, hor, hon, hy⟩
 have hxb := Ext.trans HXA.out hy
 have HOE := Lib.hid (HOE.out.ext (Ext.trans HXB.out hy))
 obtain ⟨RA_, rc, hvr, hrc, _⟩ := own_slice hor
 subst hvr
 obtain ⟨NA_, nc_, hvn, hnc, _⟩ := own_slice hon
 subst hvn
 have HOR : Hid (RA rcpCells 3 Wb Wb.heap.size RA_ 1 rc [⟨3, 7, 104⟩]) := Lib.hid (RA.of_own hor rfl (by omega))
 have HON : Hid (RA nteCells 3 Wb Wb.heap.size NA_ 3 nc_ [⟨7, 0, false⟩, ⟨7, 1, false⟩, ⟨7, 2, true⟩]) := Lib.hid (RA.of_own hon rfl (by omega))
 have HOE : Hid (RA evtCells 7 Wb Wb.heap.size EA 1 ec [⟨16, 7⟩]) := Lib.hid (RA.of_own HOE.out rfl (by omega))
 clear HC hxa hy HXA HXB hor hon
 go_upto_region 9 with (fail)
 have hex := HEX.out.ext hxb
 have HC : Hid (Calls Try.prog 16 #[.slice (some ⟨k1, 0, none⟩) 1 1, .slice (some ⟨k2, 0, none⟩) 2 2, .slice none 0 0, .slice none 0 0, .slice none 0 0, .int .i64 0] Wb fun e w' => ∃ FA fc DA dc, e = .returned (.tuple #[.slice FA 0 fc, .slice DA 0 dc, .int .i64 300]) ∧ Ext Wb w') := Lib.hid (by
  have h := rec_any [exOp gs] exP [] [] [] 0 _ _ none none none 1 1 2 2 0 0 0 0 0 0 Wb hex.ho hex.ps RA.nil_ RA.nil_ RA.nil_
  rw [recV_map, hex.op, ev8] at h
  exact h.mono fun e w' ⟨FA, fc, DA, dc, h1, _, h3⟩ => ⟨FA, fc, DA, dc, h1, h3⟩)
 clear hex
 go_wp2_with fail
 refine HC.out.mono ?_
 rintro e Wc ⟨FA, fc, DA, dc, rfl, hy⟩
 have hxc := Ext.trans hxb hy
 have HOR := Lib.hid (ra_ext HOR.out hy)
 have HON := Lib.hid (ra_ext HON.out hy)
 have HOE := Lib.hid (ra_ext HOE.out hy)
 clear HC hxb hy
 go_upto_region 12 with (fail)
 obtain ⟨JR, hxa, _⟩ := al1 Wc 63 #[.int .i64 3, .int .i64 7, .int .i64 104]
 have HC : Hid (Calls Try.prog 28 #[.slice RA_ 1 rc, .slice (some ⟨Wc.heap.size, 0, none⟩) 1 1] (Wc.alloc (.cells #[.int .i64 3, .int .i64 7, .int .i64 104] 63)) fun e w' => e = .returned (.bool true) ∧ Ext (Wc.alloc (.cells #[.int .i64 3, .int .i64 7, .int .i64 104] 63)) w') := Lib.hid (of_dec (same_rcp RA_ (some ⟨Wc.heap.size, 0, none⟩) 1 1 rc 1 _ [⟨3, 7, 104⟩] _ (ra_ext HOR.out hxa) (RA.of_blk JR rfl rfl rfl (by omega))) (by decide))
 have HXA := Lib.hid (Ext.trans hxc hxa)
 have HXB := Lib.hid hxa
 clear JR hxa
 go_wp2_with fail
 refine HC.out.mono ?_
 rintro e Wd ⟨rfl, hy⟩
 have hxd := Ext.trans HXA.out hy
 have hcd := Ext.trans HXB.out hy
 have HON := Lib.hid (ra_ext HON.out hcd)
 have HOE := Lib.hid (ra_ext HOE.out hcd)
 clear HC hxc hy HXA HXB hcd
 obtain ⟨JR, hxa, _⟩ := al1 Wd 89 #[.int .i64 7, .int .i64 0, .bool false, .int .i64 7, .int .i64 1, .bool false, .int .i64 7, .int .i64 2, .bool true]
 have HC : Hid (Calls Try.prog 29 #[.slice NA_ 3 nc_, .slice (some ⟨Wd.heap.size, 0, none⟩) 3 3] (Wd.alloc (.cells #[.int .i64 7, .int .i64 0, .bool false, .int .i64 7, .int .i64 1, .bool false, .int .i64 7, .int .i64 2, .bool true] 89)) fun e w' => e = .returned (.bool true) ∧ Ext (Wd.alloc (.cells #[.int .i64 7, .int .i64 0, .bool false, .int .i64 7, .int .i64 1, .bool false, .int .i64 7, .int .i64 2, .bool true] 89)) w') := Lib.hid (of_dec (same_nte NA_ (some ⟨Wd.heap.size, 0, none⟩) 3 3 nc_ 3 _ [⟨7, 0, false⟩, ⟨7, 1, false⟩, ⟨7, 2, true⟩] _ (ra_ext HON.out hxa) (RA.of_blk JR rfl rfl rfl (by omega))) (by decide))
 have HXA := Lib.hid (Ext.trans hxd hxa)
 have HXB := Lib.hid hxa
 clear JR hxa
 go_wp2_with fail
 refine HC.out.mono ?_
 rintro e We ⟨rfl, hy⟩
 have hxe := Ext.trans HXA.out hy
 have HOE := Lib.hid (ra_ext HOE.out (Ext.trans HXB.out hy))
 clear HC hxd hy HXA HXB
 go_upto_region 13 with (fail)
 obtain ⟨gE, oE, _, hEA, _, hcE⟩ := HOE.out.at_ evt_len (show 0 < 1 by omega)
 have f0 : We.cell? ⟨gE, oE, none⟩ = some (.int .i64 2) := hcE 0 (by omega)
 have f1 : We.cell? ⟨gE, oE + 1, none⟩ = some (.int .i64 16) := hcE 1 (by omega)
 have f2 : We.cell? ⟨gE, oE + 2, none⟩ = some (.int .i64 7) := hcE 2 (by omega)
 subst hEA
 have hce := HOE.out.cap
 have hex := HEX.out.ext hxe
 obtain ⟨b_, o_, _, hOA, _, hcO⟩ := hex.ho.out.at_ opt_len (show 0 < 1 by omega)
 injection hOA with hOA
 injection hOA with h1 h2 _
 subst h1 h2
 have d0 : We.cell? ⟨k1, 0, none⟩ = some (.int .i64 7) := hcO 0 (by omega)
 have d1 : We.cell? ⟨k1, 1, none⟩ = some (.int .i64 0) := hcO 1 (by omega)
 have d2 : We.cell? ⟨k1, 2, none⟩ = some (.int .i64 0) := hcO 2 (by omega)
 have d3 : We.cell? ⟨k1, 3, none⟩ = some (.int .i64 0) := hcO 3 (by omega)
 have d4 : We.cell? ⟨k1, 4, none⟩ = some (.int .i64 0) := hcO 4 (by omega)
 have d5 : We.cell? ⟨k1, 5, none⟩ = some (.int .i64 0) := hcO 5 (by omega)
 have d6 : We.cell? ⟨k1, 6, none⟩ = some (.int .i64 0) := hcO 6 (by omega)
 have d7 : We.cell? ⟨k1, 7, none⟩ = some (.int .i64 0) := hcO 7 (by omega)
 have d8 : We.cell? ⟨k1, 8, none⟩ = some (.slice (some ⟨gs, 0, none⟩) 3 3) := hcO 8 (by omega)
 have r0 : We.cell? ⟨gC, 0, none⟩ = some (.int .i64 3) := (HJC.out.ext hxe).cell 0
 have r1 : We.cell? ⟨gC, 1, none⟩ = some (.int .i64 7) := (HJC.out.ext hxe).cell 1
 have r2 : We.cell? ⟨gC, 2, none⟩ = some (.int .i64 14) := (HJC.out.ext hxe).cell 2
 have HFI : Hid (∀ W, Ext W4 W → Calls Try.prog 23 #[.agg #[.int .i64 7, .int .i64 0, .int .i64 0, .int .i64 0, .int .i64 0, .int .i64 0, .int .i64 0, .int .i64 0, .slice (some ⟨gs, 0, none⟩) 3 3], .slice (some ⟨k2, 0, none⟩) 2 2, .slice (some ⟨k3, 0, none⟩) 1 1, .agg #[.int .i64 3, .int .i64 7, .int .i64 14], .int .i64 50] W fun e w' => ∃ A c, e = .returned (.slice A 2 c) ∧ RA natCells 1 w' w'.heap.size A 2 c [0, 1] ∧ Ext W w') := Lib.hid (fun W hW => by
  have hx := HEX.out.ext hW
  have h := Fits_any (exOp gs) exP exS ⟨3, 7, 14⟩ 50 _ _ 2 2 1 1 W (hx.ho.each _ (List.mem_singleton.2 rfl)) hx.ps hx.st
  rw [fitsV_map, show (exOp gs).p = ⟨7, exL⟩ from rfl, ev9] at h
  refine h.mono fun e w' ⟨v, h1, h2, h3⟩ => ?_
  obtain ⟨A, c, hv, _, _⟩ := own_slice h2
  subst hv
  exact ⟨A, c, h1, RA.of_own h2 rfl (by omega), h3⟩)
 have HV1 : Hid (∀ W, Ext W4 W → Calls Try.prog 14 #[.slice (some ⟨k1, 0, none⟩) 1 1, .slice (some ⟨k2, 0, none⟩) 2 2, .slice (some ⟨k3, 0, none⟩) 1 1] W fun e w' => e = .returned (.bool true) ∧ Ext W w') := Lib.hid (fun W hW => by
  have hx := HEX.out.ext hW
  have h := valid_any [exOp gs] exP exS _ _ _ 1 1 2 2 1 1 W hx.ho hx.ps hx.st
  rw [validP_map, hx.op, ev10] at h
  exact h)
 have HV2 : Hid (∀ W, Ext W4 W → Calls Try.prog 14 #[.slice (some ⟨k1, 0, none⟩) 1 1, .slice (some ⟨k2, 0, none⟩) 2 2, .slice none 0 0] W fun e w' => e = .returned (.bool false) ∧ Ext W w') := Lib.hid (fun W hW => by
  have hx := HEX.out.ext hW
  have h := valid_any [exOp gs] exP [] _ _ none 1 1 2 2 0 0 W hx.ho hx.ps RA.nil_
  rw [validP_map, hx.op, ev11] at h
  exact h)
 clear hcE hex hcO HOE HOR HON
 refine wp_region_obl 53 (fun ix vals v w1 => match ix with | 0 => v = .bool true | 1 => v = .bool true | 2 => v = .bool true | 3 => v = .bool true | 4 => v = .bool true | 5 => v = .bool true | 6 => v = .bool true | 7 => v = .bool true | 8 => v = .slice (some ⟨gE, oE, none⟩) 1 ec | 9 => v = .pointer (some ⟨gE, oE, none⟩) | 10 => v = .pointer (some ⟨gE, oE + 1, none⟩) | 11 => v = .int .i64 16 | 12 => v = .bool true | 13 => v = .bool true | 14 => v = .bool true | 15 => v = .slice (some ⟨gE, oE, none⟩) 1 ec | 16 => v = .pointer (some ⟨gE, oE, none⟩) | 17 => v = .pointer (some ⟨gE, oE + 2, none⟩) | 18 => v = .int .i64 7 | 19 => v = .bool true | 20 => v = .bool true | 21 => v = .bool true | 22 => v = .slice (some ⟨gE, oE, none⟩) 1 ec | 23 => v = .pointer (some ⟨gE, oE, none⟩) | 24 => v = .pointer (some ⟨gE, oE, none⟩) | 25 => v = .int .i64 2 | 26 => v = .bool true | 27 => v = .bool true | 28 => v = .bool true | 29 => v = .slice (some ⟨k1, 0, none⟩) 1 1 | 30 => v = .pointer (some ⟨k1, 0, none⟩) | 31 => v = .agg #[.int .i64 7, .int .i64 0, .int .i64 0, .int .i64 0, .int .i64 0, .int .i64 0, .int .i64 0, .int .i64 0, .slice (some ⟨gs, 0, none⟩) 3 3] | 32 => v = .slice (some ⟨k2, 0, none⟩) 2 2 | 33 => v = .slice (some ⟨k3, 0, none⟩) 1 1 | 34 => v = .slice (some ⟨gC, 0, none⟩) 1 1 | 35 => v = .pointer (some ⟨gC, 0, none⟩) | 36 => v = .agg #[.int .i64 3, .int .i64 7, .int .i64 14] | 37 => ∃ A c, v = .slice A 2 c ∧ RA natCells 1 w1 w1.heap.size A 2 c [0, 1] | 38 => ∃ g, v = .slice (some ⟨g, 0, none⟩) 2 2 ∧ RA natCells 1 w1 w1.heap.size (some ⟨g, 0, none⟩) 2 2 [0, 1] | 39 => v = .bool true | 40 => v = .bool true | 41 => v = .bool true | 42 => v = .slice (some ⟨k1, 0, none⟩) 1 1 | 43 => v = .slice (some ⟨k2, 0, none⟩) 2 2 | 44 => v = .slice (some ⟨k3, 0, none⟩) 1 1 | 45 => v = .bool true | 46 => v = .bool true | 47 => v = .bool true | 48 => v = .slice (some ⟨k1, 0, none⟩) 1 1 | 49 => v = .slice (some ⟨k2, 0, none⟩) 2 2 | 50 => v = .bool false | 51 => v = .bool true | _ => v = .bool true) (by kernel_rfl) (by kernel_rfl) ?_ ?_ ?_ ?_
 ·intro ix vals v w1 w2 hi hr hx
  match ix, hr with
  | 0, hr => exact hr
  | 1, hr => exact hr
  | 2, hr => exact hr
  | 3, hr => exact hr
  | 4, hr => exact hr
  | 5, hr => exact hr
  | 6, hr => exact hr
  | 7, hr => exact hr
  | 8, hr => exact hr
  | 9, hr => exact hr
  | 10, hr => exact hr
  | 11, hr => exact hr
  | 12, hr => exact hr
  | 13, hr => exact hr
  | 14, hr => exact hr
  | 15, hr => exact hr
  | 16, hr => exact hr
  | 17, hr => exact hr
  | 18, hr => exact hr
  | 19, hr => exact hr
  | 20, hr => exact hr
  | 21, hr => exact hr
  | 22, hr => exact hr
  | 23, hr => exact hr
  | 24, hr => exact hr
  | 25, hr => exact hr
  | 26, hr => exact hr
  | 27, hr => exact hr
  | 28, hr => exact hr
  | 29, hr => exact hr
  | 30, hr => exact hr
  | 31, hr => exact hr
  | 32, hr => exact hr
  | 33, hr => exact hr
  | 34, hr => exact hr
  | 35, hr => exact hr
  | 36, hr => exact hr
  | 37, hr => obtain ⟨A, c, h1, h2⟩ := hr; exact ⟨A, c, h1, ra_ext h2 hx⟩
  | 38, hr => obtain ⟨g, h1, h2⟩ := hr; exact ⟨g, h1, ra_ext h2 hx⟩
  | 39, hr => exact hr
  | 40, hr => exact hr
  | 41, hr => exact hr
  | 42, hr => exact hr
  | 43, hr => exact hr
  | 44, hr => exact hr
  | 45, hr => exact hr
  | 46, hr => exact hr
  | 47, hr => exact hr
  | 48, hr => exact hr
  | 49, hr => exact hr
  | 50, hr => exact hr
  | 51, hr => exact hr
  | (kx + 52), hr => exact hr
 ·intro ix vals vals_ v w1 hi hv hr
  exact hr
 ·refine obls_ofT [some 95, some 96, some 97, some 98, some 99, some 100, some 101, some 102, some 103, some 104, some 105, some 106, some 107, some 108, some 109, some 110, some 111, some 112, some 113, some 114, some 115, some 116, some 117, some 118, some 119, some 120, some 121, some 122, some 123, some 124, some 125, some 126, some 127, some 128, some 129, some 130, some 131, some 132, some 133, some 134, some 135, some 136, some 137, some 138, some 139, some 140, some 141, some 142, some 143, some 144, some 145, some 146, some 147, some 0] [(7, .bool true), (8, .bool true), (16, .bool true), (9, .slice (some ⟨gE, oE, none⟩) 1 ec), (1, .slice (some ⟨k1, 0, none⟩) 1 1), (2, .slice (some ⟨k2, 0, none⟩) 2 2), (3, .slice (some ⟨k3, 0, none⟩) 1 1), (6, .slice (some ⟨gC, 0, none⟩) 1 1)] 148 (by kernel_rfl) (by kernel_rfl) ⟨by kernel_rfl, by kernel_rfl, by kernel_rfl, by kernel_rfl, by kernel_rfl, by kernel_rfl, by kernel_rfl, by kernel_rfl, trivial⟩ ?_
  refine ⟨?_, ?_, ?_, ?_, ?_, ?_, ?_, ?_, ?_, ?_, ?_, ?_, ?_, ?_, ?_, ?_, ?_, ?_, ?_, ?_, ?_, ?_, ?_, ?_, ?_, ?_, ?_, ?_, ?_, ?_, ?_, ?_, ?_, ?_, ?_, ?_, ?_, ?_, ?_, ?_, ?_, ?_, ?_, ?_, ?_, ?_, ?_, ?_, ?_, ?_, ?_, ?_, ?_, trivial⟩
  ·intro vals w1 hx hd
   refine .r [(7, .bool true)] (Op.move (Operand.const (.bool true))) 4 95 ⟨.out (by kernel_rfl) (by kernel_rfl), trivial⟩ ?_
   clear hd
   go_wp2
   exact ⟨rfl, Ext.refl _, rfl⟩
  ·intro vals w1 hx hd
   refine .r [(95, .bool true)] (Op.move (Operand.const (.bool true))) 4 96 ⟨.inn 0 (by kernel_rfl) (hd 0 (by decide)), trivial⟩ ?_
   clear hd
   go_wp2
   exact ⟨rfl, Ext.refl _, rfl⟩
  ·intro vals w1 hx hd
   refine .r [(8, .bool true), (96, .bool true)] (Op.move (Operand.const (.bool true))) 4 97 ⟨.out (by kernel_rfl) (by kernel_rfl), .inn 1 (by kernel_rfl) (hd 1 (by decide)), trivial⟩ ?_
   clear hd
   go_wp2
   exact ⟨rfl, Ext.refl _, rfl⟩
  ·intro vals w1 hx hd
   refine .r [(96, .bool true), (97, .bool true)] (Op.pick (Operand.const (.bool true)) (Operand.const (.bool true)) (Operand.const (Value.bool false))) 4 98 ⟨.inn 1 (by kernel_rfl) (hd 1 (by decide)), .inn 2 (by kernel_rfl) (hd 2 (by decide)), trivial⟩ ?_
   clear hd
   go_wp2
   exact ⟨rfl, Ext.refl _, rfl⟩
  ·intro vals w1 hx hd
   refine .r [(98, .bool true)] (Op.move (Operand.const (.bool true))) 4 99 ⟨.inn 3 (by kernel_rfl) (hd 3 (by decide)), trivial⟩ ?_
   clear hd
   go_wp2
   exact ⟨rfl, Ext.refl _, rfl⟩
  ·intro vals w1 hx hd
   refine .r [(16, .bool true), (99, .bool true)] (Op.move (Operand.const (.bool true))) 4 100 ⟨.out (by kernel_rfl) (by kernel_rfl), .inn 4 (by kernel_rfl) (hd 4 (by decide)), trivial⟩ ?_
   clear hd
   go_wp2
   exact ⟨rfl, Ext.refl _, rfl⟩
  ·intro vals w1 hx hd
   refine .r [(99, .bool true), (100, .bool true)] (Op.pick (Operand.const (.bool true)) (Operand.const (.bool true)) (Operand.const (Value.bool false))) 4 101 ⟨.inn 4 (by kernel_rfl) (hd 4 (by decide)), .inn 5 (by kernel_rfl) (hd 5 (by decide)), trivial⟩ ?_
   clear hd
   go_wp2
   exact ⟨rfl, Ext.refl _, rfl⟩
  ·intro vals w1 hx hd
   refine .r [(101, .bool true)] (Op.move (Operand.const (.bool true))) 4 102 ⟨.inn 6 (by kernel_rfl) (hd 6 (by decide)), trivial⟩ ?_
   clear hd
   go_wp2
   exact ⟨rfl, Ext.refl _, rfl⟩
  ·intro vals w1 hx hd
   refine .r [(9, .slice (some ⟨gE, oE, none⟩) 1 ec), (102, .bool true)] (Op.move (Operand.const (.slice (some ⟨gE, oE, none⟩) 1 ec))) 54 103 ⟨.out (by kernel_rfl) (by kernel_rfl), .inn 7 (by kernel_rfl) (hd 7 (by decide)), trivial⟩ ?_
   clear hd
   go_wp2
   exact ⟨rfl, Ext.refl _, rfl⟩
  ·intro vals w1 hx hd
   refine .r [(103, .slice (some ⟨gE, oE, none⟩) 1 ec), (102, .bool true)] (Op.indexAddr 54 (Operand.const (.slice (some ⟨gE, oE, none⟩) 1 ec)) (Operand.const (Value.int IntKind.i64 0))) 0 104 ⟨.inn 8 (by kernel_rfl) (hd 8 (by decide)), .inn 7 (by kernel_rfl) (hd 7 (by decide)), trivial⟩ ?_
   clear hd
   go_wp2
   exact ⟨rfl, Ext.refl _, rfl⟩
  ·intro vals w1 hx hd
   refine .r [(104, .pointer (some ⟨gE, oE, none⟩)), (102, .bool true)] (Op.fieldAddr 59 (Operand.const (.pointer (some ⟨gE, oE, none⟩))) 1) 0 105 ⟨.inn 9 (by kernel_rfl) (hd 9 (by decide)), .inn 7 (by kernel_rfl) (hd 7 (by decide)), trivial⟩ ?_
   clear hd
   go_wp2
   exact ⟨rfl, Ext.refl _, rfl⟩
  ·intro vals w1 hx hd
   refine .r [(105, .pointer (some ⟨gE, oE + 1, none⟩)), (102, .bool true)] (Op.load 3 (Operand.const (.pointer (some ⟨gE, oE + 1, none⟩)))) 3 106 ⟨.inn 10 (by kernel_rfl) (hd 10 (by decide)), .inn 7 (by kernel_rfl) (hd 7 (by decide)), trivial⟩ ?_
   clear hd
   have f1 := ext_cell hx f1
   go_wp2
   exact ⟨rfl, Ext.refl _, rfl⟩
  ·intro vals w1 hx hd
   refine .r [(106, .int .i64 16), (102, .bool true)] (Op.binOp BinOp.eql 3 (Operand.const (.int .i64 16)) (Operand.const (Value.int IntKind.i64 16)) 3) 4 107 ⟨.inn 11 (by kernel_rfl) (hd 11 (by decide)), .inn 7 (by kernel_rfl) (hd 7 (by decide)), trivial⟩ ?_
   clear hd
   go_wp2
   exact ⟨rfl, Ext.refl _, rfl⟩
  ·intro vals w1 hx hd
   refine .r [(102, .bool true), (107, .bool true)] (Op.pick (Operand.const (.bool true)) (Operand.const (.bool true)) (Operand.const (Value.bool false))) 4 108 ⟨.inn 7 (by kernel_rfl) (hd 7 (by decide)), .inn 12 (by kernel_rfl) (hd 12 (by decide)), trivial⟩ ?_
   clear hd
   go_wp2
   exact ⟨rfl, Ext.refl _, rfl⟩
  ·intro vals w1 hx hd
   refine .r [(108, .bool true)] (Op.move (Operand.const (.bool true))) 4 109 ⟨.inn 13 (by kernel_rfl) (hd 13 (by decide)), trivial⟩ ?_
   clear hd
   go_wp2
   exact ⟨rfl, Ext.refl _, rfl⟩
  ·intro vals w1 hx hd
   refine .r [(9, .slice (some ⟨gE, oE, none⟩) 1 ec), (109, .bool true)] (Op.move (Operand.const (.slice (some ⟨gE, oE, none⟩) 1 ec))) 54 110 ⟨.out (by kernel_rfl) (by kernel_rfl), .inn 14 (by kernel_rfl) (hd 14 (by decide)), trivial⟩ ?_
   clear hd
   go_wp2
   exact ⟨rfl, Ext.refl _, rfl⟩
  ·intro vals w1 hx hd
   refine .r [(110, .slice (some ⟨gE, oE, none⟩) 1 ec), (109, .bool true)] (Op.indexAddr 54 (Operand.const (.slice (some ⟨gE, oE, none⟩) 1 ec)) (Operand.const (Value.int IntKind.i64 0))) 0 111 ⟨.inn 15 (by kernel_rfl) (hd 15 (by decide)), .inn 14 (by kernel_rfl) (hd 14 (by decide)), trivial⟩ ?_
   clear hd
   go_wp2
   exact ⟨rfl, Ext.refl _, rfl⟩
  ·intro vals w1 hx hd
   refine .r [(111, .pointer (some ⟨gE, oE, none⟩)), (109, .bool true)] (Op.fieldAddr 59 (Operand.const (.pointer (some ⟨gE, oE, none⟩))) 2) 0 112 ⟨.inn 16 (by kernel_rfl) (hd 16 (by decide)), .inn 14 (by kernel_rfl) (hd 14 (by decide)), trivial⟩ ?_
   clear hd
   go_wp2
   exact ⟨rfl, Ext.refl _, rfl⟩
  ·intro vals w1 hx hd
   refine .r [(112, .pointer (some ⟨gE, oE + 2, none⟩)), (109, .bool true)] (Op.load 3 (Operand.const (.pointer (some ⟨gE, oE + 2, none⟩)))) 3 113 ⟨.inn 17 (by kernel_rfl) (hd 17 (by decide)), .inn 14 (by kernel_rfl) (hd 14 (by decide)), trivial⟩ ?_
   clear hd
   have f2 := ext_cell hx f2
   go_wp2
   exact ⟨rfl, Ext.refl _, rfl⟩
  ·intro vals w1 hx hd
   refine .r [(113, .int .i64 7), (109, .bool true)] (Op.binOp BinOp.eql 3 (Operand.const (.int .i64 7)) (Operand.const (Value.int IntKind.i64 7)) 3) 4 114 ⟨.inn 18 (by kernel_rfl) (hd 18 (by decide)), .inn 14 (by kernel_rfl) (hd 14 (by decide)), trivial⟩ ?_
   clear hd
   go_wp2
   exact ⟨rfl, Ext.refl _, rfl⟩
  ·intro vals w1 hx hd
   refine .r [(109, .bool true), (114, .bool true)] (Op.pick (Operand.const (.bool true)) (Operand.const (.bool true)) (Operand.const (Value.bool false))) 4 115 ⟨.inn 14 (by kernel_rfl) (hd 14 (by decide)), .inn 19 (by kernel_rfl) (hd 19 (by decide)), trivial⟩ ?_
   clear hd
   go_wp2
   exact ⟨rfl, Ext.refl _, rfl⟩
  ·intro vals w1 hx hd
   refine .r [(115, .bool true)] (Op.move (Operand.const (.bool true))) 4 116 ⟨.inn 20 (by kernel_rfl) (hd 20 (by decide)), trivial⟩ ?_
   clear hd
   go_wp2
   exact ⟨rfl, Ext.refl _, rfl⟩
  ·intro vals w1 hx hd
   refine .r [(9, .slice (some ⟨gE, oE, none⟩) 1 ec), (116, .bool true)] (Op.move (Operand.const (.slice (some ⟨gE, oE, none⟩) 1 ec))) 54 117 ⟨.out (by kernel_rfl) (by kernel_rfl), .inn 21 (by kernel_rfl) (hd 21 (by decide)), trivial⟩ ?_
   clear hd
   go_wp2
   exact ⟨rfl, Ext.refl _, rfl⟩
  ·intro vals w1 hx hd
   refine .r [(117, .slice (some ⟨gE, oE, none⟩) 1 ec), (116, .bool true)] (Op.indexAddr 54 (Operand.const (.slice (some ⟨gE, oE, none⟩) 1 ec)) (Operand.const (Value.int IntKind.i64 0))) 0 118 ⟨.inn 22 (by kernel_rfl) (hd 22 (by decide)), .inn 21 (by kernel_rfl) (hd 21 (by decide)), trivial⟩ ?_
   clear hd
   go_wp2
   exact ⟨rfl, Ext.refl _, rfl⟩
  ·intro vals w1 hx hd
   refine .r [(118, .pointer (some ⟨gE, oE, none⟩)), (116, .bool true)] (Op.fieldAddr 59 (Operand.const (.pointer (some ⟨gE, oE, none⟩))) 0) 0 119 ⟨.inn 23 (by kernel_rfl) (hd 23 (by decide)), .inn 21 (by kernel_rfl) (hd 21 (by decide)), trivial⟩ ?_
   clear hd
   go_wp2
   exact ⟨rfl, Ext.refl _, rfl⟩
  ·intro vals w1 hx hd
   refine .r [(119, .pointer (some ⟨gE, oE, none⟩)), (116, .bool true)] (Op.load 3 (Operand.const (.pointer (some ⟨gE, oE, none⟩)))) 3 120 ⟨.inn 24 (by kernel_rfl) (hd 24 (by decide)), .inn 21 (by kernel_rfl) (hd 21 (by decide)), trivial⟩ ?_
   clear hd
   have f0 := ext_cell hx f0
   go_wp2
   exact ⟨rfl, Ext.refl _, rfl⟩
  ·intro vals w1 hx hd
   refine .r [(120, .int .i64 2), (116, .bool true)] (Op.binOp BinOp.eql 3 (Operand.const (.int .i64 2)) (Operand.const (Value.int IntKind.i64 2)) 3) 4 121 ⟨.inn 25 (by kernel_rfl) (hd 25 (by decide)), .inn 21 (by kernel_rfl) (hd 21 (by decide)), trivial⟩ ?_
   clear hd
   go_wp2
   exact ⟨rfl, Ext.refl _, rfl⟩
  ·intro vals w1 hx hd
   refine .r [(116, .bool true), (121, .bool true)] (Op.pick (Operand.const (.bool true)) (Operand.const (.bool true)) (Operand.const (Value.bool false))) 4 122 ⟨.inn 21 (by kernel_rfl) (hd 21 (by decide)), .inn 26 (by kernel_rfl) (hd 26 (by decide)), trivial⟩ ?_
   clear hd
   go_wp2
   exact ⟨rfl, Ext.refl _, rfl⟩
  ·intro vals w1 hx hd
   refine .r [(122, .bool true)] (Op.move (Operand.const (.bool true))) 4 123 ⟨.inn 27 (by kernel_rfl) (hd 27 (by decide)), trivial⟩ ?_
   clear hd
   go_wp2
   exact ⟨rfl, Ext.refl _, rfl⟩
  ·intro vals w1 hx hd
   refine .r [(1, .slice (some ⟨k1, 0, none⟩) 1 1), (123, .bool true)] (Op.move (Operand.const (.slice (some ⟨k1, 0, none⟩) 1 1))) 36 124 ⟨.out (by kernel_rfl) (by kernel_rfl), .inn 28 (by kernel_rfl) (hd 28 (by decide)), trivial⟩ ?_
   clear hd
   go_wp2
   exact ⟨rfl, Ext.refl _, rfl⟩
  ·intro vals w1 hx hd
   refine .r [(124, .slice (some ⟨k1, 0, none⟩) 1 1), (123, .bool true)] (Op.indexAddr 36 (Operand.const (.slice (some ⟨k1, 0, none⟩) 1 1)) (Operand.const (Value.int IntKind.i64 0))) 0 125 ⟨.inn 29 (by kernel_rfl) (hd 29 (by decide)), .inn 28 (by kernel_rfl) (hd 28 (by decide)), trivial⟩ ?_
   clear hd
   go_wp2
   exact ⟨rfl, Ext.refl _, rfl⟩
  ·intro vals w1 hx hd
   refine .r [(125, .pointer (some ⟨k1, 0, none⟩)), (123, .bool true)] (Op.load 32 (Operand.const (.pointer (some ⟨k1, 0, none⟩)))) 32 126 ⟨.inn 30 (by kernel_rfl) (hd 30 (by decide)), .inn 28 (by kernel_rfl) (hd 28 (by decide)), trivial⟩ ?_
   clear hd
   have d0 := ext_cell hx d0; have d1 := ext_cell hx d1; have d2 := ext_cell hx d2; have d3 := ext_cell hx d3; have d4 := ext_cell hx d4; have d5 := ext_cell hx d5; have d6 := ext_cell hx d6; have d7 := ext_cell hx d7; have d8 := ext_cell hx d8
   go_wp2
   exact ⟨rfl, Ext.refl _, rfl⟩
  ·intro vals w1 hx hd
   refine .r [(2, .slice (some ⟨k2, 0, none⟩) 2 2), (123, .bool true)] (Op.move (Operand.const (.slice (some ⟨k2, 0, none⟩) 2 2))) 37 127 ⟨.out (by kernel_rfl) (by kernel_rfl), .inn 28 (by kernel_rfl) (hd 28 (by decide)), trivial⟩ ?_
   clear hd
   go_wp2
   exact ⟨rfl, Ext.refl _, rfl⟩
  ·intro vals w1 hx hd
   refine .r [(3, .slice (some ⟨k3, 0, none⟩) 1 1), (123, .bool true)] (Op.move (Operand.const (.slice (some ⟨k3, 0, none⟩) 1 1))) 38 128 ⟨.out (by kernel_rfl) (by kernel_rfl), .inn 28 (by kernel_rfl) (hd 28 (by decide)), trivial⟩ ?_
   clear hd
   go_wp2
   exact ⟨rfl, Ext.refl _, rfl⟩
  ·intro vals w1 hx hd
   refine .r [(6, .slice (some ⟨gC, 0, none⟩) 1 1), (123, .bool true)] (Op.move (Operand.const (.slice (some ⟨gC, 0, none⟩) 1 1))) 33 129 ⟨.out (by kernel_rfl) (by kernel_rfl), .inn 28 (by kernel_rfl) (hd 28 (by decide)), trivial⟩ ?_
   clear hd
   go_wp2
   exact ⟨rfl, Ext.refl _, rfl⟩
  ·intro vals w1 hx hd
   refine .r [(129, .slice (some ⟨gC, 0, none⟩) 1 1), (123, .bool true)] (Op.indexAddr 33 (Operand.const (.slice (some ⟨gC, 0, none⟩) 1 1)) (Operand.const (Value.int IntKind.i64 0))) 0 130 ⟨.inn 34 (by kernel_rfl) (hd 34 (by decide)), .inn 28 (by kernel_rfl) (hd 28 (by decide)), trivial⟩ ?_
   clear hd
   go_wp2
   exact ⟨rfl, Ext.refl _, rfl⟩
  ·intro vals w1 hx hd
   refine .r [(130, .pointer (some ⟨gC, 0, none⟩)), (123, .bool true)] (Op.load 63 (Operand.const (.pointer (some ⟨gC, 0, none⟩)))) 63 131 ⟨.inn 35 (by kernel_rfl) (hd 35 (by decide)), .inn 28 (by kernel_rfl) (hd 28 (by decide)), trivial⟩ ?_
   clear hd
   have r0 := ext_cell hx r0; have r1 := ext_cell hx r1; have r2 := ext_cell hx r2
   go_wp2
   exact ⟨rfl, Ext.refl _, rfl⟩
  ·intro vals w1 hx hd
   refine .r [(126, .agg #[.int .i64 7, .int .i64 0, .int .i64 0, .int .i64 0, .int .i64 0, .int .i64 0, .int .i64 0, .int .i64 0, .slice (some ⟨gs, 0, none⟩) 3 3]), (127, .slice (some ⟨k2, 0, none⟩) 2 2), (128, .slice (some ⟨k3, 0, none⟩) 1 1), (131, .agg #[.int .i64 3, .int .i64 7, .int .i64 14]), (123, .bool true)] (Op.call { callee := Callee.value (Operand.func 23), args := #[(Operand.const (.agg #[.int .i64 7, .int .i64 0, .int .i64 0, .int .i64 0, .int .i64 0, .int .i64 0, .int .i64 0, .int .i64 0, .slice (some ⟨gs, 0, none⟩) 3 3])), (Operand.const (.slice (some ⟨k2, 0, none⟩) 2 2)), (Operand.const (.slice (some ⟨k3, 0, none⟩) 1 1)), (Operand.const (.agg #[.int .i64 3, .int .i64 7, .int .i64 14])), Operand.const (Value.int IntKind.i64 50)], argTypes := #[32, 37, 38, 63, 3] }) 25 132 ⟨.inn 31 (by kernel_rfl) (hd 31 (by decide)), .inn 32 (by kernel_rfl) (hd 32 (by decide)), .inn 33 (by kernel_rfl) (hd 33 (by decide)), .inn 36 (by kernel_rfl) (hd 36 (by decide)), .inn 28 (by kernel_rfl) (hd 28 (by decide)), trivial⟩ ?_
   clear hd
   go_wp2_with fail
   refine (HFI.out w1 (Ext.trans hxe hx.undrew)).mono ?_
   rintro e w2 ⟨A, c, rfl, hown, hb2⟩
   have hown := Lib.hid hown
   go_wp2
   exact ⟨rfl, hb2, A, c, rfl, hown.out⟩
  ·intro vals w1 hx hd
   refine .r [(123, .bool true)] (Op.buildSlice 25 2 #[(0, Operand.const (Value.int IntKind.i64 0)), (1, Operand.const (Value.int IntKind.i64 1))]) 25 133 ⟨.inn 28 (by kernel_rfl) (hd 28 (by decide)), trivial⟩ ?_
   clear hd
   go_wp2
   exact ⟨rfl, (by repeat (first | exact Below.refl _ _ | assumption | refine Below.drew ?_ | refine below_drewN ?_ _ | refine bl_alloc ?_ _ | refine Below.setCell ?_ (by first | (simp; done) | omega | (simp; omega)) _ | refine bl_then ?_ (by assumption))), _, rfl, RA.of_blk (Blk.new _ _ _) rfl rfl rfl (by omega)⟩
  ·intro vals w1 hx hd
   have r37 : (fun v w1 => ∃ A c, v = .slice A 2 c ∧ RA natCells 1 w1 w1.heap.size A 2 c [0, 1]) (vals 37) w1 := hd 37 (by decide)
   dsimp only at r37
   obtain ⟨A37, c37, e_37, h37⟩ := r37
   have r38 : (fun v w1 => ∃ g, v = .slice (some ⟨g, 0, none⟩) 2 2 ∧ RA natCells 1 w1 w1.heap.size (some ⟨g, 0, none⟩) 2 2 [0, 1]) (vals 38) w1 := hd 38 (by decide)
   dsimp only at r38
   obtain ⟨g38, e_38, h38⟩ := r38
   refine .r [(132, .slice A37 2 c37), (133, .slice (some ⟨g38, 0, none⟩) 2 2), (123, .bool true)] (Op.call { callee := Callee.value (Operand.func 22), args := #[(Operand.const (.slice A37 2 c37)), (Operand.const (.slice (some ⟨g38, 0, none⟩) 2 2))], argTypes := #[25, 25] }) 4 134 ⟨.inn 37 (by kernel_rfl) e_37, .inn 38 (by kernel_rfl) e_38, .inn 28 (by kernel_rfl) (hd 28 (by decide)), trivial⟩ ?_
   clear hd e_37 e_38
   have HIN := Lib.hid (of_dec (c := true) (ints_nat A37 (some ⟨g38, 0, none⟩) 2 2 c37 2 _ _ w1 h37 h38) (by decide))
   clear h37 h38
   go_wp2_with fail
   refine HIN.out.mono ?_
   rintro e w2 ⟨rfl, hb2⟩
   go_wp2
   exact ⟨rfl, hb2, rfl⟩
  ·intro vals w1 hx hd
   refine .r [(123, .bool true), (134, .bool true)] (Op.pick (Operand.const (.bool true)) (Operand.const (.bool true)) (Operand.const (Value.bool false))) 4 135 ⟨.inn 28 (by kernel_rfl) (hd 28 (by decide)), .inn 39 (by kernel_rfl) (hd 39 (by decide)), trivial⟩ ?_
   clear hd
   go_wp2
   exact ⟨rfl, Ext.refl _, rfl⟩
  ·intro vals w1 hx hd
   refine .r [(135, .bool true)] (Op.move (Operand.const (.bool true))) 4 136 ⟨.inn 40 (by kernel_rfl) (hd 40 (by decide)), trivial⟩ ?_
   clear hd
   go_wp2
   exact ⟨rfl, Ext.refl _, rfl⟩
  ·intro vals w1 hx hd
   refine .r [(1, .slice (some ⟨k1, 0, none⟩) 1 1), (136, .bool true)] (Op.move (Operand.const (.slice (some ⟨k1, 0, none⟩) 1 1))) 36 137 ⟨.out (by kernel_rfl) (by kernel_rfl), .inn 41 (by kernel_rfl) (hd 41 (by decide)), trivial⟩ ?_
   clear hd
   go_wp2
   exact ⟨rfl, Ext.refl _, rfl⟩
  ·intro vals w1 hx hd
   refine .r [(2, .slice (some ⟨k2, 0, none⟩) 2 2), (136, .bool true)] (Op.move (Operand.const (.slice (some ⟨k2, 0, none⟩) 2 2))) 37 138 ⟨.out (by kernel_rfl) (by kernel_rfl), .inn 41 (by kernel_rfl) (hd 41 (by decide)), trivial⟩ ?_
   clear hd
   go_wp2
   exact ⟨rfl, Ext.refl _, rfl⟩
  ·intro vals w1 hx hd
   refine .r [(3, .slice (some ⟨k3, 0, none⟩) 1 1), (136, .bool true)] (Op.move (Operand.const (.slice (some ⟨k3, 0, none⟩) 1 1))) 38 139 ⟨.out (by kernel_rfl) (by kernel_rfl), .inn 41 (by kernel_rfl) (hd 41 (by decide)), trivial⟩ ?_
   clear hd
   go_wp2
   exact ⟨rfl, Ext.refl _, rfl⟩
  ·intro vals w1 hx hd
   refine .r [(137, .slice (some ⟨k1, 0, none⟩) 1 1), (138, .slice (some ⟨k2, 0, none⟩) 2 2), (139, .slice (some ⟨k3, 0, none⟩) 1 1), (136, .bool true)] (Op.call { callee := Callee.value (Operand.func 14), args := #[(Operand.const (.slice (some ⟨k1, 0, none⟩) 1 1)), (Operand.const (.slice (some ⟨k2, 0, none⟩) 2 2)), (Operand.const (.slice (some ⟨k3, 0, none⟩) 1 1))], argTypes := #[36, 37, 38] }) 4 140 ⟨.inn 42 (by kernel_rfl) (hd 42 (by decide)), .inn 43 (by kernel_rfl) (hd 43 (by decide)), .inn 44 (by kernel_rfl) (hd 44 (by decide)), .inn 41 (by kernel_rfl) (hd 41 (by decide)), trivial⟩ ?_
   clear hd
   go_wp2_with fail
   refine (HV1.out w1 (Ext.trans hxe hx.undrew)).mono ?_
   rintro e w2 ⟨rfl, hb2⟩
   go_wp2
   exact ⟨rfl, hb2, rfl⟩
  ·intro vals w1 hx hd
   refine .r [(136, .bool true), (140, .bool true)] (Op.pick (Operand.const (.bool true)) (Operand.const (.bool true)) (Operand.const (Value.bool false))) 4 141 ⟨.inn 41 (by kernel_rfl) (hd 41 (by decide)), .inn 45 (by kernel_rfl) (hd 45 (by decide)), trivial⟩ ?_
   clear hd
   go_wp2
   exact ⟨rfl, Ext.refl _, rfl⟩
  ·intro vals w1 hx hd
   refine .r [(141, .bool true)] (Op.move (Operand.const (.bool true))) 4 142 ⟨.inn 46 (by kernel_rfl) (hd 46 (by decide)), trivial⟩ ?_
   clear hd
   go_wp2
   exact ⟨rfl, Ext.refl _, rfl⟩
  ·intro vals w1 hx hd
   refine .r [(1, .slice (some ⟨k1, 0, none⟩) 1 1), (142, .bool true)] (Op.move (Operand.const (.slice (some ⟨k1, 0, none⟩) 1 1))) 36 143 ⟨.out (by kernel_rfl) (by kernel_rfl), .inn 47 (by kernel_rfl) (hd 47 (by decide)), trivial⟩ ?_
   clear hd
   go_wp2
   exact ⟨rfl, Ext.refl _, rfl⟩
  ·intro vals w1 hx hd
   refine .r [(2, .slice (some ⟨k2, 0, none⟩) 2 2), (142, .bool true)] (Op.move (Operand.const (.slice (some ⟨k2, 0, none⟩) 2 2))) 37 144 ⟨.out (by kernel_rfl) (by kernel_rfl), .inn 47 (by kernel_rfl) (hd 47 (by decide)), trivial⟩ ?_
   clear hd
   go_wp2
   exact ⟨rfl, Ext.refl _, rfl⟩
  ·intro vals w1 hx hd
   refine .r [(143, .slice (some ⟨k1, 0, none⟩) 1 1), (144, .slice (some ⟨k2, 0, none⟩) 2 2), (142, .bool true)] (Op.call { callee := Callee.value (Operand.func 14), args := #[(Operand.const (.slice (some ⟨k1, 0, none⟩) 1 1)), (Operand.const (.slice (some ⟨k2, 0, none⟩) 2 2)), Operand.const (Value.slice none 0 0)], argTypes := #[36, 37, 38] }) 4 145 ⟨.inn 48 (by kernel_rfl) (hd 48 (by decide)), .inn 49 (by kernel_rfl) (hd 49 (by decide)), .inn 47 (by kernel_rfl) (hd 47 (by decide)), trivial⟩ ?_
   clear hd
   go_wp2_with fail
   refine (HV2.out w1 (Ext.trans hxe hx.undrew)).mono ?_
   rintro e w2 ⟨rfl, hb2⟩
   go_wp2
   exact ⟨rfl, hb2, rfl⟩
  ·intro vals w1 hx hd
   refine .r [(145, .bool false), (142, .bool true)] (Op.unOp UnOp.not 4 (Operand.const (.bool false))) 4 146 ⟨.inn 50 (by kernel_rfl) (hd 50 (by decide)), .inn 47 (by kernel_rfl) (hd 47 (by decide)), trivial⟩ ?_
   clear hd
   go_wp2
   exact ⟨rfl, Ext.refl _, rfl⟩
  ·intro vals w1 hx hd
   refine .r [(142, .bool true), (146, .bool true)] (Op.pick (Operand.const (.bool true)) (Operand.const (.bool true)) (Operand.const (Value.bool false))) 4 147 ⟨.inn 47 (by kernel_rfl) (hd 47 (by decide)), .inn 51 (by kernel_rfl) (hd 51 (by decide)), trivial⟩ ?_
   clear hd
   go_wp2
   exact ⟨rfl, Ext.refl _, rfl⟩
 intro vals Wf hy hf
 have v52 : vals 52 = .bool true := hf 52 (by omega)
 have HXF := Lib.hid (Ext.trans HX4.out (Ext.trans hxe hy.undrew))
 clear hf hy f0 f1 f2 d0 d1 d2 d3 d4 d5 d6 d7 d8 r0 r1 r2
 refine tail1 53 _ (by kernel_rfl) (by kernel_rfl) rfl ?_
 simp only [Lf, dstAt, Act.put, List.getElem?_toArray, List.getElem?_cons_zero, List.getElem?_cons_succ, Option.bind_some, List.setIfInBounds_toArray, List.set_cons_zero, List.set_cons_succ]
 rw [v52]
 clear v52
 go_wp2
 go_ret
 exact ⟨rfl, HXF.out⟩
end Go.Proofs.Ytmlabgmigakcbaa
