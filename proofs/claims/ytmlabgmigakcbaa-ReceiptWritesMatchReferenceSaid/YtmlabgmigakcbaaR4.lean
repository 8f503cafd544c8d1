/- Sets as bits: Len, list. -/
import Derived.Test.YtmlabgmigakcbaaR3
import Derived.Laws.MathBits
namespace Go.Proofs.Ytmlabgmigakcbaa
open Go.RowKit

theorem w64_in : ∀ x : Fin 9, wrap64 (x.val : Int) = (x.val : Int) := by decide +kernel
theorem u8_in : ∀ x : Fin 256, IntKind.u8.wrap (x.val : Int) = (x.val : Int) := by decide +kernel
set_option maxRecDepth 1000000 in
theorem len64_any (x : Nat) (hx : x < 64) (w : World) : Calls Try.prog 97 #[.int .u64 x] w fun e w' => e = .returned (.int .i64 (bitLen x : Nat)) ∧ w = w' := by
  have h1 : ¬ (4294967296 : Int) ≤ (x : Int) := by omega
  have h2 : ¬ (65536 : Int) ≤ (x : Int) := by omega
  have h3 : ¬ (256 : Int) ≤ (x : Int) := by omega
  have h4 : (x : Int) < 256 := by omega
  have h5 : IntKind.u8.wrap (x : Int) = (x : Int) := u8_in ⟨x, by omega⟩
  have hb := bitLen_le8 x (by omega)
  go_enter Try.func97, Try.ntmps97
  go_upto_region 10 with (fail)
  go_wp2
  go_ret
  rw [len8tab_get x]
  have hw : wrap64 ((bitLen x : Nat) : Int) = ((bitLen x : Nat) : Int) := w64_in ⟨bitLen x, by omega⟩
  refine ⟨?_, rfl⟩
  show Ending.returned (.int .i64 (wrap64 (wrap64 ((bitLen x : Nat) : Int)))) = _
  rw [hw, hw]
theorem len_any (x : Nat) (hx : x < 64) (w : World) : Calls Try.prog 86 #[.int .u64 x] w fun e w' => e = .returned (.int .i64 (bitLen x : Nat)) ∧ w = w' := by
  have H := Lib.hid (len64_any x hx w)
  go_enter Try.func86, Try.ntmps86
  go_wp2_with fail
  refine H.out.mono ?_
  rintro e w' ⟨rfl, rfl⟩
  go_wp2
  go_ret
  exact ⟨rfl, rfl⟩
theorem and_u64 : ∀ S T : Fin 64, bits BinOp.and IntKind.u64 (S.val : Int) (T.val : Int) = ((S.val &&& T.val : Nat) : Int) := by decide +kernel
theorem or_u64 : ∀ S T : Fin 64, bits BinOp.or IntKind.u64 (S.val : Int) (T.val : Int) = ((S.val ||| T.val : Nat) : Int) := by decide +kernel
def clrB (S i : Nat) : Nat := S &&& (63 - 2 ^ i)
theorem andnot_u64 : ∀ (S : Fin 64) (i : Fin 6), bits BinOp.andNot IntKind.u64 (S.val : Int) ((2 : Int) ^ i.val) = ((clrB S.val i.val : Nat) : Int) := by decide +kernel
theorem bit_u64 : ∀ (S : Fin 64) (i : Fin 8), bits BinOp.and IntKind.u64 ((S.val : Int) / 2 ^ i.val) 1 = if S.val.testBit i.val then 1 else 0 := by decide +kernel
/-- The elements of a set. -/
def setL (S : Nat) : List Nat := (List.range 6).filter (fun i => S.testBit i)
theorem len_small : ∀ S : Fin 64, bitLen S.val ≤ 6 ∧ setL S.val = (List.range (bitLen S.val)).filter (fun i => S.val.testBit i) := by decide +kernel
theorem setL_len (S : Nat) : (setL S).length ≤ 6 := Nat.le_trans (List.length_filter_le _ _) (by simp)
/-- A list of numbers of one's own. -/
def OwnN (W : World) (b : Nat) (v : Value) (l : List Nat) : Prop := W.ownsRow b 3 1 v l.length (l.flatMap natCells)
theorem OwnN.ext {W W' : World} {b : Nat} {v : Value} {l : List Nat} (h : OwnN W b v l) (hx : Ext W W') : OwnN W' b v l := own_ext h hx
theorem info_int : (Try.prog.info? 3).map (fun i => (i.zero, i.size, i.bytes)) = some (some (.int .i64 0), 1, 8) := by kernel_rfl
theorem info_parts {P : Program} {t : TypeId} {z : Value} {n b : Nat} (h : (P.info? t).map (fun i => (i.zero, i.size, i.bytes)) = some (some z, n, b)) : ∃ i, P.info? t = some i ∧ i.zero = some z ∧ i.size = n ∧ i.bytes = b := by
  cases hi : P.info? t with
  | none => rw [hi] at h; cases h
  | some i =>
    rw [hi] at h
    simp at h
    exact ⟨i, rfl, h.1, h.2.1, h.2.2⟩
/-- One number more. -/
theorem snoc_nat {w : World} (ty : TypeId) (xs : List Nat) (v : Value) (x : Nat) (base gx : Nat) (jx : Blk w gx 3 #[.int .i64 (x : Int)]) (hx : OwnN w base v xs) (hn : xs.length ≤ 900) (hb : base ≤ w.heap.size) :
    ∃ v' w', (Builtin.append_ #[25, 25] ty #[v, .slice (some ⟨gx, 0, none⟩) 1 1]).run Try.prog w = .ok v' w' ∧ w.grownBy w' v.ownBlock ∧ OwnN w' base v' (xs ++ [x]) := by
  obtain ⟨i0, hi0, hz0, hz1, hz2⟩ := info_parts info_int
  obtain ⟨v2, W7, hr, hrow2, hg2, -⟩ := run_append_own (P := Try.prog) w base 25 ty 3 i0 _ 1 8 Try.underlying25 hi0 hz0 hz1 hz2 rfl (by omega) _ _ _ hx ⟨gx, 0, none⟩ 1 1 [.int .i64 (x : Int)] rfl (by intro i u hu; rw [Addr.add_lit, Nat.zero_add, jx.cell]; simpa using hu) (by simp [Value.oneCell']) (by unfold maxLen; omega) (by omega) hb
  refine ⟨v2, W7, hr, hg2, ?_⟩
  unfold OwnN
  rw [List.length_append, List.flatMap_append]
  simpa [natCells] using hrow2

set_option maxRecDepth 100000 in
set_option maxHeartbeats 4000000 in
theorem list_any (S : Nat) (hS : S < 64) (w : World) :
    Calls Try.prog 58 #[.int .u64 S] w fun e w' => ∃ v, e = .returned v ∧ OwnN w' w.heap.size v (setL S) ∧ Ext w w' := by
  have HLN := Lib.hid (fun W => len_any S hS W)
  obtain ⟨hm6, hsl⟩ := len_small ⟨S, hS⟩
  dsimp only at hm6 hsl
  obtain ⟨m, hm⟩ : ∃ m, m = bitLen S := ⟨_, rfl⟩
  rw [← hm] at hm6 hsl HLN
  rw [hsl]
  clear hsl hm
  go_enter Try.func58, Try.ntmps58
  go_wp2_with fail
  refine (HLN.out _).mono ?_
  rintro e w' ⟨rfl, rfl⟩
  clear HLN
  go_wp2_with fail
  go_loopw [2, 6] (fun x y wr => ∃ k : Nat, k ≤ m ∧ y = .int .i64 k ∧ Hid (OwnN wr w.heap.size x ((List.range k).filter (fun i => S.testBit i))) ∧ Ext w wr) (fun _ y _ => m - (intOf y).toNat)
  case atStart => exact ⟨0, Nat.zero_le _, rfl, Lib.hid (World.ownsRow_nil _ _ _ _), Ext.refl _⟩
  case round =>
    obtain ⟨k, hk, rfl, HO, hx⟩ := hrel
    by_cases hkm : k < m
    · have hb := bit_u64 ⟨S, hS⟩ ⟨k, by omega⟩
      dsimp only at hb
      have hst : (List.range (k + 1)).filter (fun i => S.testBit i) = (List.range k).filter (fun i => S.testBit i) ++ (if S.testBit k then [k] else []) := by
        rw [List.range_succ, List.filter_append]
        congr 1
        cases h : S.testBit k <;> simp [h]
      have hll : ((List.range k).filter (fun i => S.testBit i)).length ≤ k := Nat.le_trans (List.length_filter_le _ _) (by simp)
      generalize (List.range k).filter (fun i => S.testBit i) = out at HO hst hll
      generalize S.testBit k = q at hst hb
      have HST := Lib.hid hst
      have hp1 : (1 : Int) ≤ (2 : Int) ^ k := by
        have : 1 ≤ 2 ^ k := Nat.one_le_two_pow
        have h2 : ((2 : Int) ^ k) = ((2 ^ k : Nat) : Int) := by simp
        omega
      clear hst
      obtain ⟨A3, c3, hv3, _, _⟩ := own_slice HO.out
      subst hv3
      cases q
      · rw [if_neg (by simp)] at hb
        have HO2 : Hid (OwnN wr w.heap.size (.slice A3 out.length c3) ((List.range (k + 1)).filter (fun i => S.testBit i))) := Lib.hid (by rw [HST.out]; simpa using HO.out)
        clear HO HST
        go_wp2_with fail
        go_roundw
        case rel => exact ⟨k + 1, by omega, by go_num, HO2, hx⟩
        case measure => simp [intOf]; omega
      · rw [if_pos rfl] at hb
        have hxa : Ext wr (wr.alloc (.cells #[.int .i64 (k : Int)] 3)) := bl_alloc (Below.refl _ _) _
        have hxw := Ext.trans hx hxa
        obtain ⟨v7, W7, hrun, hg7, ho7⟩ := snoc_nat 25 out (.slice A3 out.length c3) k w.heap.size wr.heap.size (Blk.new _ _ _) (HO.out.ext hxa) (by omega) (Below.size hxw)
        have hx7 : Ext w W7 := hxw.grown hg7 (Below.size hxw) (fun q e => (World.ownsRow.lt HO.out q e).1)
        have HO7 : Hid (OwnN W7 w.heap.size v7 ((List.range (k + 1)).filter (fun i => S.testBit i))) := Lib.hid (by rw [HST.out]; exact ho7)
        have HRUN := Lib.hid hrun
        clear hrun hg7 ho7 hxw hxa HO HST hx
        go_upto_region 5 with (fail)
        go_wp2_with (refine wpList_append_run_ rfl _ _ _ rfl rfl rfl HRUN.out ?_)
        go_roundw
        case rel => exact ⟨k + 1, by omega, by go_num, HO7, hx7⟩
        case measure => simp [intOf]; omega
    · obtain rfl : k = m := by omega
      obtain ⟨A3, c3, hv3, _, _⟩ := own_slice HO.out
      subst hv3
      go_wp2
      go_ret
      exact ⟨_, rfl, HO.out, hx⟩
end Go.Proofs.Ytmlabgmigakcbaa
