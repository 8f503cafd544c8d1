/- Inputs that integers determine: stations, lost sets, options. -/
import Derived.Test.YtmlabgmigakcbaaU2
import Derived.Test.YtmlabgmigakcbaaReg4
namespace Go.Proofs.Ytmlabgmigakcbaa
open Go.RowKit

def TG (g : Nat) (o : Obj) (w w' : World) : Prop := One g w w' ∧ (w'.heap[g]? = w.heap[g]? ∨ w'.heap[g]? = some o)
theorem tg_tr (g : Nat) (o : Obj) : RB.Tr (TG g o) :=
  ⟨fun w => ⟨One.refl g w, .inl rfl⟩, fun {a b c} h k => ⟨h.1.trans k.1, by
    rcases k.2 with e | e
    · rcases h.2 with e2 | e2
      · exact .inl (e.trans e2)
      · exact .inr (e.trans e2)
    · exact .inr e⟩⟩
theorem TG.undrew {g : Nat} {o : Obj} {w w' : World} (h : TG g o w.drew w') : TG g o w w' := ⟨⟨h.1.os, h.1.tape, h.1.output, h.1.size, h.1.block⟩, h.2⟩
def OwnT (W : World) (b : Nat) (v : Value) (l : List Stn) : Prop := W.ownsRow b 122 6 v l.length (l.flatMap stnCells)
theorem OwnT.ext {W W' : World} {b : Nat} {v : Value} {l : List Stn} (h : OwnT W b v l) (hx : Ext W W') : OwnT W' b v l := own_ext h hx
theorem info_stn : (Try.prog.info? 122).map (fun i => (i.zero, i.size, i.bytes)) = some (some (.agg #[.int .i64 0, .int .i64 0, .int .i64 0, .int .i64 0, .int .i64 0, .int .i64 0]), 6, 48) := by kernel_rfl
theorem stn_snoc {w : World} (ty : TypeId) (xs : List Stn) (v : Value) (x : Stn) (base gx : Nat) (jx : Blk w gx 122 (stnCells x).toArray) (hx : OwnT w base v xs) (hn : xs.length ≤ 900) (hb : base ≤ w.heap.size) :
    ∃ v' w', (Builtin.append_ #[38, 38] ty #[v, .slice (some ⟨gx, 0, none⟩) 1 1]).run Try.prog w = .ok v' w' ∧ w.grownBy w' v.ownBlock ∧ OwnT w' base v' (xs ++ [x]) := by
  obtain ⟨i0, hi0, hz0, hz1, hz2⟩ := info_parts info_stn
  obtain ⟨v2, W7, hr, hrow2, hg2, -⟩ := run_append_own (P := Try.prog) w base 38 ty 122 i0 _ 6 48 Try.underlying38 hi0 hz0 hz1 hz2 rfl (by omega) _ _ _ hx ⟨gx, 0, none⟩ 1 1 (stnCells x) rfl (by intro i u hu; rw [Addr.add_lit, Nat.zero_add, jx.cell]; simpa using hu) (by simp [stnCells, Value.oneCell']) (by unfold maxLen; omega) (by omega) hb
  refine ⟨v2, W7, hr, hg2, ?_⟩
  unfold OwnT
  rw [List.length_append, List.flatMap_append]
  simpa using hrow2
def stnOf (i x : Int) : Stn := ⟨i, ⟨0, 0⟩, 0, 1, pickI x 8⟩
def triAt (t : Tri) (k : Nat) : Int := [t.a, t.b, t.c].getD k 0
theorem triAt_ok {t : Tri} (h : t.ok) {k : Nat} (hk : k < 3) : I64ok (triAt t k) := by
  match k, hk with
  | 0, _ => exact h.1
  | 1, _ => exact h.2.1
  | 2, _ => exact h.2.2
theorem triAt_cell {w : World} {g : Nat} {t : Tri} (h : Blk w g 24 (triCells t).toArray) {k : Nat} (hk : k < 3) : w.cell? ⟨g, k, none⟩ = some (.int .i64 (triAt t k)) := by
  rw [h.cell]
  match k, hk with
  | 0, _ => rfl
  | 1, _ => rfl
  | 2, _ => rfl
def stnK (t : Tri) (k : Nat) : List Stn := (List.range k).map (fun (i : Nat) => stnOf i (triAt t i))
theorem stnK_succ (t : Tri) (k : Nat) : stnK t (k + 1) = stnK t k ++ [stnOf k (triAt t k)] := by unfold stnK; rw [List.range_succ, List.map_append]; rfl
theorem stnK_len (t : Tri) (k : Nat) : (stnK t k).length = k := by simp [stnK]

set_option maxRecDepth 100000 in
set_option maxHeartbeats 4000000 in
theorem stations_any (t : Tri) (w : World) (ht : t.ok) :
    Calls Try.prog 38 #[.agg (triCells t).toArray] w fun e w' => ∃ v, e = .returned v ∧ OwnT w' w.heap.size v (stnK t 3) ∧ Ext w w' := by
  have HT : Hid (∀ k, k < 3 → I64ok (triAt t k)) := Lib.hid (fun k hk => triAt_ok ht hk)
  have HC : Hid (∀ (W : World) (g : Nat), Blk W g 24 (triCells t).toArray → ∀ k, k < 3 → W.cell? ⟨g, k, none⟩ = some (.int .i64 (triAt t k))) := Lib.hid (fun W g h k hk => triAt_cell h hk)
  obtain ⟨T, hT⟩ : ∃ y, y = (triCells t).toArray := ⟨_, rfl⟩
  rw [← hT] at HC ⊢
  have HTE := Lib.hid hT
  obtain ⟨x, y, z⟩ := t
  have hT2 : T = #[.int .i64 x, .int .i64 y, .int .i64 z] := hT
  clear hT ht
  subst hT2
  go_enter Try.func38, Try.ntmps38
  go_upto_region 1 with (fail)
  have hxb : Ext w (w.alloc (.cells #[.int .i64 x, .int .i64 y, .int .i64 z] 24)) := bl_alloc (Below.refl _ _) _
  have J := Blk.new w 24 #[.int .i64 x, .int .i64 y, .int .i64 z]
  obtain ⟨g1, hg1⟩ : ∃ g, g = w.heap.size := ⟨_, rfl⟩
  rw [← hg1] at J ⊢
  clear hg1
  generalize w.alloc (.cells #[.int .i64 x, .int .i64 y, .int .i64 z] 24) = W1 at hxb J ⊢
  have HJ := Lib.hid J
  have hsz := Below.size hxb
  clear J
  go_wp2
  go_loopw [3, 4] (fun u i wr => ∃ k : Nat, k ≤ 3 ∧ i = .int .i64 k ∧ Hid (OwnT wr W1.heap.size u (stnK ⟨x, y, z⟩ k)) ∧ Ext W1 wr) (fun _ i _ => 3 - (intOf i).toNat)
  case atStart => exact ⟨0, by omega, rfl, Lib.hid (World.ownsRow_nil _ _ _ _), Ext.refl _⟩
  case round =>
    obtain ⟨k, hk, rfl, HO, hx⟩ := hrel
    have HST := Lib.hid (stnK_succ ⟨x, y, z⟩ k)
    have HL := Lib.hid (stnK_len ⟨x, y, z⟩ k)
    by_cases hk3 : k < 3
    · have hok := HT.out k hk3
      have e0 := HC.out wr g1 (HJ.out.ext hx) k hk3
      generalize triAt ⟨x, y, z⟩ k = xk at hok e0 HST
      generalize stnK ⟨x, y, z⟩ k = L at HO HST HL
      have PK := fun W => picks_any xk 8 W hok.1 hok.2 (by omega) (by omega)
      have HST2 : Hid (stnK ⟨x, y, z⟩ (k + 1) = L ++ [⟨k, ⟨0, 0⟩, 0, 1, pickI xk 8⟩]) := HST
      generalize pickI xk 8 = px at PK HST2
      have HPK := Lib.hid PK
      obtain ⟨A3, c3, hv3, _, _⟩ := own_slice HO.out
      subst hv3
      have hxa : Ext wr (wr.alloc (.cells #[.int .i64 (k : Int), .int .i64 0, .int .i64 0, .int .i64 0, .int .i64 1, .int .i64 px] 122)) := bl_alloc (Below.refl _ _) _
      have hxw := Ext.trans hx hxa
      obtain ⟨v8, W8, hrun, hg8, ho8⟩ := stn_snoc 38 L (.slice A3 L.length c3) ⟨k, ⟨0, 0⟩, 0, 1, px⟩ W1.heap.size wr.heap.size (Blk.new _ _ _) (HO.out.ext hxa) (by have := HL.out; omega) (Below.size hxw)
      have hx8 : Ext W1 W8 := hxw.grown hg8 (Below.size hxw) (fun q e => (World.ownsRow.lt HO.out q e).1)
      have HRUN := Lib.hid hrun
      have HX8 := Lib.hid hx8
      have HO8 : Hid (OwnT W8 W1.heap.size v8 (stnK ⟨x, y, z⟩ (k + 1))) := Lib.hid (by rw [HST2.out]; exact ho8)
      clear hrun hg8 ho8 hxw hxa hx8 HO PK HST hok
      go_wp2_with fail
      refine (HPK.out _).mono ?_
      rintro e w2 ⟨rfl, rfl⟩
      go_wp2_with (refine wpList_append_run_ rfl _ _ _ rfl rfl rfl HRUN.out ?_)
      go_roundw
      case rel => exact ⟨k + 1, by omega, by go_num, HO8, HX8.out⟩
      case measure => simp [intOf]; omega
    · obtain rfl : k = 3 := by omega
      have HX9 := Lib.hid (Ext.trans hxb hx)
      have HO9 := Lib.hid (own_base HO.out hsz)
      clear HO HST HC HT
      go_wp2
      go_ret
      exact ⟨_, rfl, by have h := HO9.out; rw [HL.out] at h; unfold OwnT; rw [HL.out]; exact h, HX9.out⟩
/-- A lost set that bits determine. -/
def lostK (v : Int) (k : Nat) : List Nat := (List.range k).filter (fun i => decide ((v / 2 ^ i) % 2 = 1))
theorem lostK_succ (v : Int) (k : Nat) : lostK v (k + 1) = lostK v k ++ if (v / 2 ^ k) % 2 = 1 then [k] else [] := by
  unfold lostK
  rw [List.range_succ, List.filter_append]
  congr 1
  by_cases h : (v / 2 ^ k) % 2 = 1 <;> simp [h]
theorem lostK_len (v : Int) (k : Nat) : (lostK v k).length ≤ k := Nat.le_trans (List.length_filter_le _ _) (by simp)
def lostP (n : Nat) (x : Int) : List Nat := lostK (pickI x 1048576) (min n 20)
set_option maxRecDepth 100000 in
set_option maxHeartbeats 4000000 in
theorem lost_any (ps : List Pas) (PA : Option Addr) (n c : Nat) (x : Int) (w : World) (hp : RA pasCells 6 w w.heap.size PA n c ps) (hx : I64ok x) :
    Calls Try.prog 25 #[.slice PA n c, .int .i64 x] w fun e w' => ∃ v, e = .returned v ∧ OwnN w' w.heap.size v (lostP n x) ∧ Ext w w' := by
  have hle := hp.le
  have PK := fun W => picks_any x 1048576 W hx.1 hx.2 (by omega) (by omega)
  have hpb := pickI_bd x 1048576 (by omega)
  obtain ⟨fin, hfin⟩ : ∃ y, y = lostP n x := ⟨_, rfl⟩
  rw [← hfin]
  unfold lostP at hfin
  generalize pickI x 1048576 = v at PK hpb hfin
  have HPK := Lib.hid PK
  have HF := Lib.hid hfin
  clear hp hx PK hfin
  go_enter Try.func25, Try.ntmps25
  go_wp2
  go_loopw [5, 6] (fun u i wr => ∃ k : Nat, k ≤ n ∧ k ≤ 20 ∧ i = .int .i64 k ∧ Hid (OwnN wr w.heap.size u (lostK v k)) ∧ Ext w wr) (fun _ i _ => n - (intOf i).toNat)
  case atStart => exact ⟨0, by omega, by omega, rfl, Lib.hid (World.ownsRow_nil _ _ _ _), Ext.refl _⟩
  case round =>
    obtain ⟨k, hk, hk20, rfl, HO, hx⟩ := hrel
    have HST := Lib.hid (lostK_succ v k)
    have HL := Lib.hid (lostK_len v k)
    by_cases hkn : k < n
    · by_cases hk2 : k < 20
      · generalize hLL : lostK v k = L at HO HST HL
        obtain ⟨A3, c3, hv3, _, _⟩ := own_slice HO.out
        subst hv3
        clear hLL
        have hq : 0 ≤ v / 2 ^ k := Int.ediv_nonneg hpb.1 (Int.pow_nonneg (by omega))
        have hq2 : v / 2 ^ k ≤ v := Int.ediv_le_self _ hpb.1
        have hqm : (v / 2 ^ k).tmod 2 = (v / 2 ^ k) % 2 := Int.tmod_eq_emod_of_nonneg hq
        by_cases hb : (v / 2 ^ k) % 2 = 1
        · rw [hb] at hqm
          have HN2 : Hid (lostK v (k + 1) = L ++ [k]) := Lib.hid (by rw [HST.out, if_pos hb])
          have hxa : Ext wr (wr.alloc (.cells #[.int .i64 (k : Int)] 3)) := bl_alloc (Below.refl _ _) _
          have hxw := Ext.trans hx hxa
          obtain ⟨v8, W8, hrun, hg8, ho8⟩ := snoc_nat 25 L (.slice A3 L.length c3) k w.heap.size wr.heap.size (Blk.new _ _ _) (HO.out.ext hxa) (by have := HL.out; omega) (Below.size hxw)
          have hx8 : Ext w W8 := hxw.grown hg8 (Below.size hxw) (fun q e => (World.ownsRow.lt HO.out q e).1)
          have HRUN := Lib.hid hrun
          have HX8 := Lib.hid hx8
          have HO8 : Hid (OwnN W8 w.heap.size v8 (lostK v (k + 1))) := Lib.hid (by rw [HN2.out]; exact ho8)
          clear hrun hg8 ho8 hxw hxa hx8 HO HST HN2
          go_wp2_with fail
          refine (HPK.out _).mono ?_
          rintro e w2 ⟨rfl, rfl⟩
          go_upto_region 6 with (fail)
          go_wp2_with (refine wpList_append_run_ rfl _ _ _ rfl rfl rfl HRUN.out ?_)
          go_roundw
          case rel => exact ⟨k + 1, by omega, by omega, by go_num, HO8, HX8.out⟩
          case measure => simp [intOf]; omega
        · have hqm2 : (v / 2 ^ k).tmod 2 = 0 := by rw [hqm]; omega
          have HO8 : Hid (OwnN wr w.heap.size (.slice A3 L.length c3) (lostK v (k + 1))) := Lib.hid (by rw [HST.out, if_neg hb, List.append_nil]; exact HO.out)
          clear HO HST hqm hb
          go_wp2_with fail
          refine (HPK.out _).mono ?_
          rintro e w2 ⟨rfl, rfl⟩
          go_wp2
          go_roundw
          case rel => exact ⟨k + 1, by omega, by omega, by go_num, HO8, hx⟩
          case measure => simp [intOf]; omega
      · obtain rfl : k = 20 := by omega
        have h12 : (20 : Int) < (n : Int) := by omega
        have hff : fin = lostK v 20 := by rw [HF.out, show min n 20 = 20 by omega]
        have HFF := Lib.hid hff
        obtain ⟨A3, c3, hv3, _, _⟩ := own_slice HO.out
        subst hv3
        clear hff HF
        go_wp2
        go_ret
        exact ⟨_, rfl, by rw [HFF.out]; exact HO.out, hx⟩
    · have hff : fin = lostK v k := by rw [HF.out, show min n 20 = k by omega]
      have HFF := Lib.hid hff
      obtain ⟨A3, c3, hv3, _, _⟩ := own_slice HO.out
      subst hv3
      clear hff HF
      go_wp2
      go_ret
      exact ⟨_, rfl, by rw [HFF.out]; exact HO.out, hx⟩
end Go.Proofs.Ytmlabgmigakcbaa
