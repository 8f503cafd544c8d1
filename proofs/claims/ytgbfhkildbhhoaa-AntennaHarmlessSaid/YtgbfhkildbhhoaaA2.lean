/- indices, at: the places of the uses for which a function holds. -/
import Derived.Test.YtgbfhkildbhhoaaA1
import Derived.Test.YtgbfhkildbhhoaaReg6
import Derived.OwnWalk
namespace Go.Proofs.Ytgbfhkildbhhoaa
open Go.RowKit

theorem enters_fn {f : FuncId} {fn : Func} {c : Code} (hf : Try.prog.funcs[f]? = some fn) (hname : (fn.name == "runtime.NumGoroutine") = false) (hb : fn.body = some c) : ∀ args w, (callFunc f args).run Try.prog w = .ok (.enter f args) w := by
  intro args w
  have hn : ¬ fn.name = "runtime.NumGoroutine" := by simpa using hname
  simp [callFunc, hf, hn, hb]
theorem RA.of_own {α : Type} {cells : α → List Value} {s : Nat} {w : World} {base : Nat} {e : TypeId} {A : Option Addr} {n c : Nat} {l : List α} (h : w.ownsRow base e s (.slice A n c) n (l.flatMap cells)) (hl : l.length = n) (hn : n ≤ 9223372036854775807) : RA cells s w w.heap.size A n c l := by
  obtain ⟨A', c', hv, h1, h2⟩ := own_slice h
  injection hv with _ _ hv
  subst hv
  exact ⟨Reads.of_own h, hl, h1, h2, hn⟩
section
variable {α : Type} {cells : α → List Value} {s : Nat} {w w' : World} {B n c : Nat} {A : Option Addr} {l : List α}
theorem RA.range (hs : ∀ x, (cells x).length = s) (h : RA cells s w B A n c l) {k : Nat} (hk : k < n) :
    ∃ (b o : Nat) (hz : k < l.length), A = some ⟨b, o, none⟩ ∧ b < B ∧ w.rangeAt b (o + k * s) (cells l[k]) := by
  obtain ⟨b, o, hz, hA, hb, hc⟩ := h.at_ hs hk
  refine ⟨b, o, hz, hA, hb, fun j v hv => ?_⟩
  have hj : j < s := by rw [← hs l[k]]; exact (List.getElem?_eq_some_iff.1 hv).1
  exact (hc j hj).trans hv
theorem RA.range2 {b o : Nat} {cs : List Value} (h : w.rangeAt b o cs) (hx : Ext w w') : w'.rangeAt b o cs := fun j v hv => ext_cell hx (h j v hv)
theorem Blk.range {g : Nat} {t : TypeId} {cs : Array Value} (h : Blk w g t cs) (l : List Value) (hl : cs.toList = l) : w.rangeAt g 0 l := fun j v hv => by
  rw [Nat.zero_add, h.cell, ← hv, ← hl]; simp
end
/-- A call hands back a new list. -/
def ListRet {α : Type} (cells : α → List Value) (s : Nat) (t : TypeId) (l : List α) (w : World) (e : Ending) (w' : World) : Prop := ∃ v, e = .returned v ∧ w'.ownsRow w.heap.size t s v l.length (l.flatMap cells) ∧ Below w.heap.size w w'
theorem info_int : (Try.prog.info? 3).map (fun i => (i.zero, i.size, i.bytes)) = some (some (.int .i64 0), 1, 8) := by kernel_rfl
set_option maxHeartbeats 4000000 in
set_option maxRecDepth 100000 in
theorem indices_any (K : Nat) (caps : Array Value) (q : Use → Bool) (l : List Use) (SA : Option Addr) (n c : Nat) (w : World) (hr : RA useCells 3 w w.heap.size SA n c l) (hn : n ≤ 1000) (hent : ∀ args w, (callFunc K args).run Try.prog w = .ok (.enter K args) w)
    (hk : ∀ (u : Use) (W : World), Ext w W → Calls Try.prog K (#[.agg #[.int .i64 u.sat, .int .i64 u.fr, .int .i64 u.tt]] ++ caps) W fun e w' => e = .returned (.bool (q u)) ∧ Ext W w') :
    Calls Try.prog 60 #[.slice SA n c, .func (.func K) #[] caps] w (ListRet natCells 1 3 (idxP q l 0) w) := by
  have HK := Lib.hid hk
  have HR := Lib.hid hr
  have HL := Lib.hid hr.len
  clear hk hr
  go_enter Try.func60, Try.ntmps60
  go_wp2
  go_loopw [5, 10] (fun x y wr => ∃ k : Nat, k ≤ n ∧ y = .int .i64 k ∧ Hid (wr.ownsRow w.heap.size 3 1 x (idxP q (l.take k) 0).length ((idxP q (l.take k) 0).flatMap natCells)) ∧ Ext w wr) (fun _ y _ => n - (intOf y).toNat)
  case atStart => exact ⟨0, Nat.zero_le _, rfl, Lib.hid (World.ownsRow_nil _ _ _ _), Ext.refl _⟩
  case round =>
    obtain ⟨k, hk, rfl, HO, hx⟩ := hrel
    by_cases hkn : k < n
    · obtain ⟨gb, go, hz, hA, _, hc⟩ := (HR.out.below hx).at_ use_len hkn
      have hst := idxP_succ q l k hz
      have hll := idxP_le q (l.take k) 0
      have hl1 : (l.take k).length ≤ k := List.length_take_le _ _
      have hcl := fun W h => HK.out l[k] W h
      generalize l[k] = u at hc hst hcl
      obtain ⟨us, uf, ut⟩ := u
      dsimp only at hcl
      generalize q ⟨us, uf, ut⟩ = b at hst hcl
      have d0 : wr.cell? ⟨gb, go + k * 3, none⟩ = some (.int .i64 us) := hc 0 (by omega)
      have d1 : wr.cell? ⟨gb, go + k * 3 + 1, none⟩ = some (.int .i64 uf) := hc 1 (by omega)
      have d2 : wr.cell? ⟨gb, go + k * 3 + 2, none⟩ = some (.int .i64 ut) := hc 2 (by omega)
      have hm : (idxP q (l.take k) 0).length ≤ 1000 := by omega
      have HCL := Lib.hid hcl
      have HST := Lib.hid hst
      clear hc hst hcl hz hll hl1
      subst hA
      go_upto_region 5 with (fail)
      clear d0 d1 d2
      have hy : Ext wr (wr.alloc (.cells #[.int .i64 us, .int .i64 uf, .int .i64 ut] 26)) := bl_alloc (Below.refl _ _) _
      have J : Blk (wr.alloc (.cells #[.int .i64 us, .int .i64 uf, .int .i64 ut] 26)) wr.heap.size 26 #[.int .i64 us, .int .i64 uf, .int .i64 ut] := Blk.new _ _ _
      obtain ⟨g7, hg7⟩ : ∃ g, g = wr.heap.size := ⟨_, rfl⟩
      rw [← hg7] at J ⊢
      generalize wr.alloc (.cells #[.int .i64 us, .int .i64 uf, .int .i64 ut] 26) = W1 at hy J ⊢
      have hx := Ext.trans hx hy
      have HO := Lib.hid (own_ext HO.out hy)
      clear hy hg7
      have d0 : W1.cell? ⟨g7, 0, none⟩ = some (.int .i64 us) := J.cell 0
      have d1 : W1.cell? ⟨g7, 1, none⟩ = some (.int .i64 uf) := J.cell 1
      have d2 : W1.cell? ⟨g7, 2, none⟩ = some (.int .i64 ut) := J.cell 2
      go_wp2_with fail
      refine (HCL.out _ hx).mono ?_
      rintro e W2 ⟨rfl, hy⟩
      have hx := Ext.trans hx hy
      have HO := Lib.hid (own_ext HO.out hy)
      clear hy d0 d1 d2 J HCL
      cases b
      · have HO2 : Hid (W2.ownsRow w.heap.size 3 1 u5 (idxP q (l.take (k + 1)) 0).length ((idxP q (l.take (k + 1)) 0).flatMap natCells)) := Lib.hid (by rw [HST.out]; simpa using HO.out)
        clear HO
        go_wp2
        go_roundw
        case rel => exact ⟨k + 1, by omega, by go_num, HO2, hx⟩
        case measure => simp [intOf]; omega
      · obtain ⟨A3, c3, hv3, _, _⟩ := own_slice HO.out
        subst hv3
        have hrow := own_ext HO.out (show Ext W2 (W2.alloc (.cells #[.int .i64 (k : Int)] 3)) from bl_alloc (Below.refl _ _) _)
        have hx5 := Ext.trans hx (show Ext W2 (W2.alloc (.cells #[.int .i64 (k : Int)] 3)) from bl_alloc (Below.refl _ _) _)
        have jx : Blk (W2.alloc (.cells #[.int .i64 (k : Int)] 3)) W2.heap.size 3 #[.int .i64 (k : Int)] := Blk.new _ _ _
        obtain ⟨w5, hw5⟩ : ∃ w5, w5 = W2.alloc (.cells #[.int .i64 (k : Int)] 3) := ⟨_, rfl⟩
        obtain ⟨gx, hgx⟩ : ∃ g, g = W2.heap.size := ⟨_, rfl⟩
        rw [← hw5] at hx5 hrow jx
        rw [← hgx] at jx
        have hBs := Below.size hx5
        obtain ⟨i0, hi0, hz0, hz1, hz2⟩ := info_parts info_int
        obtain ⟨v2, W7, hr, hrow2, hg2, -⟩ := run_append_own (P := Try.prog) w5 w.heap.size 28 28 3 i0 _ 1 8 Try.underlying28 hi0 hz0 hz1 hz2 rfl (by omega) _ _ _ hrow ⟨gx, 0, none⟩ 1 1 [.int .i64 (k : Int)] rfl (by intro i u hu; rw [Addr.add_lit, Nat.zero_add, jx.cell]; simpa using hu) (by simp [Value.oneCell']) (by unfold maxLen; omega) (by omega) (by omega)
        have hx7 : Ext w W7 := hx5.grown hg2 hBs (fun q e => (World.ownsRow.lt hrow q e).1)
        have HO2 : Hid (W7.ownsRow w.heap.size 3 1 v2 (idxP q (l.take (k + 1)) 0).length ((idxP q (l.take (k + 1)) 0).flatMap natCells)) := Lib.hid (by rw [HST.out, if_pos rfl, List.length_append, List.flatMap_append]; simpa [natCells] using hrow2)
        rw [hw5, hgx] at hr
        have HRUN := Lib.hid hr
        clear hr hrow hrow2 hg2 jx hx5 hBs HO hw5 hgx hi0 hz0 hz1 hz2
        go_wp2_with (refine wpList_append_run_ rfl _ _ _ rfl rfl rfl HRUN.out ?_)
        clear HRUN
        go_roundw
        case rel => exact ⟨k + 1, by omega, by go_num, HO2, hx7⟩
        case measure => simp [intOf]; omega
    · have hkk : l.take k = l := List.take_of_length_le (by rw [HL.out]; omega)
      have HE : Hid (wr.ownsRow w.heap.size 3 1 u5 (idxP q l 0).length ((idxP q l 0).flatMap natCells)) := Lib.hid (by rw [← hkk]; simpa using HO.out)
      clear HO hkk
      go_wp2
      go_ret
      exact ⟨_, rfl, HE.out, hx⟩
theorem at_any (l : List Use) (t : Int) (SA : Option Addr) (n c : Nat) (w : World) (hr : RA useCells 3 w w.heap.size SA n c l) (hn : n ≤ 1000) :
    Calls Try.prog 35 #[.slice SA n c, .int .i64 t] w (ListRet natCells 1 3 (atP l t) w) := by
  have hi := fun (g : Nat) (W : World) (hW : Ext w W) (hg : W.cell? ⟨g, 0, none⟩ = some (.int .i64 t)) => indices_any 61 #[.pointer (some ⟨g, 0, none⟩)] (hasT t) l SA n c W ((hr.below hW).more (Below.size hW)) hn (enters_fn Try.func61 (by kernel_rfl) rfl) (fun u W2 h => at1_any u.sat u.fr u.tt t g W2 (ext_cell h hg))
  have HI := Lib.hid hi
  clear hi hr
  go_enter Try.func35, Try.ntmps35
  go_wp2_with fail
  have hx : Ext w (w.alloc (.cells #[.int .i64 t] 3)) := bl_alloc (Below.refl _ _) _
  have J : Blk (w.alloc (.cells #[.int .i64 t] 3)) w.heap.size 3 #[.int .i64 t] := Blk.new _ _ _
  have hsz := Below.size hx
  refine (HI.out _ _ hx (J.cell 0)).mono ?_
  rintro e W1 ⟨v, rfl, hown, hy⟩
  clear HI
  go_wp2
  go_ret
  exact ⟨_, rfl, own_base hown hsz, Ext.trans hx hy⟩
end Go.Proofs.Ytgbfhkildbhhoaa
