/- Whether a receipt fits an option; fates and discords of all, plainly. -/
import Derived.Test.YtmlabgmigakcbaaR9a
namespace Go.Proofs.Ytmlabgmigakcbaa
open Go.RowKit

/-- A receipt fits none of the options. -/
def noneP (q : Opt → Rcp → Nat) (os : List Opt) (r : Rcp) : Bool := os.all (fun o => decide (q o r = 0))
def strL (q : Opt → Rcp → Nat) (os : List Opt) : Nat → List Dsc → List Rcp → List Dsc
  | _, ds, [] => ds
  | i, ds, r :: l => strL q os (i + 1) (if noneP q os r then ds ++ [⟨1, r.im, i⟩] else ds) l
theorem strL_cons (q : Opt → Rcp → Nat) (os : List Opt) (i : Nat) (ds : List Dsc) (r : Rcp) (l : List Rcp) : strL q os i ds (r :: l) = strL q os (i + 1) (if noneP q os r then ds ++ [⟨1, r.im, i⟩] else ds) l := by rw [strL]
def recP (q : Opt → Rcp → Nat) (now : Int) (rs : List Rcp) (ns : List Nte) : List Dsc → List Opt → List FteP × List Dsc
  | ds, [] => ([], ds)
  | ds, o :: r => ((fateP (q o) now o.l o.id rs ns ds).1 :: (recP q now rs ns (fateP (q o) now o.l o.id rs ns ds).2 r).1, (recP q now rs ns (fateP (q o) now o.l o.id rs ns ds).2 r).2)
theorem recP_cons (q : Opt → Rcp → Nat) (now : Int) (rs : List Rcp) (ns : List Nte) (ds : List Dsc) (o : Opt) (r : List Opt) : recP q now rs ns ds (o :: r) = ((fateP (q o) now o.l o.id rs ns ds).1 :: (recP q now rs ns (fateP (q o) now o.l o.id rs ns ds).2 r).1, (recP q now rs ns (fateP (q o) now o.l o.id rs ns ds).2 r).2) := by rw [recP]
def qOf (ps : List Pas) (f : Int → Option Int) (now : Int) (o : Opt) (r : Rcp) : Nat := fitsP ps f now o.id o.l r
def recOK (os : List Opt) (ps : List Pas) (sts : List Stn) (rs : List Rcp) (ns : List Nte) (now : Int) : Bool := decide (rs.length ≤ 60) && (decide (ns.length ≤ 60) && (decide (0 ≤ now ∧ now ≤ 1000000) && validP os ps sts))
/-- Reconcile, plainly. -/
def recV (os : List Opt) (ps : List Pas) (sts : List Stn) (rs : List Rcp) (ns : List Nte) (now : Int) : (List FteP × List Dsc) × Int :=
  if recOK os ps sts rs ns now then (recP (qOf ps (skewF sts) now) now rs ns (strL (qOf ps (skewF sts) now) os 0 [] rs) os, 0) else (([], []), 300)
theorem noteP_len (now : Int) (sl : List Slt) (id : Int) : ∀ (l : List Nte) i left slot done ds, (noteP now sl id i left slot done ds l).2.length ≤ ds.length + l.length
  | [], _, _, _, _, ds => by rw [noteP]; simp
  | n :: l, i, left, slot, done, ds => by
    rw [noteP_cons]
    simp only [List.length_cons]
    split
    · have := noteP_len now sl id l (i + 1) left slot done ds; omega
    · split
      · simp
      · split
        · have := noteP_len now sl id l (i + 1) left (slot + 1) n.is_ (ds ++ [⟨4, id, i⟩]); simp at this; omega
        · have := noteP_len now sl id l (i + 1) (nextP n.is_ left slot) (slot + 1) n.is_ ds; omega
theorem fateP_len (q : Rcp → Nat) (now : Int) (sl : List Slt) (id : Int) (rs : List Rcp) (ns : List Nte) (ds : List Dsc) : (fateP q now sl id rs ns ds).2.length ≤ ds.length + rs.length + ns.length := by
  unfold fateP
  have h1 := recvP_len q id rs 0 0 ds
  have h2 := noteP_len now sl id ns 0 (recvP q id 0 0 ds rs).1 0 false (recvP q id 0 0 ds rs).2
  dsimp only
  omega

set_option maxRecDepth 100000 in
set_option maxHeartbeats 4000000 in
theorem rec2_any (o : Opt) (ps : List Pas) (f : Int → Option Int) (now : Int) (r : Rcp) (PA : Option Addr) (pn pc gm gD gR : Nat) (w : World) (ho : RA sltCells 3 w w.heap.size o.a o.n o.c o.l) (hp : RA pasCells 6 w w.heap.size PA pn pc ps) (hm : MapI w gm (iM f)) (hD : Blk w gD 104 #[.slice PA pn pc, .map (some gm), .int .i64 now]) (hR : Blk w gR 63 (rcpCells r).toArray) (hs : SlOK ps o.l) (hf : SkOK f) :
    Calls Try.prog 49 #[.agg (optCells o).toArray, .pointer (some ⟨gD, 0, none⟩), .pointer (some ⟨gR, 0, none⟩)] w fun e w' => e = .returned (.bool (decide (qOf ps f now o r ≠ 0))) ∧ Ext w w' := by
  have hC : ∀ W, Ext w W → Calls Try.prog 50 #[.agg #[.slice PA pn pc, .map (some gm), .int .i64 now], .agg (optCells o).toArray, .agg (rcpCells r).toArray] W fun e w' => e = .returned (.int .u64 (qOf ps f now o r : Nat)) ∧ Ext W w' := fun W hW => fits_any o ps f now r PA pn pc gm W (ra_ext ho hW) (ra_ext hp hW) (hm.ext hW) hs hf
  generalize qOf ps f now o r = S at hC ⊢
  have HC := Lib.hid hC
  clear hC ho hp hm hs hf
  obtain ⟨id, i1, i2, i3, i4, i5, i6, i7, a, n, c, l⟩ := o
  obtain ⟨rsn, rim, rat⟩ := r
  show Calls Try.prog 49 #[.agg #[.int .i64 id, .int .i64 i1, .int .i64 i2, .int .i64 i3, .int .i64 i4, .int .i64 i5, .int .i64 i6, .int .i64 i7, .slice a n c], .pointer (some ⟨gD, 0, none⟩), .pointer (some ⟨gR, 0, none⟩)] w _
  go_enter Try.func49, Try.ntmps49
  go_upto_region 1 with (fail)
  have hx : Ext w (w.alloc (.cells #[.int .i64 id, .int .i64 i1, .int .i64 i2, .int .i64 i3, .int .i64 i4, .int .i64 i5, .int .i64 i6, .int .i64 i7, .slice a n c] 32)) := bl_alloc (Below.refl _ _) _
  have J := Blk.new w 32 #[.int .i64 id, .int .i64 i1, .int .i64 i2, .int .i64 i3, .int .i64 i4, .int .i64 i5, .int .i64 i6, .int .i64 i7, .slice a n c]
  generalize w.heap.size = g3 at J ⊢
  generalize w.alloc (.cells #[.int .i64 id, .int .i64 i1, .int .i64 i2, .int .i64 i3, .int .i64 i4, .int .i64 i5, .int .i64 i6, .int .i64 i7, .slice a n c] 32) = W1 at hx J ⊢
  have hD := hD.ext hx
  have hR := hR.ext hx
  have t0 : W1.cell? ⟨gD, 0, none⟩ = some (.slice PA pn pc) := hD.cell 0
  have t1 : W1.cell? ⟨gD, 1, none⟩ = some (.map (some gm)) := hD.cell 1
  have t2 : W1.cell? ⟨gD, 2, none⟩ = some (.int .i64 now) := hD.cell 2
  have r0 : W1.cell? ⟨gR, 0, none⟩ = some (.int .i64 rsn) := hR.cell 0
  have r1 : W1.cell? ⟨gR, 1, none⟩ = some (.int .i64 rim) := hR.cell 1
  have r2 : W1.cell? ⟨gR, 2, none⟩ = some (.int .i64 rat) := hR.cell 2
  have d0 : W1.cell? ⟨g3, 0, none⟩ = some (.int .i64 id) := J.cell 0
  have d1 : W1.cell? ⟨g3, 1, none⟩ = some (.int .i64 i1) := J.cell 1
  have d2 : W1.cell? ⟨g3, 2, none⟩ = some (.int .i64 i2) := J.cell 2
  have d3 : W1.cell? ⟨g3, 3, none⟩ = some (.int .i64 i3) := J.cell 3
  have d4 : W1.cell? ⟨g3, 4, none⟩ = some (.int .i64 i4) := J.cell 4
  have d5 : W1.cell? ⟨g3, 5, none⟩ = some (.int .i64 i5) := J.cell 5
  have d6 : W1.cell? ⟨g3, 6, none⟩ = some (.int .i64 i6) := J.cell 6
  have d7 : W1.cell? ⟨g3, 7, none⟩ = some (.int .i64 i7) := J.cell 7
  have d8 : W1.cell? ⟨g3, 8, none⟩ = some (.slice a n c) := J.cell 8
  have HK := Lib.hid (HC.out W1 hx)
  clear HC J hD hR
  go_wp2_with fail
  refine HK.out.mono ?_
  rintro e W2 ⟨rfl, hy⟩
  have HX := Lib.hid (Ext.trans hx hy)
  clear t0 t1 t2 r0 r1 r2 d0 d1 d2 d3 d4 d5 d6 d7 d8 HK hx hy
  by_cases hS : S = 0
  · subst hS
    go_wp2
    go_ret
    exact ⟨rfl, HX.out⟩
  · have h1 : ((S : Int) != 0) = true := by simpa using hS
    have h2 : ((S : Int) == 0) = false := by simpa using hS
    have h3 : ¬ (S : Int) = 0 := by omega
    have h4 : decide (S ≠ 0) = true := by simpa using hS
    go_wp2
    go_ret
    exact ⟨by rw [h4]; rfl, HX.out⟩

set_option maxRecDepth 100000 in
set_option maxHeartbeats 4000000 in
theorem index_any (os : List Opt) (ps : List Pas) (f : Int → Option Int) (now : Int) (r : Rcp) (OA PA : Option Addr) (n c pn pc gm gD gR : Nat) (w : World) (ho : Ops w w.heap.size OA n c os) (hp : RA pasCells 6 w w.heap.size PA pn pc ps) (hm : MapI w gm (iM f)) (hD : Blk w gD 104 #[.slice PA pn pc, .map (some gm), .int .i64 now]) (hR : Blk w gR 63 (rcpCells r).toArray) (hs : ∀ o ∈ os, SlOK ps o.l) (hf : SkOK f) :
    Calls Try.prog 81 #[.slice OA n c, .func (.func 49) #[] #[.pointer (some ⟨gD, 0, none⟩), .pointer (some ⟨gR, 0, none⟩)]] w fun e w' => ∃ z : Int, e = .returned (.int .i64 z) ∧ decide (z ≥ 0) = !noneP (qOf ps f now) os r ∧ Ext w w' := by
  have hle := ho.out.le
  have HR2 := Lib.hid (fun (o : Opt) (hin : o ∈ os) (W : World) (hW : Ext w W) => rec2_any o ps f now r PA pn pc gm gD gR W (ra_ext (ho.each o hin) hW) (ra_ext hp hW) (hm.ext hW) (hD.ext hW) (hR.ext hW) (hs o hin) hf)
  have HO := Lib.hid ho.out
  have HL := Lib.hid ho.out.len
  obtain ⟨fin, hfin⟩ : ∃ x, x = !noneP (qOf ps f now) os r := ⟨_, rfl⟩
  rw [← hfin]
  have HF0 : Hid (fin = !noneP (qOf ps f now) (os.drop 0) r) := Lib.hid hfin
  clear hfin ho hp hm hD hR hs hf
  go_enter Try.func81, Try.ntmps81
  go_wp2
  go_loopw [8] (fun i wr => ∃ k : Nat, k ≤ n ∧ i = .int .i64 k ∧ Hid (fin = !noneP (qOf ps f now) (os.drop k) r) ∧ Ext w wr) (fun i _ => n - (intOf i).toNat)
  case atStart => exact ⟨0, Nat.zero_le _, rfl, HF0, Ext.refl _⟩
  case round =>
    clear HF0
    obtain ⟨k, hk, rfl, HF, hx⟩ := hrel
    by_cases hkn : k < n
    · obtain ⟨b, ob, hz, hA, _, hc⟩ := (HO.out.below hx).at_ opt_len hkn
      have hcall := HR2.out os[k] (List.getElem_mem hz) wr hx
      have hst := HF.out
      rw [List.drop_eq_getElem_cons hz] at hst
      have hst2 : fin = (!decide (qOf ps f now os[k] r = 0) || !noneP (qOf ps f now) (os.drop (k + 1)) r) := by rw [hst]; simp only [noneP, List.all_cons, Bool.not_and]
      generalize os[k] = o at hcall hc hst2
      generalize qOf ps f now o r = S at hcall hst2
      obtain ⟨id, i1, i2, i3, i4, i5, i6, i7, a, m, d, l⟩ := o
      have c0 : wr.cell? ⟨b, ob + k * 9, none⟩ = some (.int .i64 id) := hc 0 (by omega)
      have c1 : wr.cell? ⟨b, ob + k * 9 + 1, none⟩ = some (.int .i64 i1) := hc 1 (by omega)
      have c2 : wr.cell? ⟨b, ob + k * 9 + 2, none⟩ = some (.int .i64 i2) := hc 2 (by omega)
      have c3 : wr.cell? ⟨b, ob + k * 9 + 3, none⟩ = some (.int .i64 i3) := hc 3 (by omega)
      have c4 : wr.cell? ⟨b, ob + k * 9 + 4, none⟩ = some (.int .i64 i4) := hc 4 (by omega)
      have c5 : wr.cell? ⟨b, ob + k * 9 + 5, none⟩ = some (.int .i64 i5) := hc 5 (by omega)
      have c6 : wr.cell? ⟨b, ob + k * 9 + 6, none⟩ = some (.int .i64 i6) := hc 6 (by omega)
      have c7 : wr.cell? ⟨b, ob + k * 9 + 7, none⟩ = some (.int .i64 i7) := hc 7 (by omega)
      have c8 : wr.cell? ⟨b, ob + k * 9 + 8, none⟩ = some (.slice a m d) := hc 8 (by omega)
      have HC := Lib.hid hcall
      have HS := Lib.hid hst2
      subst hA
      clear hc hz hst hst2 hcall HF
      go_wp2_with fail
      refine HC.out.mono ?_
      rintro e W2 ⟨rfl, hy⟩
      have HX := Lib.hid (Ext.trans hx hy)
      clear HC c0 c1 c2 c3 c4 c5 c6 c7 c8 hy hx
      by_cases hS : S = 0
      · have HN : Hid (fin = !noneP (qOf ps f now) (os.drop (k + 1)) r) := Lib.hid (by rw [HS.out, decide_eq_true hS]; rfl)
        have hd : decide (S ≠ 0) = false := by simpa using hS
        rw [hd]
        clear HS hd
        go_wp2
        go_roundw
        case rel => exact ⟨k + 1, by omega, by go_num, HN, HX.out⟩
        case measure => simp [intOf]; omega
      · have hd : decide (S ≠ 0) = true := by simpa using hS
        have hft : fin = true := by rw [HS.out, decide_eq_false hS]; rfl
        have HFT := Lib.hid hft
        rw [hd]
        clear HS hd hft
        go_wp2
        go_ret
        exact ⟨k, rfl, by rw [HFT.out]; simp, HX.out⟩
    · have hff : fin = false := by rw [HF.out, List.drop_of_length_le (by rw [HL.out]; omega)]; rfl
      have HFF := Lib.hid hff
      clear hff HF
      go_wp2
      go_ret
      exact ⟨-1, rfl, by rw [HFF.out]; rfl, hx⟩

theorem contains_opt (os : List Opt) (ps : List Pas) (f : Int → Option Int) (now : Int) (r : Rcp) (OA PA : Option Addr) (n c pn pc gm gD gR : Nat) (w : World) (ho : Ops w w.heap.size OA n c os) (hp : RA pasCells 6 w w.heap.size PA pn pc ps) (hm : MapI w gm (iM f)) (hD : Blk w gD 104 #[.slice PA pn pc, .map (some gm), .int .i64 now]) (hR : Blk w gR 63 (rcpCells r).toArray) (hs : ∀ o ∈ os, SlOK ps o.l) (hf : SkOK f) :
    Calls Try.prog 48 #[.slice OA n c, .func (.func 49) #[] #[.pointer (some ⟨gD, 0, none⟩), .pointer (some ⟨gR, 0, none⟩)]] w fun e w' => e = .returned (.bool (!noneP (qOf ps f now) os r)) ∧ Ext w w' := by
  have HI := Lib.hid (index_any os ps f now r OA PA n c pn pc gm gD gR w ho hp hm hD hR hs hf)
  generalize (!noneP (qOf ps f now) os r) = q at HI ⊢
  clear ho hp hm hD hR hs hf
  go_enter Try.func48, Try.ntmps48
  go_wp2_with fail
  refine HI.out.mono ?_
  rintro e W ⟨z, rfl, hz, hx⟩
  have HZ := Lib.hid hz
  clear HI hz
  go_wp2
  go_ret
  exact ⟨by rw [← HZ.out]; rfl, hx⟩
end Go.Proofs.Ytmlabgmigakcbaa
