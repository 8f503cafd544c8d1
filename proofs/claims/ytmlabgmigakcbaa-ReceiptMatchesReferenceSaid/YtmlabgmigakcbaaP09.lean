/- Which slot is confirmed. -/
import Derived.Test.YtmlabgmigakcbaaP07
import Derived.Test.YtmlabgmigakcbaaP08
import Derived.Test.YtmlabgmigakcbaaP05
namespace Go.Proofs.Ytmlabgmigakcbaa
open Go.RowKit
theorem Tel.grown {B gd : Nat} {w W W' : World} {row : Option Nat} (h : Tel B gd w W) (k : W.grownBy W' row) (hr : ∀ q, row = some q → w.heap.size ≤ q) (hB : B ≤ w.heap.size) : Tel B gd w W' :=
 ⟨h.bl.grown k (Nat.le_trans hB h.size) (fun q e => Nat.le_trans hB (hr q e)), fun i hi h1 h2 => (k.block i (Nat.lt_of_lt_of_le hi h.size) (fun e => by have := hr i e.symm; omega)).trans (h.blk i hi h1 h2)⟩
theorem own_other {w w' : World} {b b' : Nat} {t t' : TypeId} {s s' : Nat} {v v' : Value} {n n' : Nat} {xs xs' : List Value} (h : w.ownsRow b t s v n xs) (h' : w.ownsRow b' t' s' v' n' xs') (ht : t ≠ t') (hg : w.grownBy w' v'.ownBlock) : w'.ownsRow b t s v n xs := by
 refine ⟨h.1, ?_⟩
 rcases h.2 with hn | ⟨g, cap, cur, rfl, hb, hgg, r⟩
 ·exact .inl hn
 ·refine .inr ⟨g, cap, cur, rfl, hb, ?_, r⟩
  rw [hg.block g (Array.getElem?_eq_some_iff.1 hgg).1 ?_]
  ·exact hgg
  ·intro e
   rcases h'.2 with ⟨hn, _⟩ | ⟨g', cap', cur', hv', hb', hgg', r'⟩
   ·rw [hn] at e; cases e
   ·rw [hv'] at e
    injection e with e
    subst e
    rw [hgg] at hgg'
    injection hgg' with h1
    injection h1 with _ h2
    exact ht h2
theorem setCell_same {w : World} {g i : Nat} {t : TypeId} {cs : Array Value} {v : Value} (h : Blk w g t cs) (hv : cs[i]? = some v) : w.setCell ⟨g, i, none⟩ v = w := by
 have hw : ∀ (a b : World), a.heap = b.heap → a = { b with heap := a.heap } → a = b := fun a b h1 h2 => by rw [h2, h1]
 refine hw _ _ ?_ rfl
 refine Array.ext_getElem? fun j => ?_
 by_cases hj : j = g
 ·subst hj
  rw [heap_setCell_same w j i cs t v h, h]
  have e : cs.setIfInBounds i v = cs := by
   refine Array.ext_getElem? fun k => ?_
   rw [Array.getElem?_setIfInBounds]
   split
   ·rename_i hk
    subst hk
    split
    ·exact hv.symm
    ·rename_i h2; rw [Array.getElem?_eq_none (by omega)] at hv; cases hv
   ·rfl
  rw [e]
 ·exact Below.heap_setCell w ⟨g, i, none⟩ v j hj
theorem DS.other {w w' : World} {gd B b' s' n' : Nat} {ds : List Dsc} {t' : TypeId} {v' : Value} {xs' : List Value} (h : DS w gd B ds) (h' : w.ownsRow b' t' s' v' n' xs') (ht : 83 ≠ t') (ht2 : t' ≠ 48) (hg : w.grownBy w' v'.ownBlock) : DS w' gd B ds := by
 obtain ⟨v, h1, h2⟩ := h
 exact ⟨v, h1.grown hg (fun e => own_blk_ne h' h1 ht2 e.symm), own_other h2 h' ht hg⟩
structure Fte where
 p : FteP
 a : Option Addr
 c : Nat
def fteCells (x : Fte) : List Value := [.int .i64 x.p.im, .int .i64 x.p.st, .slice x.a x.p.l.length x.c, .int .i64 x.p.fr, .int .i64 x.p.tt]
theorem fte_len (x : Fte) : (fteCells x).length = 5 := rfl
def OwnFs (W : World) (b : Nat) (v : Value) (fs : List Fte) : Prop := W.ownsRow b 76 5 v fs.length (fs.flatMap fteCells) ∧ ∀ x ∈ fs, OwnN W b (.slice x.a x.p.l.length x.c) x.p.l
theorem OwnFs.nil (W : World) (b : Nat) : OwnFs W b (.slice none 0 0) [] := ⟨World.ownsRow_nil _ _ _ _, fun x hx => by cases hx⟩
theorem OwnFs.tel {W W' : World} {b B gd : Nat} {v : Value} {fs : List Fte} (h : OwnFs W b v fs) (k : Tel B gd W W') {cs : Array Value} (hd : Blk W gd 48 cs) : OwnFs W' b v fs :=
 ⟨own_tel h.1 k (by decide) (own_blk_ne h.1 hd (by decide)), fun x hx => own_tel (h.2 x hx) k (by decide) (own_blk_ne (h.2 x hx) hd (by decide))⟩
theorem OwnFs.base {W : World} {b b' : Nat} {v : Value} {fs : List Fte} (h : OwnFs W b v fs) (hb : b' ≤ b) : OwnFs W b' v fs := ⟨own_base h.1 hb, fun x hx => own_base (h.2 x hx) hb⟩
theorem OwnFs.ext {W W' : World} {b : Nat} {v : Value} {fs : List Fte} (h : OwnFs W b v fs) (hx : Ext W W') : OwnFs W' b v fs := ⟨own_ext h.1 hx, fun x hm => own_ext (h.2 x hm) hx⟩
theorem info_fate : (Try.prog.info? 76).map (fun i => (i.zero, i.size, i.bytes)) = some (some (.agg #[.int .i64 0, .int .i64 0, .slice none 0 0, .int .i64 0, .int .i64 0]), 5, 56) := by kernel_rfl
theorem fts_snoc {w : World} (ty : TypeId) (fs : List Fte) (v : Value) (x : Fte) (base gx : Nat) (jx : Blk w gx 76 (fteCells x).toArray) (h : OwnFs w base v fs) (ho : OwnN w base (.slice x.a x.p.l.length x.c) x.p.l) (hn : fs.length ≤ 900) (hb : base ≤ w.heap.size) :
  ∃ v' w', (Builtin.append_ #[47, 47] ty #[v, .slice (some ⟨gx, 0, none⟩) 1 1]).run Try.prog w = .ok v' w' ∧ w.grownBy w' v.ownBlock ∧ OwnFs w' base v' (fs ++ [x]) := by
 obtain ⟨i0, hi0, hz0, hz1, hz2⟩ := info_parts info_fate
 obtain ⟨v2, W7, hr, hrow2, hg2, -⟩ := run_append_own (P := Try.prog) w base 47 ty 76 i0 _ 5 56 Try.underlying47 hi0 hz0 hz1 hz2 rfl (by omega) _ _ _ h.1 ⟨gx, 0, none⟩ 1 1 (fteCells x) rfl (by intro i u hu; rw [Addr.add_lit, Nat.zero_add, jx.cell]; simpa using hu) (by simp [fteCells, Value.oneCell']) (by unfold maxLen; omega) (by omega) hb
 refine ⟨v2, W7, hr, hg2, ?_, fun y hy => ?_⟩
 ·rw [List.length_append, List.flatMap_append]
  simpa using hrow2
 ·rcases List.mem_append.1 hy with hy | hy
  ·exact own_other (h.2 y hy) h.1 (by decide) hg2
  ·rw [List.mem_singleton.1 hy]; exact own_other ho h.1 (by decide) hg2
def RecRet (X : (List FteP × List Dsc) × Int) (w : World) (e : Ending) (w' : World) : Prop := ∃ v vd fs, e = .returned (.tuple #[v, vd, .int .i64 X.2]) ∧ OwnFs w' w.heap.size v fs ∧ fs.map (·.p) = X.1.1 ∧ w'.ownsRow w.heap.size 83 3 vd X.1.2.length (X.1.2.flatMap dscCells) ∧ Ext w w'
theorem rec_bad {os : List Opt} {ps : List Pas} {sts : List Stn} {rs : List Rcp} {ns : List Nte} {now : Int} (h : recOK os ps sts rs ns now = false) : recV os ps sts rs ns now = (([], []), 300) := by unfold recV; rw [h]; rfl
theorem load_dsc {w : World} {g : Nat} {v : Value} (h : Blk w g 48 #[v]) : (loadVar 48 ⟨g, 0, none⟩).run Try.prog w = .ok v w := by
 have h0 : w.cell? ⟨g, 0, none⟩ = some v := h.cell 0
 simp [loadVar, go_sem, h0]
theorem results3 {P : Program} {fn : Func} {a p c : Tmp} {t : TypeId} (h : fn.results = #[.tmp a, .cell p t, .tmp c]) (tmps : Array Value) (w : World) (g : Nat) (v x y z : Value) (ha : tmps.getD a undef = x) (hp : tmps.getD p undef = .pointer (some ⟨g, 0, none⟩)) (hl : (loadVar t ⟨g, 0, none⟩).run P w = .ok y w) (hc : tmps.getD c undef = z) (hv : v = .tuple #[x, y, z]) :
  (results fn tmps).run P w = .ok v w := by
 have hp' : tmps[p]?.getD undef = .pointer (some ⟨g, 0, none⟩) := by simpa using hp
 have ha' : tmps[a]?.getD undef = x := by simpa using ha
 have hc' : tmps[c]?.getD undef = z := by simpa using hc
 subst hv
 simp only [results, h]
 simp [hp', ha', hc', asAddr, hl]
set_option maxRecDepth 100000 in
set_option maxHeartbeats 8000000 in
theorem reconcile_any (os : List Opt) (ps : List Pas) (sts : List Stn) (rs : List Rcp) (ns : List Nte) (now : Int) (OA PA SA QA NA : Option Addr) (n c pn pc sn sc qn qc nn nc : Nat) (w : World) (ho : Ops w w.heap.size OA n c os) (hp : RA pasCells 6 w w.heap.size PA pn pc ps) (hs : RA stnCells 6 w w.heap.size SA sn sc sts) (hq : RA rcpCells 3 w w.heap.size QA qn qc rs) (hn : RA nteCells 3 w w.heap.size NA nn nc ns) :
  Calls Try.prog 16 #[.slice OA n c, .slice PA pn pc, .slice SA sn sc, .slice QA qn qc, .slice NA nn nc, .int .i64 now] w (RecRet (recV os ps sts rs ns now) w) := by
 have hqle := hq.le
 have hnle := hn.le
 have hle := ho.out.le
 have hVAL := fun (W : World) (hW : Ext w W) => valid_any os ps sts OA PA SA n c pn pc sn sc W (ho.ext hW) (ra_ext hp hW) (ra_ext hs hW)
 have hSK := fun (W : World) (hW : Ext w W) => skews_any sts SA sn sc W (ra_ext hs hW)
 obtain ⟨X, hX⟩ : ∃ x, x = recV os ps sts rs ns now := ⟨_, rfl⟩
 rw [← hX]
 have hXb : recOK os ps sts rs ns now = false → X = (([], []), 300) := fun h => by rw [hX, rec_bad h]
 have hok : recOK os ps sts rs ns now = (decide (qn ≤ 60) && (decide (nn ≤ 60) && (decide (0 ≤ now ∧ now ≤ 1000000) && validP os ps sts))) := by unfold recOK; rw [hq.len, hn.len]
 have hvok : validP os ps sts = true → VOK os ps sts := valid_vok
 have HVAL := Lib.hid hVAL
 have HSK := Lib.hid hSK
 have HX := Lib.hid hX
 have HO := Lib.hid ho
 have HP := Lib.hid hp
 have HQ := Lib.hid hq
 have HN := Lib.hid hn
 clear hVAL hSK hX ho hp hs hq hn
 rw [hok] at hXb
 go_enter Try.func16, Try.ntmps16
 go_upto_region 1 with (fail)
 have hx1 : Ext w (w.alloc (.cells #[.slice none 0 0] 48)) := bl_alloc (Below.refl _ _) _
 have HJ := Lib.hid (Blk.new w 48 #[.slice none 0 0])
 obtain ⟨gd, hgd⟩ : ∃ g, g = w.heap.size := ⟨_, rfl⟩
 have hgdw : w.heap.size ≤ gd := by omega
 rw [← hgd] at HJ ⊢
 clear hgd
 generalize w.alloc (.cells #[.slice none 0 0] 48) = W1 at hx1 HJ ⊢
 have HNO : Hid (X = (([], []), 300) → ∀ (v : Value), RecRet X w (.returned (.tuple #[.slice none 0 0, .slice none 0 0, .int .i64 300])) (W1.setCell ⟨gd, 0, none⟩ v)) := Lib.hid (fun h v => ⟨_, _, [], by rw [h], OwnFs.nil _ _, by rw [h]; rfl, by rw [h]; exact World.ownsRow_nil _ _ _ _, hx1.setCell (p := ⟨gd, 0, none⟩) hgdw v⟩)
 by_cases hq60 : qn ≤ 60
 ·by_cases hn60 : nn ≤ 60
  ·by_cases hn0 : 0 ≤ now
   ·by_cases hn1 : now ≤ 1000000
    ·rw [decide_eq_true hq60, decide_eq_true hn60, decide_eq_true (show 0 ≤ now ∧ now ≤ 1000000 from ⟨hn0, hn1⟩)] at hXb hok
     have g1 : ((qn : Int) ≤ 60) := by omega
     have g2 : ((nn : Int) ≤ 60) := by omega
     have g3 : ¬ now < 0 := by omega
     have g4 : ¬ 1000000 < now := by omega
     generalize hVV : validP os ps sts = V at HVAL hXb hok hvok
     have HXB := Lib.hid hXb
     have HOK := Lib.hid hok
     have HVK := Lib.hid hvok
     clear hXb hok hvok hVV
     go_wp2_with fail
     refine (HVAL.out _ hx1).mono ?_
     rintro e W2 ⟨rfl, hy⟩
     have HJ2 := Lib.hid (HJ.out.ext hy)
     have hx2 := Ext.trans hx1 hy
     cases V
     ·have d13 : W2.cell? ⟨gd, 0, none⟩ = some (.slice none 0 0) := HJ2.out.cell 0
      have f13 : W2.frozen? ⟨gd, 0, none⟩ = false := HJ2.out.frozen 0
      have hXe : X = (([], []), 300) := HXB.out rfl
      subst hXe
      have HLD := Lib.hid (load_dsc (HJ2.out.set_ 0 (.slice none 0 0)))
      clear HXB HNO hx1 hy
      go_wp2
      exact bodyPost_ret (results3 Try.results16 _ _ gd _ _ _ _ rfl rfl HLD.out rfl rfl) rfl ⟨_, _, [], rfl, OwnFs.nil _ _, rfl, World.ownsRow_nil _ _ _ _, hx2.setCell (p := ⟨gd, 0, none⟩) hgdw _⟩
     ·have hvok := HVK.out rfl
      have HVK2 := Lib.hid hvok
      clear HVK
      have HXV : Hid (X = (recP (qOf ps (skewF sts) now) now rs ns (strL (qOf ps (skewF sts) now) os 0 [] rs) os, 0)) := Lib.hid (by rw [HX.out]; unfold recV; rw [HOK.out]; rfl)
      clear HXB HNO HX HOK hx1 hy HVAL hvok
      go_wp2_with fail
      refine (HSK.out _ hx2).mono ?_
      rintro e W3 ⟨gm, rfl, hgm, hmm, hy3⟩
      have hx3 := Ext.trans hx2 hy3
      have hgmd : gm ≠ gd := by have := HJ2.out.lt; omega
      have HJ3 := Lib.hid (HJ2.out.ext hy3)
      have HM3 := Lib.hid hmm
      clear HJ2 hx2 hmm HSK hgm HJ
      go_upto_region 5 with (fail)
      have hya : Ext W3 (W3.alloc (.cells #[.slice PA pn pc, .map (some gm), .int .i64 now] 104)) := bl_alloc (Below.refl _ _) _
      have J := Blk.new W3 104 #[.slice PA pn pc, .map (some gm), .int .i64 now]
      obtain ⟨g16, hg16⟩ : ∃ g, g = W3.heap.size := ⟨_, rfl⟩
      have hg16d : g16 ≠ gd := by have := HJ3.out.lt; omega
      rw [← hg16] at J ⊢
      clear hg16 hy3
      generalize W3.alloc (.cells #[.slice PA pn pc, .map (some gm), .int .i64 now] 104) = W5 at hya J ⊢
      have hx5 := Ext.trans hx3 hya
      have hB5 := Below.size hx5
      have HJD := Lib.hid J
      have HMM := Lib.hid (HM3.out.ext hya)
      have HDS0 : Hid (DS W5 gd w.heap.size []) := Lib.hid ⟨_, HJ3.out.ext hya, World.ownsRow_nil _ _ _ _⟩
      have HO5 := Lib.hid (HO.out.below hx5)
      have HP5 := Lib.hid (HP.out.below hx5)
      have HQ5 := Lib.hid (HQ.out.below hx5)
      have HN5 := Lib.hid (HN.out.below hx5)
      clear J hya hx3 HM3 HJ3 HO HP HQ HN
      generalize hff : skewF sts = f at HMM HXV
      have HSF : Hid (SkOK f) := Lib.hid (by rw [← hff]; exact HVK2.out.sk)
      have HSL : Hid (∀ o ∈ os, SlOK ps o.l) := Lib.hid (fun o ho => HVK2.out.sl ho)
      clear hff
      obtain ⟨D0, hD0⟩ : ∃ D, D = strL (qOf ps f now) os 0 [] rs := ⟨_, rfl⟩
      have HXW : Hid (X = (recP (qOf ps f now) now rs ns D0 os, 0)) := Lib.hid (by rw [HXV.out, hD0])
      have HS0 : Hid (D0 = strL (qOf ps f now) os 0 [] (rs.drop 0)) := Lib.hid hD0
      clear hD0 HXV
      go_wp2_with fail
      go_loopw [55] (fun y wr => ∃ (k : Nat) (ds : List Dsc), k ≤ qn ∧ y = .int .i64 k ∧ Hid (D0 = strL (qOf ps f now) os k ds (rs.drop k)) ∧ Hid (DS wr gd w.heap.size ds) ∧ ds.length ≤ k ∧ Tel w.heap.size gd W5 wr) (fun y _ => qn - (intOf y).toNat)
      case atStart => exact ⟨0, [], Nat.zero_le _, rfl, HS0, HDS0, Nat.zero_le _, Tel.refl _ _ _⟩
      case round =>
       clear HS0 HDS0
       obtain ⟨k, ds, hk, rfl, HS, HD, hdl, hT⟩ := hrel
       by_cases hkq : k < qn
       ·obtain ⟨b, ob, hz, hA, _, hc⟩ := (ra_tel HQ5.out hT).at_ rcp_len hkq
        have hst := HS.out
        rw [List.drop_eq_getElem_cons hz, strL_cons] at hst
        have hqn' : noneP (qOf ps f now) os rs[k] = noneP (qOf ps f now) os rs[k] := rfl
        have HCC : Hid (∀ (gR : Nat) (W : World), Tel w.heap.size gd W5 W → Blk W gR 63 (rcpCells rs[k]).toArray → Calls Try.prog 48 #[.slice OA n c, .func (.func 49) #[] #[.pointer (some ⟨g16, 0, none⟩), .pointer (some ⟨gR, 0, none⟩)]] W fun e w' => e = .returned (.bool (!noneP (qOf ps f now) os rs[k])) ∧ Ext W w') := Lib.hid (fun gR W hW hR => contains_opt os ps f now rs[k] OA PA n c pn pc gm g16 gR W (⟨((ra_tel HO5.out.out hW).more (Nat.le_trans hB5 hW.size)), fun o ho => (ra_tel (HO5.out.each o ho) hW).more (Nat.le_trans hB5 hW.size)⟩) ((ra_tel HP5.out hW).more (Nat.le_trans hB5 hW.size)) (HMM.out.tel hW hgmd) (HJD.out.tel hW (by decide) hg16d) hR HSL.out HSF.out)
        clear hqn'
        generalize rs[k] = r at hst hc HCC
        generalize noneP (qOf ps f now) os r = q at hst HCC
        obtain ⟨rsn, rim, rat⟩ := r
        dsimp only at hst
        have c0 : wr.cell? ⟨b, ob + k * 3, none⟩ = some (.int .i64 rsn) := hc 0 (by omega)
        have c1 : wr.cell? ⟨b, ob + k * 3 + 1, none⟩ = some (.int .i64 rim) := hc 1 (by omega)
        have c2 : wr.cell? ⟨b, ob + k * 3 + 2, none⟩ = some (.int .i64 rat) := hc 2 (by omega)
        have HST := Lib.hid hst
        subst hA
        clear hc hz hst HS
        go_upto_region 9 with (fail)
        have hya : Ext wr (wr.alloc (.cells #[.int .i64 rsn, .int .i64 rim, .int .i64 rat] 63)) := bl_alloc (Below.refl _ _) _
        have J := Blk.new wr 63 #[.int .i64 rsn, .int .i64 rim, .int .i64 rat]
        obtain ⟨g19, hg19⟩ : ∃ g, g = wr.heap.size := ⟨_, rfl⟩
        rw [← hg19] at J ⊢
        clear hg19 c0 c1 c2
        generalize wr.alloc (.cells #[.int .i64 rsn, .int .i64 rim, .int .i64 rat] 63) = W6 at hya J ⊢
        have hT6 := hT.then_ext hya hB5
        have HD6 := Lib.hid (HD.out.ext hya)
        have HC := Lib.hid (HCC.out g19 W6 hT6 J)
        have HJ6 := Lib.hid J
        clear hya J HD hT HCC
        go_wp2_with fail
        refine HC.out.mono ?_
        rintro e W7 ⟨rfl, hy⟩
        have hT7 := hT6.then_ext hy hB5
        have HD7 := Lib.hid (HD6.out.ext hy)
        have HJ7 := Lib.hid (HJ6.out.ext hy)
        clear HC HJ6 HD6 hT6 hy
        cases q
        ·have HN2 : Hid (D0 = strL (qOf ps f now) os (k + 1) ds (rs.drop (k + 1))) := HST
         go_wp2_with fail
         go_roundw
         case rel => exact ⟨k + 1, ds, by omega, by go_num, HN2, HD7, by omega, hT7⟩
         case measure => simp [intOf]; omega
        ·have HN2 : Hid (D0 = strL (qOf ps f now) os (k + 1) (ds ++ [⟨1, rim, k⟩]) (rs.drop (k + 1))) := HST
         have d1 : W7.cell? ⟨g19, 1, none⟩ = some (.int .i64 rim) := HJ7.out.cell 1
         have HC := Lib.hid (tell_any 1 rim k gd w.heap.size ds W7 HD7.out hgdw (by omega))
         go_wp2_with fail
         refine HC.out.mono ?_
         rintro e W8 ⟨rfl, hd8, hT78⟩
         have hT8 := hT7.trans hT78
         have HD8 := Lib.hid hd8
         clear HC hd8 hT78 hT7 d1 HD7 HST HJ7
         go_wp2_with fail
         go_roundw
         case rel => exact ⟨k + 1, _, by omega, by go_num, HN2, HD8, by simp; omega, hT8⟩
         case measure => simp [intOf]; omega
       ·have hdd : D0 = ds := by rw [HS.out, List.drop_of_length_le (by rw [HQ5.out.len]; omega), strL]
        have HOL := Lib.hid HO5.out.out.len
        have HOL2 : Hid (os.length ≤ 24) := Lib.hid HVK2.out.len
        have HE0 : Hid (X.1 = ([] ++ (recP (qOf ps f now) now rs ns ds (os.drop 0)).1, (recP (qOf ps f now) now rs ns ds (os.drop 0)).2) ∧ X.2 = 0) := Lib.hid (by rw [HXW.out, hdd]; exact ⟨rfl, rfl⟩)
        have hds60 : ds.length ≤ 60 := by omega
        clear hdd HS HXW HSL
        have HSL : Hid (∀ o ∈ os, SlOK ps o.l) := Lib.hid (fun o ho => HVK2.out.sl ho)
        go_wp2_with fail
        go_loopw [12, 72] (fun x y wr => ∃ (k : Nat) (fs : List Fte) (ds2 : List Dsc), k ≤ n ∧ y = .int .i64 k ∧ Hid (fs.length = k) ∧ Hid (X.1 = (fs.map (·.p) ++ (recP (qOf ps f now) now rs ns ds2 (os.drop k)).1, (recP (qOf ps f now) now rs ns ds2 (os.drop k)).2) ∧ X.2 = 0) ∧ Hid (OwnFs wr W5.heap.size x fs) ∧ Hid (DS wr gd w.heap.size ds2) ∧ ds2.length ≤ 60 + 120 * k ∧ Tel w.heap.size gd W5 wr) (fun _ y _ => n - (intOf y).toNat)
        case atStart => exact ⟨0, [], ds, Nat.zero_le _, rfl, Lib.hid rfl, HE0, Lib.hid (OwnFs.nil _ _), HD, by omega, hT⟩
        case round =>
         clear HE0 HD hT hdl hds60
         obtain ⟨k, fs, ds2, hk, rfl, HFL, HE, HOF, HD, hdl, hT⟩ := hrel
         by_cases hkn : k < n
         ·obtain ⟨b, ob, hz, hA, _, hc⟩ := (ra_tel HO5.out.out hT).at_ opt_len hkn
          have hst := HE.out
          rw [List.drop_eq_getElem_cons hz, recP_cons] at hst
          have HCC : Hid (∀ (W : World), Tel w.heap.size gd W5 W → DS W gd w.heap.size ds2 → Calls Try.prog 51 #[.agg #[.slice PA pn pc, .map (some gm), .int .i64 now], .agg (optCells os[k]).toArray, .slice QA qn qc, .slice NA nn nc, .func (.func 47) #[] #[.pointer (some ⟨gd, 0, none⟩)]] W (FateRet (fateP (qOf ps f now os[k]) now os[k].l os[k].id rs ns ds2) w.heap.size gd W)) := Lib.hid (fun W hW hD => fate_any os[k] ps f now rs ns ds2 PA QA NA pn pc qn qc nn nc gm gd w.heap.size W (Nat.le_trans hB5 hW.size) hgdw (ra_tel (HO5.out.each _ (List.getElem_mem hz)) hW) (ra_tel HP5.out hW) (ra_tel HQ5.out hW) (ra_tel HN5.out hW) (HMM.out.tel hW hgmd) hgmd hD (HSL.out _ (List.getElem_mem hz)) HSF.out (by omega) (by omega) (by have := HOL.out; have := HOL2.out; omega))
          have hfl2 := fateP_len (qOf ps f now os[k]) now os[k].l os[k].id rs ns ds2
          rw [HQ5.out.len, HN5.out.len] at hfl2
          generalize fateP (qOf ps f now os[k]) now os[k].l os[k].id rs ns ds2 = FP at hst HCC hfl2
          generalize os[k] = o at hc HCC
          obtain ⟨id, i1, i2, i3, i4, i5, i6, i7, a, m, d, l⟩ := o
          obtain ⟨⟨fim, fst, fL, ffr, ftt⟩, ds3⟩ := FP
          dsimp only at hst hfl2
          have c0 : wr.cell? ⟨b, ob + k * 9, none⟩ = some (.int .i64 id) := hc 0 (by omega)
          have c1 : wr.cell? ⟨b, ob + k * 9 + 1, none⟩ = some (.int .i64 i1) := hc 1 (by omega)
          have c2 : wr.cell? ⟨b, ob + k * 9 + 2, none⟩ = some (.int .i64 i2) := hc 2 (by omega)
          have c3 : wr.cell? ⟨b, ob + k * 9 + 3, none⟩ = some (.int .i64 i3) := hc 3 (by omega)
          have c4 : wr.cell? ⟨b, ob + k * 9 + 4, none⟩ = some (.int .i64 i4) := hc 4 (by omega)
          have c5 : wr.cell? ⟨b, ob + k * 9 + 5, none⟩ = some (.int .i64 i5) := hc 5 (by omega)
          have c6 : wr.cell? ⟨b, ob + k * 9 + 6, none⟩ = some (.int .i64 i6) := hc 6 (by omega)
          have c7 : wr.cell? ⟨b, ob + k * 9 + 7, none⟩ = some (.int .i64 i7) := hc 7 (by omega)
          have c8 : wr.cell? ⟨b, ob + k * 9 + 8, none⟩ = some (.slice a m d) := hc 8 (by omega)
          have HST := Lib.hid hst
          subst hA
          clear hc hz hst HE
          go_upto_region 15 with (fail)
          have hya : Ext wr (wr.alloc (.cells #[.int .i64 id, .int .i64 i1, .int .i64 i2, .int .i64 i3, .int .i64 i4, .int .i64 i5, .int .i64 i6, .int .i64 i7, .slice a m d] 32)) := bl_alloc (Below.refl _ _) _
          have J := Blk.new wr 32 #[.int .i64 id, .int .i64 i1, .int .i64 i2, .int .i64 i3, .int .i64 i4, .int .i64 i5, .int .i64 i6, .int .i64 i7, .slice a m d]
          obtain ⟨g21, hg21⟩ : ∃ g, g = wr.heap.size := ⟨_, rfl⟩
          rw [← hg21] at J ⊢
          clear hg21 c0 c1 c2 c3 c4 c5 c6 c7 c8
          generalize wr.alloc (.cells #[.int .i64 id, .int .i64 i1, .int .i64 i2, .int .i64 i3, .int .i64 i4, .int .i64 i5, .int .i64 i6, .int .i64 i7, .slice a m d] 32) = W6 at hya J ⊢
          have hT6 := hT.then_ext hya hB5
          have HD6 := Lib.hid (HD.out.ext hya)
          have HOF6 := Lib.hid (HOF.out.ext hya)
          have hjd := HJD.out.tel hT6 (by decide) hg16d
          have t0 : W6.cell? ⟨g16, 0, none⟩ = some (.slice PA pn pc) := hjd.cell 0
          have t1 : W6.cell? ⟨g16, 1, none⟩ = some (.map (some gm)) := hjd.cell 1
          have t2 : W6.cell? ⟨g16, 2, none⟩ = some (.int .i64 now) := hjd.cell 2
          have d0 : W6.cell? ⟨g21, 0, none⟩ = some (.int .i64 id) := J.cell 0
          have d1 : W6.cell? ⟨g21, 1, none⟩ = some (.int .i64 i1) := J.cell 1
          have d2 : W6.cell? ⟨g21, 2, none⟩ = some (.int .i64 i2) := J.cell 2
          have d3 : W6.cell? ⟨g21, 3, none⟩ = some (.int .i64 i3) := J.cell 3
          have d4 : W6.cell? ⟨g21, 4, none⟩ = some (.int .i64 i4) := J.cell 4
          have d5 : W6.cell? ⟨g21, 5, none⟩ = some (.int .i64 i5) := J.cell 5
          have d6 : W6.cell? ⟨g21, 6, none⟩ = some (.int .i64 i6) := J.cell 6
          have d7 : W6.cell? ⟨g21, 7, none⟩ = some (.int .i64 i7) := J.cell 7
          have d8 : W6.cell? ⟨g21, 8, none⟩ = some (.slice a m d) := J.cell 8
          have HC := Lib.hid (HCC.out W6 hT6 HD6.out)
          obtain ⟨A3, c3, hv3, _, _⟩ := own_slice HOF6.out.1
          subst hv3
          clear hya J hjd HD hT HCC HOF
          go_wp2_with fail
          refine HC.out.mono ?_
          rintro e W7 ⟨A7, c7, rfl, hown7, hd7, hT67⟩
          have hT7 := hT6.trans hT67
          obtain ⟨vd, hjgd, _⟩ := HD6.out
          have hof7 := HOF6.out.tel hT67 hjgd
          have hxa : Ext W7 (W7.alloc (.cells #[.int .i64 fim, .int .i64 fst, .slice A7 fL.length c7, .int .i64 ffr, .int .i64 ftt] 76)) := bl_alloc (Below.refl _ _) _
          have hT7a := hT7.then_ext hxa hB5
          have hof7a := hof7.ext hxa
          obtain ⟨v8, W8, hrun, hg8, hof8⟩ := fts_snoc 47 fs (.slice A3 fs.length c3) ⟨⟨fim, fst, fL, ffr, ftt⟩, A7, c7⟩ W5.heap.size W7.heap.size (Blk.new _ _ _) hof7a (own_base (OwnN.ext hown7 hxa) hT6.size) (by have := HFL.out; have := HOL.out; have := HOL2.out; omega) hT7a.size
          have hT8 := hT7a.grown hg8 (fun q e => (World.ownsRow.lt hof7a.1 q e).1) hB5
          have HD8 := Lib.hid ((hd7.ext hxa).other hof7a.1 (by decide) (by decide) hg8)
          have HOF8 := Lib.hid hof8
          have HRUN := Lib.hid hrun
          have HE8 : Hid (X.1 = ((fs ++ [(⟨⟨fim, fst, fL, ffr, ftt⟩, A7, c7⟩ : Fte)]).map (·.p) ++ (recP (qOf ps f now) now rs ns ds3 (os.drop (k + 1))).1, (recP (qOf ps f now) now rs ns ds3 (os.drop (k + 1))).2) ∧ X.2 = 0) := Lib.hid (by refine ⟨?_, HST.out.2⟩; rw [HST.out.1]; simp)
          have hfl8 : (fs ++ [(⟨⟨fim, fst, fL, ffr, ftt⟩, A7, c7⟩ : Fte)]).length = k + 1 := by have := HFL.out; simp; omega
          have HFL8 := Lib.hid hfl8
          clear HC t0 t1 t2 d0 d1 d2 d3 d4 d5 d6 d7 d8 HD6 hd7 hof7 hof7a hof8 hrun hg8 hxa hT7a hT67 hown7 hjgd HST hfl8 hT6 hT7 HOF6
          generalize fs ++ [(⟨⟨fim, fst, fL, ffr, ftt⟩, A7, c7⟩ : Fte)] = fs8 at HE8 HOF8 HFL8
          go_wp2_with (refine wpList_append_run_ rfl _ _ _ rfl rfl rfl HRUN.out ?_)
          go_roundw
          case rel => exact ⟨k + 1, fs8, ds3, by omega, by go_num, HFL8, HE8, HOF8, HD8, by omega, hT8⟩
          case measure => simp [intOf]; omega
         ·have hst := HE.out
          rw [List.drop_of_length_le (by rw [HOL.out]; omega), recP] at hst
          obtain ⟨vd, hjgd, hown⟩ := HD.out
          obtain ⟨A3, c3, hv3, _, _⟩ := own_slice HOF.out.1
          subst hv3
          obtain ⟨Ad, cd, hvd, _, _⟩ := own_slice hown
          subst hvd
          have d13 : wr.cell? ⟨gd, 0, none⟩ = some (.slice Ad ds2.length cd) := hjgd.cell 0
          have HJG := Lib.hid hjgd
          have HOD := Lib.hid hown
          have HEE := Lib.hid hst
          have hxw : Ext w wr := Below.trans hx5 hT.bl
          clear hjgd hown hst HE HD
          go_upto_region 17 with (fail)
          have f13 : wr.frozen? ⟨gd, 0, none⟩ = false := HJG.out.frozen 0
          go_region
          rw [setCell_same (i := 0) (v := .slice Ad ds2.length cd) HJG.out rfl]
          have hy : Ext wr wr.drew := (by repeat (first | exact Below.refl _ _ | assumption | refine Below.drew ?_ | refine below_drewN ?_ _ | refine bl_alloc ?_ _ | refine Below.setCell ?_ (by first | (simp; done) | omega | (simp; omega)) _ | refine bl_then ?_ (by assumption)))
          have HOF9 := Lib.hid ((HOF.out.ext hy).base hB5)
          have HOD9 := Lib.hid (own_ext HOD.out hy)
          have HLD := Lib.hid (load_dsc (HJG.out.ext hy))
          have HX9 := Lib.hid (Ext.trans hxw hy)
          clear hy d13 f13
          go_wp2
          exact bodyPost_ret (results3 Try.results16 _ _ gd _ _ _ _ rfl rfl HLD.out rfl rfl) rfl ⟨_, _, fs, by rw [HEE.out.2]; rfl, HOF9.out, by rw [HEE.out.1]; simp, by rw [HEE.out.1]; exact HOD9.out, HX9.out⟩
    ·have g4 : 1000000 < now := by omega
     have g3 : ¬ now < 0 := by omega
     have g1 : ((qn : Int) ≤ 60) := by omega
     have g2 : ((nn : Int) ≤ 60) := by omega
     have J := HJ.out
     have d13 : W1.cell? ⟨gd, 0, none⟩ = some (.slice none 0 0) := J.cell 0
     have f13 : W1.frozen? ⟨gd, 0, none⟩ = false := J.frozen 0
     have hl := load_dsc (J.set_ 0 (.slice none 0 0))
     have hXe : X = (([], []), 300) := hXb (by simp [hn1])
     have HRET := Lib.hid (HNO.out hXe (.slice none 0 0))
     have HLD := Lib.hid hl
     clear J hXe HNO hXb hok hvok hl HX HVAL HSK
     go_wp2
     exact bodyPost_ret (results3 Try.results16 _ _ gd _ _ _ _ rfl rfl HLD.out rfl rfl) rfl HRET.out
   ·have g3 : now < 0 := by omega
    have g1 : ((qn : Int) ≤ 60) := by omega
    have g2 : ((nn : Int) ≤ 60) := by omega
    have J := HJ.out
    have d13 : W1.cell? ⟨gd, 0, none⟩ = some (.slice none 0 0) := J.cell 0
    have f13 : W1.frozen? ⟨gd, 0, none⟩ = false := J.frozen 0
    have hl := load_dsc (J.set_ 0 (.slice none 0 0))
    have hXe : X = (([], []), 300) := hXb (by simp [hn0])
    have HRET := Lib.hid (HNO.out hXe (.slice none 0 0))
    have HLD := Lib.hid hl
    clear J hXe HNO hXb hok hvok hl HX HVAL HSK
    go_wp2
    exact bodyPost_ret (results3 Try.results16 _ _ gd _ _ _ _ rfl rfl HLD.out rfl rfl) rfl HRET.out
  ·have g1 : ((qn : Int) ≤ 60) := by omega
   have g2 : ¬ ((nn : Int) ≤ 60) := by omega
   have J := HJ.out
   have d13 : W1.cell? ⟨gd, 0, none⟩ = some (.slice none 0 0) := J.cell 0
   have f13 : W1.frozen? ⟨gd, 0, none⟩ = false := J.frozen 0
   have hl := load_dsc (J.set_ 0 (.slice none 0 0))
   have hXe : X = (([], []), 300) := hXb (by simp [hn60])
   have HRET := Lib.hid (HNO.out hXe (.slice none 0 0))
   have HLD := Lib.hid hl
   clear J hXe HNO hXb hok hvok hl HX HVAL HSK
   go_wp2
   exact bodyPost_ret (results3 Try.results16 _ _ gd _ _ _ _ rfl rfl HLD.out rfl rfl) rfl HRET.out
 ·have g1 : ¬ ((qn : Int) ≤ 60) := by omega
  have J := HJ.out
  have d13 : W1.cell? ⟨gd, 0, none⟩ = some (.slice none 0 0) := J.cell 0
  have f13 : W1.frozen? ⟨gd, 0, none⟩ = false := J.frozen 0
  have hl := load_dsc (J.set_ 0 (.slice none 0 0))
  have hXe : X = (([], []), 300) := hXb (by simp [hq60])
  have HRET := Lib.hid (HNO.out hXe (.slice none 0 0))
  have HLD := Lib.hid hl
  clear J hXe HNO hXb hok hvok hl HX HVAL HSK
  go_wp2
  exact bodyPost_ret (results3 Try.results16 _ _ gd _ _ _ _ rfl rfl HLD.out rfl rfl) rfl HRET.out
end Go.Proofs.Ytmlabgmigakcbaa
namespace Go.Proofs.Ytmlabgmigakcbaa
open Go.RowKit
def setR (pn : Nat) : Int → List Int → Bool
 | _, [] => true
 | p, x :: r => decide (p < x ∧ x < pn) && setR pn x r
theorem setR_cons (pn : Nat) (p x : Int) (r : List Int) : setR pn p (x :: r) = (decide (p < x ∧ x < pn) && setR pn x r) := by rw [setR]
def hasI (l : List Int) (x : Int) : Bool := l.any (fun y => decide (x = y))
def sentI (lost : List Int) : Nat → List Slt → Int
 | _, [] => -1
 | i, s :: r => if hasI lost s.p then sentI lost (i + 1) r else i
theorem sentI_cons (lost : List Int) (i : Nat) (s : Slt) (r : List Slt) : sentI lost i (s :: r) = if hasI lost s.p then sentI lost (i + 1) r else (i : Int) := by rw [sentI]
def sentOK (o : Opt) (ps : List Pas) (lost : List Int) : Bool := (properP ps && lossOK ps o.l) && (setR ps.length (-1) lost && properP ps)
def sentV (o : Opt) (ps : List Pas) (lost : List Int) : Int × Int := if sentOK o ps lost then (sentI lost 0 o.l, 0) else (0, 180)
set_option maxRecDepth 100000 in
set_option maxHeartbeats 4000000 in
theorem isSet_any (ps : List Pas) (lost : List Int) (PA LA : Option Addr) (pn pc n c : Nat) (w : World) (hp : RA pasCells 6 w w.heap.size PA pn pc ps) (hl : RA intCells 1 w w.heap.size LA n c lost) :
  Calls Try.prog 64 #[.slice PA pn pc, .slice LA n c] w fun e w' => e = .returned (.bool (setR ps.length (-1) lost && properP ps)) ∧ Ext w w' := by
 have hle := hl.le
 have hple := hp.le
 have HPR := Lib.hid (fun (W : World) (hW : Ext w W) => proper_any ps PA pn pc W (ra_ext hp hW))
 have HL := Lib.hid hl
 rw [hp.len]
 obtain ⟨fin, hfin⟩ : ∃ x, x = (setR pn (-1) lost && properP ps) := ⟨_, rfl⟩
 rw [← hfin]
 have HF0 : Hid (fin = (setR pn (-1) (lost.drop 0) && properP ps)) := Lib.hid hfin
 clear hfin hp hl
 go_enter Try.func64, Try.ntmps64
 go_wp2
 go_loopw [9] (fun y wr => ∃ (k : Nat) (p : Int), k ≤ n ∧ y = .int .i64 k ∧ Hid (fin = (setR pn p (lost.drop k) && properP ps)) ∧ (k = 0 → p = -1) ∧ (0 < k → 0 ≤ p ∧ Hid (∀ b o, LA = some ⟨b, o, none⟩ → w.cell? ⟨b, o + (k - 1), none⟩ = some (.int .i64 p))) ∧ wr = w) (fun y _ => n - (intOf y).toNat)
 case atStart => exact ⟨0, -1, Nat.zero_le _, rfl, HF0, fun _ => rfl, fun h => absurd h (by omega), rfl⟩
 case round =>
  clear HF0
  obtain ⟨k, p, hk, rfl, HF, hp0, hp1, rfl⟩ := hrel
  by_cases hkn : k < n
  ·obtain ⟨b, ob, hz, hA, _, hc⟩ := HL.out.at_ int_len hkn
   have hst := HF.out
   rw [List.drop_eq_getElem_cons hz, setR_cons] at hst
   have hc1 : ∀ b' o', LA = some ⟨b', o', none⟩ → wr.cell? ⟨b', o' + k, none⟩ = some (.int .i64 lost[k]) := by
    intro b' o' e
    rw [hA] at e
    injection e with e
    injection e with e1 e2 _
    subst e1 e2
    have := hc 0 (by omega)
    rw [Nat.mul_one] at this
    exact this
   generalize lost[k] = x at hst hc hc1
   have c0 : wr.cell? ⟨b, ob + k, none⟩ = some (.int .i64 x) := hc1 b ob hA
   have HC1 := Lib.hid hc1
   have HST := Lib.hid hst
   have hp1' : 0 < k → 0 ≤ p ∧ wr.cell? ⟨b, ob + (k - 1), none⟩ = some (.int .i64 p) := fun h => ⟨(hp1 h).1, (hp1 h).2.out b ob hA⟩
   clear hc hz hst hc1 hp1 HF
   have HLA := Lib.hid hA
   clear HL
   subst hA
   by_cases hx0 : x < 0
   ·have hff : fin = false := by rw [HST.out, decide_eq_false (by intro h; rcases Nat.eq_zero_or_pos k with e | e; (have := hp0 e; omega); (have := (hp1' e).1; omega))]; rfl
    have HFF := Lib.hid hff
    clear hff HST hp0 hp1'
    go_wp2
    go_ret
    exact ⟨by rw [HFF.out]; rfl, Ext.refl _⟩
   ·by_cases hxn : (pn : Int) ≤ x
    ·have hff : fin = false := by rw [HST.out, decide_eq_false (by omega)]; rfl
     have HFF := Lib.hid hff
     clear hff HST hp0 hp1'
     go_wp2
     go_ret
     exact ⟨by rw [HFF.out]; rfl, Ext.refl _⟩
    ·by_cases hk0 : k = 0
     ·subst hk0
      have hp := hp0 rfl
      subst hp
      have HN2 : Hid (fin = (setR pn x (lost.drop 1) && properP ps)) := Lib.hid (by rw [HST.out, decide_eq_true (by omega)]; rfl)
      have c0' : wr.cell? ⟨b, ob, none⟩ = some (.int .i64 x) := c0
      clear HST hp0 hp1' c0
      go_wp2
      go_roundw
      case rel => exact ⟨1, x, by omega, by go_num, HN2, fun h => absurd h (by omega), fun _ => ⟨by omega, Lib.hid (fun b' o' e => HC1.out b' o' e)⟩, (by first | rfl | trivial)⟩
      case measure => simp [intOf]; omega
     ·obtain ⟨hpn, cp⟩ := hp1' (by omega)
      have hk1 : ((k : Int) - 1).toNat = k - 1 := by omega
      have hk2 : (0 : Int) < (k : Int) := by omega
      have hk3 : (0 : Int) ≤ (k : Int) - 1 := by omega
      have hk4 : (k : Int) - 1 < (n : Int) := by omega
      obtain ⟨k1, hk5⟩ : ∃ k1, k = k1 + 1 := ⟨k - 1, by omega⟩
      subst hk5
      have cp' : wr.cell? ⟨b, ob + k1, none⟩ = some (.int .i64 p) := cp
      clear cp hp0 hp1'
      by_cases hxp : x ≤ p
      ·have hff : fin = false := by rw [HST.out, decide_eq_false (by omega)]; rfl
       have HFF := Lib.hid hff
       clear hff HST
       go_wp2
       go_ret
       exact ⟨by rw [HFF.out]; rfl, Ext.refl _⟩
      ·have HN2 : Hid (fin = (setR pn x (lost.drop (k1 + 1 + 1)) && properP ps)) := Lib.hid (by rw [HST.out, decide_eq_true (by omega)]; rfl)
       clear HST
       go_wp2
       go_roundw
       case rel => exact ⟨k1 + 1 + 1, x, by omega, by go_num, HN2, fun h => absurd h (by omega), fun _ => ⟨by omega, Lib.hid (fun b' o' e => HC1.out b' o' e)⟩, (by first | rfl | trivial)⟩
       case measure => simp [intOf]; omega
  ·have hst := HF.out
   rw [List.drop_of_length_le (by rw [HL.out.len]; omega), setR, Bool.true_and] at hst
   have HST := Lib.hid hst
   have HC := Lib.hid (HPR.out wr (Ext.refl _))
   clear hst HF hp0 hp1
   go_wp2_with fail
   refine HC.out.mono ?_
   rintro e W ⟨rfl, hy⟩
   go_wp2
   go_ret
   exact ⟨by rw [HST.out]; rfl, hy⟩
theorem indexI_any (lost : List Int) (x : Int) (LA : Option Addr) (n c : Nat) (w : World) (hl : RA intCells 1 w w.heap.size LA n c lost) :
  Calls Try.prog 89 #[.slice LA n c, .int .i64 x] w fun e w' => ∃ z : Int, e = .returned (.int .i64 z) ∧ decide (z ≥ 0) = hasI lost x ∧ w = w' := by
 have hle := hl.le
 have HL := Lib.hid hl
 obtain ⟨fin, hfin⟩ : ∃ y, y = hasI lost x := ⟨_, rfl⟩
 rw [← hfin]
 have HF0 : Hid (fin = hasI (lost.drop 0) x) := Lib.hid hfin
 clear hfin hl
 go_enter Try.func89, Try.ntmps89
 go_wp2
 go_loopw [8] (fun y wr => ∃ k : Nat, k ≤ n ∧ y = .int .i64 k ∧ Hid (fin = hasI (lost.drop k) x) ∧ wr = w) (fun y _ => n - (intOf y).toNat)
 case atStart => exact ⟨0, Nat.zero_le _, rfl, HF0, rfl⟩
 case round =>
  clear HF0
  obtain ⟨k, hk, rfl, HF, rfl⟩ := hrel
  by_cases hkn : k < n
  ·obtain ⟨b, ob, hz, hA, _, hc⟩ := HL.out.at_ int_len hkn
   have hst := HF.out
   rw [List.drop_eq_getElem_cons hz] at hst
   have hst2 : fin = (decide (x = lost[k]) || hasI (lost.drop (k + 1)) x) := hst
   have c0 : wr.cell? ⟨b, ob + k, none⟩ = some (.int .i64 lost[k]) := by have := hc 0 (by omega); rw [Nat.mul_one] at this; exact this
   generalize lost[k] = y at hst2 c0
   have HST := Lib.hid hst2
   subst hA
   clear hc hz hst hst2 HF
   by_cases hxy : x = y
   ·have hft : fin = true := by rw [HST.out, decide_eq_true hxy]; rfl
    have HFT := Lib.hid hft
    subst hxy
    clear hft HST
    go_wp2
    go_ret
    exact ⟨k, rfl, by rw [HFT.out]; simp, rfl⟩
   ·have HN2 : Hid (fin = hasI (lost.drop (k + 1)) x) := Lib.hid (by rw [HST.out, decide_eq_false hxy]; rfl)
    have hxy1 : (x == y) = false := by simpa using hxy
    clear HST
    go_wp2
    go_roundw
    case rel => exact ⟨k + 1, by omega, by go_num, HN2, (by first | rfl | trivial)⟩
    case measure => simp [intOf]; omega
  ·have hff : fin = false := by rw [HF.out, List.drop_of_length_le (by rw [HL.out.len]; omega)]; rfl
   have HFF := Lib.hid hff
   clear hff HF
   go_wp2
   go_ret
   exact ⟨-1, rfl, by rw [HFF.out]; rfl, rfl⟩
theorem containsI_any (lost : List Int) (x : Int) (LA : Option Addr) (n c : Nat) (w : World) (hl : RA intCells 1 w w.heap.size LA n c lost) :
  Calls Try.prog 67 #[.slice LA n c, .int .i64 x] w fun e w' => e = .returned (.bool (hasI lost x)) ∧ w = w' := by
 have HI := Lib.hid (indexI_any lost x LA n c w hl)
 generalize hasI lost x = q at HI ⊢
 clear hl
 go_enter Try.func67, Try.ntmps67
 go_wp2_with fail
 refine HI.out.mono ?_
 rintro e W ⟨z, rfl, hz, rfl⟩
 have HZ := Lib.hid hz
 clear HI hz
 go_wp2
 go_ret
 exact ⟨by rw [← HZ.out]; rfl, rfl⟩
theorem sent1_any (s : Slt) (lost : List Int) (LA : Option Addr) (n c g : Nat) (w : World) (hl : RA intCells 1 w w.heap.size LA n c lost) (hg : Blk w g 25 #[.slice LA n c]) :
  Calls Try.prog 66 #[.agg (sltCells s).toArray, .pointer (some ⟨g, 0, none⟩)] w fun e w' => e = .returned (.bool (!hasI lost s.p)) ∧ Ext w w' := by
 have HC := Lib.hid (fun (W : World) (hW : Ext w W) => containsI_any lost s.p LA n c W (ra_ext hl hW))
 obtain ⟨sp, sf, st⟩ := s
 dsimp only at HC ⊢
 generalize hasI lost sp = q at HC ⊢
 have d0 : w.cell? ⟨g, 0, none⟩ = some (.slice LA n c) := hg.cell 0
 have hlt := hg.lt
 clear hl
 show Calls Try.prog 66 #[.agg #[.int .i64 sp, .int .i64 sf, .int .i64 st], .pointer (some ⟨g, 0, none⟩)] w _
 go_enter Try.func66, Try.ntmps66
 go_upto_region 1 with (fail)
 have hx : Ext w (w.alloc (.cells #[.int .i64 sp, .int .i64 sf, .int .i64 st] 78)) := bl_alloc (Below.refl _ _) _
 have J := Blk.new w 78 #[.int .i64 sp, .int .i64 sf, .int .i64 st]
 generalize w.heap.size = g2 at J hlt ⊢
 generalize w.alloc (.cells #[.int .i64 sp, .int .i64 sf, .int .i64 st] 78) = W1 at hx J ⊢
 have d0 := ext_cell hx d0
 have s0 : W1.cell? ⟨g2, 0, none⟩ = some (.int .i64 sp) := J.cell 0
 have HK := Lib.hid (HC.out W1 hx)
 clear HC J
 go_wp2_with fail
 refine HK.out.mono ?_
 rintro e W2 ⟨rfl, rfl⟩
 go_wp2
 go_ret
 exact ⟨rfl, hx⟩
theorem indexS_any (l : List Slt) (lost : List Int) (A LA : Option Addr) (n c ln lc g : Nat) (w : World) (ho : RA sltCells 3 w w.heap.size A n c l) (hl : RA intCells 1 w w.heap.size LA ln lc lost) (hg : Blk w g 25 #[.slice LA ln lc]) :
  Calls Try.prog 65 #[.slice A n c, .func (.func 66) #[] #[.pointer (some ⟨g, 0, none⟩)]] w fun e w' => e = .returned (.int .i64 (sentI lost 0 l)) ∧ Ext w w' := by
 have hle := ho.le
 have HS1 := Lib.hid (fun (s : Slt) (W : World) (hW : Ext w W) => sent1_any s lost LA ln lc g W (ra_ext hl hW) (hg.ext hW))
 have HO := Lib.hid ho
 obtain ⟨fin, hfin⟩ : ∃ y, y = sentI lost 0 l := ⟨_, rfl⟩
 rw [← hfin]
 have HF0 : Hid (fin = sentI lost 0 (l.drop 0)) := Lib.hid hfin
 clear hfin ho hl hg
 go_enter Try.func65, Try.ntmps65
 go_wp2
 go_loopw [8] (fun y wr => ∃ k : Nat, k ≤ n ∧ y = .int .i64 k ∧ Hid (fin = sentI lost k (l.drop k)) ∧ Ext w wr) (fun y _ => n - (intOf y).toNat)
 case atStart => exact ⟨0, Nat.zero_le _, rfl, HF0, Ext.refl _⟩
 case round =>
  clear HF0
  obtain ⟨k, hk, rfl, HF, hx⟩ := hrel
  by_cases hkn : k < n
  ·obtain ⟨b, ob, hz, hA, _, hc⟩ := (HO.out.below hx).at_ slt_len hkn
   have hst := HF.out
   rw [List.drop_eq_getElem_cons hz, sentI_cons] at hst
   have hcall := HS1.out l[k] wr hx
   generalize l[k] = s at hst hcall hc
   generalize hasI lost s.p = q at hst hcall
   obtain ⟨sp, sf, st⟩ := s
   have c0 : wr.cell? ⟨b, ob + k * 3, none⟩ = some (.int .i64 sp) := hc 0 (by omega)
   have c1 : wr.cell? ⟨b, ob + k * 3 + 1, none⟩ = some (.int .i64 sf) := hc 1 (by omega)
   have c2 : wr.cell? ⟨b, ob + k * 3 + 2, none⟩ = some (.int .i64 st) := hc 2 (by omega)
   have HST := Lib.hid hst
   have HC := Lib.hid hcall
   subst hA
   clear hc hz hst HF hcall
   go_wp2_with fail
   refine HC.out.mono ?_
   rintro e W2 ⟨rfl, hy⟩
   have hx2 := Ext.trans hx hy
   clear HC c0 c1 c2 hy hx
   cases q
   ·have hfe : fin = (k : Int) := by rw [HST.out, if_neg (by simp)]
    have HFE := Lib.hid hfe
    clear hfe HST
    go_wp2
    go_ret
    exact ⟨by rw [HFE.out]; rfl, hx2⟩
   ·have HN2 : Hid (fin = sentI lost (k + 1) (l.drop (k + 1))) := Lib.hid (by rw [HST.out, if_pos rfl])
    clear HST
    go_wp2
    go_roundw
    case rel => exact ⟨k + 1, by omega, by go_num, HN2, hx2⟩
    case measure => simp [intOf]; omega
  ·have hff : fin = -1 := by rw [HF.out, List.drop_of_length_le (by rw [HO.out.len]; omega)]; rfl
   have HFF := Lib.hid hff
   clear hff HF
   go_wp2
   go_ret
   exact ⟨by rw [HFF.out]; rfl, hx⟩
set_option maxRecDepth 100000 in
set_option maxHeartbeats 4000000 in
theorem sent_any (o : Opt) (ps : List Pas) (lost : List Int) (PA LA : Option Addr) (pn pc ln lc : Nat) (w : World) (ho : RA sltCells 3 w w.heap.size o.a o.n o.c o.l) (hp : RA pasCells 6 w w.heap.size PA pn pc ps) (hl : RA intCells 1 w w.heap.size LA ln lc lost) :
  Calls Try.prog 32 #[.agg (optCells o).toArray, .slice PA pn pc, .slice LA ln lc] w fun e w' => e = .returned (.tuple #[.int .i64 (sentV o ps lost).1, .int .i64 (sentV o ps lost).2]) ∧ Ext w w' := by
 have HV := Lib.hid (fun (W : World) (hW : Ext w W) => loss_valid o ps PA pn pc W (ra_ext ho hW) (ra_ext hp hW))
 have HIS := Lib.hid (fun (W : World) (hW : Ext w W) => isSet_any ps lost PA LA pn pc ln lc W (ra_ext hp hW) (ra_ext hl hW))
 have HIX := Lib.hid (fun (g : Nat) (W : World) (hW : Ext w W) (hg : Blk W g 25 #[.slice LA ln lc]) => indexS_any o.l lost o.a LA o.n o.c ln lc g W (ra_ext ho hW) (ra_ext hl hW) hg)
 unfold sentV sentOK
 generalize sentI lost 0 o.l = z at HIX ⊢
 generalize (properP ps && lossOK ps o.l) = q1 at HV ⊢
 generalize (setR ps.length (-1) lost && properP ps) = q2 at HIS ⊢
 obtain ⟨id, i1, i2, i3, i4, i5, i6, i7, a, n, c, l⟩ := o
 dsimp only at HIX ho
 clear ho hp hl
 show Calls Try.prog 32 #[.agg #[.int .i64 id, .int .i64 i1, .int .i64 i2, .int .i64 i3, .int .i64 i4, .int .i64 i5, .int .i64 i6, .int .i64 i7, .slice a n c], .slice PA pn pc, .slice LA ln lc] w _
 go_enter Try.func32, Try.ntmps32
 go_upto_region 1 with (fail)
 obtain ⟨W1, hW1⟩ : ∃ W, W = (w.alloc (.cells #[.int .i64 id, .int .i64 i1, .int .i64 i2, .int .i64 i3, .int .i64 i4, .int .i64 i5, .int .i64 i6, .int .i64 i7, .slice a n c] 32)).alloc (.cells #[.slice LA ln lc] 25) := ⟨_, rfl⟩
 rw [← hW1]
 obtain ⟨J0, J1, hx1⟩ := al2 w W1 _ _ _ _ hW1
 clear hW1
 generalize w.heap.size + 1 = g5 at J1 ⊢
 generalize w.heap.size = g3 at J0 ⊢
 have d0 : W1.cell? ⟨g3, 0, none⟩ = some (.int .i64 id) := J0.cell 0
 have d1 : W1.cell? ⟨g3, 1, none⟩ = some (.int .i64 i1) := J0.cell 1
 have d2 : W1.cell? ⟨g3, 2, none⟩ = some (.int .i64 i2) := J0.cell 2
 have d3 : W1.cell? ⟨g3, 3, none⟩ = some (.int .i64 i3) := J0.cell 3
 have d4 : W1.cell? ⟨g3, 4, none⟩ = some (.int .i64 i4) := J0.cell 4
 have d5 : W1.cell? ⟨g3, 5, none⟩ = some (.int .i64 i5) := J0.cell 5
 have d6 : W1.cell? ⟨g3, 6, none⟩ = some (.int .i64 i6) := J0.cell 6
 have d7 : W1.cell? ⟨g3, 7, none⟩ = some (.int .i64 i7) := J0.cell 7
 have d8 : W1.cell? ⟨g3, 8, none⟩ = some (.slice a n c) := J0.cell 8
 have HJ0 := Lib.hid J0
 have HJ1 := Lib.hid J1
 have HK := Lib.hid (HV.out W1 hx1)
 clear J0 J1 HV
 go_wp2_with fail
 refine HK.out.mono ?_
 rintro e W2 ⟨rfl, hy⟩
 have hx2 := Ext.trans hx1 hy
 have HJ0 := Lib.hid (HJ0.out.ext hy)
 have HJ1 := Lib.hid (HJ1.out.ext hy)
 clear d0 d1 d2 d3 d4 d5 d6 d7 d8 HK hx1 hy
 cases q1
 ·go_wp2
  exact bodyPost_ret (v := .tuple #[.int .i64 0, .int .i64 180]) (by simp [results, Try.results32, go_sem]) rfl ⟨rfl, hx2⟩
 ·have l0 : W2.cell? ⟨g5, 0, none⟩ = some (.slice LA ln lc) := HJ1.out.cell 0
  have HK := Lib.hid (HIS.out W2 hx2)
  clear HIS
  go_wp2_with fail
  refine HK.out.mono ?_
  rintro e W3 ⟨rfl, hy⟩
  have hx3 := Ext.trans hx2 hy
  have HJ0 := Lib.hid (HJ0.out.ext hy)
  have HJ1 := Lib.hid (HJ1.out.ext hy)
  clear l0 HK hx2 hy
  cases q2
  ·go_wp2
   exact bodyPost_ret (v := .tuple #[.int .i64 0, .int .i64 180]) (by simp [results, Try.results32, go_sem]) rfl ⟨rfl, hx3⟩
  ·have d8 : W3.cell? ⟨g3, 8, none⟩ = some (.slice a n c) := HJ0.out.cell 8
   have HK := Lib.hid (HIX.out g5 W3 hx3 HJ1.out)
   clear HIX
   go_wp2_with fail
   refine HK.out.mono ?_
   rintro e W4 ⟨rfl, hy⟩
   have hx4 := Ext.trans hx3 hy
   clear d8 HK hx3 hy
   go_wp2
   exact bodyPost_ret (v := .tuple #[.int .i64 z, .int .i64 0]) (by simp [results, Try.results32, go_sem]) rfl ⟨rfl, hx4⟩
end Go.Proofs.Ytmlabgmigakcbaa
