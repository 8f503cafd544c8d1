/- The region rule inside a round of a range over a function (printed by mk_reg6.py). -/
import Derived.Test.YtjidhhfabfnhnaaGreatK05
import Derived.Test.YtjidhhfabfnhnaaGreatK07
import Derived.RangeFuncNested
import Derived.RangeFuncCalls
import Derived.OrdersIn
import Derived.OwnWalkIn
namespace Go.Proofs.YtjidhhfabfnhnaaGreat
open Go.RowKit
theorem results_row1 {P : Program} {fn : Func} {p q : Tmp} {t : TypeId} (h : fn.results = #[.cell p t,.tmp q]) (tmps : Array Value) (w : World) (g : Nat) (X : Array Value) (v : Value) (hp : tmps.getD p undef = .pointer (some ⟨g,0,none⟩)) (hq : tmps.getD q undef = v) (J : Blk w g t X) (d : TypeDesc) (hu : P.underlying t = some d) (hd : d.isRow = true) (hi : (P.info? t).map (·.size) = some X.size) :
  (results fn tmps).run P w = .ok (.tuple #[.agg X,v]) w:=by
 have hl:=load_blk J d hu hd hi
 have hp' : tmps[p]?.getD undef = .pointer (some ⟨g,0,none⟩):=by simpa using hp
 have hq' : tmps[q]?.getD undef = v:=by simpa using hq
 simp only [results,h]
 simp [hp',hq',asAddr,hl]
def zU : Upd:=⟨0,0,0,⟨0,0,0,0,0,0,0⟩⟩
theorem best_step (id kn t : Int) (l : List Upd) (k : Nat) (b : Option Upd) (h : k < l.length) : bestU id kn t (l.drop k) b = bestU id kn t (l.drop (k + 1)) (nxU id kn t b l[k]):=by
 rw [List.drop_eq_getElem_cons h,bestU]
theorem cells_lit (x : Upd) (X : Array Value) (h : (updCells x).toArray = X) : X.size = 10 ∧ X.all (·.oneCell') = true:=by
 subst h
 exact ⟨rfl,upd_one x⟩
set_option maxRecDepth 100000 in
set_option maxHeartbeats 2000000 in
theorem last_any (id kn t : Int) (gp gt : Nat) (P : Array Value) (p0 : P[0]? = some (.int .i64 id)) (p22 : P[22]? = some (.int .i64 kn)) (l : List Upd) (A : Option Addr) (n c : Nat) (w : World) (kp : Blk w gp 117 P) (kt : Blk w gt 3 #[.int .i64 t]) (h : RA updCells 10 w w.heap.size A n c l) :
  Calls Tryz.prog 113 #[.slice A n c,.func (.func 112) #[] #[.pointer (some ⟨gp,0,none⟩),.pointer (some ⟨gt,0,none⟩)],.func (.func 114) #[] #[]] w fun e w' => e = .returned (.tuple #[.agg (updCells ((bestU id kn t l none).getD zU)).toArray,.bool (bestU id kn t l none).isSome]) ∧ Ext w w':=by
 have HCH:=Lib.hid (fun (u : Upd) (W : World) (hx : Ext w W) => ch_any u gp gt id kn t W P (kp.ext hx) p0 p22 (kt.ext hx))
 obtain ⟨R,hR⟩ : ∃ R,R = bestU id kn t l none:=⟨_,rfl⟩
 rw [← hR]
 have HR0 : Hid (R = bestU id kn t (l.drop 0) none):=Lib.hid hR
 have HRA:=Lib.hid h
 have hle:=h.le
 have HLN:=Lib.hid h.len
 clear h hR p0 p22 kp kt
 have hxa : Ext w (w.alloc (.cells (updCells zU).toArray 66)):=bl_alloc (Below.refl _ _) _
 have J:=Blk.new w 66 (updCells zU).toArray
 have HXA:=Lib.hid hxa
 have hg6 : w.heap.size ≤ w.heap.size:=Nat.le_refl _
 go_enter Tryz.func113,Tryz.ntmps113
 go_upto_region 1 with (fail)
 change Code.wp _ _ _ _ (w.alloc (.cells (updCells zU).toArray 66))
 generalize w.alloc (.cells (updCells zU).toArray 66) = W1 at J HXA hxa ⊢
 generalize hgg : w.heap.size = g6 at J hg6 ⊢
 have HGG : Hid (w.heap.size ≤ g6):=Lib.hid (by omega)
 clear hgg hg6 hxa
 have HJ0 : Hid (Blk W1 g6 66 (updCells ((none : Option Upd).getD zU)).toArray):=Lib.hid J
 clear J
 go_wp2
 go_loopw [7,12] (fun b i wr => ∃ (k : Nat) (best : Option Upd),k ≤ n ∧ i = .int .i64 k ∧ b = .bool best.isSome ∧ Hid (R = bestU id kn t (l.drop k) best) ∧ Hid (Blk wr g6 66 (updCells (best.getD zU)).toArray) ∧ Hid (Ext w wr)) (fun _ i _ => n - (intOf i).toNat)
 case atStart => exact ⟨0,none,Nat.zero_le _,rfl,rfl,HR0,HJ0,HXA⟩
 case round =>
  clear HR0 HJ0 HXA
  obtain ⟨k,best,hk,rfl,rfl,HB,HJ,HX⟩:=hrel
  by_cases hkn : k < n
  ·obtain ⟨b,o,hz,hA,hbl,hc⟩:=RA.range upd_len (HRA.out.below HX.out) hkn
   have hst:=best_step id kn t l k best hz
   rw [← HB.out] at hst
   generalize l[k] = u at hst hc
   have hch:=HCH.out u
   have hky:=key_any u
   have hko:=key_any (best.getD zU)
   obtain ⟨X,hX⟩ : ∃ X,(updCells u).toArray = X:=⟨_,rfl⟩
   obtain ⟨Y,hY⟩ : ∃ Y,(updCells (best.getD zU)).toArray = Y:=⟨_,rfl⟩
   obtain ⟨hXs,hX1⟩:=cells_lit u X hX
   have hYs:=(cells_lit _ Y hY).1
   have hYl : Y.toList = updCells (best.getD zU):=by rw [← hY]
   rw [hX] at hch hky
   rw [hY] at hko HJ
   have HC:=Lib.hid hc
   have HCH1:=Lib.hid hch
   have HKY:=Lib.hid hky
   have HKO:=Lib.hid hko
   have HXX:=Lib.hid hX
   have HYY:=Lib.hid hY
   have HXS:=Lib.hid hXs
   have HYS:=Lib.hid hYs
   have HX1:=Lib.hid hX1
   have HST:=Lib.hid hst
   have hkz : (k : Int) < (n : Int):=by omega
   subst hA
   have KX : Blk (wr.alloc (.cells X 66)) wr.heap.size 66 X:=Blk.new _ _ _
   have hx1 : Ext wr (wr.alloc (.cells X 66)):=bl_alloc (Below.refl _ _) _
   clear hc hch hky hko hX hY hXs hYs hX1 hst hz hYl
   go_upto_region 4 with (first | (refine wpList_load_st rfl _ _ rfl b (o + k * 10) rfl X (updCells u) HXX.out _ HC.out Tryz.underlying66 rfl upd_size ?_) | (refine wpList_store_new rfl 66 _ _ rfl _ X rfl rfl (by rw [HXS.out]; exact upd_size) (by rw [HXS.out]; rfl) HX1.out ?_))
   generalize wr.heap.size = g9 at KX ⊢
   generalize wr.alloc (.cells X 66) = W2 at KX hx1 ⊢
   have HJ:=Lib.hid (HJ.out.ext hx1)
   have K:=Lib.hid KX
   have HX1W:=Lib.hid hx1
   have HCH2 : Hid (∀ W,Ext W2 W → Calls Tryz.prog 112 #[.agg X,.pointer (some ⟨gp,0,none⟩),.pointer (some ⟨gt,0,none⟩)] W fun e w' => e = .returned (.bool (chU id kn t u)) ∧ Ext W w'):=Lib.hid (fun W hx => HCH1.out W (Ext.trans (Ext.trans HX.out HX1W.out) hx))
   clear KX hx1 HCH1
   have LX : Hid (∀ W,Ext W2 W → W.rangeAt g9 0 (updCells u)):=Lib.hid (fun W hx => Blk.range (K.out.ext hx) (updCells u) (by rw [← HXX.out]))
   have LY : Hid (∀ W,Ext W2 W → W.rangeAt g6 0 (updCells (best.getD zU))):=Lib.hid (fun W hx => Blk.range (HJ.out.ext hx) (updCells (best.getD zU)) (by rw [← HYY.out]))
   obtain ⟨q,hq⟩ : ∃ q,q = chU id kn t u:=⟨_,rfl⟩
   rw [← hq] at HCH2
   cases q
   ·have HNX : Hid (nxU id kn t best u = best):=Lib.hid (by unfold nxU; rw [← hq]; rfl)
    clear hq
    refine wp_region_obl 16 (fun ix vals v w1 => match ix with | 0 => v = .func (.func 112) #[] #[.pointer (some ⟨gp,0,none⟩),.pointer (some ⟨gt,0,none⟩)] | 1 => v = .agg X | 2 => v = .bool false | 3 => v = .bool false | 4 => v = undef | 5 => v = undef | 6 => v = undef | 7 => v = undef | 8 => v = undef | 9 => v = undef | 10 => v = undef | 11 => v = undef | 12 => v = undef | 13 => v = undef | 14 => v = undef | _ => v = .bool false) (by kernel_rfl) (by kernel_rfl) ?_ ?_ ?_ ?_
    ·intro ix vals v w1 w2 hi hr hx; exact hr
    ·intro ix vals vals_ v w1 hi hv hr
     exact hr
    ·refine ⟨?_,?_,?_,?_,?_,?_,?_,?_,?_,?_,?_,?_,?_,?_,?_,?_,trivial⟩
     ·intro vals w1 hx hd ha
      clear hd ha
      simp only [Lf]
      go_wp2
      exact q_
     ·intro vals w1 hx hd ha
      clear hd ha
      simp only [Lf,dstAt,Act.put,FR_]
      refine wpList_load_st rfl _ _ rfl g9 0 rfl X (updCells u) HXX.out _ (LX.out _ hx.undrew) Tryz.underlying66 rfl upd_size ?_
      go_wp2
      exact q_
     ·intro vals w1 hx hd ha
      have e0 : vals 0 = .func (.func 112) #[] #[.pointer (some ⟨gp,0,none⟩),.pointer (some ⟨gt,0,none⟩)]:=hd 0 (by decide)
      have e1 : vals 1 = .agg X:=hd 1 (by decide)
      clear hd ha
      simp only [Lf,dstAt,Act.put,FR_,e0]
      simp only [e1]
      clear e0 e1
      go_wp2_with fail
      refine (HCH2.out _ hx.undrew).mono ?_
      rintro e w2 ⟨rfl,hb2⟩
      go_wp2
      exact ⟨rfl,hb2,rfl⟩
     ·intro vals w1 hx hd ha
      have e2 : vals 2 = .bool false:=hd 2 (by decide)
      clear hd ha
      simp only [Lf,dstAt,Act.put,FR_,e2]
      clear e2
      go_wp2
      exact q_
     ·intro vals w1 hx hd ha
      have e3 : vals 3 = .bool false:=hd 3 (by decide)
      clear hd ha
      simp only [Lf,dstAt,Act.put,FR_,e3]
      clear e3
      go_wp2
      exact q_
     ·intro vals w1 hx hd ha
      have e3 : vals 3 = .bool false:=hd 3 (by decide)
      have e4 : vals 4 = undef:=hd 4 (by decide)
      clear hd ha
      simp only [Lf,dstAt,Act.put,FR_,e3,e4]
      clear e3 e4
      go_wp2
      exact q_
     ·intro vals w1 hx hd ha
      have e3 : vals 3 = .bool false:=hd 3 (by decide)
      have e5 : vals 5 = undef:=hd 5 (by decide)
      clear hd ha
      simp only [Lf,dstAt,Act.put,FR_,e3,e5]
      clear e3 e5
      go_wp2
      exact q_
     ·intro vals w1 hx hd ha
      have e6 : vals 6 = undef:=hd 6 (by decide)
      clear hd ha
      simp only [Lf,dstAt,Act.put,FR_,e6]
      clear e6
      go_wp2
      exact q_
     ·intro vals w1 hx hd ha
      have e6 : vals 6 = undef:=hd 6 (by decide)
      clear hd ha
      simp only [Lf,dstAt,Act.put,FR_,e6]
      clear e6
      go_wp2
      exact q_
     ·intro vals w1 hx hd ha
      have e6 : vals 6 = undef:=hd 6 (by decide)
      have e7 : vals 7 = undef:=hd 7 (by decide)
      have e8 : vals 8 = undef:=hd 8 (by decide)
      clear hd ha
      simp only [Lf,dstAt,Act.put,FR_,e6,e7,e8]
      clear e6 e7 e8
      go_wp2
      exact q_
     ·intro vals w1 hx hd ha
      have e6 : vals 6 = undef:=hd 6 (by decide)
      clear hd ha
      simp only [Lf,dstAt,Act.put,FR_,e6]
      clear e6
      go_wp2
      exact q_
     ·intro vals w1 hx hd ha
      have e6 : vals 6 = undef:=hd 6 (by decide)
      clear hd ha
      simp only [Lf,dstAt,Act.put,FR_,e6]
      clear e6
      go_wp2
      exact q_
     ·intro vals w1 hx hd ha
      have e6 : vals 6 = undef:=hd 6 (by decide)
      have e9 : vals 9 = undef:=hd 9 (by decide)
      have e10 : vals 10 = undef:=hd 10 (by decide)
      have e11 : vals 11 = undef:=hd 11 (by decide)
      clear hd ha
      simp only [Lf,dstAt,Act.put,FR_,e6,e9,e10,e11]
      clear e6 e9 e10 e11
      go_wp2
      exact q_
     ·intro vals w1 hx hd ha
      have e6 : vals 6 = undef:=hd 6 (by decide)
      have e9 : vals 9 = undef:=hd 9 (by decide)
      have e12 : vals 12 = undef:=hd 12 (by decide)
      clear hd ha
      simp only [Lf,dstAt,Act.put,FR_,e6,e9,e12]
      clear e6 e9 e12
      go_wp2
      exact q_
     ·intro vals w1 hx hd ha
      have e3 : vals 3 = .bool false:=hd 3 (by decide)
      have e6 : vals 6 = undef:=hd 6 (by decide)
      have e13 : vals 13 = undef:=hd 13 (by decide)
      clear hd ha
      simp only [Lf,dstAt,Act.put,FR_,e3,e6,e13]
      clear e3 e6 e13
      go_wp2
      exact q_
     ·intro vals w1 hx hd ha
      have e3 : vals 3 = .bool false:=hd 3 (by decide)
      have e14 : vals 14 = undef:=hd 14 (by decide)
      clear hd ha
      simp only [Lf,dstAt,Act.put,FR_,e3,e14]
      clear e3 e14
      go_wp2
      exact q_
    intro vals w5 hx5 hf
    have e15 : vals 15 = .bool false:=hf 15 (by omega)
    clear hf
    have hx5:=hx5.undrew
    refine tail0 (by kernel_rfl) ?_
    simp only [Lf,dstAt,Act.put,FR_]
    rw [e15]
    clear e15
    have HST2 : Hid (R = bestU id kn t (l.drop (k + 1)) (best)):=Lib.hid (by rw [HST.out,HNX.out])
    have HJ2 : Hid (Blk w5 g6 66 (updCells ((best).getD zU)).toArray):=Lib.hid (by rw [HYY.out]; exact HJ.out.ext hx5)
    have HX2:=Lib.hid (Ext.trans (Ext.trans HX.out HX1W.out) hx5)
    clear hx5
    go_wp2
    go_roundw
    case rel => exact ⟨k + 1,best,by omega,by go_num,rfl,HST2,HJ2,HX2⟩
    case measure => simp [intOf]; omega
   ·cases best with
    | none =>
     have HNX : Hid (nxU id kn t none u = some u):=Lib.hid (by unfold nxU; rw [← hq]; rfl)
     clear hq
     refine wp_region_obl 16 (fun ix vals v w1 => match ix with | 0 => v = .func (.func 112) #[] #[.pointer (some ⟨gp,0,none⟩),.pointer (some ⟨gt,0,none⟩)] | 1 => v = .agg X | 2 => v = .bool true | 3 => v = .bool true | 4 => v = .bool false | 5 => v = .bool true | 6 => v = .bool true | 7 => v = undef | 8 => v = undef | 9 => v = undef | 10 => v = undef | 11 => v = undef | 12 => v = undef | 13 => v = undef | 14 => v = .bool true | _ => v = .bool true) (by kernel_rfl) (by kernel_rfl) ?_ ?_ ?_ ?_
     ·intro ix vals v w1 w2 hi hr hx; exact hr
     ·intro ix vals vals_ v w1 hi hv hr
      exact hr
     ·refine ⟨?_,?_,?_,?_,?_,?_,?_,?_,?_,?_,?_,?_,?_,?_,?_,?_,trivial⟩
      ·intro vals w1 hx hd ha
       clear hd ha
       simp only [Lf]
       go_wp2
       exact q_
      ·intro vals w1 hx hd ha
       clear hd ha
       simp only [Lf,dstAt,Act.put,FR_]
       refine wpList_load_st rfl _ _ rfl g9 0 rfl X (updCells u) HXX.out _ (LX.out _ hx.undrew) Tryz.underlying66 rfl upd_size ?_
       go_wp2
       exact q_
      ·intro vals w1 hx hd ha
       have e0 : vals 0 = .func (.func 112) #[] #[.pointer (some ⟨gp,0,none⟩),.pointer (some ⟨gt,0,none⟩)]:=hd 0 (by decide)
       have e1 : vals 1 = .agg X:=hd 1 (by decide)
       clear hd ha
       simp only [Lf,dstAt,Act.put,FR_,e0]
       simp only [e1]
       clear e0 e1
       go_wp2_with fail
       refine (HCH2.out _ hx.undrew).mono ?_
       rintro e w2 ⟨rfl,hb2⟩
       go_wp2
       exact ⟨rfl,hb2,rfl⟩
      ·intro vals w1 hx hd ha
       have e2 : vals 2 = .bool true:=hd 2 (by decide)
       clear hd ha
       simp only [Lf,dstAt,Act.put,FR_,e2]
       clear e2
       go_wp2
       exact q_
      ·intro vals w1 hx hd ha
       have e3 : vals 3 = .bool true:=hd 3 (by decide)
       clear hd ha
       simp only [Lf,dstAt,Act.put,FR_,e3]
       clear e3
       go_wp2
       exact q_
      ·intro vals w1 hx hd ha
       have e3 : vals 3 = .bool true:=hd 3 (by decide)
       have e4 : vals 4 = .bool false:=hd 4 (by decide)
       clear hd ha
       simp only [Lf,dstAt,Act.put,FR_,e3,e4]
       clear e3 e4
       go_wp2
       exact q_
      ·intro vals w1 hx hd ha
       have e3 : vals 3 = .bool true:=hd 3 (by decide)
       have e5 : vals 5 = .bool true:=hd 5 (by decide)
       clear hd ha
       simp only [Lf,dstAt,Act.put,FR_,e3,e5]
       clear e3 e5
       go_wp2
       exact q_
      ·intro vals w1 hx hd ha
       have e6 : vals 6 = .bool true:=hd 6 (by decide)
       clear hd ha
       simp only [Lf,dstAt,Act.put,FR_,e6]
       clear e6
       go_wp2
       exact q_
      ·intro vals w1 hx hd ha
       have e6 : vals 6 = .bool true:=hd 6 (by decide)
       clear hd ha
       simp only [Lf,dstAt,Act.put,FR_,e6]
       clear e6
       go_wp2
       exact q_
      ·intro vals w1 hx hd ha
       have e6 : vals 6 = .bool true:=hd 6 (by decide)
       have e7 : vals 7 = undef:=hd 7 (by decide)
       have e8 : vals 8 = undef:=hd 8 (by decide)
       clear hd ha
       simp only [Lf,dstAt,Act.put,FR_,e6,e7,e8]
       clear e6 e7 e8
       go_wp2
       exact q_
      ·intro vals w1 hx hd ha
       have e6 : vals 6 = .bool true:=hd 6 (by decide)
       clear hd ha
       simp only [Lf,dstAt,Act.put,FR_,e6]
       clear e6
       go_wp2
       exact q_
      ·intro vals w1 hx hd ha
       have e6 : vals 6 = .bool true:=hd 6 (by decide)
       clear hd ha
       simp only [Lf,dstAt,Act.put,FR_,e6]
       clear e6
       go_wp2
       exact q_
      ·intro vals w1 hx hd ha
       have e6 : vals 6 = .bool true:=hd 6 (by decide)
       have e9 : vals 9 = undef:=hd 9 (by decide)
       have e10 : vals 10 = undef:=hd 10 (by decide)
       have e11 : vals 11 = undef:=hd 11 (by decide)
       clear hd ha
       simp only [Lf,dstAt,Act.put,FR_,e6,e9,e10,e11]
       clear e6 e9 e10 e11
       go_wp2
       exact q_
      ·intro vals w1 hx hd ha
       have e6 : vals 6 = .bool true:=hd 6 (by decide)
       have e9 : vals 9 = undef:=hd 9 (by decide)
       have e12 : vals 12 = undef:=hd 12 (by decide)
       clear hd ha
       simp only [Lf,dstAt,Act.put,FR_,e6,e9,e12]
       clear e6 e9 e12
       go_wp2
       exact q_
      ·intro vals w1 hx hd ha
       have e3 : vals 3 = .bool true:=hd 3 (by decide)
       have e6 : vals 6 = .bool true:=hd 6 (by decide)
       have e13 : vals 13 = undef:=hd 13 (by decide)
       clear hd ha
       simp only [Lf,dstAt,Act.put,FR_,e3,e6,e13]
       clear e3 e6 e13
       go_wp2
       exact q_
      ·intro vals w1 hx hd ha
       have e3 : vals 3 = .bool true:=hd 3 (by decide)
       have e14 : vals 14 = .bool true:=hd 14 (by decide)
       clear hd ha
       simp only [Lf,dstAt,Act.put,FR_,e3,e14]
       clear e3 e14
       go_wp2
       exact q_
     intro vals w5 hx5 hf
     have e15 : vals 15 = .bool true:=hf 15 (by omega)
     clear hf
     have hx5:=hx5.undrew
     refine tail0 (by kernel_rfl) ?_
     simp only [Lf,dstAt,Act.put,FR_]
     rw [e15]
     clear e15
     have K9:=K.out.ext hx5
     have KJ:=HJ.out.ext hx5
     have hxw:=Ext.trans (Ext.trans HX.out HX1W.out) hx5
     have JN:=KJ.row X
     have hxn:=below_setRow hxw (g:=g6) HGG.out X
     have HK9:=Lib.hid K9
     have HKJ:=Lib.hid KJ
     clear hx5 K9 KJ hxw
     go_upto_region 6 with (first | (refine wpList_load_st rfl _ _ rfl g9 0 rfl X (updCells u) HXX.out _ (Blk.range HK9.out (updCells u) (by rw [← HXX.out])) Tryz.underlying66 rfl upd_size ?_) | (refine wpList_store_row rfl 66 _ _ rfl g6 X rfl rfl 66 _ HKJ.out (by rw [HXS.out]; exact upd_size) (by rw [HXS.out,HYS.out]) HX1.out ?_))
     have HST2 : Hid (R = bestU id kn t (l.drop (k + 1)) (some u)):=Lib.hid (by rw [HST.out,HNX.out])
     have HJ2 : Hid (Blk (w5.setRow g6 X) g6 66 (updCells ((some u).getD zU)).toArray):=Lib.hid (by rw [Option.getD_some,HXX.out]; exact JN)
     have HX2:=Lib.hid hxn
     clear JN hxn
     generalize w5.setRow g6 X = W6 at HJ2 HX2 ⊢
     go_wp2
     go_roundw
     case rel => exact ⟨k + 1,some u,by omega,by go_num,rfl,HST2,HJ2,HX2⟩
     case measure => simp [intOf]; omega
    | some ub =>
     have hnx : nxU id kn t (some ub) u = if ub.fr ≤ u.fr then some u else some ub:=by unfold nxU; rw [← hq]; simp
     have HNX0:=Lib.hid hnx
     clear hq hnx
     by_cases hvu : ub.fr ≤ u.fr
     ·have HNX : Hid (nxU id kn t (some ub) u = some u):=Lib.hid (by rw [HNX0.out,if_pos hvu])
      refine wp_region_obl 16 (fun ix vals v w1 => match ix with | 0 => v = .func (.func 112) #[] #[.pointer (some ⟨gp,0,none⟩),.pointer (some ⟨gt,0,none⟩)] | 1 => v = .agg X | 2 => v = .bool true | 3 => v = .bool true | 4 => v = .bool true | 5 => v = .bool false | 6 => v = .bool false | 7 => v = .func (.func 114) #[] #[] | 8 => v = .agg X | 9 => v = .int .i64 u.fr | 10 => v = .func (.func 114) #[] #[] | 11 => v = .agg Y | 12 => v = .int .i64 ub.fr | 13 => v = .bool true | 14 => v = .bool true | _ => v = .bool true) (by kernel_rfl) (by kernel_rfl) ?_ ?_ ?_ ?_
      ·intro ix vals v w1 w2 hi hr hx; exact hr
      ·intro ix vals vals_ v w1 hi hv hr
       exact hr
      ·refine ⟨?_,?_,?_,?_,?_,?_,?_,?_,?_,?_,?_,?_,?_,?_,?_,?_,trivial⟩
       ·intro vals w1 hx hd ha
        clear hd ha
        simp only [Lf]
        go_wp2
        exact q_
       ·intro vals w1 hx hd ha
        clear hd ha
        simp only [Lf,dstAt,Act.put,FR_]
        refine wpList_load_st rfl _ _ rfl g9 0 rfl X (updCells u) HXX.out _ (LX.out _ hx.undrew) Tryz.underlying66 rfl upd_size ?_
        go_wp2
        exact q_
       ·intro vals w1 hx hd ha
        have e0 : vals 0 = .func (.func 112) #[] #[.pointer (some ⟨gp,0,none⟩),.pointer (some ⟨gt,0,none⟩)]:=hd 0 (by decide)
        have e1 : vals 1 = .agg X:=hd 1 (by decide)
        clear hd ha
        simp only [Lf,dstAt,Act.put,FR_,e0]
        simp only [e1]
        clear e0 e1
        go_wp2_with fail
        refine (HCH2.out _ hx.undrew).mono ?_
        rintro e w2 ⟨rfl,hb2⟩
        go_wp2
        exact ⟨rfl,hb2,rfl⟩
       ·intro vals w1 hx hd ha
        have e2 : vals 2 = .bool true:=hd 2 (by decide)
        clear hd ha
        simp only [Lf,dstAt,Act.put,FR_,e2]
        clear e2
        go_wp2
        exact q_
       ·intro vals w1 hx hd ha
        have e3 : vals 3 = .bool true:=hd 3 (by decide)
        clear hd ha
        simp only [Lf,dstAt,Act.put,FR_,e3]
        clear e3
        go_wp2
        exact q_
       ·intro vals w1 hx hd ha
        have e3 : vals 3 = .bool true:=hd 3 (by decide)
        have e4 : vals 4 = .bool true:=hd 4 (by decide)
        clear hd ha
        simp only [Lf,dstAt,Act.put,FR_,e3,e4]
        clear e3 e4
        go_wp2
        exact q_
       ·intro vals w1 hx hd ha
        have e3 : vals 3 = .bool true:=hd 3 (by decide)
        have e5 : vals 5 = .bool false:=hd 5 (by decide)
        clear hd ha
        simp only [Lf,dstAt,Act.put,FR_,e3,e5]
        clear e3 e5
        go_wp2
        exact q_
       ·intro vals w1 hx hd ha
        have e6 : vals 6 = .bool false:=hd 6 (by decide)
        clear hd ha
        simp only [Lf,dstAt,Act.put,FR_,e6]
        clear e6
        go_wp2
        exact q_
       ·intro vals w1 hx hd ha
        have e6 : vals 6 = .bool false:=hd 6 (by decide)
        clear hd ha
        simp only [Lf,dstAt,Act.put,FR_,e6]
        clear e6
        refine wpList_load_stg rfl _ _ rfl g9 0 rfl X (updCells u) HXX.out _ (LX.out _ hx.undrew) Tryz.underlying66 rfl upd_size ?_
        go_wp2
        exact q_
       ·intro vals w1 hx hd ha
        have e6 : vals 6 = .bool false:=hd 6 (by decide)
        have e7 : vals 7 = .func (.func 114) #[] #[]:=hd 7 (by decide)
        have e8 : vals 8 = .agg X:=hd 8 (by decide)
        clear hd ha
        simp only [Lf,dstAt,Act.put,FR_,e6]
        simp only [e7]
        simp only [e8]
        clear e6 e7 e8
        go_wp2_with fail
        refine (HKY.out _).mono ?_
        rintro e w2 ⟨rfl,hb2⟩
        go_wp2
        exact ⟨rfl,hb2,rfl⟩
       ·intro vals w1 hx hd ha
        have e6 : vals 6 = .bool false:=hd 6 (by decide)
        clear hd ha
        simp only [Lf,dstAt,Act.put,FR_,e6]
        clear e6
        go_wp2
        exact q_
       ·intro vals w1 hx hd ha
        have e6 : vals 6 = .bool false:=hd 6 (by decide)
        clear hd ha
        simp only [Lf,dstAt,Act.put,FR_,e6]
        clear e6
        refine wpList_load_stg rfl _ _ rfl g6 0 rfl Y (updCells ub) HYY.out _ (LY.out _ hx.undrew) Tryz.underlying66 rfl upd_size ?_
        go_wp2
        exact q_
       ·intro vals w1 hx hd ha
        have e6 : vals 6 = .bool false:=hd 6 (by decide)
        have e9 : vals 9 = .int .i64 u.fr:=hd 9 (by decide)
        have e10 : vals 10 = .func (.func 114) #[] #[]:=hd 10 (by decide)
        have e11 : vals 11 = .agg Y:=hd 11 (by decide)
        clear hd ha
        simp only [Lf,dstAt,Act.put,FR_,e6]
        simp only [e9]
        simp only [e10]
        simp only [e11]
        clear e6 e9 e10 e11
        go_wp2_with fail
        refine (HKO.out _).mono ?_
        rintro e w2 ⟨rfl,hb2⟩
        go_wp2
        exact ⟨rfl,hb2,rfl⟩
       ·intro vals w1 hx hd ha
        have e6 : vals 6 = .bool false:=hd 6 (by decide)
        have e9 : vals 9 = .int .i64 u.fr:=hd 9 (by decide)
        have e12 : vals 12 = .int .i64 ub.fr:=hd 12 (by decide)
        clear hd ha
        simp only [Lf,dstAt,Act.put,FR_,e6,e9,e12]
        clear e6 e9 e12
        go_wp2
        exact q_
       ·intro vals w1 hx hd ha
        have e3 : vals 3 = .bool true:=hd 3 (by decide)
        have e6 : vals 6 = .bool false:=hd 6 (by decide)
        have e13 : vals 13 = .bool true:=hd 13 (by decide)
        clear hd ha
        simp only [Lf,dstAt,Act.put,FR_,e3,e6,e13]
        clear e3 e6 e13
        go_wp2
        exact q_
       ·intro vals w1 hx hd ha
        have e3 : vals 3 = .bool true:=hd 3 (by decide)
        have e14 : vals 14 = .bool true:=hd 14 (by decide)
        clear hd ha
        simp only [Lf,dstAt,Act.put,FR_,e3,e14]
        clear e3 e14
        go_wp2
        exact q_
      intro vals w5 hx5 hf
      have e15 : vals 15 = .bool true:=hf 15 (by omega)
      clear hf
      have hx5:=hx5.undrew
      refine tail0 (by kernel_rfl) ?_
      simp only [Lf,dstAt,Act.put,FR_]
      rw [e15]
      clear e15
      have K9:=K.out.ext hx5
      have KJ:=HJ.out.ext hx5
      have hxw:=Ext.trans (Ext.trans HX.out HX1W.out) hx5
      have JN:=KJ.row X
      have hxn:=below_setRow hxw (g:=g6) HGG.out X
      have HK9:=Lib.hid K9
      have HKJ:=Lib.hid KJ
      clear hx5 K9 KJ hxw
      go_upto_region 6 with (first | (refine wpList_load_st rfl _ _ rfl g9 0 rfl X (updCells u) HXX.out _ (Blk.range HK9.out (updCells u) (by rw [← HXX.out])) Tryz.underlying66 rfl upd_size ?_) | (refine wpList_store_row rfl 66 _ _ rfl g6 X rfl rfl 66 _ HKJ.out (by rw [HXS.out]; exact upd_size) (by rw [HXS.out,HYS.out]) HX1.out ?_))
      have HST2 : Hid (R = bestU id kn t (l.drop (k + 1)) (some u)):=Lib.hid (by rw [HST.out,HNX.out])
      have HJ2 : Hid (Blk (w5.setRow g6 X) g6 66 (updCells ((some u).getD zU)).toArray):=Lib.hid (by rw [Option.getD_some,HXX.out]; exact JN)
      have HX2:=Lib.hid hxn
      clear JN hxn
      generalize w5.setRow g6 X = W6 at HJ2 HX2 ⊢
      go_wp2
      go_roundw
      case rel => exact ⟨k + 1,some u,by omega,by go_num,rfl,HST2,HJ2,HX2⟩
      case measure => simp [intOf]; omega
     ·have HNX : Hid (nxU id kn t (some ub) u = some ub):=Lib.hid (by rw [HNX0.out,if_neg hvu])
      refine wp_region_obl 16 (fun ix vals v w1 => match ix with | 0 => v = .func (.func 112) #[] #[.pointer (some ⟨gp,0,none⟩),.pointer (some ⟨gt,0,none⟩)] | 1 => v = .agg X | 2 => v = .bool true | 3 => v = .bool true | 4 => v = .bool true | 5 => v = .bool false | 6 => v = .bool false | 7 => v = .func (.func 114) #[] #[] | 8 => v = .agg X | 9 => v = .int .i64 u.fr | 10 => v = .func (.func 114) #[] #[] | 11 => v = .agg Y | 12 => v = .int .i64 ub.fr | 13 => v = .bool false | 14 => v = .bool false | _ => v = .bool false) (by kernel_rfl) (by kernel_rfl) ?_ ?_ ?_ ?_
      ·intro ix vals v w1 w2 hi hr hx; exact hr
      ·intro ix vals vals_ v w1 hi hv hr
       exact hr
      ·refine ⟨?_,?_,?_,?_,?_,?_,?_,?_,?_,?_,?_,?_,?_,?_,?_,?_,trivial⟩
       ·intro vals w1 hx hd ha
        clear hd ha
        simp only [Lf]
        go_wp2
        exact q_
       ·intro vals w1 hx hd ha
        clear hd ha
        simp only [Lf,dstAt,Act.put,FR_]
        refine wpList_load_st rfl _ _ rfl g9 0 rfl X (updCells u) HXX.out _ (LX.out _ hx.undrew) Tryz.underlying66 rfl upd_size ?_
        go_wp2
        exact q_
       ·intro vals w1 hx hd ha
        have e0 : vals 0 = .func (.func 112) #[] #[.pointer (some ⟨gp,0,none⟩),.pointer (some ⟨gt,0,none⟩)]:=hd 0 (by decide)
        have e1 : vals 1 = .agg X:=hd 1 (by decide)
        clear hd ha
        simp only [Lf,dstAt,Act.put,FR_,e0]
        simp only [e1]
        clear e0 e1
        go_wp2_with fail
        refine (HCH2.out _ hx.undrew).mono ?_
        rintro e w2 ⟨rfl,hb2⟩
        go_wp2
        exact ⟨rfl,hb2,rfl⟩
       ·intro vals w1 hx hd ha
        have e2 : vals 2 = .bool true:=hd 2 (by decide)
        clear hd ha
        simp only [Lf,dstAt,Act.put,FR_,e2]
        clear e2
        go_wp2
        exact q_
       ·intro vals w1 hx hd ha
        have e3 : vals 3 = .bool true:=hd 3 (by decide)
        clear hd ha
        simp only [Lf,dstAt,Act.put,FR_,e3]
        clear e3
        go_wp2
        exact q_
       ·intro vals w1 hx hd ha
        have e3 : vals 3 = .bool true:=hd 3 (by decide)
        have e4 : vals 4 = .bool true:=hd 4 (by decide)
        clear hd ha
        simp only [Lf,dstAt,Act.put,FR_,e3,e4]
        clear e3 e4
        go_wp2
        exact q_
       ·intro vals w1 hx hd ha
        have e3 : vals 3 = .bool true:=hd 3 (by decide)
        have e5 : vals 5 = .bool false:=hd 5 (by decide)
        clear hd ha
        simp only [Lf,dstAt,Act.put,FR_,e3,e5]
        clear e3 e5
        go_wp2
        exact q_
       ·intro vals w1 hx hd ha
        have e6 : vals 6 = .bool false:=hd 6 (by decide)
        clear hd ha
        simp only [Lf,dstAt,Act.put,FR_,e6]
        clear e6
        go_wp2
        exact q_
       ·intro vals w1 hx hd ha
        have e6 : vals 6 = .bool false:=hd 6 (by decide)
        clear hd ha
        simp only [Lf,dstAt,Act.put,FR_,e6]
        clear e6
        refine wpList_load_stg rfl _ _ rfl g9 0 rfl X (updCells u) HXX.out _ (LX.out _ hx.undrew) Tryz.underlying66 rfl upd_size ?_
        go_wp2
        exact q_
       ·intro vals w1 hx hd ha
        have e6 : vals 6 = .bool false:=hd 6 (by decide)
        have e7 : vals 7 = .func (.func 114) #[] #[]:=hd 7 (by decide)
        have e8 : vals 8 = .agg X:=hd 8 (by decide)
        clear hd ha
        simp only [Lf,dstAt,Act.put,FR_,e6]
        simp only [e7]
        simp only [e8]
        clear e6 e7 e8
        go_wp2_with fail
        refine (HKY.out _).mono ?_
        rintro e w2 ⟨rfl,hb2⟩
        go_wp2
        exact ⟨rfl,hb2,rfl⟩
       ·intro vals w1 hx hd ha
        have e6 : vals 6 = .bool false:=hd 6 (by decide)
        clear hd ha
        simp only [Lf,dstAt,Act.put,FR_,e6]
        clear e6
        go_wp2
        exact q_
       ·intro vals w1 hx hd ha
        have e6 : vals 6 = .bool false:=hd 6 (by decide)
        clear hd ha
        simp only [Lf,dstAt,Act.put,FR_,e6]
        clear e6
        refine wpList_load_stg rfl _ _ rfl g6 0 rfl Y (updCells ub) HYY.out _ (LY.out _ hx.undrew) Tryz.underlying66 rfl upd_size ?_
        go_wp2
        exact q_
       ·intro vals w1 hx hd ha
        have e6 : vals 6 = .bool false:=hd 6 (by decide)
        have e9 : vals 9 = .int .i64 u.fr:=hd 9 (by decide)
        have e10 : vals 10 = .func (.func 114) #[] #[]:=hd 10 (by decide)
        have e11 : vals 11 = .agg Y:=hd 11 (by decide)
        clear hd ha
        simp only [Lf,dstAt,Act.put,FR_,e6]
        simp only [e9]
        simp only [e10]
        simp only [e11]
        clear e6 e9 e10 e11
        go_wp2_with fail
        refine (HKO.out _).mono ?_
        rintro e w2 ⟨rfl,hb2⟩
        go_wp2
        exact ⟨rfl,hb2,rfl⟩
       ·intro vals w1 hx hd ha
        have e6 : vals 6 = .bool false:=hd 6 (by decide)
        have e9 : vals 9 = .int .i64 u.fr:=hd 9 (by decide)
        have e12 : vals 12 = .int .i64 ub.fr:=hd 12 (by decide)
        clear hd ha
        simp only [Lf,dstAt,Act.put,FR_,e6,e9,e12]
        clear e6 e9 e12
        go_wp2
        exact q_
       ·intro vals w1 hx hd ha
        have e3 : vals 3 = .bool true:=hd 3 (by decide)
        have e6 : vals 6 = .bool false:=hd 6 (by decide)
        have e13 : vals 13 = .bool false:=hd 13 (by decide)
        clear hd ha
        simp only [Lf,dstAt,Act.put,FR_,e3,e6,e13]
        clear e3 e6 e13
        go_wp2
        exact q_
       ·intro vals w1 hx hd ha
        have e3 : vals 3 = .bool true:=hd 3 (by decide)
        have e14 : vals 14 = .bool false:=hd 14 (by decide)
        clear hd ha
        simp only [Lf,dstAt,Act.put,FR_,e3,e14]
        clear e3 e14
        go_wp2
        exact q_
      intro vals w5 hx5 hf
      have e15 : vals 15 = .bool false:=hf 15 (by omega)
      clear hf
      have hx5:=hx5.undrew
      refine tail0 (by kernel_rfl) ?_
      simp only [Lf,dstAt,Act.put,FR_]
      rw [e15]
      clear e15
      have HST2 : Hid (R = bestU id kn t (l.drop (k + 1)) (some ub)):=Lib.hid (by rw [HST.out,HNX.out])
      have HJ2 : Hid (Blk w5 g6 66 (updCells ((some ub).getD zU)).toArray):=Lib.hid (by rw [HYY.out]; exact HJ.out.ext hx5)
      have HX2:=Lib.hid (Ext.trans (Ext.trans HX.out HX1W.out) hx5)
      clear hx5
      go_wp2
      go_roundw
      case rel => exact ⟨k + 1,some ub,by omega,by go_num,rfl,HST2,HJ2,HX2⟩
      case measure => simp [intOf]; omega
  ·have hkz : ¬ (k : Int) < (n : Int):=by omega
   obtain rfl : R = best:=by rw [HB.out,List.drop_of_length_le (by rw [HLN.out]; omega)]; rfl
   obtain ⟨Y,hY⟩ : ∃ Y,(updCells (R.getD zU)).toArray = Y:=⟨_,rfl⟩
   obtain ⟨hYs,hY1⟩:=cells_lit _ Y hY
   rw [hY] at HJ
   have HYY:=Lib.hid hY
   have HYS:=Lib.hid hYs
   have HY1:=Lib.hid hY1
   have JN:=HJ.out.row Y
   have hxn:=below_setRow HX.out (g:=g6) HGG.out Y
   clear hY hYs hY1 HB
   go_wp2_with (first | (refine wpList_load_st rfl _ _ rfl g6 0 rfl Y (updCells (R.getD zU)) HYY.out _ (Blk.range HJ.out (updCells (R.getD zU)) (by rw [← HYY.out])) Tryz.underlying66 rfl upd_size ?_) | (refine wpList_store_row rfl 66 _ _ rfl g6 Y rfl rfl 66 _ HJ.out (by rw [HYS.out]; exact upd_size) rfl HY1.out ?_))
   exact bodyPost_ret (results_row1 Tryz.results113 _ _ g6 Y (.bool R.isSome) rfl rfl JN _ Tryz.underlying66 rfl (by rw [HYS.out]; exact upd_size)) rfl ⟨by rw [HYY.out],hxn⟩
end Go.Proofs.YtjidhhfabfnhnaaGreat
namespace Go.Proofs.YtjidhhfabfnhnaaGreat
open Go.RowKit
section
variable {P : Program} {ops : Array Oper} {Q : Exit → Act → World → Prop} {a0 : Act} {w0 : World} {R : Nat → (Nat → Value) → Value → World → Prop} {m : Nat}
theorem wpAny_start {a : Act} {w : World} (m : Nat) (R : Nat → (Nat → Value) → Value → World → Prop) (hc : regChk ops m = true) (hst : ∀ i vals v w w',i < m → R i vals v w → Ext w w' → R i vals v w') (hloc : ∀ i vals vals' v w,i < m → (∀ d,anc ops i d = true → vals d = vals' d) → R i vals v w → R i vals' v w)
  (hob : Obls P ops a w.drew R 0 (ops.toList.take m))
  (hfin : ∀ (vals : Nat → Value) (w' : World),Ext w.drew w' → (∀ i,i < m → R i vals (vals i) w') → wpAny P .any ops Q (ops.size - m) (litL ops.size m) (Lf ops a vals m) w') : wpAny P .any ops Q ops.size (Array.replicate ops.size false) a w.drew:=by
 have hsz:=chk_size hc
 have hunl : unl (Array.replicate ops.size false) m = m:=by
  unfold unl
  rw [List.filter_eq_self.2 (fun i hi => by simp [Array.getD_eq_getD_getElem?,Array.getElem?_replicate]; split <;> rfl)]
  simp
 have h:=wpAny_of_obl (P:=P) (Q:=Q) (a0:=a) (w0:=w.drew) hc hst hloc (fun i o hi ho => by
  have:=obls_at (P:=P) (ops:=ops) (a0:=a) (w0:=w.drew) (R:=R) _ 0 hob i o (by rw [List.getElem?_take,if_pos hi]; simpa using ho)
  simpa using this) hfin m (Array.replicate ops.size false) (fun _ => undef) a w.drew hunl ?_
 ·rw [show ops.size - m + m = ops.size by omega] at h
  exact h
 ·have hf : ∀ i,(Array.replicate ops.size false).getD i false = false:=fun i => by simp [Array.getD_eq_getD_getElem?,Array.getElem?_replicate]; split <;> rfl
  constructor
  ·exact Ext.refl _
  ·simp
  ·intro i _; exact hf i
  ·intro i _ h; rw [hf] at h; cases h
  ·intro i _ h; rw [hf] at h; cases h
  ·rfl
  ·rfl
  ·intro t _; rfl
  ·intro i t _ h; rw [hf] at h; cases h
end
theorem rowsIn_wide_ {n : Nat} {P : Program} {row : String} {args : Array Value} {w : World} {R : Value → World → Prop} (h : Rows P row args w R) : RowsIn Fence.wide n P row args w R :=
 fun c cs _ => let ⟨v,w',r,s⟩:=h c cs; ⟨v,w',r,stepsIn_wide.2 s⟩
def noDefer (ops : Array Oper) : Bool:=ops.all fun o => match o.op with | .defer _ => false | _ => true
theorem noDefer_spec {ops : Array Oper} (h : noDefer ops = true) {i : Nat} {o : Oper} (ho : ops[i]? = some o) : ∀ c,o.op ≠ .defer c:=by
 intro c hc
 have:=Array.all_eq_true_iff_forall_mem.1 h o (Array.mem_of_getElem? ho)
 simp [hc] at this
theorem wpAny_round {P : Program} {ops : Array Oper} {Q : Exit → Act → World → Prop} {K : Act → World → Prop} {l n : Nat} (hnd : noDefer ops = true) (hK : ∀ a w,K a w → Q .normal a w) :
  ∀ (fuel : Nat) (listed : Array Bool) (a : Act) (w : World),wpAny P .any ops (Qn K) fuel listed a w → wpAnyIn (Fence.wide.inRound l) n P .any ops Q fuel listed a w:=by
 intro fuel
 induction fuel with
 | zero => intro listed a w h; exact ⟨h.1,hK _ _ h.2⟩
 | succ f ih =>
  intro listed a w h
  unfold wpAny at h
  unfold wpAnyIn
  refine ⟨fun e => hK _ _ (h.1 e),fun i hi => ?_⟩
  have h2:=h.2 i hi
  unfold wpOp at h2
  unfold wpOpIn
  cases ho : ops[i]? with
  | none => rw [ho] at h2; exact ih _ _ _ h2
  | some o =>
   rw [ho] at h2
   simp only at h2 ⊢
   by_cases hw : Region.wanted o (yielded ops a.tmps) = true
   ·rw [if_pos hw] at h2 ⊢
    rcases h2 with h2 | h2
    ·refine ⟨fun _ _ => trivial,?_⟩
     rw [Oper.semAt_plain _ _ _ (noDefer_spec hnd ho)]
     unfold Oper.wp at h2
     generalize (execOp a.eval o).run P w = r at h2
     cases r with
     | ok x w' =>
      cases x <;> simp only [Oper.upon] at h2 <;> simp only [Oper.uponIn]
      case value v => exact ih _ _ _ h2
      case skip => exact ih _ _ _ h2
      case defer d => exact ih _ _ _ h2
      case enter g args =>
       refine ⟨fun h => (by cases h),CallsIn.inRound l (callsIn_wide.2 (Calls.mono h2 fun e w'' hq => ?_))⟩
       cases e with
       | returned v => exact ih _ _ _ hq
       | panicked ch => exact absurd hq (by simp [Qn])
       | outgrown => exact absurd hq (Qn_notOut _)
      case row row args => exact ⟨fun h => (by cases h),rowsIn_wide_ (Rows.mono h2 fun v w'' hq => ih _ _ _ hq)⟩
      all_goals exact h2.elim
     | halt x w' => cases x <;> simp only [Oper.upon] at h2 <;> simp only [Oper.uponIn] <;> first | exact h2.elim | exact absurd h2 (by simp [Qn])
    ·exact absurd h2.2 (Qn_notOut _)
   ·rw [if_neg hw] at h2 ⊢
    exact ⟨fun _ _ => trivial,ih _ _ _ h2⟩
theorem wpIn_region_round {P : Program} {ops : Array Oper} {Q : Exit → Act → World → Prop} {a : Act} {w : World} {l n id : Nat} (m : Nat) (R : Nat → (Nat → Value) → Value → World → Prop) (hm : P.follows .mixedOrders = true) (hnd : noDefer ops = true) (hc : regChk ops m = true)
  (hst : ∀ i vals v w w',i < m → R i vals v w → Ext w w' → R i vals v w') (hloc : ∀ i vals vals' v w,i < m → (∀ d,anc ops i d = true → vals d = vals' d) → R i vals v w → R i vals' v w)
  (hob : Obls P ops a w.drew R 0 (ops.toList.take m))
  (hfin : ∀ (vals : Nat → Value) (w' : World),Ext w.drew w' → (∀ i,i < m → R i vals (vals i) w') → wpAny P .any ops (Qn (Q .normal)) (ops.size - m) (litL ops.size m) (Lf ops a vals m) w') : (Code.region id ops true).wpIn (Fence.wide.inRound l) n P Q a w :=
 wpIn_region_any hm (wpAny_round (K:=Q .normal) hnd (fun _ _ h => h) _ _ _ _ (wpAny_start m R hc hst hloc hob hfin))
theorem wpList_append_run_ {P : Program} {w : World} {ops : Array Oper} {rest : List Oper} {o : Oper} {a : Act} {Q : Exit → Act → World → Prop}
  (hg : o.guard = none) (s x : Operand) (t : TypeId) (hop : o.op = Op.call { callee:=Callee.builtin Builtin.append,args:=#[s,x],argTypes:=#[t,t] })
  {v1 v2 v' : Value} {w' : World} (hs : a.eval s = v1) (hx : a.eval x = v2) (hrun : (Builtin.append_ #[t,t] o.type #[v1,v2]).run P w = .ok v' w')
  (hK : wpList P ops Q rest (a.put o.dst v') w') : wpList P ops Q (o :: rest) a w:=by
 refine wpList_plain hg fun K hK' => ?_
 unfold Oper.wp
 simp [execOp,hop,resolve,invoke,builtin,hs,hx,hrun,Result.andThen]
 exact hK' _ _ hK
end Go.Proofs.YtjidhhfabfnhnaaGreat
