/- Valid: updates of satellites (printed by eph_v5.py). -/
import Derived.Test.YtjidhhfabfnhnaaGreatK11
namespace Go.Proofs.YtjidhhfabfnhnaaGreat
open Go.RowKit
theorem updsR_step (ids : List Int) (l : List Upd) (k : Nat) (h : k < l.length) :
  updsR ids ((prevAt l k).map (·.kn)) (l.drop k) = (decide (l[k].sat ∈ ids) && updOK l[k] && (match (prevAt l k).map (·.kn) with | none => true | some y => decide (y ≤ l[k].kn)) && updsR ids ((prevAt l (k + 1)).map (·.kn)) (l.drop (k + 1))):=by
 have hp : prevAt l (k + 1) = some l[k]:=by simp [prevAt,h]
 rw [List.drop_eq_getElem_cons h,hp]
 cases prevAt l k <;> rfl
theorem known_any (x : St) (gu : Nat) (us : Int) (X : Array Value) (w : World) (ku : Blk w gu 66 X) (x0 : X[0]? = some (.int .i64 us)) :
  Calls Tryz.prog 70 #[.agg (satCells x).toArray,.pointer (some ⟨gu,0,none⟩)] w fun e w' => e = .returned (.bool (x.id == us)) ∧ Ext w w':=by
 obtain ⟨P,hP⟩ : ∃ P,P = (satCells x).toArray:=⟨_,rfl⟩
 have p0 : P[0]? = some (.int .i64 x.id):=by rw [hP]; rfl
 rw [← hP]
 clear hP
 have hx : Ext w (w.alloc (.cells P 53)):=bl_alloc (Below.refl _ _) _
 have J:=Blk.new w 53 P
 have KU:=ku.ext hx
 have HX:=Lib.hid hx
 clear hx
 go_enter Tryz.func70,Tryz.ntmps70
 go_upto_region 1 with (fail)
 generalize w.alloc _ = W at J KU HX ⊢
 generalize w.heap.size = g at J ⊢
 have u0 : W.cell? ⟨g,0,none⟩ = some (.int .i64 x.id):=by rw [J.cell]; exact p0
 have u1 : W.cell? ⟨gu,0,none⟩ = some (.int .i64 us):=by rw [KU.cell]; exact x0
 clear p0 x0 J KU
 go_wp2
 go_ret
 exact ⟨rfl,HX.out⟩
theorem any_id (l : List St) (u : Int) : l.any (fun x => x.id == u) = decide (u ∈ l.map (·.id)):=by
 rw [Bool.eq_iff_iff,List.any_eq_true,decide_eq_true_eq,List.mem_map]
 exact ⟨fun ⟨x,h,e⟩ => ⟨x,h,by simpa using e⟩,fun ⟨x,h,e⟩ => ⟨x,h,by simpa using e⟩⟩
theorem ov_any (o : Orb) (w : World) : Calls Tryz.prog 71 #[.agg (orbCells o).toArray] w fun e w' => e = .returned (.bool (orbOK o)) ∧ Ext w w':=by
 obtain ⟨p,f,lo,hi,no,tu,sl⟩:=o
 exact orbit_valid p f lo hi no tu sl w
set_option maxRecDepth 100000 in
set_option maxHeartbeats 4000000 in
theorem validE_any (sats : List St) (l : List Upd) (SA A : Option Addr) (sn sc n c : Nat) (w : World) (hS : RA satCells 21 w w.heap.size SA sn sc sats) (hU : RA updCells 10 w w.heap.size A n c l) :
  Calls Tryz.prog 24 #[.slice SA sn sc,.slice A n c] w fun e w' => e = .returned (.bool (validE sats l)) ∧ Ext w w':=by
 have HRS:=Lib.hid hS
 have HRU:=Lib.hid hU
 have hle:=hU.le
 have HLN:=Lib.hid hU.len
 obtain ⟨ids,hids⟩ : ∃ ids,ids = sats.map (·.id):=⟨_,rfl⟩
 obtain ⟨V,hV⟩ : ∃ V,V = validE sats l:=⟨_,rfl⟩
 obtain ⟨Q,hQ⟩ : ∃ Q,Q = updsR ids none l:=⟨_,rfl⟩
 rw [← hV]
 have HVV : Hid (V = (Q && decide (n ≤ 24) && satsOK sats)):=Lib.hid (by rw [hV,hQ,hids,validE,hU.len])
 have HIDS:=Lib.hid hids
 have HQ0 : Hid (Q = updsR ids ((prevAt l 0).map (·.kn)) (l.drop 0)):=Lib.hid (by rw [hQ]; simp [prevAt])
 clear hS hU hids hV hQ
 go_enter Tryz.func24,Tryz.ntmps24
 go_wp2
 go_loopw [10] (fun i wr => ∃ k : Nat,k ≤ n ∧ i = .int .i64 k ∧ Hid (Q = updsR ids ((prevAt l k).map (·.kn)) (l.drop k)) ∧ Ext w wr) (fun i _ => n - (intOf i).toNat)
 case atStart => exact ⟨0,Nat.zero_le _,rfl,HQ0,Ext.refl _⟩
 case round =>
  clear HQ0
  obtain ⟨k,hk,rfl,HQK,hxq⟩:=hrel
  by_cases hkn : k < n
  ·obtain ⟨b,o,hz,hA,hbl,hcell⟩:=(ra_ext HRU.out hxq).at_ upd_len hkn
   obtain ⟨b',o',hz',hA',hbl',hc⟩:=RA.range upd_len (ra_ext HRU.out hxq) hkn
   obtain ⟨rfl,rfl⟩ : b' = b ∧ o' = o:=by rw [hA] at hA'; injection hA' with hA'; injection hA' with h1 h2; exact ⟨h1.symm,h2.symm⟩
   have hst:=updsR_step ids l k hz
   rw [← HQK.out] at hst
   have hprev : (prevAt l (k + 1)).map (·.kn) = some l[k].kn:=by simp [prevAt,hz]
   generalize hu : l[k] = u at hst hc hprev
   have huo:=upd_orb u
   have hov:=ov_any u.orb
   obtain ⟨X,hX⟩ : ∃ X,(updCells u).toArray = X:=⟨_,rfl⟩
   obtain ⟨hXs,hX1⟩:=cells_lit u X hX
   have x0 : X[0]? = some (.int .i64 u.sat):=by rw [← hX]; rfl
   have x1 : X[1]? = some (.int .i64 u.fr):=by rw [← hX]; rfl
   have x2 : X[2]? = some (.int .i64 u.kn):=by rw [← hX]; rfl
   rw [hX] at huo
   have HXX:=Lib.hid hX
   have HXS:=Lib.hid hXs
   have HX1:=Lib.hid hX1
   have HCC:=Lib.hid hc
   have hkz : (k : Int) < (n : Int):=by omega
   subst hA'
   clear hX hXs hX1 hc hbl hz' hbl' hA hu hcell
   have KX : Blk (wr.alloc (.cells X 66)) wr.heap.size 66 X:=Blk.new _ _ _
   have hx1 : Ext wr (wr.alloc (.cells X 66)):=bl_alloc (Below.refl _ _) _
   go_upto_region 4 with (first | (refine wpList_load_st rfl _ _ rfl b' (o' + k * 10) rfl X (updCells u) HXX.out _ HCC.out Tryz.underlying66 rfl upd_size ?_) | (refine wpList_store_new rfl 66 _ _ rfl _ X rfl rfl (by rw [HXS.out]; exact upd_size) (by rw [HXS.out]; rfl) HX1.out ?_))
   generalize wr.heap.size = g6 at KX ⊢
   generalize wr.alloc (.cells X 66) = W2 at KX hx1 ⊢
   have hx2:=Ext.trans hxq hx1
   have HKN_ : Hid (Calls Tryz.prog 69 #[.slice SA sn sc,.func (.func 70) #[] #[.pointer (some ⟨g6,0,none⟩)]] W2 fun e w' => e = .returned (.bool (decide (u.sat ∈ ids))) ∧ Ext W2 w'):=Lib.hid (by
    rw [HIDS.out,← any_id]
    exact contains_St (fun x => x.id == u.sat) 70 #[.pointer (some ⟨g6,0,none⟩)] (enters_of Tryz.func70 (by kernel_rfl) rfl) sats SA sn sc W2 (ra_ext HRS.out hx2) (fun x W hx => known_any x g6 u.sat X W (KX.ext hx) x0))
   have HK:=Lib.hid KX
   have HUO:=Lib.hid huo
   have HST0:=Lib.hid hst
   have HPV0:=Lib.hid hprev
   have HOV0:=Lib.hid hov
   clear KX huo hst hprev x0 hxq hov
   go_wp2_with fail
   refine HKN_.out.mono ?_
   rintro e W3 ⟨rfl,hy⟩
   have hxw:=Ext.trans hx2 hy
   have K:=HK.out.ext hy
   have c1 : W3.cell? ⟨g6,1,none⟩ = some (.int .i64 u.fr):=by rw [K.cell]; exact x1
   have c2 : W3.cell? ⟨g6,2,none⟩ = some (.int .i64 u.kn):=by rw [K.cell]; exact x2
   have LO : Hid (∀ W,Ext W3 W → W.rangeAt g6 3 (orbCells u.orb)):=Lib.hid (fun W hx => Blk.part (K.ext hx) 3 _ HUO.out)
   obtain ⟨q5,hq5⟩ : ∃ q,q = orbOK u.orb:=⟨_,rfl⟩
   obtain ⟨Y,hY⟩ : ∃ Y,(orbCells u.orb).toArray = Y:=⟨_,rfl⟩
   have HOV : Hid (∀ W,Calls Tryz.prog 71 #[.agg Y] W fun e w' => e = .returned (.bool q5) ∧ Ext W w'):=Lib.hid (fun W => by rw [← hY,hq5]; exact HOV0.out W)
   have HF0:=Lib.hid (eIn_any u.fr 0 1000000)
   have HKN0:=Lib.hid (eIn_any u.kn 0 1000000)
   obtain ⟨q1,hq1⟩ : ∃ q,q = decide (u.sat ∈ ids):=⟨_,rfl⟩
   obtain ⟨q2,hq2⟩ : ∃ q,q = inB u.fr 0 1000000:=⟨_,rfl⟩
   obtain ⟨q3,hq3⟩ : ∃ q,q = inB u.kn 0 1000000:=⟨_,rfl⟩
   have HST : Hid (Q = (q1 && (q2 && q3 && q5) && (match (prevAt l k).map (·.kn) with | none => true | some y => decide (y ≤ u.kn)) && updsR ids (some u.kn) (l.drop (k + 1)))):=Lib.hid (by rw [HST0.out,HPV0.out,hq1,hq2,hq3,hq5]; rfl)
   have HPV : Hid ((prevAt l (k + 1)).map (·.kn) = some u.kn):=HPV0
   rw [← hq1]
   rw [← hq2] at HF0
   rw [← hq3] at HKN0
   have HYY:=Lib.hid hY
   have hpc : ¬ k = 0 → ∃ pk : Int,(prevAt l k).map (·.kn) = some pk ∧ W3.cell? ⟨b',o' + (k - 1) * 10 + 2,none⟩ = some (.int .i64 pk):=fun hk0 => by
    refine ⟨(l[k - 1]'(by omega)).kn,by unfold prevAt; rw [if_neg hk0,List.getElem?_eq_getElem (by omega)]; rfl,?_⟩
    obtain ⟨b2,o2,hz2,hA2,_,hc2⟩:=(ra_ext HRU.out hxw).at_ upd_len (k:=k - 1) (by omega)
    injection hA2 with hA2
    injection hA2 with h1 h2
    subst h1 h2
    exact hc2 2 (by omega)
   have HPC:=Lib.hid hpc
   have HOV:=HOV
   clear HST0 HPV0 HOV0 hq1 hq2 hq3 hq5 hY hy hx1 hx2 K x1 x2 HKN_ HUO hpc HK hz
   generalize u.fr = ufr at c1 HF0
   generalize u.kn = ukn at c2 HKN0 HST HPV
   generalize u.orb = uorb at LO HYY
   have HF:=HF0
   have HKN:=HKN0
   clear HF0 HKN0 HXX HXS HX1 HCC
   go_upto_region 5 with (fail)
   cases q1
   ·skip
    refine wp_region_obl 35 (fun ix vals v w1 => match ix with | 0 => v = .bool false | 1 => v = .bool true | 2 => v = .bool true | 3 => v = undef | 4 => v = undef | 5 => v = undef | 6 => v = undef | 7 => v = .bool true | 8 => v = .bool true | 9 => v = undef | 10 => v = undef | 11 => v = undef | 12 => v = undef | 13 => v = .bool true | 14 => v = .bool true | 15 => v = undef | 16 => v = undef | 17 => v = undef | 18 => v = undef | 19 => v = undef | 20 => v = undef | 21 => v = undef | 22 => v = undef | 23 => v = undef | 24 => v = undef | 25 => v = undef | 26 => v = undef | 27 => v = undef | 28 => v = .bool true | 29 => v = .bool true | 30 => v = undef | 31 => v = undef | 32 => v = undef | 33 => v = undef | _ => v = .bool true) (by kernel_rfl) (by kernel_rfl) ?_ ?_ ?_ ?_
    ·intro ix vals v w1 w2 hi hr hx; exact hr
    ·intro ix vals vals_ v w1 hi hv hr
     exact hr
    ·refine ⟨?_,?_,?_,?_,?_,?_,?_,?_,?_,?_,?_,?_,?_,?_,?_,?_,?_,?_,?_,?_,?_,?_,?_,?_,?_,?_,?_,?_,?_,?_,?_,?_,?_,?_,?_,trivial⟩
     ·intro vals w1 hx hd ha
      clear hd ha
      simp only [Lf]
      go_wp2
      exact q_
     ·intro vals w1 hx hd ha
      have e0 : vals 0 = .bool false:=hd 0 (by decide)
      clear hd ha
      simp only [Lf,dstAt,Act.put,FR_,e0]
      clear e0
      go_wp2
      exact q_
     ·intro vals w1 hx hd ha
      have e1 : vals 1 = .bool true:=hd 1 (by decide)
      clear hd ha
      simp only [Lf,dstAt,Act.put,FR_,e1]
      clear e1
      go_wp2
      exact q_
     ·intro vals w1 hx hd ha
      have e2 : vals 2 = .bool true:=hd 2 (by decide)
      clear hd ha
      simp only [Lf,dstAt,Act.put,FR_,e2]
      clear e2
      go_wp2
      exact q_
     ·intro vals w1 hx hd ha
      have e2 : vals 2 = .bool true:=hd 2 (by decide)
      have e3 : vals 3 = undef:=hd 3 (by decide)
      clear hd ha
      simp only [Lf,dstAt,Act.put,FR_,e2,e3]
      clear e2 e3
      go_wp2
      exact q_
     ·intro vals w1 hx hd ha
      have e2 : vals 2 = .bool true:=hd 2 (by decide)
      have e4 : vals 4 = undef:=hd 4 (by decide)
      clear hd ha
      simp only [Lf,dstAt,Act.put,FR_,e2,e4]
      clear e2 e4
      go_wp2
      exact q_
     ·intro vals w1 hx hd ha
      have e2 : vals 2 = .bool true:=hd 2 (by decide)
      have e5 : vals 5 = undef:=hd 5 (by decide)
      clear hd ha
      simp only [Lf,dstAt,Act.put,FR_,e2,e5]
      clear e2 e5
      go_wp2
      exact q_
     ·intro vals w1 hx hd ha
      have e2 : vals 2 = .bool true:=hd 2 (by decide)
      have e6 : vals 6 = undef:=hd 6 (by decide)
      clear hd ha
      simp only [Lf,dstAt,Act.put,FR_,e2,e6]
      clear e2 e6
      go_wp2
      exact q_
     ·intro vals w1 hx hd ha
      have e5 : vals 5 = undef:=hd 5 (by decide)
      have e7 : vals 7 = .bool true:=hd 7 (by decide)
      clear hd ha
      simp only [Lf,dstAt,Act.put,FR_,e5,e7]
      clear e5 e7
      go_wp2
      exact q_
     ·intro vals w1 hx hd ha
      have e8 : vals 8 = .bool true:=hd 8 (by decide)
      clear hd ha
      simp only [Lf,dstAt,Act.put,FR_,e8]
      clear e8
      go_wp2
      exact q_
     ·intro vals w1 hx hd ha
      have e8 : vals 8 = .bool true:=hd 8 (by decide)
      have e9 : vals 9 = undef:=hd 9 (by decide)
      clear hd ha
      simp only [Lf,dstAt,Act.put,FR_,e8,e9]
      clear e8 e9
      go_wp2
      exact q_
     ·intro vals w1 hx hd ha
      have e8 : vals 8 = .bool true:=hd 8 (by decide)
      have e10 : vals 10 = undef:=hd 10 (by decide)
      clear hd ha
      simp only [Lf,dstAt,Act.put,FR_,e8,e10]
      clear e8 e10
      go_wp2
      exact q_
     ·intro vals w1 hx hd ha
      have e8 : vals 8 = .bool true:=hd 8 (by decide)
      have e11 : vals 11 = undef:=hd 11 (by decide)
      clear hd ha
      simp only [Lf,dstAt,Act.put,FR_,e8,e11]
      clear e8 e11
      go_wp2
      exact q_
     ·intro vals w1 hx hd ha
      have e8 : vals 8 = .bool true:=hd 8 (by decide)
      have e12 : vals 12 = undef:=hd 12 (by decide)
      clear hd ha
      simp only [Lf,dstAt,Act.put,FR_,e8,e12]
      clear e8 e12
      go_wp2
      exact q_
     ·intro vals w1 hx hd ha
      have e11 : vals 11 = undef:=hd 11 (by decide)
      have e13 : vals 13 = .bool true:=hd 13 (by decide)
      clear hd ha
      simp only [Lf,dstAt,Act.put,FR_,e11,e13]
      clear e11 e13
      go_wp2
      exact q_
     ·intro vals w1 hx hd ha
      have e14 : vals 14 = .bool true:=hd 14 (by decide)
      clear hd ha
      simp only [Lf,dstAt,Act.put,FR_,e14]
      clear e14
      go_wp2
      exact q_
     ·intro vals w1 hx hd ha
      have e14 : vals 14 = .bool true:=hd 14 (by decide)
      have e15 : vals 15 = undef:=hd 15 (by decide)
      clear hd ha
      simp only [Lf,dstAt,Act.put,FR_,e14,e15]
      clear e14 e15
      go_wp2
      exact q_
     ·intro vals w1 hx hd ha
      have e14 : vals 14 = .bool true:=hd 14 (by decide)
      have e16 : vals 16 = undef:=hd 16 (by decide)
      clear hd ha
      simp only [Lf,dstAt,Act.put,FR_,e14,e16]
      clear e14 e16
      go_wp2
      exact q_
     ·intro vals w1 hx hd ha
      have e17 : vals 17 = undef:=hd 17 (by decide)
      clear hd ha
      simp only [Lf,dstAt,Act.put,FR_,e17]
      clear e17
      go_wp2
      exact q_
     ·intro vals w1 hx hd ha
      have e17 : vals 17 = undef:=hd 17 (by decide)
      have e18 : vals 18 = undef:=hd 18 (by decide)
      clear hd ha
      simp only [Lf,dstAt,Act.put,FR_,e17,e18]
      clear e17 e18
      go_wp2
      exact q_
     ·intro vals w1 hx hd ha
      have e17 : vals 17 = undef:=hd 17 (by decide)
      clear hd ha
      simp only [Lf,dstAt,Act.put,FR_,e17]
      clear e17
      go_wp2
      exact q_
     ·intro vals w1 hx hd ha
      have e17 : vals 17 = undef:=hd 17 (by decide)
      clear hd ha
      simp only [Lf,dstAt,Act.put,FR_,e17]
      clear e17
      go_wp2
      exact q_
     ·intro vals w1 hx hd ha
      have e17 : vals 17 = undef:=hd 17 (by decide)
      have e21 : vals 21 = undef:=hd 21 (by decide)
      clear hd ha
      simp only [Lf,dstAt,Act.put,FR_,e17,e21]
      clear e17 e21
      go_wp2
      exact q_
     ·intro vals w1 hx hd ha
      have e17 : vals 17 = undef:=hd 17 (by decide)
      have e20 : vals 20 = undef:=hd 20 (by decide)
      have e22 : vals 22 = undef:=hd 22 (by decide)
      clear hd ha
      simp only [Lf,dstAt,Act.put,FR_,e17,e20,e22]
      clear e17 e20 e22
      go_wp2
      exact q_
     ·intro vals w1 hx hd ha
      have e17 : vals 17 = undef:=hd 17 (by decide)
      have e23 : vals 23 = undef:=hd 23 (by decide)
      clear hd ha
      simp only [Lf,dstAt,Act.put,FR_,e17,e23]
      clear e17 e23
      go_wp2
      exact q_
     ·intro vals w1 hx hd ha
      have e17 : vals 17 = undef:=hd 17 (by decide)
      have e24 : vals 24 = undef:=hd 24 (by decide)
      clear hd ha
      simp only [Lf,dstAt,Act.put,FR_,e17,e24]
      clear e17 e24
      go_wp2
      exact q_
     ·intro vals w1 hx hd ha
      have e17 : vals 17 = undef:=hd 17 (by decide)
      have e19 : vals 19 = undef:=hd 19 (by decide)
      have e25 : vals 25 = undef:=hd 25 (by decide)
      clear hd ha
      simp only [Lf,dstAt,Act.put,FR_,e17,e19,e25]
      clear e17 e19 e25
      go_wp2
      exact q_
     ·intro vals w1 hx hd ha
      have e14 : vals 14 = .bool true:=hd 14 (by decide)
      have e17 : vals 17 = undef:=hd 17 (by decide)
      have e26 : vals 26 = undef:=hd 26 (by decide)
      clear hd ha
      simp only [Lf,dstAt,Act.put,FR_,e14,e17,e26]
      clear e14 e17 e26
      go_wp2
      exact q_
     ·intro vals w1 hx hd ha
      have e14 : vals 14 = .bool true:=hd 14 (by decide)
      have e27 : vals 27 = undef:=hd 27 (by decide)
      clear hd ha
      simp only [Lf,dstAt,Act.put,FR_,e14,e27]
      clear e14 e27
      go_wp2
      exact q_
     ·intro vals w1 hx hd ha
      have e17 : vals 17 = undef:=hd 17 (by decide)
      have e28 : vals 28 = .bool true:=hd 28 (by decide)
      clear hd ha
      simp only [Lf,dstAt,Act.put,FR_,e17,e28]
      clear e17 e28
      go_wp2
      exact q_
     ·intro vals w1 hx hd ha
      have e29 : vals 29 = .bool true:=hd 29 (by decide)
      clear hd ha
      simp only [Lf,dstAt,Act.put,FR_,e29]
      clear e29
      go_wp2
      exact q_
     ·intro vals w1 hx hd ha
      have e29 : vals 29 = .bool true:=hd 29 (by decide)
      have e30 : vals 30 = undef:=hd 30 (by decide)
      clear hd ha
      simp only [Lf,dstAt,Act.put,FR_,e29,e30]
      clear e29 e30
      go_wp2
      exact q_
     ·intro vals w1 hx hd ha
      have e29 : vals 29 = .bool true:=hd 29 (by decide)
      have e31 : vals 31 = undef:=hd 31 (by decide)
      clear hd ha
      simp only [Lf,dstAt,Act.put,FR_,e29,e31]
      clear e29 e31
      go_wp2
      exact q_
     ·intro vals w1 hx hd ha
      have e29 : vals 29 = .bool true:=hd 29 (by decide)
      have e32 : vals 32 = undef:=hd 32 (by decide)
      clear hd ha
      simp only [Lf,dstAt,Act.put,FR_,e29,e32]
      clear e29 e32
      go_wp2
      exact q_
     ·intro vals w1 hx hd ha
      have e29 : vals 29 = .bool true:=hd 29 (by decide)
      have e33 : vals 33 = undef:=hd 33 (by decide)
      clear hd ha
      simp only [Lf,dstAt,Act.put,FR_,e29,e33]
      clear e29 e33
      go_wp2
      exact q_
    intro vals w5 hx5 hf
    have e34 : vals 34 = .bool true:=hf 34 (by omega)
    clear hf
    have hx5:=hx5.undrew
    have hxw5:=Ext.trans hxw hx5
    refine tail0 (by kernel_rfl) ?_
    simp only [Lf,dstAt,Act.put,FR_]
    rw [e34]
    clear e34 hx5
    go_wp2
    go_ret
    exact ⟨by rw [HVV.out,HST.out,Bool.false_and]; simp,hxw5⟩
   ·cases q2
    ·skip
     refine wp_region_obl 35 (fun ix vals v w1 => match ix with | 0 => v = .bool true | 1 => v = .bool false | 2 => v = .bool false | 3 => v = .pointer (some ⟨g6,1,none⟩) | 4 => v = .int .i64 ufr | 5 => v = .bool false | 6 => v = .bool true | 7 => v = .bool true | 8 => v = .bool true | 9 => v = undef | 10 => v = undef | 11 => v = undef | 12 => v = undef | 13 => v = .bool true | 14 => v = .bool true | 15 => v = undef | 16 => v = undef | 17 => v = undef | 18 => v = undef | 19 => v = undef | 20 => v = undef | 21 => v = undef | 22 => v = undef | 23 => v = undef | 24 => v = undef | 25 => v = undef | 26 => v = undef | 27 => v = undef | 28 => v = .bool true | 29 => v = .bool true | 30 => v = undef | 31 => v = undef | 32 => v = undef | 33 => v = undef | _ => v = .bool true) (by kernel_rfl) (by kernel_rfl) ?_ ?_ ?_ ?_
     ·intro ix vals v w1 w2 hi hr hx; exact hr
     ·intro ix vals vals_ v w1 hi hv hr
      exact hr
     ·refine ⟨?_,?_,?_,?_,?_,?_,?_,?_,?_,?_,?_,?_,?_,?_,?_,?_,?_,?_,?_,?_,?_,?_,?_,?_,?_,?_,?_,?_,?_,?_,?_,?_,?_,?_,?_,trivial⟩
      ·intro vals w1 hx hd ha
       clear hd ha
       simp only [Lf]
       go_wp2
       exact q_
      ·intro vals w1 hx hd ha
       have e0 : vals 0 = .bool true:=hd 0 (by decide)
       clear hd ha
       simp only [Lf,dstAt,Act.put,FR_,e0]
       clear e0
       go_wp2
       exact q_
      ·intro vals w1 hx hd ha
       have e1 : vals 1 = .bool false:=hd 1 (by decide)
       clear hd ha
       simp only [Lf,dstAt,Act.put,FR_,e1]
       clear e1
       go_wp2
       exact q_
      ·intro vals w1 hx hd ha
       have e2 : vals 2 = .bool false:=hd 2 (by decide)
       clear hd ha
       simp only [Lf,dstAt,Act.put,FR_,e2]
       clear e2
       go_wp2
       exact q_
      ·intro vals w1 hx hd ha
       have e2 : vals 2 = .bool false:=hd 2 (by decide)
       have e3 : vals 3 = .pointer (some ⟨g6,1,none⟩):=hd 3 (by decide)
       clear hd ha
       simp only [Lf,dstAt,Act.put,FR_,e2,e3]
       clear e2 e3
       have c1:=ext_cell hx c1
       go_wp2
       exact q_
      ·intro vals w1 hx hd ha
       have e2 : vals 2 = .bool false:=hd 2 (by decide)
       have e4 : vals 4 = .int .i64 ufr:=hd 4 (by decide)
       clear hd ha
       simp only [Lf,dstAt,Act.put,FR_,e2]
       simp only [e4]
       clear e2 e4
       go_wp2_with fail
       refine (HF.out _).mono ?_
       rintro e w2 ⟨rfl,rfl⟩
       go_wp2
       exact q_
      ·intro vals w1 hx hd ha
       have e2 : vals 2 = .bool false:=hd 2 (by decide)
       have e5 : vals 5 = .bool false:=hd 5 (by decide)
       clear hd ha
       simp only [Lf,dstAt,Act.put,FR_,e2,e5]
       clear e2 e5
       go_wp2
       exact q_
      ·intro vals w1 hx hd ha
       have e2 : vals 2 = .bool false:=hd 2 (by decide)
       have e6 : vals 6 = .bool true:=hd 6 (by decide)
       clear hd ha
       simp only [Lf,dstAt,Act.put,FR_,e2,e6]
       clear e2 e6
       go_wp2
       exact q_
      ·intro vals w1 hx hd ha
       have e5 : vals 5 = .bool false:=hd 5 (by decide)
       have e7 : vals 7 = .bool true:=hd 7 (by decide)
       clear hd ha
       simp only [Lf,dstAt,Act.put,FR_,e5,e7]
       clear e5 e7
       go_wp2
       exact q_
      ·intro vals w1 hx hd ha
       have e8 : vals 8 = .bool true:=hd 8 (by decide)
       clear hd ha
       simp only [Lf,dstAt,Act.put,FR_,e8]
       clear e8
       go_wp2
       exact q_
      ·intro vals w1 hx hd ha
       have e8 : vals 8 = .bool true:=hd 8 (by decide)
       have e9 : vals 9 = undef:=hd 9 (by decide)
       clear hd ha
       simp only [Lf,dstAt,Act.put,FR_,e8,e9]
       clear e8 e9
       go_wp2
       exact q_
      ·intro vals w1 hx hd ha
       have e8 : vals 8 = .bool true:=hd 8 (by decide)
       have e10 : vals 10 = undef:=hd 10 (by decide)
       clear hd ha
       simp only [Lf,dstAt,Act.put,FR_,e8,e10]
       clear e8 e10
       go_wp2
       exact q_
      ·intro vals w1 hx hd ha
       have e8 : vals 8 = .bool true:=hd 8 (by decide)
       have e11 : vals 11 = undef:=hd 11 (by decide)
       clear hd ha
       simp only [Lf,dstAt,Act.put,FR_,e8,e11]
       clear e8 e11
       go_wp2
       exact q_
      ·intro vals w1 hx hd ha
       have e8 : vals 8 = .bool true:=hd 8 (by decide)
       have e12 : vals 12 = undef:=hd 12 (by decide)
       clear hd ha
       simp only [Lf,dstAt,Act.put,FR_,e8,e12]
       clear e8 e12
       go_wp2
       exact q_
      ·intro vals w1 hx hd ha
       have e11 : vals 11 = undef:=hd 11 (by decide)
       have e13 : vals 13 = .bool true:=hd 13 (by decide)
       clear hd ha
       simp only [Lf,dstAt,Act.put,FR_,e11,e13]
       clear e11 e13
       go_wp2
       exact q_
      ·intro vals w1 hx hd ha
       have e14 : vals 14 = .bool true:=hd 14 (by decide)
       clear hd ha
       simp only [Lf,dstAt,Act.put,FR_,e14]
       clear e14
       go_wp2
       exact q_
      ·intro vals w1 hx hd ha
       have e14 : vals 14 = .bool true:=hd 14 (by decide)
       have e15 : vals 15 = undef:=hd 15 (by decide)
       clear hd ha
       simp only [Lf,dstAt,Act.put,FR_,e14,e15]
       clear e14 e15
       go_wp2
       exact q_
      ·intro vals w1 hx hd ha
       have e14 : vals 14 = .bool true:=hd 14 (by decide)
       have e16 : vals 16 = undef:=hd 16 (by decide)
       clear hd ha
       simp only [Lf,dstAt,Act.put,FR_,e14,e16]
       clear e14 e16
       go_wp2
       exact q_
      ·intro vals w1 hx hd ha
       have e17 : vals 17 = undef:=hd 17 (by decide)
       clear hd ha
       simp only [Lf,dstAt,Act.put,FR_,e17]
       clear e17
       go_wp2
       exact q_
      ·intro vals w1 hx hd ha
       have e17 : vals 17 = undef:=hd 17 (by decide)
       have e18 : vals 18 = undef:=hd 18 (by decide)
       clear hd ha
       simp only [Lf,dstAt,Act.put,FR_,e17,e18]
       clear e17 e18
       go_wp2
       exact q_
      ·intro vals w1 hx hd ha
       have e17 : vals 17 = undef:=hd 17 (by decide)
       clear hd ha
       simp only [Lf,dstAt,Act.put,FR_,e17]
       clear e17
       go_wp2
       exact q_
      ·intro vals w1 hx hd ha
       have e17 : vals 17 = undef:=hd 17 (by decide)
       clear hd ha
       simp only [Lf,dstAt,Act.put,FR_,e17]
       clear e17
       go_wp2
       exact q_
      ·intro vals w1 hx hd ha
       have e17 : vals 17 = undef:=hd 17 (by decide)
       have e21 : vals 21 = undef:=hd 21 (by decide)
       clear hd ha
       simp only [Lf,dstAt,Act.put,FR_,e17,e21]
       clear e17 e21
       go_wp2
       exact q_
      ·intro vals w1 hx hd ha
       have e17 : vals 17 = undef:=hd 17 (by decide)
       have e20 : vals 20 = undef:=hd 20 (by decide)
       have e22 : vals 22 = undef:=hd 22 (by decide)
       clear hd ha
       simp only [Lf,dstAt,Act.put,FR_,e17,e20,e22]
       clear e17 e20 e22
       go_wp2
       exact q_
      ·intro vals w1 hx hd ha
       have e17 : vals 17 = undef:=hd 17 (by decide)
       have e23 : vals 23 = undef:=hd 23 (by decide)
       clear hd ha
       simp only [Lf,dstAt,Act.put,FR_,e17,e23]
       clear e17 e23
       go_wp2
       exact q_
      ·intro vals w1 hx hd ha
       have e17 : vals 17 = undef:=hd 17 (by decide)
       have e24 : vals 24 = undef:=hd 24 (by decide)
       clear hd ha
       simp only [Lf,dstAt,Act.put,FR_,e17,e24]
       clear e17 e24
       go_wp2
       exact q_
      ·intro vals w1 hx hd ha
       have e17 : vals 17 = undef:=hd 17 (by decide)
       have e19 : vals 19 = undef:=hd 19 (by decide)
       have e25 : vals 25 = undef:=hd 25 (by decide)
       clear hd ha
       simp only [Lf,dstAt,Act.put,FR_,e17,e19,e25]
       clear e17 e19 e25
       go_wp2
       exact q_
      ·intro vals w1 hx hd ha
       have e14 : vals 14 = .bool true:=hd 14 (by decide)
       have e17 : vals 17 = undef:=hd 17 (by decide)
       have e26 : vals 26 = undef:=hd 26 (by decide)
       clear hd ha
       simp only [Lf,dstAt,Act.put,FR_,e14,e17,e26]
       clear e14 e17 e26
       go_wp2
       exact q_
      ·intro vals w1 hx hd ha
       have e14 : vals 14 = .bool true:=hd 14 (by decide)
       have e27 : vals 27 = undef:=hd 27 (by decide)
       clear hd ha
       simp only [Lf,dstAt,Act.put,FR_,e14,e27]
       clear e14 e27
       go_wp2
       exact q_
      ·intro vals w1 hx hd ha
       have e17 : vals 17 = undef:=hd 17 (by decide)
       have e28 : vals 28 = .bool true:=hd 28 (by decide)
       clear hd ha
       simp only [Lf,dstAt,Act.put,FR_,e17,e28]
       clear e17 e28
       go_wp2
       exact q_
      ·intro vals w1 hx hd ha
       have e29 : vals 29 = .bool true:=hd 29 (by decide)
       clear hd ha
       simp only [Lf,dstAt,Act.put,FR_,e29]
       clear e29
       go_wp2
       exact q_
      ·intro vals w1 hx hd ha
       have e29 : vals 29 = .bool true:=hd 29 (by decide)
       have e30 : vals 30 = undef:=hd 30 (by decide)
       clear hd ha
       simp only [Lf,dstAt,Act.put,FR_,e29,e30]
       clear e29 e30
       go_wp2
       exact q_
      ·intro vals w1 hx hd ha
       have e29 : vals 29 = .bool true:=hd 29 (by decide)
       have e31 : vals 31 = undef:=hd 31 (by decide)
       clear hd ha
       simp only [Lf,dstAt,Act.put,FR_,e29,e31]
       clear e29 e31
       go_wp2
       exact q_
      ·intro vals w1 hx hd ha
       have e29 : vals 29 = .bool true:=hd 29 (by decide)
       have e32 : vals 32 = undef:=hd 32 (by decide)
       clear hd ha
       simp only [Lf,dstAt,Act.put,FR_,e29,e32]
       clear e29 e32
       go_wp2
       exact q_
      ·intro vals w1 hx hd ha
       have e29 : vals 29 = .bool true:=hd 29 (by decide)
       have e33 : vals 33 = undef:=hd 33 (by decide)
       clear hd ha
       simp only [Lf,dstAt,Act.put,FR_,e29,e33]
       clear e29 e33
       go_wp2
       exact q_
     intro vals w5 hx5 hf
     have e34 : vals 34 = .bool true:=hf 34 (by omega)
     clear hf
     have hx5:=hx5.undrew
     have hxw5:=Ext.trans hxw hx5
     refine tail0 (by kernel_rfl) ?_
     simp only [Lf,dstAt,Act.put,FR_]
     rw [e34]
     clear e34 hx5
     go_wp2
     go_ret
     exact ⟨by rw [HVV.out,HST.out,Bool.false_and]; simp,hxw5⟩
    ·cases q3
     ·skip
      refine wp_region_obl 35 (fun ix vals v w1 => match ix with | 0 => v = .bool true | 1 => v = .bool false | 2 => v = .bool false | 3 => v = .pointer (some ⟨g6,1,none⟩) | 4 => v = .int .i64 ufr | 5 => v = .bool true | 6 => v = .bool false | 7 => v = .bool false | 8 => v = .bool false | 9 => v = .pointer (some ⟨g6,2,none⟩) | 10 => v = .int .i64 ukn | 11 => v = .bool false | 12 => v = .bool true | 13 => v = .bool true | 14 => v = .bool true | 15 => v = undef | 16 => v = undef | 17 => v = undef | 18 => v = undef | 19 => v = undef | 20 => v = undef | 21 => v = undef | 22 => v = undef | 23 => v = undef | 24 => v = undef | 25 => v = undef | 26 => v = undef | 27 => v = undef | 28 => v = .bool true | 29 => v = .bool true | 30 => v = undef | 31 => v = undef | 32 => v = undef | 33 => v = undef | _ => v = .bool true) (by kernel_rfl) (by kernel_rfl) ?_ ?_ ?_ ?_
      ·intro ix vals v w1 w2 hi hr hx; exact hr
      ·intro ix vals vals_ v w1 hi hv hr
       exact hr
      ·refine ⟨?_,?_,?_,?_,?_,?_,?_,?_,?_,?_,?_,?_,?_,?_,?_,?_,?_,?_,?_,?_,?_,?_,?_,?_,?_,?_,?_,?_,?_,?_,?_,?_,?_,?_,?_,trivial⟩
       ·intro vals w1 hx hd ha
        clear hd ha
        simp only [Lf]
        go_wp2
        exact q_
       ·intro vals w1 hx hd ha
        have e0 : vals 0 = .bool true:=hd 0 (by decide)
        clear hd ha
        simp only [Lf,dstAt,Act.put,FR_,e0]
        clear e0
        go_wp2
        exact q_
       ·intro vals w1 hx hd ha
        have e1 : vals 1 = .bool false:=hd 1 (by decide)
        clear hd ha
        simp only [Lf,dstAt,Act.put,FR_,e1]
        clear e1
        go_wp2
        exact q_
       ·intro vals w1 hx hd ha
        have e2 : vals 2 = .bool false:=hd 2 (by decide)
        clear hd ha
        simp only [Lf,dstAt,Act.put,FR_,e2]
        clear e2
        go_wp2
        exact q_
       ·intro vals w1 hx hd ha
        have e2 : vals 2 = .bool false:=hd 2 (by decide)
        have e3 : vals 3 = .pointer (some ⟨g6,1,none⟩):=hd 3 (by decide)
        clear hd ha
        simp only [Lf,dstAt,Act.put,FR_,e2,e3]
        clear e2 e3
        have c1:=ext_cell hx c1
        go_wp2
        exact q_
       ·intro vals w1 hx hd ha
        have e2 : vals 2 = .bool false:=hd 2 (by decide)
        have e4 : vals 4 = .int .i64 ufr:=hd 4 (by decide)
        clear hd ha
        simp only [Lf,dstAt,Act.put,FR_,e2]
        simp only [e4]
        clear e2 e4
        go_wp2_with fail
        refine (HF.out _).mono ?_
        rintro e w2 ⟨rfl,rfl⟩
        go_wp2
        exact q_
       ·intro vals w1 hx hd ha
        have e2 : vals 2 = .bool false:=hd 2 (by decide)
        have e5 : vals 5 = .bool true:=hd 5 (by decide)
        clear hd ha
        simp only [Lf,dstAt,Act.put,FR_,e2,e5]
        clear e2 e5
        go_wp2
        exact q_
       ·intro vals w1 hx hd ha
        have e2 : vals 2 = .bool false:=hd 2 (by decide)
        have e6 : vals 6 = .bool false:=hd 6 (by decide)
        clear hd ha
        simp only [Lf,dstAt,Act.put,FR_,e2,e6]
        clear e2 e6
        go_wp2
        exact q_
       ·intro vals w1 hx hd ha
        have e5 : vals 5 = .bool true:=hd 5 (by decide)
        have e7 : vals 7 = .bool false:=hd 7 (by decide)
        clear hd ha
        simp only [Lf,dstAt,Act.put,FR_,e5,e7]
        clear e5 e7
        go_wp2
        exact q_
       ·intro vals w1 hx hd ha
        have e8 : vals 8 = .bool false:=hd 8 (by decide)
        clear hd ha
        simp only [Lf,dstAt,Act.put,FR_,e8]
        clear e8
        go_wp2
        exact q_
       ·intro vals w1 hx hd ha
        have e8 : vals 8 = .bool false:=hd 8 (by decide)
        have e9 : vals 9 = .pointer (some ⟨g6,2,none⟩):=hd 9 (by decide)
        clear hd ha
        simp only [Lf,dstAt,Act.put,FR_,e8,e9]
        clear e8 e9
        have c2:=ext_cell hx c2
        go_wp2
        exact q_
       ·intro vals w1 hx hd ha
        have e8 : vals 8 = .bool false:=hd 8 (by decide)
        have e10 : vals 10 = .int .i64 ukn:=hd 10 (by decide)
        clear hd ha
        simp only [Lf,dstAt,Act.put,FR_,e8]
        simp only [e10]
        clear e8 e10
        go_wp2_with fail
        refine (HKN.out _).mono ?_
        rintro e w2 ⟨rfl,rfl⟩
        go_wp2
        exact q_
       ·intro vals w1 hx hd ha
        have e8 : vals 8 = .bool false:=hd 8 (by decide)
        have e11 : vals 11 = .bool false:=hd 11 (by decide)
        clear hd ha
        simp only [Lf,dstAt,Act.put,FR_,e8,e11]
        clear e8 e11
        go_wp2
        exact q_
       ·intro vals w1 hx hd ha
        have e8 : vals 8 = .bool false:=hd 8 (by decide)
        have e12 : vals 12 = .bool true:=hd 12 (by decide)
        clear hd ha
        simp only [Lf,dstAt,Act.put,FR_,e8,e12]
        clear e8 e12
        go_wp2
        exact q_
       ·intro vals w1 hx hd ha
        have e11 : vals 11 = .bool false:=hd 11 (by decide)
        have e13 : vals 13 = .bool true:=hd 13 (by decide)
        clear hd ha
        simp only [Lf,dstAt,Act.put,FR_,e11,e13]
        clear e11 e13
        go_wp2
        exact q_
       ·intro vals w1 hx hd ha
        have e14 : vals 14 = .bool true:=hd 14 (by decide)
        clear hd ha
        simp only [Lf,dstAt,Act.put,FR_,e14]
        clear e14
        go_wp2
        exact q_
       ·intro vals w1 hx hd ha
        have e14 : vals 14 = .bool true:=hd 14 (by decide)
        have e15 : vals 15 = undef:=hd 15 (by decide)
        clear hd ha
        simp only [Lf,dstAt,Act.put,FR_,e14,e15]
        clear e14 e15
        go_wp2
        exact q_
       ·intro vals w1 hx hd ha
        have e14 : vals 14 = .bool true:=hd 14 (by decide)
        have e16 : vals 16 = undef:=hd 16 (by decide)
        clear hd ha
        simp only [Lf,dstAt,Act.put,FR_,e14,e16]
        clear e14 e16
        go_wp2
        exact q_
       ·intro vals w1 hx hd ha
        have e17 : vals 17 = undef:=hd 17 (by decide)
        clear hd ha
        simp only [Lf,dstAt,Act.put,FR_,e17]
        clear e17
        go_wp2
        exact q_
       ·intro vals w1 hx hd ha
        have e17 : vals 17 = undef:=hd 17 (by decide)
        have e18 : vals 18 = undef:=hd 18 (by decide)
        clear hd ha
        simp only [Lf,dstAt,Act.put,FR_,e17,e18]
        clear e17 e18
        go_wp2
        exact q_
       ·intro vals w1 hx hd ha
        have e17 : vals 17 = undef:=hd 17 (by decide)
        clear hd ha
        simp only [Lf,dstAt,Act.put,FR_,e17]
        clear e17
        go_wp2
        exact q_
       ·intro vals w1 hx hd ha
        have e17 : vals 17 = undef:=hd 17 (by decide)
        clear hd ha
        simp only [Lf,dstAt,Act.put,FR_,e17]
        clear e17
        go_wp2
        exact q_
       ·intro vals w1 hx hd ha
        have e17 : vals 17 = undef:=hd 17 (by decide)
        have e21 : vals 21 = undef:=hd 21 (by decide)
        clear hd ha
        simp only [Lf,dstAt,Act.put,FR_,e17,e21]
        clear e17 e21
        go_wp2
        exact q_
       ·intro vals w1 hx hd ha
        have e17 : vals 17 = undef:=hd 17 (by decide)
        have e20 : vals 20 = undef:=hd 20 (by decide)
        have e22 : vals 22 = undef:=hd 22 (by decide)
        clear hd ha
        simp only [Lf,dstAt,Act.put,FR_,e17,e20,e22]
        clear e17 e20 e22
        go_wp2
        exact q_
       ·intro vals w1 hx hd ha
        have e17 : vals 17 = undef:=hd 17 (by decide)
        have e23 : vals 23 = undef:=hd 23 (by decide)
        clear hd ha
        simp only [Lf,dstAt,Act.put,FR_,e17,e23]
        clear e17 e23
        go_wp2
        exact q_
       ·intro vals w1 hx hd ha
        have e17 : vals 17 = undef:=hd 17 (by decide)
        have e24 : vals 24 = undef:=hd 24 (by decide)
        clear hd ha
        simp only [Lf,dstAt,Act.put,FR_,e17,e24]
        clear e17 e24
        go_wp2
        exact q_
       ·intro vals w1 hx hd ha
        have e17 : vals 17 = undef:=hd 17 (by decide)
        have e19 : vals 19 = undef:=hd 19 (by decide)
        have e25 : vals 25 = undef:=hd 25 (by decide)
        clear hd ha
        simp only [Lf,dstAt,Act.put,FR_,e17,e19,e25]
        clear e17 e19 e25
        go_wp2
        exact q_
       ·intro vals w1 hx hd ha
        have e14 : vals 14 = .bool true:=hd 14 (by decide)
        have e17 : vals 17 = undef:=hd 17 (by decide)
        have e26 : vals 26 = undef:=hd 26 (by decide)
        clear hd ha
        simp only [Lf,dstAt,Act.put,FR_,e14,e17,e26]
        clear e14 e17 e26
        go_wp2
        exact q_
       ·intro vals w1 hx hd ha
        have e14 : vals 14 = .bool true:=hd 14 (by decide)
        have e27 : vals 27 = undef:=hd 27 (by decide)
        clear hd ha
        simp only [Lf,dstAt,Act.put,FR_,e14,e27]
        clear e14 e27
        go_wp2
        exact q_
       ·intro vals w1 hx hd ha
        have e17 : vals 17 = undef:=hd 17 (by decide)
        have e28 : vals 28 = .bool true:=hd 28 (by decide)
        clear hd ha
        simp only [Lf,dstAt,Act.put,FR_,e17,e28]
        clear e17 e28
        go_wp2
        exact q_
       ·intro vals w1 hx hd ha
        have e29 : vals 29 = .bool true:=hd 29 (by decide)
        clear hd ha
        simp only [Lf,dstAt,Act.put,FR_,e29]
        clear e29
        go_wp2
        exact q_
       ·intro vals w1 hx hd ha
        have e29 : vals 29 = .bool true:=hd 29 (by decide)
        have e30 : vals 30 = undef:=hd 30 (by decide)
        clear hd ha
        simp only [Lf,dstAt,Act.put,FR_,e29,e30]
        clear e29 e30
        go_wp2
        exact q_
       ·intro vals w1 hx hd ha
        have e29 : vals 29 = .bool true:=hd 29 (by decide)
        have e31 : vals 31 = undef:=hd 31 (by decide)
        clear hd ha
        simp only [Lf,dstAt,Act.put,FR_,e29,e31]
        clear e29 e31
        go_wp2
        exact q_
       ·intro vals w1 hx hd ha
        have e29 : vals 29 = .bool true:=hd 29 (by decide)
        have e32 : vals 32 = undef:=hd 32 (by decide)
        clear hd ha
        simp only [Lf,dstAt,Act.put,FR_,e29,e32]
        clear e29 e32
        go_wp2
        exact q_
       ·intro vals w1 hx hd ha
        have e29 : vals 29 = .bool true:=hd 29 (by decide)
        have e33 : vals 33 = undef:=hd 33 (by decide)
        clear hd ha
        simp only [Lf,dstAt,Act.put,FR_,e29,e33]
        clear e29 e33
        go_wp2
        exact q_
      intro vals w5 hx5 hf
      have e34 : vals 34 = .bool true:=hf 34 (by omega)
      clear hf
      have hx5:=hx5.undrew
      have hxw5:=Ext.trans hxw hx5
      refine tail0 (by kernel_rfl) ?_
      simp only [Lf,dstAt,Act.put,FR_]
      rw [e34]
      clear e34 hx5
      go_wp2
      go_ret
      exact ⟨by rw [HVV.out,HST.out,Bool.and_false]; simp,hxw5⟩
     ·by_cases hk0 : k = 0
      ·have hkz0 : ¬ (0 : Int) < (k : Int):=by omega
       have hkd : decide (0 < k) = false:=by simp; omega
       have HPN : Hid ((prevAt l k).map (·.kn) = none):=Lib.hid (by simp [prevAt,hk0])
       clear hk0
       refine wp_region_obl 35 (fun ix vals v w1 => match ix with | 0 => v = .bool true | 1 => v = .bool false | 2 => v = .bool false | 3 => v = .pointer (some ⟨g6,1,none⟩) | 4 => v = .int .i64 ufr | 5 => v = .bool true | 6 => v = .bool false | 7 => v = .bool false | 8 => v = .bool false | 9 => v = .pointer (some ⟨g6,2,none⟩) | 10 => v = .int .i64 ukn | 11 => v = .bool true | 12 => v = .bool false | 13 => v = .bool false | 14 => v = .bool false | 15 => v = .int .i64 (k : Int) | 16 => v = .bool false | 17 => v = .bool false | 18 => v = undef | 19 => v = undef | 20 => v = undef | 21 => v = undef | 22 => v = undef | 23 => v = undef | 24 => v = undef | 25 => v = undef | 26 => v = undef | 27 => v = .bool false | 28 => v = .bool false | 29 => v = .bool false | 30 => v = .pointer (some ⟨g6,3,none⟩) | 31 => v = .agg Y | 32 => v = .bool q5 | 33 => v = .bool (!q5) | _ => v = .bool (!q5)) (by kernel_rfl) (by kernel_rfl) ?_ ?_ ?_ ?_
       ·intro ix vals v w1 w2 hi hr hx; exact hr
       ·intro ix vals vals_ v w1 hi hv hr
        exact hr
       ·refine ⟨?_,?_,?_,?_,?_,?_,?_,?_,?_,?_,?_,?_,?_,?_,?_,?_,?_,?_,?_,?_,?_,?_,?_,?_,?_,?_,?_,?_,?_,?_,?_,?_,?_,?_,?_,trivial⟩
        ·intro vals w1 hx hd ha
         clear hd ha
         simp only [Lf]
         go_wp2
         exact q_
        ·intro vals w1 hx hd ha
         have e0 : vals 0 = .bool true:=hd 0 (by decide)
         clear hd ha
         simp only [Lf,dstAt,Act.put,FR_,e0]
         clear e0
         go_wp2
         exact q_
        ·intro vals w1 hx hd ha
         have e1 : vals 1 = .bool false:=hd 1 (by decide)
         clear hd ha
         simp only [Lf,dstAt,Act.put,FR_,e1]
         clear e1
         go_wp2
         exact q_
        ·intro vals w1 hx hd ha
         have e2 : vals 2 = .bool false:=hd 2 (by decide)
         clear hd ha
         simp only [Lf,dstAt,Act.put,FR_,e2]
         clear e2
         go_wp2
         exact q_
        ·intro vals w1 hx hd ha
         have e2 : vals 2 = .bool false:=hd 2 (by decide)
         have e3 : vals 3 = .pointer (some ⟨g6,1,none⟩):=hd 3 (by decide)
         clear hd ha
         simp only [Lf,dstAt,Act.put,FR_,e2,e3]
         clear e2 e3
         have c1:=ext_cell hx c1
         go_wp2
         exact q_
        ·intro vals w1 hx hd ha
         have e2 : vals 2 = .bool false:=hd 2 (by decide)
         have e4 : vals 4 = .int .i64 ufr:=hd 4 (by decide)
         clear hd ha
         simp only [Lf,dstAt,Act.put,FR_,e2]
         simp only [e4]
         clear e2 e4
         go_wp2_with fail
         refine (HF.out _).mono ?_
         rintro e w2 ⟨rfl,rfl⟩
         go_wp2
         exact q_
        ·intro vals w1 hx hd ha
         have e2 : vals 2 = .bool false:=hd 2 (by decide)
         have e5 : vals 5 = .bool true:=hd 5 (by decide)
         clear hd ha
         simp only [Lf,dstAt,Act.put,FR_,e2,e5]
         clear e2 e5
         go_wp2
         exact q_
        ·intro vals w1 hx hd ha
         have e2 : vals 2 = .bool false:=hd 2 (by decide)
         have e6 : vals 6 = .bool false:=hd 6 (by decide)
         clear hd ha
         simp only [Lf,dstAt,Act.put,FR_,e2,e6]
         clear e2 e6
         go_wp2
         exact q_
        ·intro vals w1 hx hd ha
         have e5 : vals 5 = .bool true:=hd 5 (by decide)
         have e7 : vals 7 = .bool false:=hd 7 (by decide)
         clear hd ha
         simp only [Lf,dstAt,Act.put,FR_,e5,e7]
         clear e5 e7
         go_wp2
         exact q_
        ·intro vals w1 hx hd ha
         have e8 : vals 8 = .bool false:=hd 8 (by decide)
         clear hd ha
         simp only [Lf,dstAt,Act.put,FR_,e8]
         clear e8
         go_wp2
         exact q_
        ·intro vals w1 hx hd ha
         have e8 : vals 8 = .bool false:=hd 8 (by decide)
         have e9 : vals 9 = .pointer (some ⟨g6,2,none⟩):=hd 9 (by decide)
         clear hd ha
         simp only [Lf,dstAt,Act.put,FR_,e8,e9]
         clear e8 e9
         have c2:=ext_cell hx c2
         go_wp2
         exact q_
        ·intro vals w1 hx hd ha
         have e8 : vals 8 = .bool false:=hd 8 (by decide)
         have e10 : vals 10 = .int .i64 ukn:=hd 10 (by decide)
         clear hd ha
         simp only [Lf,dstAt,Act.put,FR_,e8]
         simp only [e10]
         clear e8 e10
         go_wp2_with fail
         refine (HKN.out _).mono ?_
         rintro e w2 ⟨rfl,rfl⟩
         go_wp2
         exact q_
        ·intro vals w1 hx hd ha
         have e8 : vals 8 = .bool false:=hd 8 (by decide)
         have e11 : vals 11 = .bool true:=hd 11 (by decide)
         clear hd ha
         simp only [Lf,dstAt,Act.put,FR_,e8,e11]
         clear e8 e11
         go_wp2
         exact q_
        ·intro vals w1 hx hd ha
         have e8 : vals 8 = .bool false:=hd 8 (by decide)
         have e12 : vals 12 = .bool false:=hd 12 (by decide)
         clear hd ha
         simp only [Lf,dstAt,Act.put,FR_,e8,e12]
         clear e8 e12
         go_wp2
         exact q_
        ·intro vals w1 hx hd ha
         have e11 : vals 11 = .bool true:=hd 11 (by decide)
         have e13 : vals 13 = .bool false:=hd 13 (by decide)
         clear hd ha
         simp only [Lf,dstAt,Act.put,FR_,e11,e13]
         clear e11 e13
         go_wp2
         exact q_
        ·intro vals w1 hx hd ha
         have e14 : vals 14 = .bool false:=hd 14 (by decide)
         clear hd ha
         simp only [Lf,dstAt,Act.put,FR_,e14]
         clear e14
         go_wp2
         exact q_
        ·intro vals w1 hx hd ha
         have e14 : vals 14 = .bool false:=hd 14 (by decide)
         have e15 : vals 15 = .int .i64 (k : Int):=hd 15 (by decide)
         clear hd ha
         simp only [Lf,dstAt,Act.put,FR_,e14,e15]
         clear e14 e15
         go_wp2
         exact q_
        ·intro vals w1 hx hd ha
         have e14 : vals 14 = .bool false:=hd 14 (by decide)
         have e16 : vals 16 = .bool false:=hd 16 (by decide)
         clear hd ha
         simp only [Lf,dstAt,Act.put,FR_,e14,e16]
         clear e14 e16
         go_wp2
         exact q_
        ·intro vals w1 hx hd ha
         have e17 : vals 17 = .bool false:=hd 17 (by decide)
         clear hd ha
         simp only [Lf,dstAt,Act.put,FR_,e17]
         clear e17
         go_wp2
         exact q_
        ·intro vals w1 hx hd ha
         have e17 : vals 17 = .bool false:=hd 17 (by decide)
         have e18 : vals 18 = undef:=hd 18 (by decide)
         clear hd ha
         simp only [Lf,dstAt,Act.put,FR_,e17,e18]
         clear e17 e18
         go_wp2
         exact q_
        ·intro vals w1 hx hd ha
         have e17 : vals 17 = .bool false:=hd 17 (by decide)
         clear hd ha
         simp only [Lf,dstAt,Act.put,FR_,e17]
         clear e17
         go_wp2
         exact q_
        ·intro vals w1 hx hd ha
         have e17 : vals 17 = .bool false:=hd 17 (by decide)
         clear hd ha
         simp only [Lf,dstAt,Act.put,FR_,e17]
         clear e17
         go_wp2
         exact q_
        ·intro vals w1 hx hd ha
         have e17 : vals 17 = .bool false:=hd 17 (by decide)
         have e21 : vals 21 = undef:=hd 21 (by decide)
         clear hd ha
         simp only [Lf,dstAt,Act.put,FR_,e17,e21]
         clear e17 e21
         go_wp2
         exact q_
        ·intro vals w1 hx hd ha
         have e17 : vals 17 = .bool false:=hd 17 (by decide)
         have e20 : vals 20 = undef:=hd 20 (by decide)
         have e22 : vals 22 = undef:=hd 22 (by decide)
         clear hd ha
         simp only [Lf,dstAt,Act.put,FR_,e17,e20,e22]
         clear e17 e20 e22
         go_wp2
         exact q_
        ·intro vals w1 hx hd ha
         have e17 : vals 17 = .bool false:=hd 17 (by decide)
         have e23 : vals 23 = undef:=hd 23 (by decide)
         clear hd ha
         simp only [Lf,dstAt,Act.put,FR_,e17,e23]
         clear e17 e23
         go_wp2
         exact q_
        ·intro vals w1 hx hd ha
         have e17 : vals 17 = .bool false:=hd 17 (by decide)
         have e24 : vals 24 = undef:=hd 24 (by decide)
         clear hd ha
         simp only [Lf,dstAt,Act.put,FR_,e17,e24]
         clear e17 e24
         go_wp2
         exact q_
        ·intro vals w1 hx hd ha
         have e17 : vals 17 = .bool false:=hd 17 (by decide)
         have e19 : vals 19 = undef:=hd 19 (by decide)
         have e25 : vals 25 = undef:=hd 25 (by decide)
         clear hd ha
         simp only [Lf,dstAt,Act.put,FR_,e17,e19,e25]
         clear e17 e19 e25
         go_wp2
         exact q_
        ·intro vals w1 hx hd ha
         have e14 : vals 14 = .bool false:=hd 14 (by decide)
         have e17 : vals 17 = .bool false:=hd 17 (by decide)
         have e26 : vals 26 = undef:=hd 26 (by decide)
         clear hd ha
         simp only [Lf,dstAt,Act.put,FR_,e14,e17,e26]
         clear e14 e17 e26
         go_wp2
         exact q_
        ·intro vals w1 hx hd ha
         have e14 : vals 14 = .bool false:=hd 14 (by decide)
         have e27 : vals 27 = .bool false:=hd 27 (by decide)
         clear hd ha
         simp only [Lf,dstAt,Act.put,FR_,e14,e27]
         clear e14 e27
         go_wp2
         exact q_
        ·intro vals w1 hx hd ha
         have e17 : vals 17 = .bool false:=hd 17 (by decide)
         have e28 : vals 28 = .bool false:=hd 28 (by decide)
         clear hd ha
         simp only [Lf,dstAt,Act.put,FR_,e17,e28]
         clear e17 e28
         go_wp2
         exact q_
        ·intro vals w1 hx hd ha
         have e29 : vals 29 = .bool false:=hd 29 (by decide)
         clear hd ha
         simp only [Lf,dstAt,Act.put,FR_,e29]
         clear e29
         go_wp2
         exact q_
        ·intro vals w1 hx hd ha
         have e29 : vals 29 = .bool false:=hd 29 (by decide)
         have e30 : vals 30 = .pointer (some ⟨g6,3,none⟩):=hd 30 (by decide)
         clear hd ha
         simp only [Lf,dstAt,Act.put,FR_,e29]
         simp only [e30]
         clear e29 e30
         refine wpList_load_stg rfl _ _ rfl g6 3 rfl Y (orbCells uorb) HYY.out _ (LO.out _ hx.undrew) Tryz.underlying51 rfl orb_size ?_
         go_wp2
         exact q_
        ·intro vals w1 hx hd ha
         have e29 : vals 29 = .bool false:=hd 29 (by decide)
         have e31 : vals 31 = .agg Y:=hd 31 (by decide)
         clear hd ha
         simp only [Lf,dstAt,Act.put,FR_,e29]
         simp only [e31]
         clear e29 e31
         go_wp2_with fail
         refine (HOV.out _).mono ?_
         rintro e w2 ⟨rfl,hb2⟩
         go_wp2
         exact ⟨rfl,hb2,rfl⟩
        ·intro vals w1 hx hd ha
         have e29 : vals 29 = .bool false:=hd 29 (by decide)
         have e32 : vals 32 = .bool q5:=hd 32 (by decide)
         clear hd ha
         simp only [Lf,dstAt,Act.put,FR_,e29,e32]
         clear e29 e32
         go_wp2
         exact q_
        ·intro vals w1 hx hd ha
         have e29 : vals 29 = .bool false:=hd 29 (by decide)
         have e33 : vals 33 = .bool (!q5):=hd 33 (by decide)
         clear hd ha
         simp only [Lf,dstAt,Act.put,FR_,e29,e33]
         clear e29 e33
         go_wp2
         exact q_
       intro vals w5 hx5 hf
       have e34 : vals 34 = .bool (!q5):=hf 34 (by omega)
       clear hf
       have hx5:=hx5.undrew
       have hxw5:=Ext.trans hxw hx5
       refine tail0 (by kernel_rfl) ?_
       simp only [Lf,dstAt,Act.put,FR_]
       rw [e34]
       clear e34 hx5
       cases q5
       ·rw [Bool.not_false]
        go_wp2
        go_ret
        exact ⟨by rw [HVV.out,HST.out]; simp,hxw5⟩
       ·rw [Bool.not_true]
        have HST2 : Hid (Q = updsR ids ((prevAt l (k + 1)).map (·.kn)) (l.drop (k + 1))):=Lib.hid (by rw [HST.out,HPV.out]; simp [HPN.out])
        go_wp2
        go_roundw
        case rel => exact ⟨k + 1,by omega,by go_num,HST2,hxw5⟩
        case measure => simp [intOf]; omega
      ·have hkz0 : (0 : Int) < (k : Int):=by omega
       have hkd : decide (0 < k) = true:=by simp; omega
       have hki : IntKind.i64.wrap ((k : Int) - 1) = (k : Int) - 1:=IntWalk.i64_in _ (by omega)
       have hkn1 : ((k : Int) - 1).toNat = k - 1:=by omega
       have hk1n : k - 1 < n:=by omega
       obtain ⟨pk,hpn,pc⟩:=HPC.out hk0
       have HPN:=Lib.hid hpn
       clear hpn hk0
       by_cases hq4 : ukn < pk
       ·have hpk : ¬ pk ≤ ukn:=by omega
        refine wp_region_obl 35 (fun ix vals v w1 => match ix with | 0 => v = .bool true | 1 => v = .bool false | 2 => v = .bool false | 3 => v = .pointer (some ⟨g6,1,none⟩) | 4 => v = .int .i64 ufr | 5 => v = .bool true | 6 => v = .bool false | 7 => v = .bool false | 8 => v = .bool false | 9 => v = .pointer (some ⟨g6,2,none⟩) | 10 => v = .int .i64 ukn | 11 => v = .bool true | 12 => v = .bool false | 13 => v = .bool false | 14 => v = .bool false | 15 => v = .int .i64 (k : Int) | 16 => v = .bool true | 17 => v = .bool true | 18 => v = .pointer (some ⟨g6,2,none⟩) | 19 => v = .int .i64 ukn | 20 => v = .slice (some ⟨b',o',none⟩) n c | 21 => v = .int .i64 (k : Int) | 22 => v = .int .i64 ((k : Int) - 1) | 23 => v = .pointer (some ⟨b',o' + (k - 1) * 10,none⟩) | 24 => v = .pointer (some ⟨b',o' + (k - 1) * 10 + 2,none⟩) | 25 => v = .int .i64 pk | 26 => v = .bool true | 27 => v = .bool true | 28 => v = .bool true | 29 => v = .bool true | 30 => v = undef | 31 => v = undef | 32 => v = undef | 33 => v = undef | _ => v = .bool true) (by kernel_rfl) (by kernel_rfl) ?_ ?_ ?_ ?_
        ·intro ix vals v w1 w2 hi hr hx; exact hr
        ·intro ix vals vals_ v w1 hi hv hr
         exact hr
        ·refine ⟨?_,?_,?_,?_,?_,?_,?_,?_,?_,?_,?_,?_,?_,?_,?_,?_,?_,?_,?_,?_,?_,?_,?_,?_,?_,?_,?_,?_,?_,?_,?_,?_,?_,?_,?_,trivial⟩
         ·intro vals w1 hx hd ha
          clear hd ha
          simp only [Lf]
          go_wp2
          exact q_
         ·intro vals w1 hx hd ha
          have e0 : vals 0 = .bool true:=hd 0 (by decide)
          clear hd ha
          simp only [Lf,dstAt,Act.put,FR_,e0]
          clear e0
          go_wp2
          exact q_
         ·intro vals w1 hx hd ha
          have e1 : vals 1 = .bool false:=hd 1 (by decide)
          clear hd ha
          simp only [Lf,dstAt,Act.put,FR_,e1]
          clear e1
          go_wp2
          exact q_
         ·intro vals w1 hx hd ha
          have e2 : vals 2 = .bool false:=hd 2 (by decide)
          clear hd ha
          simp only [Lf,dstAt,Act.put,FR_,e2]
          clear e2
          go_wp2
          exact q_
         ·intro vals w1 hx hd ha
          have e2 : vals 2 = .bool false:=hd 2 (by decide)
          have e3 : vals 3 = .pointer (some ⟨g6,1,none⟩):=hd 3 (by decide)
          clear hd ha
          simp only [Lf,dstAt,Act.put,FR_,e2,e3]
          clear e2 e3
          have c1:=ext_cell hx c1
          go_wp2
          exact q_
         ·intro vals w1 hx hd ha
          have e2 : vals 2 = .bool false:=hd 2 (by decide)
          have e4 : vals 4 = .int .i64 ufr:=hd 4 (by decide)
          clear hd ha
          simp only [Lf,dstAt,Act.put,FR_,e2]
          simp only [e4]
          clear e2 e4
          go_wp2_with fail
          refine (HF.out _).mono ?_
          rintro e w2 ⟨rfl,rfl⟩
          go_wp2
          exact q_
         ·intro vals w1 hx hd ha
          have e2 : vals 2 = .bool false:=hd 2 (by decide)
          have e5 : vals 5 = .bool true:=hd 5 (by decide)
          clear hd ha
          simp only [Lf,dstAt,Act.put,FR_,e2,e5]
          clear e2 e5
          go_wp2
          exact q_
         ·intro vals w1 hx hd ha
          have e2 : vals 2 = .bool false:=hd 2 (by decide)
          have e6 : vals 6 = .bool false:=hd 6 (by decide)
          clear hd ha
          simp only [Lf,dstAt,Act.put,FR_,e2,e6]
          clear e2 e6
          go_wp2
          exact q_
         ·intro vals w1 hx hd ha
          have e5 : vals 5 = .bool true:=hd 5 (by decide)
          have e7 : vals 7 = .bool false:=hd 7 (by decide)
          clear hd ha
          simp only [Lf,dstAt,Act.put,FR_,e5,e7]
          clear e5 e7
          go_wp2
          exact q_
         ·intro vals w1 hx hd ha
          have e8 : vals 8 = .bool false:=hd 8 (by decide)
          clear hd ha
          simp only [Lf,dstAt,Act.put,FR_,e8]
          clear e8
          go_wp2
          exact q_
         ·intro vals w1 hx hd ha
          have e8 : vals 8 = .bool false:=hd 8 (by decide)
          have e9 : vals 9 = .pointer (some ⟨g6,2,none⟩):=hd 9 (by decide)
          clear hd ha
          simp only [Lf,dstAt,Act.put,FR_,e8,e9]
          clear e8 e9
          have c2:=ext_cell hx c2
          go_wp2
          exact q_
         ·intro vals w1 hx hd ha
          have e8 : vals 8 = .bool false:=hd 8 (by decide)
          have e10 : vals 10 = .int .i64 ukn:=hd 10 (by decide)
          clear hd ha
          simp only [Lf,dstAt,Act.put,FR_,e8]
          simp only [e10]
          clear e8 e10
          go_wp2_with fail
          refine (HKN.out _).mono ?_
          rintro e w2 ⟨rfl,rfl⟩
          go_wp2
          exact q_
         ·intro vals w1 hx hd ha
          have e8 : vals 8 = .bool false:=hd 8 (by decide)
          have e11 : vals 11 = .bool true:=hd 11 (by decide)
          clear hd ha
          simp only [Lf,dstAt,Act.put,FR_,e8,e11]
          clear e8 e11
          go_wp2
          exact q_
         ·intro vals w1 hx hd ha
          have e8 : vals 8 = .bool false:=hd 8 (by decide)
          have e12 : vals 12 = .bool false:=hd 12 (by decide)
          clear hd ha
          simp only [Lf,dstAt,Act.put,FR_,e8,e12]
          clear e8 e12
          go_wp2
          exact q_
         ·intro vals w1 hx hd ha
          have e11 : vals 11 = .bool true:=hd 11 (by decide)
          have e13 : vals 13 = .bool false:=hd 13 (by decide)
          clear hd ha
          simp only [Lf,dstAt,Act.put,FR_,e11,e13]
          clear e11 e13
          go_wp2
          exact q_
         ·intro vals w1 hx hd ha
          have e14 : vals 14 = .bool false:=hd 14 (by decide)
          clear hd ha
          simp only [Lf,dstAt,Act.put,FR_,e14]
          clear e14
          go_wp2
          exact q_
         ·intro vals w1 hx hd ha
          have e14 : vals 14 = .bool false:=hd 14 (by decide)
          have e15 : vals 15 = .int .i64 (k : Int):=hd 15 (by decide)
          clear hd ha
          simp only [Lf,dstAt,Act.put,FR_,e14,e15]
          clear e14 e15
          go_wp2
          exact q_
         ·intro vals w1 hx hd ha
          have e14 : vals 14 = .bool false:=hd 14 (by decide)
          have e16 : vals 16 = .bool true:=hd 16 (by decide)
          clear hd ha
          simp only [Lf,dstAt,Act.put,FR_,e14,e16]
          clear e14 e16
          go_wp2
          exact q_
         ·intro vals w1 hx hd ha
          have e17 : vals 17 = .bool true:=hd 17 (by decide)
          clear hd ha
          simp only [Lf,dstAt,Act.put,FR_,e17]
          clear e17
          go_wp2
          exact q_
         ·intro vals w1 hx hd ha
          have e17 : vals 17 = .bool true:=hd 17 (by decide)
          have e18 : vals 18 = .pointer (some ⟨g6,2,none⟩):=hd 18 (by decide)
          clear hd ha
          simp only [Lf,dstAt,Act.put,FR_,e17,e18]
          clear e17 e18
          have c2:=ext_cell hx c2
          go_wp2
          exact q_
         ·intro vals w1 hx hd ha
          have e17 : vals 17 = .bool true:=hd 17 (by decide)
          clear hd ha
          simp only [Lf,dstAt,Act.put,FR_,e17]
          clear e17
          go_wp2
          exact q_
         ·intro vals w1 hx hd ha
          have e17 : vals 17 = .bool true:=hd 17 (by decide)
          clear hd ha
          simp only [Lf,dstAt,Act.put,FR_,e17]
          clear e17
          go_wp2
          exact q_
         ·intro vals w1 hx hd ha
          have e17 : vals 17 = .bool true:=hd 17 (by decide)
          have e21 : vals 21 = .int .i64 (k : Int):=hd 21 (by decide)
          clear hd ha
          simp only [Lf,dstAt,Act.put,FR_,e17,e21]
          clear e17 e21
          go_wp2
          exact q_
         ·intro vals w1 hx hd ha
          have e17 : vals 17 = .bool true:=hd 17 (by decide)
          have e20 : vals 20 = .slice (some ⟨b',o',none⟩) n c:=hd 20 (by decide)
          have e22 : vals 22 = .int .i64 ((k : Int) - 1):=hd 22 (by decide)
          clear hd ha
          simp only [Lf,dstAt,Act.put,FR_,e17,e20,e22]
          clear e17 e20 e22
          go_wp2
          exact q_
         ·intro vals w1 hx hd ha
          have e17 : vals 17 = .bool true:=hd 17 (by decide)
          have e23 : vals 23 = .pointer (some ⟨b',o' + (k - 1) * 10,none⟩):=hd 23 (by decide)
          clear hd ha
          simp only [Lf,dstAt,Act.put,FR_,e17,e23]
          clear e17 e23
          go_wp2
          exact q_
         ·intro vals w1 hx hd ha
          have e17 : vals 17 = .bool true:=hd 17 (by decide)
          have e24 : vals 24 = .pointer (some ⟨b',o' + (k - 1) * 10 + 2,none⟩):=hd 24 (by decide)
          clear hd ha
          simp only [Lf,dstAt,Act.put,FR_,e17,e24]
          clear e17 e24
          have pc:=ext_cell hx pc
          go_wp2
          exact q_
         ·intro vals w1 hx hd ha
          have e17 : vals 17 = .bool true:=hd 17 (by decide)
          have e19 : vals 19 = .int .i64 ukn:=hd 19 (by decide)
          have e25 : vals 25 = .int .i64 pk:=hd 25 (by decide)
          clear hd ha
          simp only [Lf,dstAt,Act.put,FR_,e17,e19,e25]
          clear e17 e19 e25
          go_wp2
          exact q_
         ·intro vals w1 hx hd ha
          have e14 : vals 14 = .bool false:=hd 14 (by decide)
          have e17 : vals 17 = .bool true:=hd 17 (by decide)
          have e26 : vals 26 = .bool true:=hd 26 (by decide)
          clear hd ha
          simp only [Lf,dstAt,Act.put,FR_,e14,e17,e26]
          clear e14 e17 e26
          go_wp2
          exact q_
         ·intro vals w1 hx hd ha
          have e14 : vals 14 = .bool false:=hd 14 (by decide)
          have e27 : vals 27 = .bool true:=hd 27 (by decide)
          clear hd ha
          simp only [Lf,dstAt,Act.put,FR_,e14,e27]
          clear e14 e27
          go_wp2
          exact q_
         ·intro vals w1 hx hd ha
          have e17 : vals 17 = .bool true:=hd 17 (by decide)
          have e28 : vals 28 = .bool true:=hd 28 (by decide)
          clear hd ha
          simp only [Lf,dstAt,Act.put,FR_,e17,e28]
          clear e17 e28
          go_wp2
          exact q_
         ·intro vals w1 hx hd ha
          have e29 : vals 29 = .bool true:=hd 29 (by decide)
          clear hd ha
          simp only [Lf,dstAt,Act.put,FR_,e29]
          clear e29
          go_wp2
          exact q_
         ·intro vals w1 hx hd ha
          have e29 : vals 29 = .bool true:=hd 29 (by decide)
          have e30 : vals 30 = undef:=hd 30 (by decide)
          clear hd ha
          simp only [Lf,dstAt,Act.put,FR_,e29,e30]
          clear e29 e30
          go_wp2
          exact q_
         ·intro vals w1 hx hd ha
          have e29 : vals 29 = .bool true:=hd 29 (by decide)
          have e31 : vals 31 = undef:=hd 31 (by decide)
          clear hd ha
          simp only [Lf,dstAt,Act.put,FR_,e29,e31]
          clear e29 e31
          go_wp2
          exact q_
         ·intro vals w1 hx hd ha
          have e29 : vals 29 = .bool true:=hd 29 (by decide)
          have e32 : vals 32 = undef:=hd 32 (by decide)
          clear hd ha
          simp only [Lf,dstAt,Act.put,FR_,e29,e32]
          clear e29 e32
          go_wp2
          exact q_
         ·intro vals w1 hx hd ha
          have e29 : vals 29 = .bool true:=hd 29 (by decide)
          have e33 : vals 33 = undef:=hd 33 (by decide)
          clear hd ha
          simp only [Lf,dstAt,Act.put,FR_,e29,e33]
          clear e29 e33
          go_wp2
          exact q_
        intro vals w5 hx5 hf
        have e34 : vals 34 = .bool true:=hf 34 (by omega)
        clear hf
        have hx5:=hx5.undrew
        have hxw5:=Ext.trans hxw hx5
        refine tail0 (by kernel_rfl) ?_
        simp only [Lf,dstAt,Act.put,FR_]
        rw [e34]
        clear e34 hx5
        go_wp2
        go_ret
        exact ⟨by rw [HVV.out,HST.out,HPN.out]; simp [show ¬ pk ≤ ukn by omega],hxw5⟩
       ·have hpk : pk ≤ ukn:=by omega
        have HPK:=Lib.hid hpk
        refine wp_region_obl 35 (fun ix vals v w1 => match ix with | 0 => v = .bool true | 1 => v = .bool false | 2 => v = .bool false | 3 => v = .pointer (some ⟨g6,1,none⟩) | 4 => v = .int .i64 ufr | 5 => v = .bool true | 6 => v = .bool false | 7 => v = .bool false | 8 => v = .bool false | 9 => v = .pointer (some ⟨g6,2,none⟩) | 10 => v = .int .i64 ukn | 11 => v = .bool true | 12 => v = .bool false | 13 => v = .bool false | 14 => v = .bool false | 15 => v = .int .i64 (k : Int) | 16 => v = .bool true | 17 => v = .bool true | 18 => v = .pointer (some ⟨g6,2,none⟩) | 19 => v = .int .i64 ukn | 20 => v = .slice (some ⟨b',o',none⟩) n c | 21 => v = .int .i64 (k : Int) | 22 => v = .int .i64 ((k : Int) - 1) | 23 => v = .pointer (some ⟨b',o' + (k - 1) * 10,none⟩) | 24 => v = .pointer (some ⟨b',o' + (k - 1) * 10 + 2,none⟩) | 25 => v = .int .i64 pk | 26 => v = .bool false | 27 => v = .bool false | 28 => v = .bool false | 29 => v = .bool false | 30 => v = .pointer (some ⟨g6,3,none⟩) | 31 => v = .agg Y | 32 => v = .bool q5 | 33 => v = .bool (!q5) | _ => v = .bool (!q5)) (by kernel_rfl) (by kernel_rfl) ?_ ?_ ?_ ?_
        ·intro ix vals v w1 w2 hi hr hx; exact hr
        ·intro ix vals vals_ v w1 hi hv hr
         exact hr
        ·refine ⟨?_,?_,?_,?_,?_,?_,?_,?_,?_,?_,?_,?_,?_,?_,?_,?_,?_,?_,?_,?_,?_,?_,?_,?_,?_,?_,?_,?_,?_,?_,?_,?_,?_,?_,?_,trivial⟩
         ·intro vals w1 hx hd ha
          clear hd ha
          simp only [Lf]
          go_wp2
          exact q_
         ·intro vals w1 hx hd ha
          have e0 : vals 0 = .bool true:=hd 0 (by decide)
          clear hd ha
          simp only [Lf,dstAt,Act.put,FR_,e0]
          clear e0
          go_wp2
          exact q_
         ·intro vals w1 hx hd ha
          have e1 : vals 1 = .bool false:=hd 1 (by decide)
          clear hd ha
          simp only [Lf,dstAt,Act.put,FR_,e1]
          clear e1
          go_wp2
          exact q_
         ·intro vals w1 hx hd ha
          have e2 : vals 2 = .bool false:=hd 2 (by decide)
          clear hd ha
          simp only [Lf,dstAt,Act.put,FR_,e2]
          clear e2
          go_wp2
          exact q_
         ·intro vals w1 hx hd ha
          have e2 : vals 2 = .bool false:=hd 2 (by decide)
          have e3 : vals 3 = .pointer (some ⟨g6,1,none⟩):=hd 3 (by decide)
          clear hd ha
          simp only [Lf,dstAt,Act.put,FR_,e2,e3]
          clear e2 e3
          have c1:=ext_cell hx c1
          go_wp2
          exact q_
         ·intro vals w1 hx hd ha
          have e2 : vals 2 = .bool false:=hd 2 (by decide)
          have e4 : vals 4 = .int .i64 ufr:=hd 4 (by decide)
          clear hd ha
          simp only [Lf,dstAt,Act.put,FR_,e2]
          simp only [e4]
          clear e2 e4
          go_wp2_with fail
          refine (HF.out _).mono ?_
          rintro e w2 ⟨rfl,rfl⟩
          go_wp2
          exact q_
         ·intro vals w1 hx hd ha
          have e2 : vals 2 = .bool false:=hd 2 (by decide)
          have e5 : vals 5 = .bool true:=hd 5 (by decide)
          clear hd ha
          simp only [Lf,dstAt,Act.put,FR_,e2,e5]
          clear e2 e5
          go_wp2
          exact q_
         ·intro vals w1 hx hd ha
          have e2 : vals 2 = .bool false:=hd 2 (by decide)
          have e6 : vals 6 = .bool false:=hd 6 (by decide)
          clear hd ha
          simp only [Lf,dstAt,Act.put,FR_,e2,e6]
          clear e2 e6
          go_wp2
          exact q_
         ·intro vals w1 hx hd ha
          have e5 : vals 5 = .bool true:=hd 5 (by decide)
          have e7 : vals 7 = .bool false:=hd 7 (by decide)
          clear hd ha
          simp only [Lf,dstAt,Act.put,FR_,e5,e7]
          clear e5 e7
          go_wp2
          exact q_
         ·intro vals w1 hx hd ha
          have e8 : vals 8 = .bool false:=hd 8 (by decide)
          clear hd ha
          simp only [Lf,dstAt,Act.put,FR_,e8]
          clear e8
          go_wp2
          exact q_
         ·intro vals w1 hx hd ha
          have e8 : vals 8 = .bool false:=hd 8 (by decide)
          have e9 : vals 9 = .pointer (some ⟨g6,2,none⟩):=hd 9 (by decide)
          clear hd ha
          simp only [Lf,dstAt,Act.put,FR_,e8,e9]
          clear e8 e9
          have c2:=ext_cell hx c2
          go_wp2
          exact q_
         ·intro vals w1 hx hd ha
          have e8 : vals 8 = .bool false:=hd 8 (by decide)
          have e10 : vals 10 = .int .i64 ukn:=hd 10 (by decide)
          clear hd ha
          simp only [Lf,dstAt,Act.put,FR_,e8]
          simp only [e10]
          clear e8 e10
          go_wp2_with fail
          refine (HKN.out _).mono ?_
          rintro e w2 ⟨rfl,rfl⟩
          go_wp2
          exact q_
         ·intro vals w1 hx hd ha
          have e8 : vals 8 = .bool false:=hd 8 (by decide)
          have e11 : vals 11 = .bool true:=hd 11 (by decide)
          clear hd ha
          simp only [Lf,dstAt,Act.put,FR_,e8,e11]
          clear e8 e11
          go_wp2
          exact q_
         ·intro vals w1 hx hd ha
          have e8 : vals 8 = .bool false:=hd 8 (by decide)
          have e12 : vals 12 = .bool false:=hd 12 (by decide)
          clear hd ha
          simp only [Lf,dstAt,Act.put,FR_,e8,e12]
          clear e8 e12
          go_wp2
          exact q_
         ·intro vals w1 hx hd ha
          have e11 : vals 11 = .bool true:=hd 11 (by decide)
          have e13 : vals 13 = .bool false:=hd 13 (by decide)
          clear hd ha
          simp only [Lf,dstAt,Act.put,FR_,e11,e13]
          clear e11 e13
          go_wp2
          exact q_
         ·intro vals w1 hx hd ha
          have e14 : vals 14 = .bool false:=hd 14 (by decide)
          clear hd ha
          simp only [Lf,dstAt,Act.put,FR_,e14]
          clear e14
          go_wp2
          exact q_
         ·intro vals w1 hx hd ha
          have e14 : vals 14 = .bool false:=hd 14 (by decide)
          have e15 : vals 15 = .int .i64 (k : Int):=hd 15 (by decide)
          clear hd ha
          simp only [Lf,dstAt,Act.put,FR_,e14,e15]
          clear e14 e15
          go_wp2
          exact q_
         ·intro vals w1 hx hd ha
          have e14 : vals 14 = .bool false:=hd 14 (by decide)
          have e16 : vals 16 = .bool true:=hd 16 (by decide)
          clear hd ha
          simp only [Lf,dstAt,Act.put,FR_,e14,e16]
          clear e14 e16
          go_wp2
          exact q_
         ·intro vals w1 hx hd ha
          have e17 : vals 17 = .bool true:=hd 17 (by decide)
          clear hd ha
          simp only [Lf,dstAt,Act.put,FR_,e17]
          clear e17
          go_wp2
          exact q_
         ·intro vals w1 hx hd ha
          have e17 : vals 17 = .bool true:=hd 17 (by decide)
          have e18 : vals 18 = .pointer (some ⟨g6,2,none⟩):=hd 18 (by decide)
          clear hd ha
          simp only [Lf,dstAt,Act.put,FR_,e17,e18]
          clear e17 e18
          have c2:=ext_cell hx c2
          go_wp2
          exact q_
         ·intro vals w1 hx hd ha
          have e17 : vals 17 = .bool true:=hd 17 (by decide)
          clear hd ha
          simp only [Lf,dstAt,Act.put,FR_,e17]
          clear e17
          go_wp2
          exact q_
         ·intro vals w1 hx hd ha
          have e17 : vals 17 = .bool true:=hd 17 (by decide)
          clear hd ha
          simp only [Lf,dstAt,Act.put,FR_,e17]
          clear e17
          go_wp2
          exact q_
         ·intro vals w1 hx hd ha
          have e17 : vals 17 = .bool true:=hd 17 (by decide)
          have e21 : vals 21 = .int .i64 (k : Int):=hd 21 (by decide)
          clear hd ha
          simp only [Lf,dstAt,Act.put,FR_,e17,e21]
          clear e17 e21
          go_wp2
          exact q_
         ·intro vals w1 hx hd ha
          have e17 : vals 17 = .bool true:=hd 17 (by decide)
          have e20 : vals 20 = .slice (some ⟨b',o',none⟩) n c:=hd 20 (by decide)
          have e22 : vals 22 = .int .i64 ((k : Int) - 1):=hd 22 (by decide)
          clear hd ha
          simp only [Lf,dstAt,Act.put,FR_,e17,e20,e22]
          clear e17 e20 e22
          go_wp2
          exact q_
         ·intro vals w1 hx hd ha
          have e17 : vals 17 = .bool true:=hd 17 (by decide)
          have e23 : vals 23 = .pointer (some ⟨b',o' + (k - 1) * 10,none⟩):=hd 23 (by decide)
          clear hd ha
          simp only [Lf,dstAt,Act.put,FR_,e17,e23]
          clear e17 e23
          go_wp2
          exact q_
         ·intro vals w1 hx hd ha
          have e17 : vals 17 = .bool true:=hd 17 (by decide)
          have e24 : vals 24 = .pointer (some ⟨b',o' + (k - 1) * 10 + 2,none⟩):=hd 24 (by decide)
          clear hd ha
          simp only [Lf,dstAt,Act.put,FR_,e17,e24]
          clear e17 e24
          have pc:=ext_cell hx pc
          go_wp2
          exact q_
         ·intro vals w1 hx hd ha
          have e17 : vals 17 = .bool true:=hd 17 (by decide)
          have e19 : vals 19 = .int .i64 ukn:=hd 19 (by decide)
          have e25 : vals 25 = .int .i64 pk:=hd 25 (by decide)
          clear hd ha
          simp only [Lf,dstAt,Act.put,FR_,e17,e19,e25]
          clear e17 e19 e25
          go_wp2
          exact q_
         ·intro vals w1 hx hd ha
          have e14 : vals 14 = .bool false:=hd 14 (by decide)
          have e17 : vals 17 = .bool true:=hd 17 (by decide)
          have e26 : vals 26 = .bool false:=hd 26 (by decide)
          clear hd ha
          simp only [Lf,dstAt,Act.put,FR_,e14,e17,e26]
          clear e14 e17 e26
          go_wp2
          exact q_
         ·intro vals w1 hx hd ha
          have e14 : vals 14 = .bool false:=hd 14 (by decide)
          have e27 : vals 27 = .bool false:=hd 27 (by decide)
          clear hd ha
          simp only [Lf,dstAt,Act.put,FR_,e14,e27]
          clear e14 e27
          go_wp2
          exact q_
         ·intro vals w1 hx hd ha
          have e17 : vals 17 = .bool true:=hd 17 (by decide)
          have e28 : vals 28 = .bool false:=hd 28 (by decide)
          clear hd ha
          simp only [Lf,dstAt,Act.put,FR_,e17,e28]
          clear e17 e28
          go_wp2
          exact q_
         ·intro vals w1 hx hd ha
          have e29 : vals 29 = .bool false:=hd 29 (by decide)
          clear hd ha
          simp only [Lf,dstAt,Act.put,FR_,e29]
          clear e29
          go_wp2
          exact q_
         ·intro vals w1 hx hd ha
          have e29 : vals 29 = .bool false:=hd 29 (by decide)
          have e30 : vals 30 = .pointer (some ⟨g6,3,none⟩):=hd 30 (by decide)
          clear hd ha
          simp only [Lf,dstAt,Act.put,FR_,e29]
          simp only [e30]
          clear e29 e30
          refine wpList_load_stg rfl _ _ rfl g6 3 rfl Y (orbCells uorb) HYY.out _ (LO.out _ hx.undrew) Tryz.underlying51 rfl orb_size ?_
          go_wp2
          exact q_
         ·intro vals w1 hx hd ha
          have e29 : vals 29 = .bool false:=hd 29 (by decide)
          have e31 : vals 31 = .agg Y:=hd 31 (by decide)
          clear hd ha
          simp only [Lf,dstAt,Act.put,FR_,e29]
          simp only [e31]
          clear e29 e31
          go_wp2_with fail
          refine (HOV.out _).mono ?_
          rintro e w2 ⟨rfl,hb2⟩
          go_wp2
          exact ⟨rfl,hb2,rfl⟩
         ·intro vals w1 hx hd ha
          have e29 : vals 29 = .bool false:=hd 29 (by decide)
          have e32 : vals 32 = .bool q5:=hd 32 (by decide)
          clear hd ha
          simp only [Lf,dstAt,Act.put,FR_,e29,e32]
          clear e29 e32
          go_wp2
          exact q_
         ·intro vals w1 hx hd ha
          have e29 : vals 29 = .bool false:=hd 29 (by decide)
          have e33 : vals 33 = .bool (!q5):=hd 33 (by decide)
          clear hd ha
          simp only [Lf,dstAt,Act.put,FR_,e29,e33]
          clear e29 e33
          go_wp2
          exact q_
        intro vals w5 hx5 hf
        have e34 : vals 34 = .bool (!q5):=hf 34 (by omega)
        clear hf
        have hx5:=hx5.undrew
        have hxw5:=Ext.trans hxw hx5
        refine tail0 (by kernel_rfl) ?_
        simp only [Lf,dstAt,Act.put,FR_]
        rw [e34]
        clear e34 hx5
        cases q5
        ·rw [Bool.not_false]
         go_wp2
         go_ret
         exact ⟨by rw [HVV.out,HST.out]; simp,hxw5⟩
        ·rw [Bool.not_true]
         have HST2 : Hid (Q = updsR ids ((prevAt l (k + 1)).map (·.kn)) (l.drop (k + 1))):=Lib.hid (by rw [HST.out,HPV.out]; simp [HPN.out,HPK.out])
         go_wp2
         go_roundw
         case rel => exact ⟨k + 1,by omega,by go_num,HST2,hxw5⟩
         case measure => simp [intOf]; omega
  ·have hkz : ¬ (k : Int) < (n : Int):=by omega
   obtain rfl : Q = true:=by rw [HQK.out,List.drop_of_length_le (by rw [HLN.out]; omega)]; cases (prevAt l k).map (·.kn) <;> rfl
   have HVS:=Lib.hid (validSats_any sats SA sn sc wr (ra_ext HRS.out hxq))
   generalize satsOK sats = z at HVS HVV
   have HX:=Lib.hid hxq
   by_cases hn24 : n ≤ 24
   ·have hnd : decide (n ≤ 24) = true:=by simpa using hn24
    have HVZ : Hid (V = z):=Lib.hid (by rw [HVV.out,hnd]; simp)
    clear hnd HVV
    have hnz : (n : Int) ≤ 24:=by omega
    have hnd : decide (n ≤ 24) = true:=by simpa using hn24
    go_wp2_with fail
    refine HVS.out.mono ?_
    rintro e W4 ⟨rfl,hy⟩
    have HX4:=Lib.hid (Ext.trans HX.out hy)
    go_wp2_with fail
    ·go_ret
     exact ⟨by rw [HVZ.out]; rfl,HX4.out⟩
    all_goals (exfalso; omega)
   ·have hnd : decide (n ≤ 24) = false:=by simpa using hn24
    have HVZ : Hid (V = false):=Lib.hid (by rw [HVV.out,hnd]; simp)
    clear hnd HVV
    have hnz : ¬ (n : Int) ≤ 24:=by omega
    have hnd : decide (n ≤ 24) = false:=by simpa using hn24
    clear hnd hnz HVS
    by_cases hnz : (n : Int) ≤ 24
    ·omega
    go_wp2
    all_goals first | (go_ret; exact ⟨by rw [HVZ.out]; rfl,HX.out⟩) | omega
end Go.Proofs.YtjidhhfabfnhnaaGreat
