/- The law EphemerisForEver of the ephemeris layer: for every input the call returns true and each argument reads afterwards as it read before: what was known at a minute stays so: updates that become known later change no orbit and no pass by what is known at this minute. No condition. -/
import Derived.Test.YtjidhhfabfnhnaaGreatK29
namespace Go.Proofs.YtjidhhfabfnhnaaGreat
open Go.RowKit
attribute [local go_sem] Oper.semAt_some
structure TN (N : Nat) (t : TypeId) (Z V : Array Value) (X Y : World) : Prop where
 low : Below N X Y
 zero : ∀ g,N ≤ g → Blk X g t Z → Blk Y g t Z ∨ Blk Y g t V
 val : ∀ g,N ≤ g → Blk X g t V → Blk Y g t V
theorem tn_tr (N : Nat) (t : TypeId) (Z V : Array Value) : RB.Tr (TN N t Z V):=⟨fun _ => ⟨Below.refl _ _,fun _ _ h => .inl h,fun _ _ h => h⟩,fun h k => ⟨Below.trans h.low k.low,fun g hg b => by
 rcases h.zero g hg b with e | e
 ·exact k.zero g hg e
 ·exact .inr (k.val g hg e),fun g hg b => k.val g hg (h.val g hg b)⟩⟩
theorem TN.ext {N : Nat} {t : TypeId} {Z V : Array Value} {X Y : World} (h : Ext X Y) (hN : N ≤ X.heap.size) : TN N t Z V X Y:=⟨h.mono hN,fun _ _ b => .inl (b.ext h),fun _ _ b => b.ext h⟩
theorem TN.undrew {N : Nat} {t : TypeId} {Z V : Array Value} {X Y : World} (h : TN N t Z V X.drew Y) : TN N t Z V X Y:=⟨⟨h.low.os,h.low.tape,h.low.output,h.low.size,h.low.block⟩,h.zero,h.val⟩
theorem TN.row {N g : Nat} {t : TypeId} {Z V cs : Array Value} {X : World} (b : Blk X g t cs) (hg : N ≤ g) : TN N t Z V X (X.setRow g V) ∧ Blk (X.setRow g V) g t V:=by
 refine ⟨⟨below_setRow (Below.refl _ _) hg V,fun i _ h => ?_,fun i _ h => ?_⟩,b.row V⟩
 ·by_cases e : i = g
  ·subst e; exact .inr (h.row V)
  ·exact .inl (h.rowFar e V)
 ·by_cases e : i = g
  ·subst e; exact h.row V
  ·exact h.rowFar e V
set_option maxRecDepth 100000 in
set_option maxHeartbeats 8000000 in
theorem forever_walk (c : Cas) (first tt known : Int) (w : World) (hc : CasR w c) (bf : I64ok first) (bt : I64ok tt) (bk : I64ok known) :
  Calls Tryz.prog 7 #[casV c,.int .i64 first,.int .i64 tt,.int .i64 known] w (Tru w):=by
 have HMD : Hid (∀ W,Ext w W → Calls Tryz.prog 11 #[.agg #[.slice c.xa c.xn c.xc,.slice c.ya c.yn c.yc,.slice c.za c.zn c.zc,.slice c.ua c.un c.uc,.int .i64 c.fr,.int .i64 c.lo]] W (MadRet c W)):=Lib.hid (fun W hx => made36_any c W (hc.ext hx))
 have hfb:=frC_bd c
 have heb:=endC_bd c
 obtain ⟨S,hS⟩ : ∃ S,S = satsC c:=⟨_,rfl⟩
 obtain ⟨ST,hST⟩ : ∃ S,S = stnsC c:=⟨_,rfl⟩
 obtain ⟨US,hUS⟩ : ∃ S,S = updsC c:=⟨_,rfl⟩
 obtain ⟨fz,hf0⟩ : ∃ S,S = frC c:=⟨_,rfl⟩
 obtain ⟨ez,he0⟩ : ∃ S,S = endC c:=⟨_,rfl⟩
 rw [← hf0] at hfb heb
 rw [← he0] at heb
 obtain ⟨hfb1,hfb2⟩:=hfb
 obtain ⟨heb1,heb2⟩:=heb
 have hmr : ∀ W e W',MadRet c W e W' → ∃ A1 n1 c1 A2 n2 c2 A3 n3 c3,e = .returned (.tuple #[.slice A1 n1 c1,.slice A2 n2 c2,.slice A3 n3 c3,.agg #[.int .i64 fz,.int .i64 ez]]) ∧ RA satCells 21 W' W'.heap.size A1 n1 c1 S ∧ RA stnCells 6 W' W'.heap.size A2 n2 c2 ST ∧ RA updCells 10 W' W'.heap.size A3 n3 c3 US ∧ (A3 = none → n3 = 0 ∧ c3 = 0) ∧ Ext W W':=by rw [hS,hST,hUS,hf0,he0]; exact fun _ _ _ h => h
 have HMR:=Lib.hid hmr
 have HS:=Lib.hid hS
 have HST:=Lib.hid hST
 have HUS:=Lib.hid hUS
 have HF0:=Lib.hid hf0
 have HE0:=Lib.hid he0
 clear hmr hS hST hUS hf0 he0
 unfold casV
 go_enter Tryz.func7,Tryz.ntmps7
 go_wp2_with fail
 have HB0 : Ext w (w.alloc (.cells #[.slice c.xa c.xn c.xc,.slice c.ya c.yn c.yc,.slice c.za c.zn c.zc,.slice c.ua c.un c.uc,.int .i64 c.fr,.int .i64 c.lo] 25)):=bl_alloc (Below.refl _ _) _
 have JC : Blk (w.alloc (.cells #[.slice c.xa c.xn c.xc,.slice c.ya c.yn c.yc,.slice c.za c.zn c.zc,.slice c.ua c.un c.uc,.int .i64 c.fr,.int .i64 c.lo] 25)) w.heap.size 25 #[.slice c.xa c.xn c.xc,.slice c.ya c.yn c.yc,.slice c.za c.zn c.zc,.slice c.ua c.un c.uc,.int .i64 c.fr,.int .i64 c.lo]:=Blk.new _ _ _
 obtain ⟨gc,hg⟩ : ∃ g,g = w.heap.size:=⟨_,rfl⟩
 rw [← hg] at JC ⊢
 clear hg
 generalize w.alloc (.cells #[.slice c.xa c.xn c.xc,.slice c.ya c.yn c.yc,.slice c.za c.zn c.zc,.slice c.ua c.un c.uc,.int .i64 c.fr,.int .i64 c.lo] 25) = W0 at JC HB0 ⊢
 refine (sane36_any _).mono ?_
 rintro e W1 ⟨rfl,hx⟩
 have hB:=HB0
 clear HB0
 have JC:=JC.ext hx
 have hB:=Ext.trans hB hx
 clear hx
 have k0 : W1.cell? ⟨gc,0,none⟩ = some (.slice c.xa c.xn c.xc):=JC.cell 0
 have k1 : W1.cell? ⟨gc,1,none⟩ = some (.slice c.ya c.yn c.yc):=JC.cell 1
 have k2 : W1.cell? ⟨gc,2,none⟩ = some (.slice c.za c.zn c.zc):=JC.cell 2
 have k3 : W1.cell? ⟨gc,3,none⟩ = some (.slice c.ua c.un c.uc):=JC.cell 3
 have k4 : W1.cell? ⟨gc,4,none⟩ = some (.int .i64 c.fr):=JC.cell 4
 have k5 : W1.cell? ⟨gc,5,none⟩ = some (.int .i64 c.lo):=JC.cell 5
 go_wp2_with fail
 refine (HMD.out _ hB).mono ?_
 intro e W2 hm
 obtain ⟨A1,n1,c1,A2,n2,c2,A3,n3,c3,rfl,RS,RT,RU,hnil,hx⟩:=HMR.out _ _ _ hm
 clear hm k0 k1 k2 k3 k4 k5
 have HNIL:=Lib.hid hnil
 clear hnil
 have JC:=JC.ext hx
 have hB:=Ext.trans hB hx
 clear hx
 clear JC
 go_upto_region 4 with (fail)
 have hx : Ext W2 (W2.alloc (.cells #[.int .i64 fz,.int .i64 ez] 32)):=bl_alloc (Below.refl _ _) _
 have JS : Blk (W2.alloc (.cells #[.int .i64 fz,.int .i64 ez] 32)) W2.heap.size 32 #[.int .i64 fz,.int .i64 ez]:=Blk.new _ _ _
 obtain ⟨gs,hg⟩ : ∃ g,g = W2.heap.size:=⟨_,rfl⟩
 rw [← hg] at JS ⊢
 clear hg
 generalize W2.alloc (.cells #[.int .i64 fz,.int .i64 ez] 32) = W3 at JS hx ⊢
 have hB:=Ext.trans hB hx
 have RS:=ra_ext RS hx
 have RT:=ra_ext RT hx
 have RU:=ra_ext RU hx
 clear hx
 have hn1 : n1 ≤ 2:=by have h1:=RS.len; have h2:=satsC_len c; rw [← HS.out] at h2; omega
 have hn3 : n3 ≤ 6:=by have h1:=RU.len; have h2:=updsP_len (satsC c) (frC c) c.u; rw [HUS.out] at h1; unfold updsC at h1; omega
 have hval : ∀ s ∈ S,validS s US = true:=by rw [HS.out,HUS.out]; exact validS_C c
 have hvalE : validE S US = true:=by rw [HS.out,HUS.out]; exact validE_C c
 have huok : UOK (S.map (·.id)) fz US:=by rw [HS.out,HUS.out,HF0.out]; exact upds_okP c
 have hsok : ∀ s ∈ S,satOK s = true:=by rw [HS.out]; exact satsC_ok c
 have hsOK : satsOK S = true:=by rw [HS.out]; exact sats_okP c
 have hul:=RU.len
 have hc3:=RU.cap
 have P1:=fun w => lpick36_any first ((n3 : Int) + 1) w bf.1 bf.2 (by omega) (by omega)
 have q1:=pickI_bd first ((n3 : Int) + 1) (by omega)
 generalize pickI first ((n3 : Int) + 1) = p1 at P1 q1
 obtain ⟨q1a,q1b⟩:=q1
 obtain ⟨n,rfl⟩:=Int.eq_ofNat_of_zero_le q1a
 have hn : n ≤ n3:=by omega
 clear q1a q1b
 have P2:=fun w => lpick36_any known 300 w bk.1 bk.2 (by omega) (by omega)
 have q2:=pickI_bd known 300 (by omega)
 generalize pickI known 300 = p2 at P2 q2
 obtain ⟨q2a,q2b⟩:=q2
 have P3:=fun w => lpick36_any tt 400 w bt.1 bt.2 (by omega) (by omega)
 have q3:=pickI_bd tt 400 (by omega)
 generalize pickI tt 400 = p3 at P3 q3
 obtain ⟨q3a,q3b⟩:=q3
 have HP1:=Lib.hid P1
 have HP2:=Lib.hid P2
 have HP3:=Lib.hid P3
 clear P1 P2 P3
 go_wp2_with fail
 refine (HP1.out _).mono ?_
 rintro e w2 ⟨rfl,rfl⟩
 go_upto_region 5 with (fail)
 have s0 : W3.cell? ⟨gs,0,none⟩ = some (.int .i64 fz):=JS.cell 0
 have u1_ : IntKind.i64.wrap (fz + p2) = fz + p2:=IntWalk.i64_in _ (by omega)
 refine wp_region_obl 5 (fun ix vals v w1 => match ix with | 0 => v = .pointer (some ⟨gs,0,none⟩) | 1 => v = .int .i64 fz | 2 => v = .int .i64 known | 3 => v = .int .i64 p2 | _ => v = .int .i64 (fz + p2)) (by kernel_rfl) (by kernel_rfl) ?_ ?_ ?_ ?_
 ·intro ix vals v w1 w2 hi hr hx; exact hr
 ·intro ix vals vals_ v w1 hi hv hr
  exact hr
 ·refine ⟨?_,?_,?_,?_,?_,trivial⟩
  ·intro vals w1 hx hd ha
   clear hd ha
   simp only [Lf]
   go_wp2
   exact q_
  ·intro vals w1 hx hd ha
   have e0 : vals 0 = .pointer (some ⟨gs,0,none⟩):=hd 0 (by decide)
   clear hd ha
   simp only [Lf,dstAt,Act.put,FR_,e0]
   clear e0
   have s0:=ext_cell hx s0
   go_wp2
   exact q_
  ·intro vals w1 hx hd ha
   clear hd ha
   simp only [Lf,dstAt,Act.put,FR_]
   go_wp2
   exact q_
  ·intro vals w1 hx hd ha
   have e2 : vals 2 = .int .i64 known:=hd 2 (by decide)
   clear hd ha
   simp only [Lf,dstAt,Act.put,FR_,e2]
   clear e2
   go_wp2_with fail
   refine (HP2.out _).mono ?_
   rintro e w2 ⟨rfl,rfl⟩
   go_wp2
   exact q_
  ·intro vals w1 hx hd ha
   have e1 : vals 1 = .int .i64 fz:=hd 1 (by decide)
   have e3 : vals 3 = .int .i64 p2:=hd 3 (by decide)
   clear hd ha
   simp only [Lf,dstAt,Act.put,FR_,e1,e3]
   clear e1 e3
   go_wp2
   exact q_
 intro vals W4 hx hf
 have e4 : vals 4 = .int .i64 (fz + p2):=hf 4 (by omega)
 have hx:=hx.undrew
 clear hf s0 u1_
 have hB:=Ext.trans hB hx
 have RS:=ra_ext RS hx
 have RT:=ra_ext RT hx
 have RU:=ra_ext RU hx
 have JS:=JS.ext hx
 clear hx
 refine tail1 5 _ (by kernel_rfl) (by kernel_rfl) rfl ?_
 simp only [Lf,dstAt,Act.put,FR_]
 rw [e4]
 clear e4
 by_cases hnl : n < n3
 case' pos =>
  have hnlz : (n : Int) < (n3 : Int):=by omega
  obtain ⟨bu,ou,hzu,hAu,hbu,hcu⟩:=RU.at_ upd_len hnl
  have hdr:=uok_at huok n (by omega)
  have huk:=uok_kn huok US[n] (List.getElem_mem _)
  generalize US[n] = x at hcu hdr huk
  have hxk : 0 ≤ x.kn ∧ x.kn ≤ 1000000:=by simp only [updOK,inB,Bool.and_eq_true,decide_eq_true_eq] at huk; omega
  subst hAu
  have y2 : W4.cell? ⟨bu,ou + n * 10 + 2,none⟩ = some (.int .i64 x.kn):=hcu 2 (by simp)
  generalize x.kn = xk at hdr hxk y2
  obtain ⟨hxk1,hxk2⟩:=hxk
  obtain ⟨kk,hkk⟩ : ∃ z,(if xk - 1 < fz + p2 then xk - 1 else fz + p2) = z:=⟨_,rfl⟩
  have hkl : kk ≤ xk - 1:=by rw [← hkk]; split <;> omega
  have hdrop : ∀ u ∈ US.drop n,kk < u.kn:=fun u hu => by have:=hdr u hu; omega
  clear hcu hzu hdr huk hkl
  go_upto_region 8 with (fail)
  have HKK:=Lib.hid hkk
  clear hkk y2
  generalize (some (⟨bu,ou,none⟩ : Addr)) = A3 at RU ⊢
  clear HKK hbu hnlz
 case' neg =>
  have hnlz : ¬ (n : Int) < (n3 : Int):=by omega
  obtain ⟨kk,hkk⟩ : ∃ z,z = fz + p2:=⟨_,rfl⟩
  rw [← hkk]
  have hdrop : ∀ u ∈ US.drop n,kk < u.kn:=by rw [List.drop_of_length_le (by omega)]; exact fun u hu => by cases hu
  clear hkk
  go_upto_region 8 with (fail)
  clear hnlz
 all_goals
  have s0 : W4.cell? ⟨gs,0,none⟩ = some (.int .i64 fz):=JS.cell 0
  have u1_ : IntKind.i64.wrap (fz + p3) = fz + p3:=IntWalk.i64_in _ (by omega)
  refine wp_region_obl 5 (fun ix vals v w1 => match ix with | 0 => v = .pointer (some ⟨gs,0,none⟩) | 1 => v = .int .i64 fz | 2 => v = .int .i64 tt | 3 => v = .int .i64 p3 | _ => v = .int .i64 (fz + p3)) (by kernel_rfl) (by kernel_rfl) ?_ ?_ ?_ ?_
  ·intro ix vals v w1 w2 hi hr hx; exact hr
  ·intro ix vals vals_ v w1 hi hv hr
   exact hr
  ·refine ⟨?_,?_,?_,?_,?_,trivial⟩
   ·intro vals w1 hx hd ha
    clear hd ha
    simp only [Lf]
    go_wp2
    exact q_
   ·intro vals w1 hx hd ha
    have e0 : vals 0 = .pointer (some ⟨gs,0,none⟩):=hd 0 (by decide)
    clear hd ha
    simp only [Lf,dstAt,Act.put,FR_,e0]
    clear e0
    have s0:=ext_cell hx s0
    go_wp2
    exact q_
   ·intro vals w1 hx hd ha
    clear hd ha
    simp only [Lf,dstAt,Act.put,FR_]
    go_wp2
    exact q_
   ·intro vals w1 hx hd ha
    have e2 : vals 2 = .int .i64 tt:=hd 2 (by decide)
    clear hd ha
    simp only [Lf,dstAt,Act.put,FR_,e2]
    clear e2
    go_wp2_with fail
    refine (HP3.out _).mono ?_
    rintro e w2 ⟨rfl,rfl⟩
    go_wp2
    exact q_
   ·intro vals w1 hx hd ha
    have e1 : vals 1 = .int .i64 fz:=hd 1 (by decide)
    have e3 : vals 3 = .int .i64 p3:=hd 3 (by decide)
    clear hd ha
    simp only [Lf,dstAt,Act.put,FR_,e1,e3]
    clear e1 e3
    go_wp2
    exact q_
  intro vals W5 hx hf
  have e4 : vals 4 = .int .i64 (fz + p3):=hf 4 (by omega)
  have hx:=hx.undrew
  clear hf s0 u1_
  have hB:=Ext.trans hB hx
  have RS:=ra_ext RS hx
  have RT:=ra_ext RT hx
  have RU:=ra_ext RU hx
  have JS:=JS.ext hx
  clear hx
  refine tail1 5 _ (by kernel_rfl) (by kernel_rfl) rfl ?_
  simp only [Lf,dstAt,Act.put,FR_]
  rw [e4]
  clear e4
  obtain ⟨at_,hat⟩ : ∃ k,k = fz + p3:=⟨_,rfl⟩
  rw [← hat]
  have hat1 : 0 ≤ at_ ∧ at_ ≤ 1000000:=by omega
  clear hat
  obtain ⟨R,hR⟩ : ∃ R,R = passesE S ST US ⟨fz,ez⟩ kk:=⟨_,rfl⟩
  have hRl : ∀ o,R = some o → o.length ≤ 64:=fun o h => passesE_le (hR.symm.trans h)
  have htk : UOK (S.map (·.id)) fz (US.take n):=uok_take n huok
  have htl : (US.take n).length ≤ 24:=by rw [List.length_take]; omega
  have hR2 : passesE S ST (US.take n) ⟨fz,ez⟩ kk = R:=by rw [hR]; exact passesE_take hdrop hvalE (validE_of htk htl hsOK)
  have RU2:=RU.cut6 upd_len n hn
  have HPA1 : Hid (∀ W,Ext W5 W → Calls Tryz.prog 15 #[.slice A1 n1 c1,.slice A2 n2 c2,.slice A3 n c3,.agg #[.int .i64 fz,.int .i64 ez],.int .i64 kk] W (EPRet R W)):=Lib.hid (fun W hx => by rw [← hR2]; exact epasses_any S ST _ A1 A2 A3 n1 c1 n2 c2 n c3 fz ez kk W (ra_ext RS hx) (ra_ext RT hx) (ra_ext RU2 hx))
  have HPA2 : Hid (∀ W,Ext W5 W → Calls Tryz.prog 15 #[.slice A1 n1 c1,.slice A2 n2 c2,.slice A3 n3 c3,.agg #[.int .i64 fz,.int .i64 ez],.int .i64 kk] W (EPRet R W)):=Lib.hid (fun W hx => by rw [hR]; exact epasses_any S ST US A1 A2 A3 n1 c1 n2 c2 n3 c3 fz ez kk W (ra_ext RS hx) (ra_ext RT hx) (ra_ext RU hx))
  have HOR : Hid (∀ (s : St) (SX : Array Value) (W : World),Ext W5 W → s ∈ S → (satCells s).toArray = SX → (Calls Tryz.prog 17 #[.agg SX,.slice A3 n c3,.int .i64 at_,.int .i64 kk] W fun e w' => e = .returned (orbR (some (orbE s US kk at_))) ∧ Ext W w') ∧ (Calls Tryz.prog 17 #[.agg SX,.slice A3 n3 c3,.int .i64 at_,.int .i64 kk] W fun e w' => e = .returned (orbR (some (orbE s US kk at_))) ∧ Ext W w')):=Lib.hid (by
   intro s SX W hx hs hSX
   subst hSX
   have hin : inB at_ 0 1000000 = true:=by simp [inB]; omega
   have h1:=orbit_any s (US.take n) A3 n c3 at_ kk W (ra_ext RU2 hx) (by omega)
   have h2:=orbit_any s US A3 n3 c3 at_ kk W (ra_ext RU hx) (by omega)
   rw [show orbitE s (US.take n) at_ kk = some (orbE s US kk at_) by rw [orbitE,if_pos (by rw [hin,validS_of htk htl (hsok s hs)]; rfl),orbE_take hdrop]] at h1
   rw [show orbitE s US at_ kk = some (orbE s US kk at_) by rw [orbitE,if_pos (by rw [hin,hval s hs]; rfl)]] at h2
   exact ⟨h1,h2⟩)
  have HRL:=Lib.hid hRl
  have HRS:=Lib.hid RS
  have HJS:=Lib.hid JS
  have HB:=Lib.hid hB
  clear hR hRl hR2 htk htl RU2 RS RT RU JS hB hdrop hval hvalE huok hsok hsOK hul
  go_wp2
  go_loopw [16] (fun i wr => ∃ k : Nat,k ≤ n1 ∧ i = .int .i64 k ∧ Ext W5 wr) (fun i _ => n1 - (intOf i).toNat)
  case atStart => exact ⟨0,Nat.zero_le _,rfl,Below.refl _ _⟩
  case round =>
   obtain ⟨k,hk,rfl,hX⟩:=hrel
   by_cases hkn : k < n1
   ·have hkz : (k : Int) < (n1 : Int):=by omega
    obtain ⟨bs,os,hzs,hAs,hbs,hcs⟩:=RA.range sat_len (HRS.out.below hX) hkn
    subst hAs
    have hmem : S[k] ∈ S:=List.getElem_mem _
    generalize S[k] = s at hcs hmem
    clear hzs
    obtain ⟨SX,hSX⟩ : ∃ X,(satCells s).toArray = X:=⟨_,rfl⟩
    have hor:=fun W hx => HOR.out s SX W hx hmem hSX
    generalize orbE s US kk at_ = o at hor
    obtain ⟨pe,ph,lo,hi,no,tu,sl⟩:=o
    have HO1:=Lib.hid (fun W hx => (hor W hx).1)
    have HO2:=Lib.hid (fun W hx => (hor W hx).2)
    have HSX:=Lib.hid hSX
    have HCS:=Lib.hid hcs
    have HX:=Lib.hid hX
    clear hor hSX hcs hmem
    go_upto_region 12 with (fail)
    have hT:=tn_tr wr.heap.size 51 #[.int .i64 0,.int .i64 0,.int .i64 0,.int .i64 0,.int .i64 0,.int .i64 0,.int .i64 0] #[.int .i64 pe,.int .i64 ph,.int .i64 lo,.int .i64 hi,.int .i64 no,.int .i64 tu,.int .i64 sl]
    refine RB.wp_region_obl (T:=_) hT 15 (fun ix vals v w1 => match ix with | 0 => v = .slice (some ⟨bs,os,none⟩) n1 c1 | 1 => v = .int .i64 (k : Int) | 2 => v = .pointer (some ⟨bs,os + k * 21,none⟩) | 3 => v = .agg SX | 4 => v = .slice A3 n3 c3 | 5 => v = .int .i64 (n : Int) | 6 => v = .slice A3 n c3 | 7 => v = .int .i64 at_ | 8 => v = .int .i64 kk | 9 => v = .tuple #[.agg #[.int .i64 pe,.int .i64 ph,.int .i64 lo,.int .i64 hi,.int .i64 no,.int .i64 tu,.int .i64 sl],.int .i64 0] | 10 => v = .tuple #[.agg #[.int .i64 pe,.int .i64 ph,.int .i64 lo,.int .i64 hi,.int .i64 no,.int .i64 tu,.int .i64 sl],.int .i64 0] | 11 => v = .agg #[.int .i64 pe,.int .i64 ph,.int .i64 lo,.int .i64 hi,.int .i64 no,.int .i64 tu,.int .i64 sl] | 12 => v = .int .i64 0 | 13 => ∃ g,v = .pointer (some ⟨g,0,none⟩) ∧ wr.heap.size ≤ g ∧ (Blk w1 g 51 #[.int .i64 0,.int .i64 0,.int .i64 0,.int .i64 0,.int .i64 0,.int .i64 0,.int .i64 0] ∨ Blk w1 g 51 #[.int .i64 pe,.int .i64 ph,.int .i64 lo,.int .i64 hi,.int .i64 no,.int .i64 tu,.int .i64 sl]) | _ => ∃ g,vals 13 = .pointer (some ⟨g,0,none⟩) ∧ wr.heap.size ≤ g ∧ Blk w1 g 51 #[.int .i64 pe,.int .i64 ph,.int .i64 lo,.int .i64 hi,.int .i64 no,.int .i64 tu,.int .i64 sl]) (by kernel_rfl) (by kernel_rfl) ?_ ?_ ?_ ?_
    ·intro ix vals v w1 w2 hi hr hx
     match ix,hr with
     | 0,hr => exact hr
     | 1,hr => exact hr
     | 2,hr => exact hr
     | 3,hr => exact hr
     | 4,hr => exact hr
     | 5,hr => exact hr
     | 6,hr => exact hr
     | 7,hr => exact hr
     | 8,hr => exact hr
     | 9,hr => exact hr
     | 10,hr => exact hr
     | 11,hr => exact hr
     | 12,hr => exact hr
     | 13,hr => obtain ⟨g,h1,h2,h3⟩:=hr; exact ⟨g,h1,h2,h3.elim (fun b => hx.zero g h2 b) (fun b => .inr (hx.val g h2 b))⟩
     | (kx + 14),hr => obtain ⟨g,h1,h2,h3⟩:=hr; exact ⟨g,h1,h2,hx.val g h2 h3⟩
    ·intro ix vals vals_ v w1 hi hv hr
     match ix,hi,hv,hr with
     | 0,_,_,hr => exact hr
     | 1,_,_,hr => exact hr
     | 2,_,_,hr => exact hr
     | 3,_,_,hr => exact hr
     | 4,_,_,hr => exact hr
     | 5,_,_,hr => exact hr
     | 6,_,_,hr => exact hr
     | 7,_,_,hr => exact hr
     | 8,_,_,hr => exact hr
     | 9,_,_,hr => exact hr
     | 10,_,_,hr => exact hr
     | 11,_,_,hr => exact hr
     | 12,_,_,hr => exact hr
     | 13,_,_,hr => exact hr
     | (kx + 14),hi,hv,hr => obtain rfl : kx = 0:=(by omega); have e13:=hv 13 (by kernel_rfl); rw [← e13]; exact hr
    ·refine ⟨?_,?_,?_,?_,?_,?_,?_,?_,?_,?_,?_,?_,?_,?_,?_,trivial⟩
     ·intro vals w1 hx hd ha
      clear hd ha
      simp only [Lf]
      go_wp2
      exact ⟨rfl,hT.refl _,rfl⟩
     ·intro vals w1 hx hd ha
      clear hd ha
      simp only [Lf,dstAt,Act.put,FR_]
      go_wp2
      exact ⟨rfl,hT.refl _,rfl⟩
     ·intro vals w1 hx hd ha
      have e0 : vals 0 = .slice (some ⟨bs,os,none⟩) n1 c1:=hd 0 (by decide)
      have e1 : vals 1 = .int .i64 (k : Int):=hd 1 (by decide)
      clear hd ha
      simp only [Lf,dstAt,Act.put,FR_,e0,e1]
      clear e0 e1
      go_wp2
      exact ⟨rfl,hT.refl _,rfl⟩
     ·intro vals w1 hx hd ha
      have e2 : vals 2 = .pointer (some ⟨bs,os + k * 21,none⟩):=hd 2 (by decide)
      clear hd ha
      simp only [Lf,dstAt,Act.put,FR_,e2]
      clear e2
      refine wpList_load_st rfl 53 _ rfl bs (os + k * 21) rfl SX (satCells s) HSX.out _ (RA.range2 HCS.out hx.undrew.low) Tryz.underlying53 rfl sat_size ?_
      go_wp2
      exact ⟨rfl,hT.refl _,rfl⟩
     ·intro vals w1 hx hd ha
      clear hd ha
      simp only [Lf,dstAt,Act.put,FR_]
      go_wp2
      exact ⟨rfl,hT.refl _,rfl⟩
     ·intro vals w1 hx hd ha
      clear hd ha
      simp only [Lf,dstAt,Act.put,FR_]
      go_wp2
      exact ⟨rfl,hT.refl _,rfl⟩
     ·intro vals w1 hx hd ha
      have e4 : vals 4 = .slice A3 n3 c3:=hd 4 (by decide)
      have e5 : vals 5 = .int .i64 (n : Int):=hd 5 (by decide)
      clear hd ha
      simp only [Lf,dstAt,Act.put,FR_,e4,e5]
      clear e4 e5
      go_wp2
      exact ⟨rfl,hT.refl _,rfl⟩
     ·intro vals w1 hx hd ha
      clear hd ha
      simp only [Lf,dstAt,Act.put,FR_]
      go_wp2
      exact ⟨rfl,hT.refl _,rfl⟩
     ·intro vals w1 hx hd ha
      clear hd ha
      simp only [Lf,dstAt,Act.put,FR_]
      go_wp2
      exact ⟨rfl,hT.refl _,rfl⟩
     ·intro vals w1 hx hd ha
      have e3 : vals 3 = .agg SX:=hd 3 (by decide)
      have e6 : vals 6 = .slice A3 n c3:=hd 6 (by decide)
      have e7 : vals 7 = .int .i64 at_:=hd 7 (by decide)
      have e8 : vals 8 = .int .i64 kk:=hd 8 (by decide)
      clear hd ha
      simp only [Lf,dstAt,Act.put,FR_,e3]
      simp only [e6]
      simp only [e7]
      simp only [e8]
      clear e3 e6 e7 e8
      have hz9:=hx.undrew.low.size
      go_wp2_with fail
      refine (HO1.out _ (Ext.trans HX.out hx.undrew.low)).mono ?_
      rintro e w2 ⟨rfl,hb2⟩
      have hb3:=Lib.hid (TN.ext (t:=51) (Z:=#[.int .i64 0,.int .i64 0,.int .i64 0,.int .i64 0,.int .i64 0,.int .i64 0,.int .i64 0]) (V:=#[.int .i64 pe,.int .i64 ph,.int .i64 lo,.int .i64 hi,.int .i64 no,.int .i64 tu,.int .i64 sl]) hb2 hz9)
      clear hb2
      go_wp2
      exact ⟨rfl,hb3.out,rfl⟩
     ·intro vals w1 hx hd ha
      have e9 : vals 9 = .tuple #[.agg #[.int .i64 pe,.int .i64 ph,.int .i64 lo,.int .i64 hi,.int .i64 no,.int .i64 tu,.int .i64 sl],.int .i64 0]:=hd 9 (by decide)
      clear hd ha
      simp only [Lf,dstAt,Act.put,FR_,e9]
      clear e9
      go_wp2
      exact ⟨rfl,hT.refl _,rfl⟩
     ·intro vals w1 hx hd ha
      have e10 : vals 10 = .tuple #[.agg #[.int .i64 pe,.int .i64 ph,.int .i64 lo,.int .i64 hi,.int .i64 no,.int .i64 tu,.int .i64 sl],.int .i64 0]:=hd 10 (by decide)
      clear hd ha
      simp only [Lf,dstAt,Act.put,FR_,e10]
      clear e10
      go_wp2
      exact ⟨rfl,hT.refl _,rfl⟩
     ·intro vals w1 hx hd ha
      have e10 : vals 10 = .tuple #[.agg #[.int .i64 pe,.int .i64 ph,.int .i64 lo,.int .i64 hi,.int .i64 no,.int .i64 tu,.int .i64 sl],.int .i64 0]:=hd 10 (by decide)
      clear hd ha
      simp only [Lf,dstAt,Act.put,FR_,e10]
      clear e10
      go_wp2
      exact ⟨rfl,hT.refl _,rfl⟩
     ·intro vals w1 hx hd ha
      clear hd ha
      simp only [Lf,dstAt,Act.put,FR_]
      have hz9:=hx.undrew.low.size
      go_wp2
      exact ⟨rfl,TN.ext (bl_alloc (Below.refl _ _) _) hz9,_,rfl,hz9,.inl (Blk.new _ _ _)⟩
     ·intro vals w1 hx hd ha
      have e0 : vals 0 = .slice (some ⟨bs,os,none⟩) n1 c1:=hd 0 (by decide)
      have e1 : vals 1 = .int .i64 (k : Int):=hd 1 (by decide)
      have e2 : vals 2 = .pointer (some ⟨bs,os + k * 21,none⟩):=hd 2 (by decide)
      have e3 : vals 3 = .agg SX:=hd 3 (by decide)
      have e4 : vals 4 = .slice A3 n3 c3:=hd 4 (by decide)
      have e5 : vals 5 = .int .i64 (n : Int):=hd 5 (by decide)
      have e6 : vals 6 = .slice A3 n c3:=hd 6 (by decide)
      have e7 : vals 7 = .int .i64 at_:=hd 7 (by decide)
      have e8 : vals 8 = .int .i64 kk:=hd 8 (by decide)
      have e9 : vals 9 = .tuple #[.agg #[.int .i64 pe,.int .i64 ph,.int .i64 lo,.int .i64 hi,.int .i64 no,.int .i64 tu,.int .i64 sl],.int .i64 0]:=hd 9 (by decide)
      have e10 : vals 10 = .tuple #[.agg #[.int .i64 pe,.int .i64 ph,.int .i64 lo,.int .i64 hi,.int .i64 no,.int .i64 tu,.int .i64 sl],.int .i64 0]:=hd 10 (by decide)
      have e11 : vals 11 = .agg #[.int .i64 pe,.int .i64 ph,.int .i64 lo,.int .i64 hi,.int .i64 no,.int .i64 tu,.int .i64 sl]:=hd 11 (by decide)
      have r13 : (fun v w1 => ∃ g,v = .pointer (some ⟨g,0,none⟩) ∧ wr.heap.size ≤ g ∧ (Blk w1 g 51 #[.int .i64 0,.int .i64 0,.int .i64 0,.int .i64 0,.int .i64 0,.int .i64 0,.int .i64 0] ∨ Blk w1 g 51 #[.int .i64 pe,.int .i64 ph,.int .i64 lo,.int .i64 hi,.int .i64 no,.int .i64 tu,.int .i64 sl])) (vals 13) w1:=hd 13 (by decide)
      dsimp only at r13
      clear hd ha
      simp only [Lf,dstAt,Act.put,FR_,e0]
      simp only [e1]
      simp only [e2]
      simp only [e3]
      simp only [e4]
      simp only [e5]
      simp only [e6]
      simp only [e7]
      simp only [e8]
      simp only [e9]
      simp only [e10]
      simp only [e11]
      clear e0 e1 e2 e3 e4 e5 e6 e7 e8 e9 e10 e11
      obtain ⟨g,e_13,hg,hbk⟩:=r13
      have hbk2 : ∃ cs,cs.size = 7 ∧ Blk w1 g 51 cs:=hbk.elim (fun b => ⟨_,rfl,b⟩) (fun b => ⟨_,rfl,b⟩)
      obtain ⟨cs,hcs,hb⟩:=hbk2
      have hrow:=TN.row (Z:=#[.int .i64 0,.int .i64 0,.int .i64 0,.int .i64 0,.int .i64 0,.int .i64 0,.int .i64 0]) (V:=#[.int .i64 pe,.int .i64 ph,.int .i64 lo,.int .i64 hi,.int .i64 no,.int .i64 tu,.int .i64 sl]) hb hg
      simp only [e_13]
      refine wpList_store_row rfl 51 _ _ rfl g #[.int .i64 pe,.int .i64 ph,.int .i64 lo,.int .i64 hi,.int .i64 no,.int .i64 tu,.int .i64 sl] rfl rfl 51 _ hb orb_size hcs (by simp [Value.oneCell']) ?_
      clear hbk hb hcs e_13
      have hrow:=Lib.hid hrow
      go_wp2
      exact ⟨rfl,hrow.out.1,hrow.out.2⟩
    intro vals V2 hx hf
    have v12 : vals 12 = .int .i64 0:=hf 12 (by omega)
    obtain ⟨g17,v13,hg17,j17⟩ : ∃ g,vals 13 = .pointer (some ⟨g,0,none⟩) ∧ wr.heap.size ≤ g ∧ Blk V2 g 51 #[.int .i64 pe,.int .i64 ph,.int .i64 lo,.int .i64 hi,.int .i64 no,.int .i64 tu,.int .i64 sl]:=hf 14 (by omega)
    have hy:=hx.undrew.low
    clear hf hx
    refine tail1 15 _ (by kernel_rfl) (by kernel_rfl) rfl ?_
    simp only [Lf,dstAt,Act.put,FR_]
    rw [v12,v13]
    clear v12 v13
    have HX2:=Lib.hid (Ext.trans HX.out hy)
    have HCS2:=Lib.hid (RA.range2 HCS.out hy)
    clear hy
    go_wp2_with (refine wpList_load_st rfl 53 _ rfl bs (os + k * 21) rfl SX (satCells s) HSX.out _ HCS2.out Tryz.underlying53 rfl sat_size ?_)
    refine (HO2.out _ HX2.out).mono ?_
    rintro e V3 ⟨rfl,hy⟩
    have HX3:=Lib.hid (Ext.trans HX2.out hy)
    have j17:=j17.ext hy
    clear hy
    simp only [orbR,orbCells]
    go_upto_region 14 with (refine wpList_store_new rfl 51 _ _ rfl _ #[.int .i64 pe,.int .i64 ph,.int .i64 lo,.int .i64 hi,.int .i64 no,.int .i64 tu,.int .i64 sl] rfl rfl orb_size rfl (by simp [Value.oneCell']) ?_)
    have hy : Ext V3 (V3.alloc (.cells #[.int .i64 pe,.int .i64 ph,.int .i64 lo,.int .i64 hi,.int .i64 no,.int .i64 tu,.int .i64 sl] 51)):=bl_alloc (Below.refl _ _) _
    have j19 : Blk (V3.alloc (.cells #[.int .i64 pe,.int .i64 ph,.int .i64 lo,.int .i64 hi,.int .i64 no,.int .i64 tu,.int .i64 sl] 51)) V3.heap.size 51 #[.int .i64 pe,.int .i64 ph,.int .i64 lo,.int .i64 hi,.int .i64 no,.int .i64 tu,.int .i64 sl]:=Blk.new _ _ _
    generalize V3.heap.size = g19 at j19 ⊢
    generalize V3.alloc (.cells #[.int .i64 pe,.int .i64 ph,.int .i64 lo,.int .i64 hi,.int .i64 no,.int .i64 tu,.int .i64 sl] 51) = V4 at j19 hy ⊢
    have hX4:=Ext.trans HX3.out hy
    have j17:=j17.ext hy
    have o0 : V4.cell? ⟨g17,0,none⟩ = some (.int .i64 pe):=j17.cell 0
    have z0 : V4.cell? ⟨g19,0,none⟩ = some (.int .i64 pe):=j19.cell 0
    have o1 : V4.cell? ⟨g17,1,none⟩ = some (.int .i64 ph):=j17.cell 1
    have z1 : V4.cell? ⟨g19,1,none⟩ = some (.int .i64 ph):=j19.cell 1
    have o2 : V4.cell? ⟨g17,2,none⟩ = some (.int .i64 lo):=j17.cell 2
    have z2 : V4.cell? ⟨g19,2,none⟩ = some (.int .i64 lo):=j19.cell 2
    have o3 : V4.cell? ⟨g17,3,none⟩ = some (.int .i64 hi):=j17.cell 3
    have z3 : V4.cell? ⟨g19,3,none⟩ = some (.int .i64 hi):=j19.cell 3
    have o4 : V4.cell? ⟨g17,4,none⟩ = some (.int .i64 no):=j17.cell 4
    have z4 : V4.cell? ⟨g19,4,none⟩ = some (.int .i64 no):=j19.cell 4
    have o5 : V4.cell? ⟨g17,5,none⟩ = some (.int .i64 tu):=j17.cell 5
    have z5 : V4.cell? ⟨g19,5,none⟩ = some (.int .i64 tu):=j19.cell 5
    have o6 : V4.cell? ⟨g17,6,none⟩ = some (.int .i64 sl):=j17.cell 6
    have z6 : V4.cell? ⟨g19,6,none⟩ = some (.int .i64 sl):=j19.cell 6
    have hnq : ∀ w : World,(binOp .neq 51 (.agg #[.int .i64 pe,.int .i64 ph,.int .i64 lo,.int .i64 hi,.int .i64 no,.int .i64 tu,.int .i64 sl]) (.agg #[.int .i64 pe,.int .i64 ph,.int .i64 lo,.int .i64 hi,.int .i64 no,.int .i64 tu,.int .i64 sl])).run Tryz.prog w = .ok (.bool false) w:=fun w => by have h:=neq_orb ⟨pe,ph,lo,hi,no,tu,sl⟩ ⟨pe,ph,lo,hi,no,tu,sl⟩ w; rw [decide_eq_true rfl] at h; exact h
    clear hy j17 j19 HX3 HX2 HO1 HO2 HCS HCS2
    go_wp2
    go_roundw
    case rel => exact ⟨k + 1,by omega,by go_num,hX4⟩
    case measure => simp [intOf]; omega
   ·have hkz : ¬ (k : Int) < (n1 : Int):=by omega
    have HX:=Lib.hid hX
    have HBX:=Lib.hid (Ext.trans HB.out hX)
    have js:=HJS.out.ext hX
    have t0 : wr.cell? ⟨gs,0,none⟩ = some (.int .i64 fz):=js.cell 0
    have t1 : wr.cell? ⟨gs,1,none⟩ = some (.int .i64 ez):=js.cell 1
    clear hX HOR
    go_upto_region 16 with (fail)
    refine wp_region_obl 13 (fun ix vals v w1 => match ix with | 0 => v = .slice A1 n1 c1 | 1 => v = .slice A2 n2 c2 | 2 => v = .slice A3 n3 c3 | 3 => v = .int .i64 (n : Int) | 4 => v = .slice A3 n c3 | 5 => v = .agg #[.int .i64 fz,.int .i64 ez] | 6 => v = .int .i64 kk | 7 => ∃ A m d,v = .tuple #[.slice A m d,.int .i64 (epE R)] ∧ RA pasCells 6 w1 w1.heap.size A m d (R.getD []) | 8 => ∃ A m d,v = .tuple #[.slice A m d,.int .i64 (epE R)] ∧ RA pasCells 6 w1 w1.heap.size A m d (R.getD []) | 9 => ∃ A m d,v = .slice A m d ∧ RA pasCells 6 w1 w1.heap.size A m d (R.getD []) | 10 => v = .int .i64 (epE R) | 11 => v = vals 9 | _ => v = .int .i64 (epE R)) (by kernel_rfl) (by kernel_rfl) ?_ ?_ ?_ ?_
    ·intro ix vals v w1 w2 hi hr hx
     match ix,hr with
     | 0,hr => exact hr
     | 1,hr => exact hr
     | 2,hr => exact hr
     | 3,hr => exact hr
     | 4,hr => exact hr
     | 5,hr => exact hr
     | 6,hr => exact hr
     | 7,hr => obtain ⟨A,m,d,h1,h2⟩:=hr; exact ⟨A,m,d,h1,ra_ext h2 hx⟩
     | 8,hr => obtain ⟨A,m,d,h1,h2⟩:=hr; exact ⟨A,m,d,h1,ra_ext h2 hx⟩
     | 9,hr => obtain ⟨A,m,d,h1,h2⟩:=hr; exact ⟨A,m,d,h1,ra_ext h2 hx⟩
     | 10,hr => exact hr
     | 11,hr => exact hr
     | (kx + 12),hr => exact hr
    ·intro ix vals vals_ v w1 hi hv hr
     match ix,hi,hv,hr with
     | 0,_,_,hr => exact hr
     | 1,_,_,hr => exact hr
     | 2,_,_,hr => exact hr
     | 3,_,_,hr => exact hr
     | 4,_,_,hr => exact hr
     | 5,_,_,hr => exact hr
     | 6,_,_,hr => exact hr
     | 7,_,_,hr => exact hr
     | 8,_,_,hr => exact hr
     | 9,_,_,hr => exact hr
     | 10,_,_,hr => exact hr
     | 11,_,hv,hr => have e9:=hv 9 (by kernel_rfl); rw [← e9]; exact hr
     | (kx + 12),_,_,hr => exact hr
    ·refine ⟨?_,?_,?_,?_,?_,?_,?_,?_,?_,?_,?_,?_,?_,trivial⟩
     ·intro vals w1 hx hd ha
      clear hd ha
      simp only [Lf]
      go_wp2
      exact q_
     ·intro vals w1 hx hd ha
      clear hd ha
      simp only [Lf,dstAt,Act.put,FR_]
      go_wp2
      exact q_
     ·intro vals w1 hx hd ha
      clear hd ha
      simp only [Lf,dstAt,Act.put,FR_]
      go_wp2
      exact q_
     ·intro vals w1 hx hd ha
      clear hd ha
      simp only [Lf,dstAt,Act.put,FR_]
      go_wp2
      exact q_
     ·intro vals w1 hx hd ha
      have e2 : vals 2 = .slice A3 n3 c3:=hd 2 (by decide)
      have e3 : vals 3 = .int .i64 (n : Int):=hd 3 (by decide)
      clear hd ha
      simp only [Lf,dstAt,Act.put,FR_,e2,e3]
      clear e2 e3
      go_wp2
      exact q_
     ·intro vals w1 hx hd ha
      clear hd ha
      simp only [Lf,dstAt,Act.put,FR_]
      have t0:=ext_cell hx t0
      have t1:=ext_cell hx t1
      go_wp2
      exact q_
     ·intro vals w1 hx hd ha
      clear hd ha
      simp only [Lf,dstAt,Act.put,FR_]
      go_wp2
      exact q_
     ·intro vals w1 hx hd ha
      have e0 : vals 0 = .slice A1 n1 c1:=hd 0 (by decide)
      have e1 : vals 1 = .slice A2 n2 c2:=hd 1 (by decide)
      have e4 : vals 4 = .slice A3 n c3:=hd 4 (by decide)
      have e5 : vals 5 = .agg #[.int .i64 fz,.int .i64 ez]:=hd 5 (by decide)
      have e6 : vals 6 = .int .i64 kk:=hd 6 (by decide)
      clear hd ha
      simp only [Lf,dstAt,Act.put,FR_,e0]
      simp only [e1]
      simp only [e4]
      simp only [e5]
      simp only [e6]
      clear e0 e1 e4 e5 e6
      go_wp2_with fail
      refine (HPA1.out _ (Ext.trans HX.out hx.undrew)).mono ?_
      intro e w2 hm
      obtain ⟨A,m,d,rfl,hra,-,hb2⟩:=ep_form hm HRL.out
      have hra:=Lib.hid hra
      clear hm
      go_wp2
      exact ⟨rfl,hb2,A,m,d,rfl,hra.out⟩
     ·intro vals w1 hx hd ha
      have r7 : (fun v w1 => ∃ A m d,v = .tuple #[.slice A m d,.int .i64 (epE R)] ∧ RA pasCells 6 w1 w1.heap.size A m d (R.getD [])) (vals 7) w1:=hd 7 (by decide)
      dsimp only at r7
      clear hd ha
      simp only [Lf,dstAt,Act.put,FR_]
      obtain ⟨A,m,d,e_7,ho⟩:=r7
      rw [e_7]
      have ho:=Lib.hid ho
      go_wp2
      exact ⟨rfl,Ext.refl _,A,m,d,rfl,ho.out⟩
     ·intro vals w1 hx hd ha
      have r8 : (fun v w1 => ∃ A m d,v = .tuple #[.slice A m d,.int .i64 (epE R)] ∧ RA pasCells 6 w1 w1.heap.size A m d (R.getD [])) (vals 8) w1:=hd 8 (by decide)
      dsimp only at r8
      clear hd ha
      simp only [Lf,dstAt,Act.put,FR_]
      obtain ⟨A,m,d,e_8,ho⟩:=r8
      rw [e_8]
      have ho:=Lib.hid ho
      go_wp2
      exact ⟨rfl,Ext.refl _,A,m,d,rfl,ho.out⟩
     ·intro vals w1 hx hd ha
      have r8 : (fun v w1 => ∃ A m d,v = .tuple #[.slice A m d,.int .i64 (epE R)] ∧ RA pasCells 6 w1 w1.heap.size A m d (R.getD [])) (vals 8) w1:=hd 8 (by decide)
      dsimp only at r8
      clear hd ha
      simp only [Lf,dstAt,Act.put,FR_]
      obtain ⟨A,m,d,e_8,ho⟩:=r8
      rw [e_8]
      clear ho
      go_wp2
      exact q_
     ·intro vals w1 hx hd ha
      have e0 : vals 0 = .slice A1 n1 c1:=hd 0 (by decide)
      have e1 : vals 1 = .slice A2 n2 c2:=hd 1 (by decide)
      have e2 : vals 2 = .slice A3 n3 c3:=hd 2 (by decide)
      have e3 : vals 3 = .int .i64 (n : Int):=hd 3 (by decide)
      have e4 : vals 4 = .slice A3 n c3:=hd 4 (by decide)
      have e5 : vals 5 = .agg #[.int .i64 fz,.int .i64 ez]:=hd 5 (by decide)
      have e6 : vals 6 = .int .i64 kk:=hd 6 (by decide)
      have r7 : (fun v w1 => ∃ A m d,v = .tuple #[.slice A m d,.int .i64 (epE R)] ∧ RA pasCells 6 w1 w1.heap.size A m d (R.getD [])) (vals 7) w1:=hd 7 (by decide)
      dsimp only at r7
      have r8 : (fun v w1 => ∃ A m d,v = .tuple #[.slice A m d,.int .i64 (epE R)] ∧ RA pasCells 6 w1 w1.heap.size A m d (R.getD [])) (vals 8) w1:=hd 8 (by decide)
      dsimp only at r8
      have r9 : (fun v w1 => ∃ A m d,v = .slice A m d ∧ RA pasCells 6 w1 w1.heap.size A m d (R.getD [])) (vals 9) w1:=hd 9 (by decide)
      dsimp only at r9
      clear hd ha
      simp only [Lf,dstAt,Act.put,FR_,e0,e1,e2,e3,e4,e5,e6]
      clear e0 e1 e2 e3 e4 e5 e6
      go_wp2
      exact q_
     ·intro vals w1 hx hd ha
      have e0 : vals 0 = .slice A1 n1 c1:=hd 0 (by decide)
      have e1 : vals 1 = .slice A2 n2 c2:=hd 1 (by decide)
      have e2 : vals 2 = .slice A3 n3 c3:=hd 2 (by decide)
      have e3 : vals 3 = .int .i64 (n : Int):=hd 3 (by decide)
      have e4 : vals 4 = .slice A3 n c3:=hd 4 (by decide)
      have e5 : vals 5 = .agg #[.int .i64 fz,.int .i64 ez]:=hd 5 (by decide)
      have e6 : vals 6 = .int .i64 kk:=hd 6 (by decide)
      have r7 : (fun v w1 => ∃ A m d,v = .tuple #[.slice A m d,.int .i64 (epE R)] ∧ RA pasCells 6 w1 w1.heap.size A m d (R.getD [])) (vals 7) w1:=hd 7 (by decide)
      dsimp only at r7
      have r8 : (fun v w1 => ∃ A m d,v = .tuple #[.slice A m d,.int .i64 (epE R)] ∧ RA pasCells 6 w1 w1.heap.size A m d (R.getD [])) (vals 8) w1:=hd 8 (by decide)
      dsimp only at r8
      have r9 : (fun v w1 => ∃ A m d,v = .slice A m d ∧ RA pasCells 6 w1 w1.heap.size A m d (R.getD [])) (vals 9) w1:=hd 9 (by decide)
      dsimp only at r9
      have e10 : vals 10 = .int .i64 (epE R):=hd 10 (by decide)
      have e11 : vals 11 = vals 9:=hd 11 (by decide)
      clear hd ha
      simp only [Lf,dstAt,Act.put,FR_,e0,e1,e2,e3,e4,e5,e6,e10,e11]
      clear e0 e1 e2 e3 e4 e5 e6 e10 e11
      go_wp2
      exact q_
    intro vals V5 hy hf
    obtain ⟨PA,pm,pd,v9,hra⟩ : ∃ A m d,vals 9 = .slice A m d ∧ RA pasCells 6 V5 V5.heap.size A m d (R.getD []):=hf 9 (by omega)
    have v11 : vals 11 = vals 9:=hf 11 (by omega)
    have v12 : vals 12 = .int .i64 (epE R):=hf 12 (by omega)
    have hy:=hy.undrew
    clear hf t0 t1
    have js:=js.ext hy
    have HX5:=Lib.hid (Ext.trans HX.out hy)
    have HB5:=Lib.hid (Ext.trans HBX.out hy)
    have HRA:=Lib.hid hra
    clear hy hra
    refine tail0 (by kernel_rfl) ?_
    simp only [Lf,dstAt,Act.put,FR_]
    rw [v11,v9,v12]
    clear v9 v11 v12
    have t0 : V5.cell? ⟨gs,0,none⟩ = some (.int .i64 fz):=js.cell 0
    have t1 : V5.cell? ⟨gs,1,none⟩ = some (.int .i64 ez):=js.cell 1
    obtain ⟨er,her⟩ : ∃ x,x = epE R:=⟨_,rfl⟩
    have HER:=Lib.hid her
    rw [← her]
    clear her
    have hee : (er == er) = true:=by simp
    go_wp2_with fail
    refine (HPA2.out _ HX5.out).mono ?_
    intro e V6 hm
    obtain ⟨QA,qm,qd,rfl,hra,-,hy⟩:=ep_form hm HRL.out
    rw [← HER.out]
    have HB6:=Lib.hid (Ext.trans HB5.out hy)
    have hsm:=samePas_any PA QA pm qm pd qd _ _ V6 (ra_ext HRA.out hy) hra
    rw [decide_eq_true rfl] at hsm
    have HSM:=Lib.hid hsm
    clear hm hra hy t0 t1 js hsm
    go_wp2_with fail
    refine HSM.out.mono ?_
    rintro e V7 ⟨rfl,hy⟩
    have HB7:=Lib.hid (Ext.trans HB6.out hy)
    clear hy
    go_wp2
    go_ret
    exact ⟨rfl,HB7.out⟩
end Go.Proofs.YtjidhhfabfnhnaaGreat
namespace Go.Proofs.YtjidhhfabfnhnaaGreat
open Go.ChangeShapes Go.WideShapes Go.ChangeAt Go.RowKit Go.Deep
set_option linter.unusedVariables false
set_option maxRecDepth 100000 in
theorem ephemerisForEver_lifted (os : Os) (started : os.Started) (H : Type) (enc : TypeId × Value → H) :
  ReturnsInHanded {} Tryz.checked os 7 .any (Rows.ephemerisForEverSpec.pre6 enc Tryz.prog Tryz.f7 Rows.ephemerisForEverRow.domain false) (Rows.ephemerisForEverSpec.post enc Tryz.prog Tryz.f7 false true false false):=by
 refine returnsInHanded_of_change (C:=Tryz.checked) ownKn started (by kernel_rfl) Tryz.func7
  (ChangeSpec.witness6 (enc:=enc) (C:=Tryz.checked) false ⟨#[],#[.agg #[.slice none 0 0,.slice none 0 0,.slice none 0 0,.slice none 0 0,.int .i64 0,.int .i64 0],.int .i64 0,.int .i64 0,.int .i64 0],[]⟩ 8 (by kernel_rfl) (by kernel_rfl) (by kernel_rfl) (by kernel_rfl)) ?_
 intro W base args ds gs before hval0 hW hcnd _
 have hval : ∀ (j : Nat) t v,Tryz.f7.params[j]? = some t → args[j]? = some v → Value.okWide Tryz.prog W .any base t v:=hval0
 have hW':=hW
 obtain ⟨p,q,hA0,hV,rfl,hfz,hnd⟩:=hW
 have hA : DataW.TrodAll enc Tryz.prog W 0 (fun _ => true) true Tryz.f7.params.toList args.toList ds p:=hA0
 rw [Tryz.params7] at hA hval
 obtain ⟨v0,vs0,d0,ds0,p0,q0,hargs,rfl,rfl,h0,r0⟩:=trodAll_cons hA
 obtain ⟨v1,vs1,d1,ds1,p1,q1,rfl,rfl,rfl,h1,r1⟩:=trodAll_cons r0
 obtain ⟨v2,vs2,d2,ds2,p2,q2,rfl,rfl,rfl,h2,r2⟩:=trodAll_cons r1
 obtain ⟨v3,vs3,d3,ds3,p3,q3,rfl,rfl,rfl,h3,r3⟩:=trodAll_cons r2
 obtain ⟨rfl,rfl,rfl⟩:=trodAll_nil r3
 obtain rfl : args = #[v0,v1,v2,v3]:=by cases args; simp_all
 obtain ⟨rfl,rfl⟩:=trodVars_none hV
 have k0:=h0
 have lt0 : ∀ x ∈ p0,x.block < W.heap.size:=by obtain ⟨m,hm⟩:=k0; exact DataW.trod_lt m _ _ _ hm
 obtain ⟨c0,rfl,o0⟩:=open_Case (hval 0 25 v0 rfl rfl) h0
 obtain ⟨a1,rfl,rfl,rfl,w1⟩:=open_int Tryz.underlying3 (hval 1 3 v1 rfl rfl) h1
 obtain ⟨a2,rfl,rfl,rfl,w2⟩:=open_int Tryz.underlying3 (hval 2 3 v2 rfl rfl) h2
 obtain ⟨a3,rfl,rfl,rfl,w3⟩:=open_int Tryz.underlying3 (hval 3 3 v3 rfl rfl) h3
 clear hA0 hval0
 refine (forever_walk c0 a1 a2 a3 W o0 (i64_of_wf w1) (i64_of_wf w2) (i64_of_wf w3)).mono fun e W' ⟨he,bel⟩ => ?_
 subst he
 exact ⟨_,rfl,_,_,_,[],_,[],hW',trodAll_mk1 (shut_bool Tryz.underlying4 _),(trodAll_cons_mk (Below.trod laidOut (by kernel_rfl) (of_decide_eq_true (by kernel_rfl)) k0 bel lt0) (trodAll_cons_mk (shut_int Tryz.underlying3 w1) (trodAll_cons_mk (shut_int Tryz.underlying3 w2) (trodAll_cons_mk (shut_int Tryz.underlying3 w3) trodAll_mk0)))),rfl,bel.frame _,fun h => by cases h⟩
theorem ephemerisForEver_over : Rows.ephemerisForEverRow.holds Tryz.pinned (OpenSpec.ofChange Rows.ephemerisForEverSpec) :=
 OpenClaim.holds_of_wide 7 Tryz.f7 rfl rfl rfl rfl rfl rfl rfl ⟨rfl,rfl,rfl,rfl,rfl⟩ rfl rfl rfl rfl rfl (by kernel_rfl) Tryz.func7 (by kernel_rfl)
  (of_decide_eq_true (by kernel_rfl)) (by unfold Func.isWrapper; first | (rw [if_pos (by decide +kernel)]; kernel_rfl) | (rw [if_neg (by decide +kernel)]; exact ⟨rfl,rfl⟩))
  (fun os started H enc _ => ephemerisForEver_lifted os started H enc)
theorem ephemerisForEver_proved : Rows.EphemerisForEverSaid:=ephemerisForEver_over
end Go.Proofs.YtjidhhfabfnhnaaGreat
