/- The law EphemerisStretches of the ephemeris layer: for every input the call returns true and each argument reads afterwards as it read before: stretches divide the span; in each minute, the orbit is that of the stretch; and two that follow each other have different orbits. No condition. -/
import Derived.Test.YtjidhhfabfnhnaaGreatK29
namespace Go.Proofs.YtjidhhfabfnhnaaGreat
open Go.RowKit
attribute [local go_sem] Oper.semAt_some
set_option maxRecDepth 100000 in
set_option maxHeartbeats 8000000 in
theorem stretches_walk (c : Cas) (which known : Int) (w : World) (hc : CasR w c) (bw : I64ok which) (bk : I64ok known) :
  Calls Tryz.prog 8 #[casV c,.int .i64 which,.int .i64 known] w (Tru w):=by
 have HMD : Hid (∀ W,Ext w W → Calls Tryz.prog 11 #[.agg #[.slice c.xa c.xn c.xc,.slice c.ya c.yn c.yc,.slice c.za c.zn c.zc,.slice c.ua c.un c.uc,.int .i64 c.fr,.int .i64 c.lo]] W (MadRet c W)):=Lib.hid (fun W hx => made36_any c W (hc.ext hx))
 have hfb:=frC_bd c
 have heb:=endC_bd c
 obtain ⟨S,hS⟩ : ∃ S,S = satsC c:=⟨_,rfl⟩
 obtain ⟨ST,hST⟩ : ∃ S,S = stnsC c:=⟨_,rfl⟩
 obtain ⟨US,hUS⟩ : ∃ S,S = updsC c:=⟨_,rfl⟩
 obtain ⟨f0,hf0⟩ : ∃ S,S = frC c:=⟨_,rfl⟩
 obtain ⟨e0,he0⟩ : ∃ S,S = endC c:=⟨_,rfl⟩
 rw [← hf0] at hfb heb
 rw [← he0] at heb
 obtain ⟨hfb1,hfb2⟩:=hfb
 obtain ⟨heb1,heb2⟩:=heb
 have hmr : ∀ W e W',MadRet c W e W' → ∃ A1 n1 c1 A2 n2 c2 A3 n3 c3,e = .returned (.tuple #[.slice A1 n1 c1,.slice A2 n2 c2,.slice A3 n3 c3,.agg #[.int .i64 f0,.int .i64 e0]]) ∧ RA satCells 21 W' W'.heap.size A1 n1 c1 S ∧ RA stnCells 6 W' W'.heap.size A2 n2 c2 ST ∧ RA updCells 10 W' W'.heap.size A3 n3 c3 US ∧ (A3 = none → n3 = 0 ∧ c3 = 0) ∧ Ext W W':=by rw [hS,hST,hUS,hf0,he0]; exact fun _ _ _ h => h
 have HMR:=Lib.hid hmr
 have HS:=Lib.hid hS
 have HST:=Lib.hid hST
 have HUS:=Lib.hid hUS
 have HF0:=Lib.hid hf0
 have HE0:=Lib.hid he0
 clear hmr hS hST hUS hf0 he0
 unfold casV
 go_enter Tryz.func8,Tryz.ntmps8
 go_wp2_with fail
 have HB0 : Ext w (w.alloc (.cells #[.slice c.xa c.xn c.xc,.slice c.ya c.yn c.yc,.slice c.za c.zn c.zc,.slice c.ua c.un c.uc,.int .i64 c.fr,.int .i64 c.lo] 25)):=bl_alloc (Below.refl _ _) _
 have JC : Blk (w.alloc (.cells #[.slice c.xa c.xn c.xc,.slice c.ya c.yn c.yc,.slice c.za c.zn c.zc,.slice c.ua c.un c.uc,.int .i64 c.fr,.int .i64 c.lo] 25)) w.heap.size 25 #[.slice c.xa c.xn c.xc,.slice c.ya c.yn c.yc,.slice c.za c.zn c.zc,.slice c.ua c.un c.uc,.int .i64 c.fr,.int .i64 c.lo]:=Blk.new _ _ _
 obtain ⟨gc,hg⟩ : ∃ g,g = w.heap.size:=⟨_,rfl⟩
 rw [← hg] at JC ⊢
 clear hg
 generalize w.alloc (.cells #[.slice c.xa c.xn c.xc,.slice c.ya c.yn c.yc,.slice c.za c.zn c.zc,.slice c.ua c.un c.uc,.int .i64 c.fr,.int .i64 c.lo] 25) = W0 at JC HB0 ⊢
 refine (sane36_any _).mono ?_
 rintro e W1 ⟨rfl,hx⟩
 have hB:=HB0
 clear HB0
 have JC:=JC.ext hx
 have hB:=Ext.trans hB hx
 clear hx
 have k0 : W1.cell? ⟨gc,0,none⟩ = some (.slice c.xa c.xn c.xc):=JC.cell 0
 have k1 : W1.cell? ⟨gc,1,none⟩ = some (.slice c.ya c.yn c.yc):=JC.cell 1
 have k2 : W1.cell? ⟨gc,2,none⟩ = some (.slice c.za c.zn c.zc):=JC.cell 2
 have k3 : W1.cell? ⟨gc,3,none⟩ = some (.slice c.ua c.un c.uc):=JC.cell 3
 have k4 : W1.cell? ⟨gc,4,none⟩ = some (.int .i64 c.fr):=JC.cell 4
 have k5 : W1.cell? ⟨gc,5,none⟩ = some (.int .i64 c.lo):=JC.cell 5
 go_wp2_with fail
 refine (HMD.out _ hB).mono ?_
 intro e W2 hm
 obtain ⟨A1,n1,c1,A2,n2,c2,A3,n3,c3,rfl,RS,RT,RU,hnil,hx⟩:=HMR.out _ _ _ hm
 clear hm k0 k1 k2 k3 k4 k5
 have HNIL:=Lib.hid hnil
 clear hnil
 have JC:=JC.ext hx
 have hB:=Ext.trans hB hx
 clear hx
 clear JC
 go_upto_region 4 with (fail)
 have hx : Ext W2 (W2.alloc (.cells #[.int .i64 f0,.int .i64 e0] 32)):=bl_alloc (Below.refl _ _) _
 have JS : Blk (W2.alloc (.cells #[.int .i64 f0,.int .i64 e0] 32)) W2.heap.size 32 #[.int .i64 f0,.int .i64 e0]:=Blk.new _ _ _
 obtain ⟨gs,hg⟩ : ∃ g,g = W2.heap.size:=⟨_,rfl⟩
 rw [← hg] at JS ⊢
 clear hg
 generalize W2.alloc (.cells #[.int .i64 f0,.int .i64 e0] 32) = W3 at JS hx ⊢
 have hB:=Ext.trans hB hx
 have RS:=ra_ext RS hx
 have RT:=ra_ext RT hx
 have RU:=ra_ext RU hx
 clear hx
 have hn1 : n1 ≤ 2:=by have h1:=RS.len; have h2:=satsC_len c; rw [← HS.out] at h2; omega
 have hn3 : n3 ≤ 6:=by have h1:=RU.len; have h2:=updsP_len (satsC c) (frC c) c.u; rw [HUS.out] at h1; unfold updsC at h1; omega
 by_cases h0 : n1 = 0
 ·have h0i : ((n1 : Int) == 0) = true:=by simp; omega
  clear RS RT RU JS
  have HB:=Lib.hid hB
  clear hB h0
  go_wp2
  go_ret
  exact ⟨rfl,HB.out⟩
 have h0i : ((n1 : Int) == 0) = false:=by simp; omega
 have P1:=fun w => lpick36_any which n1 w bw.1 bw.2 (by omega) (by omega)
 have q1:=pickI_bd which n1 (by omega)
 generalize pickI which n1 = p1 at P1 q1
 obtain ⟨q1a,q1b⟩:=q1
 obtain ⟨i0,rfl⟩:=Int.eq_ofNat_of_zero_le q1a
 have hi0 : i0 < n1:=by omega
 have HP1:=Lib.hid P1
 clear P1 q1a q1b
 have P2:=fun w => lpick36_any known 300 w bk.1 bk.2 (by omega) (by omega)
 have q2:=pickI_bd known 300 (by omega)
 generalize pickI known 300 = p2 at P2 q2
 obtain ⟨q2a,q2b⟩:=q2
 have HP2:=Lib.hid P2
 clear P2
 obtain ⟨bs,os,hzs,hAs,hbs,hcs⟩:=RA.range sat_len RS hi0
 have hsm : S[i0] ∈ satsC c:=by rw [← HS.out]; exact List.getElem_mem _
 have hval:=validS_C c _ hsm
 generalize S[i0] = s at hcs hval
 rw [← HUS.out] at hval
 clear hsm hzs
 subst hAs
 obtain ⟨SX,hSX⟩ : ∃ X,(satCells s).toArray = X:=⟨_,rfl⟩
 have HSX:=Lib.hid hSX
 have HS2 : Hid (SX.size = 21):=Lib.hid (by rw [← hSX]; rfl)
 have HS1 : Hid (SX.all (·.oneCell') = true):=Lib.hid (by rw [← hSX]; exact sat_one _)
 have HCS:=Lib.hid hcs
 clear hSX hcs RT
 go_upto_region 6 with (fail)
 go_upto_region 7 with (first | ((with_reducible refine (HP1.out _).mono ?_); rintro e w2 ⟨rfl,rfl⟩) | (refine wpList_load_st rfl _ _ rfl bs (os + i0 * 21) rfl SX (satCells s) HSX.out _ HCS.out Tryz.underlying53 rfl sat_size ?_) | (refine wpList_store_new rfl 53 _ _ rfl _ SX rfl rfl (by rw [HS2.out]; exact sat_size) (by rw [HS2.out]; rfl) HS1.out ?_))
 dsimp only [Act.put]
 have hx : Ext W3 (W3.alloc (.cells SX 53)):=bl_alloc (Below.refl _ _) _
 have JB : Blk (W3.alloc (.cells SX 53)) W3.heap.size 53 SX:=Blk.new _ _ _
 obtain ⟨gb,hg⟩ : ∃ g,g = W3.heap.size:=⟨_,rfl⟩
 rw [← hg] at JB ⊢
 clear hg
 generalize W3.alloc (.cells SX 53) = W4 at JB hx ⊢
 have hB:=Ext.trans hB hx
 have RS:=ra_ext RS hx
 have RU:=ra_ext RU hx
 have JS:=JS.ext hx
 clear hx
 clear HCS
 have s0 : W4.cell? ⟨gs,0,none⟩ = some (.int .i64 f0):=JS.cell 0
 have u1_ : IntKind.i64.wrap (f0 + p2) = f0 + p2:=IntWalk.i64_in _ (by omega)
 refine wp_region_obl 5 (fun ix vals v w1 => match ix with | 0 => v = .pointer (some ⟨gs,0,none⟩) | 1 => v = .int .i64 f0 | 2 => v = .int .i64 known | 3 => v = .int .i64 p2 | _ => v = .int .i64 (f0 + p2)) (by kernel_rfl) (by kernel_rfl) ?_ ?_ ?_ ?_
 ·intro ix vals v w1 w2 hi hr hx; exact hr
 ·intro ix vals vals_ v w1 hi hv hr
  exact hr
 ·refine ⟨?_,?_,?_,?_,?_,trivial⟩
  ·intro vals w1 hx hd ha
   clear hd ha
   simp only [Lf]
   go_wp2
   exact q_
  ·intro vals w1 hx hd ha
   have e0 : vals 0 = .pointer (some ⟨gs,0,none⟩):=hd 0 (by decide)
   clear hd ha
   simp only [Lf,dstAt,Act.put,FR_,e0]
   clear e0
   have s0:=ext_cell hx s0
   go_wp2
   exact q_
  ·intro vals w1 hx hd ha
   clear hd ha
   simp only [Lf,dstAt,Act.put,FR_]
   go_wp2
   exact q_
  ·intro vals w1 hx hd ha
   have e2 : vals 2 = .int .i64 known:=hd 2 (by decide)
   clear hd ha
   simp only [Lf,dstAt,Act.put,FR_,e2]
   clear e2
   go_wp2_with fail
   refine (HP2.out _).mono ?_
   rintro e w2 ⟨rfl,rfl⟩
   go_wp2
   exact q_
  ·intro vals w1 hx hd ha
   have e1 : vals 1 = .int .i64 f0:=hd 1 (by decide)
   have e3 : vals 3 = .int .i64 p2:=hd 3 (by decide)
   clear hd ha
   simp only [Lf,dstAt,Act.put,FR_,e1,e3]
   clear e1 e3
   go_wp2
   exact q_
 intro vals W5 hx hf
 have e4 : vals 4 = .int .i64 (f0 + p2):=hf 4 (by omega)
 have hx:=hx.undrew
 clear hf s0 u1_
 have hB:=Ext.trans hB hx
 have RS:=ra_ext RS hx
 have RU:=ra_ext RU hx
 have JS:=JS.ext hx
 have JB:=JB.ext hx
 clear hx
 refine tail1 5 _ (by kernel_rfl) (by kernel_rfl) rfl ?_
 simp only [Lf,dstAt,Act.put,FR_]
 rw [e4]
 clear e4
 obtain ⟨kk,hkk⟩ : ∃ k,k = f0 + p2:=⟨_,rfl⟩
 rw [← hkk]
 clear hkk
 obtain ⟨parts,hparts⟩ : ∃ l,l = strE s US ⟨f0,e0⟩ kk:=⟨_,rfl⟩
 have HSP : Hid (∀ W,Ext W5 W → Calls Tryz.prog 27 #[.agg SX,.slice A3 n3 c3,.agg #[.int .i64 f0,.int .i64 e0],.int .i64 kk] W (StrRet (some parts) W)):=Lib.hid (fun W hx => by
  have h:=stretches_any s US A3 n3 c3 f0 e0 kk W (ra_ext RU hx) (by omega)
  rw [show stretchesE s US ⟨f0,e0⟩ kk = some parts by rw [stretchesE,if_pos (by rw [hval,show spanE ⟨f0,e0⟩ = true by simp [spanE]; omega]; rfl),hparts],HSX.out] at h
  exact h)
 have hch : Chn (orbE s US kk) f0 parts e0:=by
  have h:=str_chn (orbE s US kk) (e0 - f0).toNat f0
  rw [show f0 + ((e0 - f0).toNat : Int) = e0 by omega] at h
  rw [hparts]
  exact h
 have hpl : parts.length ≤ 200:=by
  have h : (strE s US ⟨f0,e0⟩ kk).length ≤ (e0 - f0).toNat:=str_len _ _ _
  rw [hparts]
  omega
 have HOR : Hid (∀ W u,Ext W5 W → f0 ≤ u → u < e0 → Calls Tryz.prog 17 #[.agg SX,.slice A3 n3 c3,.int .i64 u,.int .i64 kk] W fun e w' => e = .returned (.tuple #[.agg (orbCells (orbE s US kk u)).toArray,.int .i64 0]) ∧ Ext W w'):=Lib.hid (fun W u hx h1 h2 => by
  have h:=orbit_any s US A3 n3 c3 u kk W (ra_ext RU hx) (by omega)
  rw [show orbitE s US u kk = some (orbE s US kk u) by rw [orbitE,if_pos (by rw [hval,show inB u 0 1000000 = true by simp [inB]; omega]; rfl)],HSX.out] at h
  exact h)
 have HEX : Hid (Ext W5 W5):=Lib.hid (Below.refl _ _)
 have HCH:=Lib.hid hch
 have hne:=fun k (h : k + 1 < parts.length) => chn_ne hch k h
 have HNE:=Lib.hid hne
 generalize orbE s US kk = F at HOR HCH
 clear hch hne hparts hval RS RU
 have t0 : W5.cell? ⟨gs,0,none⟩ = some (.int .i64 f0):=JS.cell 0
 have t1 : W5.cell? ⟨gs,1,none⟩ = some (.int .i64 e0):=JS.cell 1
 go_wp2_with (refine wpList_load_st rfl 53 _ rfl gb 0 rfl SX SX.toList (by simp) _ (Blk.range JB _ rfl) Tryz.underlying53 rfl (by rw [Array.length_toList,HS2.out]; exact sat_size) ?_)
 refine (HSP.out _ HEX.out).mono ?_
 rintro e W6 ⟨⟨v13,rfl,hown⟩,hx⟩
 have HEX2:=Lib.hid hx
 clear t0 t1
 have hB:=Ext.trans hB hx
 have JS:=JS.ext hx
 have JB:=JB.ext hx
 clear hx
 obtain ⟨PA,pc,hv,_,_⟩:=own_slice hown
 subst hv
 have RP:=RA.of_own hown rfl (by omega)
 obtain ⟨n,hn⟩ : ∃ n,n = parts.length:=⟨_,rfl⟩
 rw [← hn] at RP ⊢
 have hnl : n ≤ 200:=by omega
 have HN:=Lib.hid hn
 clear hn hown hpl
 have s0 : W6.cell? ⟨gs,0,none⟩ = some (.int .i64 f0):=JS.cell 0
 have HJS:=Lib.hid JS
 have HJB:=Lib.hid JB
 have HRP:=Lib.hid RP
 have HB:=Lib.hid hB
 clear JS JB RP hB
 go_wp2
 go_loopw [15,16] (fun nx i wr => ∃ (k : Nat) (a : Int),k ≤ n ∧ nx = .int .i64 a ∧ i = .int .i64 k ∧ f0 ≤ a ∧ a ≤ e0 ∧ Hid (Chn F a (parts.drop k) e0) ∧ Ext W6 wr) (fun _ i _ => n - (intOf i).toNat)
 case atStart => exact ⟨0,f0,Nat.zero_le _,rfl,rfl,by omega,by omega,HCH,Below.refl _ _⟩
 case round =>
  obtain ⟨k,a,hk,rfl,rfl,ha1,ha2,HC,hX⟩:=hrel
  by_cases hkn : k < n
  ·have hkz : (k : Int) < (n : Int):=by omega
   obtain ⟨bp,op,hzp,hAp,hbp,hcp⟩:=(HRP.out.below hX).at_ str_len_ hkn
   subst hAp
   have hC:=HC.out
   rw [List.drop_eq_getElem_cons hzp] at hC
   have hne : ∀ j,k = j + 1 → ∃ h : j < parts.length,parts[j].orb ≠ parts[k].orb:=by
    rintro j rfl
    exact ⟨by omega,HNE.out j hzp⟩
   generalize parts[k] = x at hcp hC hne
   obtain ⟨⟨xf,xt⟩,⟨pe,ph,lo,hi,no,tu,sl⟩⟩:=x
   obtain ⟨d1,d2,d3,d4,d5,d6⟩:=hC
   dsimp only at d1 d2 d3 d4 d5 d6
   obtain rfl : xf = a:=d1
   have c0 : wr.cell? ⟨bp,op + k * 9,none⟩ = some (.int .i64 xf):=hcp 0 (by simp)
   have c1 : wr.cell? ⟨bp,op + k * 9 + 1,none⟩ = some (.int .i64 xt):=hcp 1 (by simp)
   have c2 : wr.cell? ⟨bp,op + k * 9 + 2,none⟩ = some (.int .i64 pe):=hcp 2 (by simp)
   have c3 : wr.cell? ⟨bp,op + k * 9 + 3,none⟩ = some (.int .i64 ph):=hcp 3 (by simp)
   have c4 : wr.cell? ⟨bp,op + k * 9 + 4,none⟩ = some (.int .i64 lo):=hcp 4 (by simp)
   have c5 : wr.cell? ⟨bp,op + k * 9 + 5,none⟩ = some (.int .i64 hi):=hcp 5 (by simp)
   have c6 : wr.cell? ⟨bp,op + k * 9 + 6,none⟩ = some (.int .i64 no):=hcp 6 (by simp)
   have c7 : wr.cell? ⟨bp,op + k * 9 + 7,none⟩ = some (.int .i64 tu):=hcp 7 (by simp)
   have c8 : wr.cell? ⟨bp,op + k * 9 + 8,none⟩ = some (.int .i64 sl):=hcp 8 (by simp)
   clear hcp hzp
   have HD4:=Lib.hid d4
   have HC2:=Lib.hid d6
   have HNEX:=Lib.hid hne
   clear d4 d5 d6 hne HC
   go_upto_region 16 with (fail)
   have hx : Ext wr (wr.alloc (.cells #[.int .i64 xf,.int .i64 xt,.int .i64 pe,.int .i64 ph,.int .i64 lo,.int .i64 hi,.int .i64 no,.int .i64 tu,.int .i64 sl] 96)):=bl_alloc (Below.refl _ _) _
   have JX : Blk (wr.alloc (.cells #[.int .i64 xf,.int .i64 xt,.int .i64 pe,.int .i64 ph,.int .i64 lo,.int .i64 hi,.int .i64 no,.int .i64 tu,.int .i64 sl] 96)) wr.heap.size 96 #[.int .i64 xf,.int .i64 xt,.int .i64 pe,.int .i64 ph,.int .i64 lo,.int .i64 hi,.int .i64 no,.int .i64 tu,.int .i64 sl]:=Blk.new _ _ _
   obtain ⟨gx,hg⟩ : ∃ g,g = wr.heap.size:=⟨_,rfl⟩
   rw [← hg] at JX ⊢
   clear hg
   generalize wr.alloc (.cells #[.int .i64 xf,.int .i64 xt,.int .i64 pe,.int .i64 ph,.int .i64 lo,.int .i64 hi,.int .i64 no,.int .i64 tu,.int .i64 sl] 96) = V at JX hx ⊢
   have hX:=Ext.trans hX hx
   clear c0 c1 c2 c3 c4 c5 c6 c7 c8 hx
   have HXV:=Lib.hid hX
   have HJX:=Lib.hid JX
   have x0 : V.cell? ⟨gx,0,none⟩ = some (.int .i64 xf):=JX.cell 0
   have x1 : V.cell? ⟨gx,1,none⟩ = some (.int .i64 xt):=JX.cell 1
   have x2 : V.cell? ⟨gx,2,none⟩ = some (.int .i64 pe):=JX.cell 2
   have x3 : V.cell? ⟨gx,3,none⟩ = some (.int .i64 ph):=JX.cell 3
   have x4 : V.cell? ⟨gx,4,none⟩ = some (.int .i64 lo):=JX.cell 4
   have x5 : V.cell? ⟨gx,5,none⟩ = some (.int .i64 hi):=JX.cell 5
   have x6 : V.cell? ⟨gx,6,none⟩ = some (.int .i64 no):=JX.cell 6
   have x7 : V.cell? ⟨gx,7,none⟩ = some (.int .i64 tu):=JX.cell 7
   have x8 : V.cell? ⟨gx,8,none⟩ = some (.int .i64 sl):=JX.cell 8
   have s1 : V.cell? ⟨gs,1,none⟩ = some (.int .i64 e0):=(HJS.out.ext hX).cell 1
   have n1_ : (xf != xf) = false:=by simp
   have n2_ : ¬ xt ≤ xf:=by omega
   have n3_ : ¬ e0 < xt:=by omega
   have HJX2:=HJX
   clear JX hX
   by_cases hk0 : (0 : Int) < (k : Int)
   ·obtain ⟨j,hj0⟩ : ∃ j,k = j + 1:=⟨k - 1,by omega⟩
    obtain ⟨hj,hn_⟩:=HNEX.out j hj0
    obtain ⟨bq,oq,hzq,hAq,hbq,hcq⟩:=(HRP.out.below HXV.out).at_ str_len_ (k:=j) (by omega)
    injection hAq with hAq
    injection hAq with h1 h2
    subst h1 h2
    generalize parts[j] = y at hcq hn_
    obtain ⟨⟨yf,yt⟩,⟨qpe,qph,qlo,qhi,qno,qtu,qsl⟩⟩:=y
    dsimp only at hn_
    have m2 : V.cell? ⟨bp,op + j * 9 + 2,none⟩ = some (.int .i64 qpe):=hcq 2 (by simp)
    have m3 : V.cell? ⟨bp,op + j * 9 + 3,none⟩ = some (.int .i64 qph):=hcq 3 (by simp)
    have m4 : V.cell? ⟨bp,op + j * 9 + 4,none⟩ = some (.int .i64 qlo):=hcq 4 (by simp)
    have m5 : V.cell? ⟨bp,op + j * 9 + 5,none⟩ = some (.int .i64 qhi):=hcq 5 (by simp)
    have m6 : V.cell? ⟨bp,op + j * 9 + 6,none⟩ = some (.int .i64 qno):=hcq 6 (by simp)
    have m7 : V.cell? ⟨bp,op + j * 9 + 7,none⟩ = some (.int .i64 qtu):=hcq 7 (by simp)
    have m8 : V.cell? ⟨bp,op + j * 9 + 8,none⟩ = some (.int .i64 qsl):=hcq 8 (by simp)
    have HEQ : Hid (∀ w : World,(binOp .eql 51 (.agg #[.int .i64 pe,.int .i64 ph,.int .i64 lo,.int .i64 hi,.int .i64 no,.int .i64 tu,.int .i64 sl]) (.agg #[.int .i64 qpe,.int .i64 qph,.int .i64 qlo,.int .i64 qhi,.int .i64 qno,.int .i64 qtu,.int .i64 qsl])).run Tryz.prog w = .ok (.bool false) w):=Lib.hid (fun w => by have h:=eq_orb ⟨pe,ph,lo,hi,no,tu,sl⟩ ⟨qpe,qph,qlo,qhi,qno,qtu,qsl⟩ w; rw [decide_eq_false (fun e => hn_ e.symm)] at h; exact h)
    have HWJ : Hid (IntKind.i64.wrap ((k : Int) - 1) = (j : Int)):=Lib.hid (by rw [hj0]; rw [show (((j + 1 : Nat) : Int) - 1) = (j : Int) by omega]; exact IntWalk.i64_in _ (by omega))
    have hjn : j < n:=by omega
    clear hcq hzq HNEX hn_ hj hj0
    refine wp_region_obl 35 (fun ix vals v w1 => match ix with | 0 => v = .pointer (some ⟨gx,0,none⟩) | 1 => v = .pointer (some ⟨gx,0,none⟩) | 2 => v = .int .i64 xf | 3 => v = .int .i64 xf | 4 => v = .bool false | 5 => v = .bool false | 6 => v = .pointer (some ⟨gx,0,none⟩) | 7 => v = .pointer (some ⟨gx,1,none⟩) | 8 => v = .int .i64 xt | 9 => v = .int .i64 xf | 10 => v = .bool false | 11 => v = .bool false | 12 => v = .bool false | 13 => v = .pointer (some ⟨gx,0,none⟩) | 14 => v = .pointer (some ⟨gx,1,none⟩) | 15 => v = .int .i64 xt | 16 => v = .pointer (some ⟨gs,1,none⟩) | 17 => v = .int .i64 e0 | 18 => v = .bool false | 19 => v = .bool false | 20 => v = .bool false | 21 => v = .int .i64 (k : Int) | 22 => v = .bool true | 23 => v = .bool true | 24 => v = .pointer (some ⟨gx,2,none⟩) | 25 => v = .agg #[.int .i64 pe,.int .i64 ph,.int .i64 lo,.int .i64 hi,.int .i64 no,.int .i64 tu,.int .i64 sl] | 26 => v = .slice (some ⟨bp,op,none⟩) n pc | 27 => v = .int .i64 (k : Int) | 28 => v = .int .i64 (j : Int) | 29 => v = .pointer (some ⟨bp,op + j * 9,none⟩) | 30 => v = .pointer (some ⟨bp,op + j * 9 + 2,none⟩) | 31 => v = .agg #[.int .i64 qpe,.int .i64 qph,.int .i64 qlo,.int .i64 qhi,.int .i64 qno,.int .i64 qtu,.int .i64 qsl] | 32 => v = .bool false | 33 => v = .bool false | _ => v = .bool false) (by kernel_rfl) (by kernel_rfl) ?_ ?_ ?_ ?_
    ·intro ix vals v w1 w2 hi hr hx; exact hr
    ·intro ix vals vals_ v w1 hi hv hr
     exact hr
    ·refine obls_ofT [some 67,some 68,some 69,some 70,some 71,some 72,some 73,some 74,some 75,some 76,some 77,some 78,some 79,some 80,some 81,some 82,some 83,some 84,some 85,some 86,some 87,some 88,some 89,some 90,some 91,some 92,some 93,some 94,some 95,some 96,some 97,some 98,some 99,some 100,some 101] [(17,.pointer (some ⟨gx,0,none⟩)),(15,.int .i64 xf),(10,.pointer (some ⟨gs,0,none⟩)),(16,.int .i64 (k : Int)),(13,.slice (some ⟨bp,op,none⟩) n pc)] 135 (by kernel_rfl) (by kernel_rfl) ⟨by kernel_rfl,by kernel_rfl,by kernel_rfl,by kernel_rfl,by kernel_rfl,trivial⟩ ?_
     refine ⟨?_,?_,?_,?_,?_,?_,?_,?_,?_,?_,?_,?_,?_,?_,?_,?_,?_,?_,?_,?_,?_,?_,?_,?_,?_,?_,?_,?_,?_,?_,?_,?_,?_,?_,?_,trivial⟩
     ·intro vals w1 hx hd
      refine .r [(17,.pointer (some ⟨gx,0,none⟩))] (Op.fieldAddr 96 (Operand.const (.pointer (some ⟨gx,0,none⟩))) 0) 0 67 ⟨.out (by kernel_rfl) (by kernel_rfl),trivial⟩ ?_
      clear hd
      go_wp2
      exact q_
     ·intro vals w1 hx hd
      refine .r [(67,.pointer (some ⟨gx,0,none⟩))] (Op.fieldAddr 32 (Operand.const (.pointer (some ⟨gx,0,none⟩))) 0) 0 68 ⟨.inn 0 (by kernel_rfl) (hd 0 (by decide)),trivial⟩ ?_
      clear hd
      go_wp2
      exact q_
     ·intro vals w1 hx hd
      refine .r [(68,.pointer (some ⟨gx,0,none⟩))] (Op.load 3 (Operand.const (.pointer (some ⟨gx,0,none⟩)))) 3 69 ⟨.inn 1 (by kernel_rfl) (hd 1 (by decide)),trivial⟩ ?_
      clear hd
      have x0:=ext_cell hx x0
      go_wp2
      exact q_
     ·intro vals w1 hx hd
      refine .r [(15,.int .i64 xf)] (Op.move (Operand.const (.int .i64 xf))) 3 70 ⟨.out (by kernel_rfl) (by kernel_rfl),trivial⟩ ?_
      clear hd
      go_wp2
      exact q_
     ·intro vals w1 hx hd
      refine .r [(69,.int .i64 xf),(70,.int .i64 xf)] (Op.binOp BinOp.neq 3 (Operand.const (.int .i64 xf)) (Operand.const (.int .i64 xf)) 3) 4 71 ⟨.inn 2 (by kernel_rfl) (hd 2 (by decide)),.inn 3 (by kernel_rfl) (hd 3 (by decide)),trivial⟩ ?_
      clear hd
      go_wp2
      exact q_
     ·intro vals w1 hx hd
      refine .r [(71,.bool false)] (Op.move (Operand.const (.bool false))) 4 72 ⟨.inn 4 (by kernel_rfl) (hd 4 (by decide)),trivial⟩ ?_
      clear hd
      go_wp2
      exact q_
     ·intro vals w1 hx hd
      refine .r [(17,.pointer (some ⟨gx,0,none⟩)),(72,.bool false)] (Op.fieldAddr 96 (Operand.const (.pointer (some ⟨gx,0,none⟩))) 0) 0 73 ⟨.out (by kernel_rfl) (by kernel_rfl),.inn 5 (by kernel_rfl) (hd 5 (by decide)),trivial⟩ ?_
      clear hd
      go_wp2
      exact q_
     ·intro vals w1 hx hd
      refine .r [(73,.pointer (some ⟨gx,0,none⟩)),(72,.bool false)] (Op.fieldAddr 32 (Operand.const (.pointer (some ⟨gx,0,none⟩))) 1) 0 74 ⟨.inn 6 (by kernel_rfl) (hd 6 (by decide)),.inn 5 (by kernel_rfl) (hd 5 (by decide)),trivial⟩ ?_
      clear hd
      go_wp2
      exact q_
     ·intro vals w1 hx hd
      refine .r [(74,.pointer (some ⟨gx,1,none⟩)),(72,.bool false)] (Op.load 3 (Operand.const (.pointer (some ⟨gx,1,none⟩)))) 3 75 ⟨.inn 7 (by kernel_rfl) (hd 7 (by decide)),.inn 5 (by kernel_rfl) (hd 5 (by decide)),trivial⟩ ?_
      clear hd
      have x1:=ext_cell hx x1
      go_wp2
      exact q_
     ·intro vals w1 hx hd
      refine .r [(15,.int .i64 xf),(72,.bool false)] (Op.move (Operand.const (.int .i64 xf))) 3 76 ⟨.out (by kernel_rfl) (by kernel_rfl),.inn 5 (by kernel_rfl) (hd 5 (by decide)),trivial⟩ ?_
      clear hd
      go_wp2
      exact q_
     ·intro vals w1 hx hd
      refine .r [(75,.int .i64 xt),(76,.int .i64 xf),(72,.bool false)] (Op.binOp BinOp.leq 3 (Operand.const (.int .i64 xt)) (Operand.const (.int .i64 xf)) 3) 4 77 ⟨.inn 8 (by kernel_rfl) (hd 8 (by decide)),.inn 9 (by kernel_rfl) (hd 9 (by decide)),.inn 5 (by kernel_rfl) (hd 5 (by decide)),trivial⟩ ?_
      clear hd
      go_wp2
      exact q_
     ·intro vals w1 hx hd
      refine .r [(72,.bool false),(77,.bool false)] (Op.pick (Operand.const (.bool false)) (Operand.const (Value.bool true)) (Operand.const (.bool false))) 4 78 ⟨.inn 5 (by kernel_rfl) (hd 5 (by decide)),.inn 10 (by kernel_rfl) (hd 10 (by decide)),trivial⟩ ?_
      clear hd
      go_wp2
      exact q_
     ·intro vals w1 hx hd
      refine .r [(78,.bool false)] (Op.move (Operand.const (.bool false))) 4 79 ⟨.inn 11 (by kernel_rfl) (hd 11 (by decide)),trivial⟩ ?_
      clear hd
      go_wp2
      exact q_
     ·intro vals w1 hx hd
      refine .r [(17,.pointer (some ⟨gx,0,none⟩)),(79,.bool false)] (Op.fieldAddr 96 (Operand.const (.pointer (some ⟨gx,0,none⟩))) 0) 0 80 ⟨.out (by kernel_rfl) (by kernel_rfl),.inn 12 (by kernel_rfl) (hd 12 (by decide)),trivial⟩ ?_
      clear hd
      go_wp2
      exact q_
     ·intro vals w1 hx hd
      refine .r [(80,.pointer (some ⟨gx,0,none⟩)),(79,.bool false)] (Op.fieldAddr 32 (Operand.const (.pointer (some ⟨gx,0,none⟩))) 1) 0 81 ⟨.inn 13 (by kernel_rfl) (hd 13 (by decide)),.inn 12 (by kernel_rfl) (hd 12 (by decide)),trivial⟩ ?_
      clear hd
      go_wp2
      exact q_
     ·intro vals w1 hx hd
      refine .r [(81,.pointer (some ⟨gx,1,none⟩)),(79,.bool false)] (Op.load 3 (Operand.const (.pointer (some ⟨gx,1,none⟩)))) 3 82 ⟨.inn 14 (by kernel_rfl) (hd 14 (by decide)),.inn 12 (by kernel_rfl) (hd 12 (by decide)),trivial⟩ ?_
      clear hd
      have x1:=ext_cell hx x1
      go_wp2
      exact q_
     ·intro vals w1 hx hd
      refine .r [(10,.pointer (some ⟨gs,0,none⟩)),(79,.bool false)] (Op.fieldAddr 32 (Operand.const (.pointer (some ⟨gs,0,none⟩))) 1) 0 83 ⟨.out (by kernel_rfl) (by kernel_rfl),.inn 12 (by kernel_rfl) (hd 12 (by decide)),trivial⟩ ?_
      clear hd
      go_wp2
      exact q_
     ·intro vals w1 hx hd
      refine .r [(83,.pointer (some ⟨gs,1,none⟩)),(79,.bool false)] (Op.load 3 (Operand.const (.pointer (some ⟨gs,1,none⟩)))) 3 84 ⟨.inn 16 (by kernel_rfl) (hd 16 (by decide)),.inn 12 (by kernel_rfl) (hd 12 (by decide)),trivial⟩ ?_
      clear hd
      have s1:=ext_cell hx s1
      go_wp2
      exact q_
     ·intro vals w1 hx hd
      refine .r [(82,.int .i64 xt),(84,.int .i64 e0),(79,.bool false)] (Op.binOp BinOp.gtr 3 (Operand.const (.int .i64 xt)) (Operand.const (.int .i64 e0)) 3) 4 85 ⟨.inn 15 (by kernel_rfl) (hd 15 (by decide)),.inn 17 (by kernel_rfl) (hd 17 (by decide)),.inn 12 (by kernel_rfl) (hd 12 (by decide)),trivial⟩ ?_
      clear hd
      go_wp2
      exact q_
     ·intro vals w1 hx hd
      refine .r [(79,.bool false),(85,.bool false)] (Op.pick (Operand.const (.bool false)) (Operand.const (Value.bool true)) (Operand.const (.bool false))) 4 86 ⟨.inn 12 (by kernel_rfl) (hd 12 (by decide)),.inn 18 (by kernel_rfl) (hd 18 (by decide)),trivial⟩ ?_
      clear hd
      go_wp2
      exact q_
     ·intro vals w1 hx hd
      refine .r [(86,.bool false)] (Op.move (Operand.const (.bool false))) 4 87 ⟨.inn 19 (by kernel_rfl) (hd 19 (by decide)),trivial⟩ ?_
      clear hd
      go_wp2
      exact q_
     ·intro vals w1 hx hd
      refine .r [(16,.int .i64 (k : Int)),(87,.bool false)] (Op.move (Operand.const (.int .i64 (k : Int)))) 3 88 ⟨.out (by kernel_rfl) (by kernel_rfl),.inn 20 (by kernel_rfl) (hd 20 (by decide)),trivial⟩ ?_
      clear hd
      go_wp2
      exact q_
     ·intro vals w1 hx hd
      refine .r [(88,.int .i64 (k : Int)),(87,.bool false)] (Op.binOp BinOp.gtr 3 (Operand.const (.int .i64 (k : Int))) (Operand.const (Value.int IntKind.i64 0)) 3) 4 89 ⟨.inn 21 (by kernel_rfl) (hd 21 (by decide)),.inn 20 (by kernel_rfl) (hd 20 (by decide)),trivial⟩ ?_
      clear hd
      have hk1 : decide (0 < k) = true:=by simp; omega
      go_wp2
      exact q_
     ·intro vals w1 hx hd
      refine .r [(89,.bool true),(87,.bool false)] (Op.move (Operand.const (.bool true))) 4 90 ⟨.inn 22 (by kernel_rfl) (hd 22 (by decide)),.inn 20 (by kernel_rfl) (hd 20 (by decide)),trivial⟩ ?_
      clear hd
      go_wp2
      exact q_
     ·intro vals w1 hx hd
      refine .r [(17,.pointer (some ⟨gx,0,none⟩)),(90,.bool true)] (Op.fieldAddr 96 (Operand.const (.pointer (some ⟨gx,0,none⟩))) 1) 0 91 ⟨.out (by kernel_rfl) (by kernel_rfl),.inn 23 (by kernel_rfl) (hd 23 (by decide)),trivial⟩ ?_
      clear hd
      go_wp2
      exact q_
     ·intro vals w1 hx hd
      refine .r [(91,.pointer (some ⟨gx,2,none⟩)),(90,.bool true)] (Op.load 51 (Operand.const (.pointer (some ⟨gx,2,none⟩)))) 51 92 ⟨.inn 24 (by kernel_rfl) (hd 24 (by decide)),.inn 23 (by kernel_rfl) (hd 23 (by decide)),trivial⟩ ?_
      clear hd
      have x2:=ext_cell hx x2
      have x3:=ext_cell hx x3
      have x4:=ext_cell hx x4
      have x5:=ext_cell hx x5
      have x6:=ext_cell hx x6
      have x7:=ext_cell hx x7
      have x8:=ext_cell hx x8
      go_wp2
      exact q_
     ·intro vals w1 hx hd
      refine .r [(13,.slice (some ⟨bp,op,none⟩) n pc),(90,.bool true)] (Op.move (Operand.const (.slice (some ⟨bp,op,none⟩) n pc))) 83 93 ⟨.out (by kernel_rfl) (by kernel_rfl),.inn 23 (by kernel_rfl) (hd 23 (by decide)),trivial⟩ ?_
      clear hd
      go_wp2
      exact q_
     ·intro vals w1 hx hd
      refine .r [(16,.int .i64 (k : Int)),(90,.bool true)] (Op.move (Operand.const (.int .i64 (k : Int)))) 3 94 ⟨.out (by kernel_rfl) (by kernel_rfl),.inn 23 (by kernel_rfl) (hd 23 (by decide)),trivial⟩ ?_
      clear hd
      go_wp2
      exact q_
     ·intro vals w1 hx hd
      refine .r [(94,.int .i64 (k : Int)),(90,.bool true)] (Op.binOp BinOp.sub 3 (Operand.const (.int .i64 (k : Int))) (Operand.const (Value.int IntKind.i64 1)) 3) 3 95 ⟨.inn 27 (by kernel_rfl) (hd 27 (by decide)),.inn 23 (by kernel_rfl) (hd 23 (by decide)),trivial⟩ ?_
      clear hd
      have wj:=HWJ.out
      go_wp2
      exact q_
     ·intro vals w1 hx hd
      refine .r [(93,.slice (some ⟨bp,op,none⟩) n pc),(95,.int .i64 (j : Int)),(90,.bool true)] (Op.indexAddr 83 (Operand.const (.slice (some ⟨bp,op,none⟩) n pc)) (Operand.const (.int .i64 (j : Int)))) 0 96 ⟨.inn 26 (by kernel_rfl) (hd 26 (by decide)),.inn 28 (by kernel_rfl) (hd 28 (by decide)),.inn 23 (by kernel_rfl) (hd 23 (by decide)),trivial⟩ ?_
      clear hd
      go_wp2
      exact q_
     ·intro vals w1 hx hd
      refine .r [(96,.pointer (some ⟨bp,op + j * 9,none⟩)),(90,.bool true)] (Op.fieldAddr 96 (Operand.const (.pointer (some ⟨bp,op + j * 9,none⟩))) 1) 0 97 ⟨.inn 29 (by kernel_rfl) (hd 29 (by decide)),.inn 23 (by kernel_rfl) (hd 23 (by decide)),trivial⟩ ?_
      clear hd
      go_wp2
      exact q_
     ·intro vals w1 hx hd
      refine .r [(97,.pointer (some ⟨bp,op + j * 9 + 2,none⟩)),(90,.bool true)] (Op.load 51 (Operand.const (.pointer (some ⟨bp,op + j * 9 + 2,none⟩)))) 51 98 ⟨.inn 30 (by kernel_rfl) (hd 30 (by decide)),.inn 23 (by kernel_rfl) (hd 23 (by decide)),trivial⟩ ?_
      clear hd
      have m2:=ext_cell hx m2
      have m3:=ext_cell hx m3
      have m4:=ext_cell hx m4
      have m5:=ext_cell hx m5
      have m6:=ext_cell hx m6
      have m7:=ext_cell hx m7
      have m8:=ext_cell hx m8
      go_wp2
      exact q_
     ·intro vals w1 hx hd
      refine .r [(92,.agg #[.int .i64 pe,.int .i64 ph,.int .i64 lo,.int .i64 hi,.int .i64 no,.int .i64 tu,.int .i64 sl]),(98,.agg #[.int .i64 qpe,.int .i64 qph,.int .i64 qlo,.int .i64 qhi,.int .i64 qno,.int .i64 qtu,.int .i64 qsl]),(90,.bool true)] (Op.binOp BinOp.eql 51 (Operand.const (.agg #[.int .i64 pe,.int .i64 ph,.int .i64 lo,.int .i64 hi,.int .i64 no,.int .i64 tu,.int .i64 sl])) (Operand.const (.agg #[.int .i64 qpe,.int .i64 qph,.int .i64 qlo,.int .i64 qhi,.int .i64 qno,.int .i64 qtu,.int .i64 qsl])) 51) 4 99 ⟨.inn 25 (by kernel_rfl) (hd 25 (by decide)),.inn 31 (by kernel_rfl) (hd 31 (by decide)),.inn 23 (by kernel_rfl) (hd 23 (by decide)),trivial⟩ ?_
      clear hd
      have heq:=HEQ.out
      go_wp2
      exact q_
     ·intro vals w1 hx hd
      refine .r [(90,.bool true),(99,.bool false),(87,.bool false)] (Op.pick (Operand.const (.bool true)) (Operand.const (.bool false)) (Operand.const (Value.bool false))) 4 100 ⟨.inn 23 (by kernel_rfl) (hd 23 (by decide)),.inn 32 (by kernel_rfl) (hd 32 (by decide)),.inn 20 (by kernel_rfl) (hd 20 (by decide)),trivial⟩ ?_
      clear hd
      go_wp2
      exact q_
     ·intro vals w1 hx hd
      refine .r [(87,.bool false),(100,.bool false)] (Op.pick (Operand.const (.bool false)) (Operand.const (Value.bool true)) (Operand.const (.bool false))) 4 101 ⟨.inn 20 (by kernel_rfl) (hd 20 (by decide)),.inn 33 (by kernel_rfl) (hd 33 (by decide)),trivial⟩ ?_
      clear hd
      go_wp2
      exact q_
    intro vals V9 hx hf
    have e34 : vals 34 = .bool false:=hf 34 (by omega)
    have hxv:=hx.undrew
    clear hf hx
    refine tail0 (by kernel_rfl) ?_
    simp only [Lf,dstAt,Act.put,FR_]
    rw [e34]
    clear e34
    have hX9:=Ext.trans HXV.out hxv
    have HJX2:=Lib.hid (HJX2.out.ext hxv)
    have x0:=ext_cell hxv x0
    have x1:=ext_cell hxv x1
    clear HXV
    have HXV:=Lib.hid hX9
    clear hX9 hxv s1 x2 x3 x4 x5 x6 x7 x8
    clear HEQ HWJ m2 m3 m4 m5 m6 m7 m8
    go_wp2
    go_loopw [18] (fun u wr2 => ∃ t : Int,u = .int .i64 t ∧ xf ≤ t ∧ t ≤ xt ∧ Ext V9 wr2) (fun u _ => (xt - intOf u).toNat)
    case atStart => exact ⟨xf,rfl,by omega,by omega,Below.refl _ _⟩
    case round =>
     obtain ⟨t,rfl,ht1,ht2,hY⟩:=hrel
     have y1 : wr.cell? ⟨gx,1,none⟩ = some (.int .i64 xt):=(HJX2.out.ext hY).cell 1
     by_cases htt : t < xt
     ·have hor:=HD4.out t ht1 htt
      have hoc:=HOR.out wr t (Ext.trans HEX2.out (Ext.trans HXV.out hY)) (by omega) (by omega)
      rw [hor] at hoc
      have HOC:=Lib.hid hoc
      clear hor hoc
      have JB:=HJB.out.ext (Ext.trans HXV.out hY)
      go_wp2_with (refine wpList_load_st rfl 53 _ rfl gb 0 rfl SX SX.toList (by simp) _ (Blk.range JB _ rfl) Tryz.underlying53 rfl (by rw [Array.length_toList,HS2.out]; exact sat_size) ?_)
      refine HOC.out.mono ?_
      rintro e V2 ⟨rfl,hz⟩
      have hY2:=Ext.trans hY hz
      simp only [orbCells]
      go_upto_region 23 with (fail)
      have hx : Ext V2 (V2.alloc (.cells #[.int .i64 pe,.int .i64 ph,.int .i64 lo,.int .i64 hi,.int .i64 no,.int .i64 tu,.int .i64 sl] 51)):=bl_alloc (Below.refl _ _) _
      have JO : Blk (V2.alloc (.cells #[.int .i64 pe,.int .i64 ph,.int .i64 lo,.int .i64 hi,.int .i64 no,.int .i64 tu,.int .i64 sl] 51)) V2.heap.size 51 #[.int .i64 pe,.int .i64 ph,.int .i64 lo,.int .i64 hi,.int .i64 no,.int .i64 tu,.int .i64 sl]:=Blk.new _ _ _
      generalize V2.heap.size = go at JO ⊢
      generalize V2.alloc (.cells #[.int .i64 pe,.int .i64 ph,.int .i64 lo,.int .i64 hi,.int .i64 no,.int .i64 tu,.int .i64 sl] 51) = V3 at JO hx ⊢
      have hY3:=Ext.trans hY2 hx
      have JX3:=HJX2.out.ext hY3
      have o0 : V3.cell? ⟨go,0,none⟩ = some (.int .i64 pe):=JO.cell 0
      have o1 : V3.cell? ⟨go,1,none⟩ = some (.int .i64 ph):=JO.cell 1
      have o2 : V3.cell? ⟨go,2,none⟩ = some (.int .i64 lo):=JO.cell 2
      have o3 : V3.cell? ⟨go,3,none⟩ = some (.int .i64 hi):=JO.cell 3
      have o4 : V3.cell? ⟨go,4,none⟩ = some (.int .i64 no):=JO.cell 4
      have o5 : V3.cell? ⟨go,5,none⟩ = some (.int .i64 tu):=JO.cell 5
      have o6 : V3.cell? ⟨go,6,none⟩ = some (.int .i64 sl):=JO.cell 6
      have z2 : V3.cell? ⟨gx,2,none⟩ = some (.int .i64 pe):=JX3.cell 2
      have z3 : V3.cell? ⟨gx,3,none⟩ = some (.int .i64 ph):=JX3.cell 3
      have z4 : V3.cell? ⟨gx,4,none⟩ = some (.int .i64 lo):=JX3.cell 4
      have z5 : V3.cell? ⟨gx,5,none⟩ = some (.int .i64 hi):=JX3.cell 5
      have z6 : V3.cell? ⟨gx,6,none⟩ = some (.int .i64 no):=JX3.cell 6
      have z7 : V3.cell? ⟨gx,7,none⟩ = some (.int .i64 tu):=JX3.cell 7
      have z8 : V3.cell? ⟨gx,8,none⟩ = some (.int .i64 sl):=JX3.cell 8
      have hnq : ∀ w : World,(binOp .neq 51 (.agg #[.int .i64 pe,.int .i64 ph,.int .i64 lo,.int .i64 hi,.int .i64 no,.int .i64 tu,.int .i64 sl]) (.agg #[.int .i64 pe,.int .i64 ph,.int .i64 lo,.int .i64 hi,.int .i64 no,.int .i64 tu,.int .i64 sl])).run Tryz.prog w = .ok (.bool false) w:=fun w => by have h:=neq_orb ⟨pe,ph,lo,hi,no,tu,sl⟩ ⟨pe,ph,lo,hi,no,tu,sl⟩ w; rw [decide_eq_true rfl] at h; exact h
      clear JB JO JX3 hx hz hY hY2 y1
      go_wp2
      go_roundw
      case rel => exact ⟨t + 1,by go_num,by omega,by omega,hY3⟩
      case measure => simp [intOf]; omega
     ·have hte : t = xt:=by omega
      clear HD4
      go_wp2
      go_roundw
      case rel => exact ⟨k + 1,xt,by omega,rfl,by go_num,by omega,by omega,HC2,Ext.trans HXV.out hY⟩
      case measure => simp [intOf]; omega
   ·clear HNEX
    refine wp_region_obl 35 (fun ix vals v w1 => match ix with | 0 => v = .pointer (some ⟨gx,0,none⟩) | 1 => v = .pointer (some ⟨gx,0,none⟩) | 2 => v = .int .i64 xf | 3 => v = .int .i64 xf | 4 => v = .bool false | 5 => v = .bool false | 6 => v = .pointer (some ⟨gx,0,none⟩) | 7 => v = .pointer (some ⟨gx,1,none⟩) | 8 => v = .int .i64 xt | 9 => v = .int .i64 xf | 10 => v = .bool false | 11 => v = .bool false | 12 => v = .bool false | 13 => v = .pointer (some ⟨gx,0,none⟩) | 14 => v = .pointer (some ⟨gx,1,none⟩) | 15 => v = .int .i64 xt | 16 => v = .pointer (some ⟨gs,1,none⟩) | 17 => v = .int .i64 e0 | 18 => v = .bool false | 19 => v = .bool false | 20 => v = .bool false | 21 => v = .int .i64 (k : Int) | 22 => v = .bool false | 23 => v = .bool false | 24 => v = undef | 25 => v = undef | 26 => v = undef | 27 => v = undef | 28 => v = undef | 29 => v = undef | 30 => v = undef | 31 => v = undef | 32 => v = undef | 33 => v = .bool false | _ => v = .bool false) (by kernel_rfl) (by kernel_rfl) ?_ ?_ ?_ ?_
    ·intro ix vals v w1 w2 hi hr hx; exact hr
    ·intro ix vals vals_ v w1 hi hv hr
     exact hr
    ·refine obls_ofT [some 67,some 68,some 69,some 70,some 71,some 72,some 73,some 74,some 75,some 76,some 77,some 78,some 79,some 80,some 81,some 82,some 83,some 84,some 85,some 86,some 87,some 88,some 89,some 90,some 91,some 92,some 93,some 94,some 95,some 96,some 97,some 98,some 99,some 100,some 101] [(17,.pointer (some ⟨gx,0,none⟩)),(15,.int .i64 xf),(10,.pointer (some ⟨gs,0,none⟩)),(16,.int .i64 (k : Int)),(13,.slice (some ⟨bp,op,none⟩) n pc)] 135 (by kernel_rfl) (by kernel_rfl) ⟨by kernel_rfl,by kernel_rfl,by kernel_rfl,by kernel_rfl,by kernel_rfl,trivial⟩ ?_
     refine ⟨?_,?_,?_,?_,?_,?_,?_,?_,?_,?_,?_,?_,?_,?_,?_,?_,?_,?_,?_,?_,?_,?_,?_,?_,?_,?_,?_,?_,?_,?_,?_,?_,?_,?_,?_,trivial⟩
     ·intro vals w1 hx hd
      refine .r [(17,.pointer (some ⟨gx,0,none⟩))] (Op.fieldAddr 96 (Operand.const (.pointer (some ⟨gx,0,none⟩))) 0) 0 67 ⟨.out (by kernel_rfl) (by kernel_rfl),trivial⟩ ?_
      clear hd
      go_wp2
      exact q_
     ·intro vals w1 hx hd
      refine .r [(67,.pointer (some ⟨gx,0,none⟩))] (Op.fieldAddr 32 (Operand.const (.pointer (some ⟨gx,0,none⟩))) 0) 0 68 ⟨.inn 0 (by kernel_rfl) (hd 0 (by decide)),trivial⟩ ?_
      clear hd
      go_wp2
      exact q_
     ·intro vals w1 hx hd
      refine .r [(68,.pointer (some ⟨gx,0,none⟩))] (Op.load 3 (Operand.const (.pointer (some ⟨gx,0,none⟩)))) 3 69 ⟨.inn 1 (by kernel_rfl) (hd 1 (by decide)),trivial⟩ ?_
      clear hd
      have x0:=ext_cell hx x0
      go_wp2
      exact q_
     ·intro vals w1 hx hd
      refine .r [(15,.int .i64 xf)] (Op.move (Operand.const (.int .i64 xf))) 3 70 ⟨.out (by kernel_rfl) (by kernel_rfl),trivial⟩ ?_
      clear hd
      go_wp2
      exact q_
     ·intro vals w1 hx hd
      refine .r [(69,.int .i64 xf),(70,.int .i64 xf)] (Op.binOp BinOp.neq 3 (Operand.const (.int .i64 xf)) (Operand.const (.int .i64 xf)) 3) 4 71 ⟨.inn 2 (by kernel_rfl) (hd 2 (by decide)),.inn 3 (by kernel_rfl) (hd 3 (by decide)),trivial⟩ ?_
      clear hd
      go_wp2
      exact q_
     ·intro vals w1 hx hd
      refine .r [(71,.bool false)] (Op.move (Operand.const (.bool false))) 4 72 ⟨.inn 4 (by kernel_rfl) (hd 4 (by decide)),trivial⟩ ?_
      clear hd
      go_wp2
      exact q_
     ·intro vals w1 hx hd
      refine .r [(17,.pointer (some ⟨gx,0,none⟩)),(72,.bool false)] (Op.fieldAddr 96 (Operand.const (.pointer (some ⟨gx,0,none⟩))) 0) 0 73 ⟨.out (by kernel_rfl) (by kernel_rfl),.inn 5 (by kernel_rfl) (hd 5 (by decide)),trivial⟩ ?_
      clear hd
      go_wp2
      exact q_
     ·intro vals w1 hx hd
      refine .r [(73,.pointer (some ⟨gx,0,none⟩)),(72,.bool false)] (Op.fieldAddr 32 (Operand.const (.pointer (some ⟨gx,0,none⟩))) 1) 0 74 ⟨.inn 6 (by kernel_rfl) (hd 6 (by decide)),.inn 5 (by kernel_rfl) (hd 5 (by decide)),trivial⟩ ?_
      clear hd
      go_wp2
      exact q_
     ·intro vals w1 hx hd
      refine .r [(74,.pointer (some ⟨gx,1,none⟩)),(72,.bool false)] (Op.load 3 (Operand.const (.pointer (some ⟨gx,1,none⟩)))) 3 75 ⟨.inn 7 (by kernel_rfl) (hd 7 (by decide)),.inn 5 (by kernel_rfl) (hd 5 (by decide)),trivial⟩ ?_
      clear hd
      have x1:=ext_cell hx x1
      go_wp2
      exact q_
     ·intro vals w1 hx hd
      refine .r [(15,.int .i64 xf),(72,.bool false)] (Op.move (Operand.const (.int .i64 xf))) 3 76 ⟨.out (by kernel_rfl) (by kernel_rfl),.inn 5 (by kernel_rfl) (hd 5 (by decide)),trivial⟩ ?_
      clear hd
      go_wp2
      exact q_
     ·intro vals w1 hx hd
      refine .r [(75,.int .i64 xt),(76,.int .i64 xf),(72,.bool false)] (Op.binOp BinOp.leq 3 (Operand.const (.int .i64 xt)) (Operand.const (.int .i64 xf)) 3) 4 77 ⟨.inn 8 (by kernel_rfl) (hd 8 (by decide)),.inn 9 (by kernel_rfl) (hd 9 (by decide)),.inn 5 (by kernel_rfl) (hd 5 (by decide)),trivial⟩ ?_
      clear hd
      go_wp2
      exact q_
     ·intro vals w1 hx hd
      refine .r [(72,.bool false),(77,.bool false)] (Op.pick (Operand.const (.bool false)) (Operand.const (Value.bool true)) (Operand.const (.bool false))) 4 78 ⟨.inn 5 (by kernel_rfl) (hd 5 (by decide)),.inn 10 (by kernel_rfl) (hd 10 (by decide)),trivial⟩ ?_
      clear hd
      go_wp2
      exact q_
     ·intro vals w1 hx hd
      refine .r [(78,.bool false)] (Op.move (Operand.const (.bool false))) 4 79 ⟨.inn 11 (by kernel_rfl) (hd 11 (by decide)),trivial⟩ ?_
      clear hd
      go_wp2
      exact q_
     ·intro vals w1 hx hd
      refine .r [(17,.pointer (some ⟨gx,0,none⟩)),(79,.bool false)] (Op.fieldAddr 96 (Operand.const (.pointer (some ⟨gx,0,none⟩))) 0) 0 80 ⟨.out (by kernel_rfl) (by kernel_rfl),.inn 12 (by kernel_rfl) (hd 12 (by decide)),trivial⟩ ?_
      clear hd
      go_wp2
      exact q_
     ·intro vals w1 hx hd
      refine .r [(80,.pointer (some ⟨gx,0,none⟩)),(79,.bool false)] (Op.fieldAddr 32 (Operand.const (.pointer (some ⟨gx,0,none⟩))) 1) 0 81 ⟨.inn 13 (by kernel_rfl) (hd 13 (by decide)),.inn 12 (by kernel_rfl) (hd 12 (by decide)),trivial⟩ ?_
      clear hd
      go_wp2
      exact q_
     ·intro vals w1 hx hd
      refine .r [(81,.pointer (some ⟨gx,1,none⟩)),(79,.bool false)] (Op.load 3 (Operand.const (.pointer (some ⟨gx,1,none⟩)))) 3 82 ⟨.inn 14 (by kernel_rfl) (hd 14 (by decide)),.inn 12 (by kernel_rfl) (hd 12 (by decide)),trivial⟩ ?_
      clear hd
      have x1:=ext_cell hx x1
      go_wp2
      exact q_
     ·intro vals w1 hx hd
      refine .r [(10,.pointer (some ⟨gs,0,none⟩)),(79,.bool false)] (Op.fieldAddr 32 (Operand.const (.pointer (some ⟨gs,0,none⟩))) 1) 0 83 ⟨.out (by kernel_rfl) (by kernel_rfl),.inn 12 (by kernel_rfl) (hd 12 (by decide)),trivial⟩ ?_
      clear hd
      go_wp2
      exact q_
     ·intro vals w1 hx hd
      refine .r [(83,.pointer (some ⟨gs,1,none⟩)),(79,.bool false)] (Op.load 3 (Operand.const (.pointer (some ⟨gs,1,none⟩)))) 3 84 ⟨.inn 16 (by kernel_rfl) (hd 16 (by decide)),.inn 12 (by kernel_rfl) (hd 12 (by decide)),trivial⟩ ?_
      clear hd
      have s1:=ext_cell hx s1
      go_wp2
      exact q_
     ·intro vals w1 hx hd
      refine .r [(82,.int .i64 xt),(84,.int .i64 e0),(79,.bool false)] (Op.binOp BinOp.gtr 3 (Operand.const (.int .i64 xt)) (Operand.const (.int .i64 e0)) 3) 4 85 ⟨.inn 15 (by kernel_rfl) (hd 15 (by decide)),.inn 17 (by kernel_rfl) (hd 17 (by decide)),.inn 12 (by kernel_rfl) (hd 12 (by decide)),trivial⟩ ?_
      clear hd
      go_wp2
      exact q_
     ·intro vals w1 hx hd
      refine .r [(79,.bool false),(85,.bool false)] (Op.pick (Operand.const (.bool false)) (Operand.const (Value.bool true)) (Operand.const (.bool false))) 4 86 ⟨.inn 12 (by kernel_rfl) (hd 12 (by decide)),.inn 18 (by kernel_rfl) (hd 18 (by decide)),trivial⟩ ?_
      clear hd
      go_wp2
      exact q_
     ·intro vals w1 hx hd
      refine .r [(86,.bool false)] (Op.move (Operand.const (.bool false))) 4 87 ⟨.inn 19 (by kernel_rfl) (hd 19 (by decide)),trivial⟩ ?_
      clear hd
      go_wp2
      exact q_
     ·intro vals w1 hx hd
      refine .r [(16,.int .i64 (k : Int)),(87,.bool false)] (Op.move (Operand.const (.int .i64 (k : Int)))) 3 88 ⟨.out (by kernel_rfl) (by kernel_rfl),.inn 20 (by kernel_rfl) (hd 20 (by decide)),trivial⟩ ?_
      clear hd
      go_wp2
      exact q_
     ·intro vals w1 hx hd
      refine .r [(88,.int .i64 (k : Int)),(87,.bool false)] (Op.binOp BinOp.gtr 3 (Operand.const (.int .i64 (k : Int))) (Operand.const (Value.int IntKind.i64 0)) 3) 4 89 ⟨.inn 21 (by kernel_rfl) (hd 21 (by decide)),.inn 20 (by kernel_rfl) (hd 20 (by decide)),trivial⟩ ?_
      clear hd
      have hk1 : decide (0 < k) = false:=by simp; omega
      go_wp2
      exact q_
     ·intro vals w1 hx hd
      refine .r [(89,.bool false),(87,.bool false)] (Op.move (Operand.const (.bool false))) 4 90 ⟨.inn 22 (by kernel_rfl) (hd 22 (by decide)),.inn 20 (by kernel_rfl) (hd 20 (by decide)),trivial⟩ ?_
      clear hd
      go_wp2
      exact q_
     ·intro vals w1 hx hd
      exact .no [(90,.bool false)] 91 ⟨.inn 23 (by kernel_rfl) (hd 23 (by decide)),trivial⟩ (by kernel_rfl) rfl (by kernel_rfl) rfl
     ·intro vals w1 hx hd
      exact .no [(90,.bool false)] 92 ⟨.inn 23 (by kernel_rfl) (hd 23 (by decide)),trivial⟩ (by kernel_rfl) rfl (by kernel_rfl) rfl
     ·intro vals w1 hx hd
      exact .no [(90,.bool false)] 93 ⟨.inn 23 (by kernel_rfl) (hd 23 (by decide)),trivial⟩ (by kernel_rfl) rfl (by kernel_rfl) rfl
     ·intro vals w1 hx hd
      exact .no [(90,.bool false)] 94 ⟨.inn 23 (by kernel_rfl) (hd 23 (by decide)),trivial⟩ (by kernel_rfl) rfl (by kernel_rfl) rfl
     ·intro vals w1 hx hd
      exact .no [(90,.bool false)] 95 ⟨.inn 23 (by kernel_rfl) (hd 23 (by decide)),trivial⟩ (by kernel_rfl) rfl (by kernel_rfl) rfl
     ·intro vals w1 hx hd
      exact .no [(90,.bool false)] 96 ⟨.inn 23 (by kernel_rfl) (hd 23 (by decide)),trivial⟩ (by kernel_rfl) rfl (by kernel_rfl) rfl
     ·intro vals w1 hx hd
      exact .no [(90,.bool false)] 97 ⟨.inn 23 (by kernel_rfl) (hd 23 (by decide)),trivial⟩ (by kernel_rfl) rfl (by kernel_rfl) rfl
     ·intro vals w1 hx hd
      exact .no [(90,.bool false)] 98 ⟨.inn 23 (by kernel_rfl) (hd 23 (by decide)),trivial⟩ (by kernel_rfl) rfl (by kernel_rfl) rfl
     ·intro vals w1 hx hd
      exact .no [(90,.bool false)] 99 ⟨.inn 23 (by kernel_rfl) (hd 23 (by decide)),trivial⟩ (by kernel_rfl) rfl (by kernel_rfl) rfl
     ·intro vals w1 hx hd
      refine .r [(90,.bool false),(99,undef),(87,.bool false)] (Op.pick (Operand.const (.bool false)) (Operand.const (undef)) (Operand.const (Value.bool false))) 4 100 ⟨.inn 23 (by kernel_rfl) (hd 23 (by decide)),.inn 32 (by kernel_rfl) (hd 32 (by decide)),.inn 20 (by kernel_rfl) (hd 20 (by decide)),trivial⟩ ?_
      clear hd
      go_wp2
      exact q_
     ·intro vals w1 hx hd
      refine .r [(87,.bool false),(100,.bool false)] (Op.pick (Operand.const (.bool false)) (Operand.const (Value.bool true)) (Operand.const (.bool false))) 4 101 ⟨.inn 20 (by kernel_rfl) (hd 20 (by decide)),.inn 33 (by kernel_rfl) (hd 33 (by decide)),trivial⟩ ?_
      clear hd
      go_wp2
      exact q_
    intro vals V9 hx hf
    have e34 : vals 34 = .bool false:=hf 34 (by omega)
    have hxv:=hx.undrew
    clear hf hx
    refine tail0 (by kernel_rfl) ?_
    simp only [Lf,dstAt,Act.put,FR_]
    rw [e34]
    clear e34
    have hX9:=Ext.trans HXV.out hxv
    have HJX2:=Lib.hid (HJX2.out.ext hxv)
    have x0:=ext_cell hxv x0
    have x1:=ext_cell hxv x1
    clear HXV
    have HXV:=Lib.hid hX9
    clear hX9 hxv s1 x2 x3 x4 x5 x6 x7 x8
    go_wp2
    go_loopw [18] (fun u wr2 => ∃ t : Int,u = .int .i64 t ∧ xf ≤ t ∧ t ≤ xt ∧ Ext V9 wr2) (fun u _ => (xt - intOf u).toNat)
    case atStart => exact ⟨xf,rfl,by omega,by omega,Below.refl _ _⟩
    case round =>
     obtain ⟨t,rfl,ht1,ht2,hY⟩:=hrel
     have y1 : wr.cell? ⟨gx,1,none⟩ = some (.int .i64 xt):=(HJX2.out.ext hY).cell 1
     by_cases htt : t < xt
     ·have hor:=HD4.out t ht1 htt
      have hoc:=HOR.out wr t (Ext.trans HEX2.out (Ext.trans HXV.out hY)) (by omega) (by omega)
      rw [hor] at hoc
      have HOC:=Lib.hid hoc
      clear hor hoc
      have JB:=HJB.out.ext (Ext.trans HXV.out hY)
      go_wp2_with (refine wpList_load_st rfl 53 _ rfl gb 0 rfl SX SX.toList (by simp) _ (Blk.range JB _ rfl) Tryz.underlying53 rfl (by rw [Array.length_toList,HS2.out]; exact sat_size) ?_)
      refine HOC.out.mono ?_
      rintro e V2 ⟨rfl,hz⟩
      have hY2:=Ext.trans hY hz
      simp only [orbCells]
      go_upto_region 23 with (fail)
      have hx : Ext V2 (V2.alloc (.cells #[.int .i64 pe,.int .i64 ph,.int .i64 lo,.int .i64 hi,.int .i64 no,.int .i64 tu,.int .i64 sl] 51)):=bl_alloc (Below.refl _ _) _
      have JO : Blk (V2.alloc (.cells #[.int .i64 pe,.int .i64 ph,.int .i64 lo,.int .i64 hi,.int .i64 no,.int .i64 tu,.int .i64 sl] 51)) V2.heap.size 51 #[.int .i64 pe,.int .i64 ph,.int .i64 lo,.int .i64 hi,.int .i64 no,.int .i64 tu,.int .i64 sl]:=Blk.new _ _ _
      generalize V2.heap.size = go at JO ⊢
      generalize V2.alloc (.cells #[.int .i64 pe,.int .i64 ph,.int .i64 lo,.int .i64 hi,.int .i64 no,.int .i64 tu,.int .i64 sl] 51) = V3 at JO hx ⊢
      have hY3:=Ext.trans hY2 hx
      have JX3:=HJX2.out.ext hY3
      have o0 : V3.cell? ⟨go,0,none⟩ = some (.int .i64 pe):=JO.cell 0
      have o1 : V3.cell? ⟨go,1,none⟩ = some (.int .i64 ph):=JO.cell 1
      have o2 : V3.cell? ⟨go,2,none⟩ = some (.int .i64 lo):=JO.cell 2
      have o3 : V3.cell? ⟨go,3,none⟩ = some (.int .i64 hi):=JO.cell 3
      have o4 : V3.cell? ⟨go,4,none⟩ = some (.int .i64 no):=JO.cell 4
      have o5 : V3.cell? ⟨go,5,none⟩ = some (.int .i64 tu):=JO.cell 5
      have o6 : V3.cell? ⟨go,6,none⟩ = some (.int .i64 sl):=JO.cell 6
      have z2 : V3.cell? ⟨gx,2,none⟩ = some (.int .i64 pe):=JX3.cell 2
      have z3 : V3.cell? ⟨gx,3,none⟩ = some (.int .i64 ph):=JX3.cell 3
      have z4 : V3.cell? ⟨gx,4,none⟩ = some (.int .i64 lo):=JX3.cell 4
      have z5 : V3.cell? ⟨gx,5,none⟩ = some (.int .i64 hi):=JX3.cell 5
      have z6 : V3.cell? ⟨gx,6,none⟩ = some (.int .i64 no):=JX3.cell 6
      have z7 : V3.cell? ⟨gx,7,none⟩ = some (.int .i64 tu):=JX3.cell 7
      have z8 : V3.cell? ⟨gx,8,none⟩ = some (.int .i64 sl):=JX3.cell 8
      have hnq : ∀ w : World,(binOp .neq 51 (.agg #[.int .i64 pe,.int .i64 ph,.int .i64 lo,.int .i64 hi,.int .i64 no,.int .i64 tu,.int .i64 sl]) (.agg #[.int .i64 pe,.int .i64 ph,.int .i64 lo,.int .i64 hi,.int .i64 no,.int .i64 tu,.int .i64 sl])).run Tryz.prog w = .ok (.bool false) w:=fun w => by have h:=neq_orb ⟨pe,ph,lo,hi,no,tu,sl⟩ ⟨pe,ph,lo,hi,no,tu,sl⟩ w; rw [decide_eq_true rfl] at h; exact h
      clear JB JO JX3 hx hz hY hY2 y1
      go_wp2
      go_roundw
      case rel => exact ⟨t + 1,by go_num,by omega,by omega,hY3⟩
      case measure => simp [intOf]; omega
     ·have hte : t = xt:=by omega
      clear HD4
      go_wp2
      go_roundw
      case rel => exact ⟨k + 1,xt,by omega,rfl,by go_num,by omega,by omega,HC2,Ext.trans HXV.out hY⟩
      case measure => simp [intOf]; omega
  ·have hkz : ¬ (k : Int) < (n : Int):=by omega
   have hC:=HC.out
   rw [List.drop_of_length_le (by rw [← HN.out]; omega)] at hC
   obtain rfl : a = e0:=hC
   have s1 : wr.cell? ⟨gs,1,none⟩ = some (.int .i64 a):=(HJS.out.ext hX).cell 1
   have n1_ : (a == a) = true:=by simp
   have HBX:=Lib.hid (Ext.trans HB.out hX)
   clear hX HC
   go_wp2
   go_ret
   exact ⟨rfl,HBX.out⟩
end Go.Proofs.YtjidhhfabfnhnaaGreat
namespace Go.Proofs.YtjidhhfabfnhnaaGreat
open Go.ChangeShapes Go.WideShapes Go.ChangeAt Go.RowKit Go.Deep
set_option linter.unusedVariables false
set_option maxRecDepth 100000 in
theorem ephemerisStretches_lifted (os : Os) (started : os.Started) (H : Type) (enc : TypeId × Value → H) :
  ReturnsInHanded {} Tryz.checked os 8 .any (Rows.ephemerisStretchesSpec.pre6 enc Tryz.prog Tryz.f8 Rows.ephemerisStretchesRow.domain false) (Rows.ephemerisStretchesSpec.post enc Tryz.prog Tryz.f8 false true false false):=by
 refine returnsInHanded_of_change (C:=Tryz.checked) ownKn started (by kernel_rfl) Tryz.func8
  (ChangeSpec.witness6 (enc:=enc) (C:=Tryz.checked) false ⟨#[],#[.agg #[.slice none 0 0,.slice none 0 0,.slice none 0 0,.slice none 0 0,.int .i64 0,.int .i64 0],.int .i64 0,.int .i64 0],[]⟩ 8 (by kernel_rfl) (by kernel_rfl) (by kernel_rfl) (by kernel_rfl)) ?_
 intro W base args ds gs before hval0 hW hcnd _
 have hval : ∀ (j : Nat) t v,Tryz.f8.params[j]? = some t → args[j]? = some v → Value.okWide Tryz.prog W .any base t v:=hval0
 have hW':=hW
 obtain ⟨p,q,hA0,hV,rfl,hfz,hnd⟩:=hW
 have hA : DataW.TrodAll enc Tryz.prog W 0 (fun _ => true) true Tryz.f8.params.toList args.toList ds p:=hA0
 rw [Tryz.params8] at hA hval
 obtain ⟨v0,vs0,d0,ds0,p0,q0,hargs,rfl,rfl,h0,r0⟩:=trodAll_cons hA
 obtain ⟨v1,vs1,d1,ds1,p1,q1,rfl,rfl,rfl,h1,r1⟩:=trodAll_cons r0
 obtain ⟨v2,vs2,d2,ds2,p2,q2,rfl,rfl,rfl,h2,r2⟩:=trodAll_cons r1
 obtain ⟨rfl,rfl,rfl⟩:=trodAll_nil r2
 obtain rfl : args = #[v0,v1,v2]:=by cases args; simp_all
 obtain ⟨rfl,rfl⟩:=trodVars_none hV
 have k0:=h0
 have lt0 : ∀ x ∈ p0,x.block < W.heap.size:=by obtain ⟨m,hm⟩:=k0; exact DataW.trod_lt m _ _ _ hm
 obtain ⟨c0,rfl,o0⟩:=open_Case (hval 0 25 v0 rfl rfl) h0
 obtain ⟨a1,rfl,rfl,rfl,w1⟩:=open_int Tryz.underlying3 (hval 1 3 v1 rfl rfl) h1
 obtain ⟨a2,rfl,rfl,rfl,w2⟩:=open_int Tryz.underlying3 (hval 2 3 v2 rfl rfl) h2
 clear hA0 hval0
 refine (stretches_walk c0 a1 a2 W o0 (i64_of_wf w1) (i64_of_wf w2)).mono fun e W' ⟨he,bel⟩ => ?_
 subst he
 exact ⟨_,rfl,_,_,_,[],_,[],hW',trodAll_mk1 (shut_bool Tryz.underlying4 _),(trodAll_cons_mk (Below.trod laidOut (by kernel_rfl) (of_decide_eq_true (by kernel_rfl)) k0 bel lt0) (trodAll_cons_mk (shut_int Tryz.underlying3 w1) (trodAll_cons_mk (shut_int Tryz.underlying3 w2) trodAll_mk0))),rfl,bel.frame _,fun h => by cases h⟩
theorem ephemerisStretches_over : Rows.ephemerisStretchesRow.holds Tryz.pinned (OpenSpec.ofChange Rows.ephemerisStretchesSpec) :=
 OpenClaim.holds_of_wide 8 Tryz.f8 rfl rfl rfl rfl rfl rfl rfl ⟨rfl,rfl,rfl,rfl,rfl⟩ rfl rfl rfl rfl rfl (by kernel_rfl) Tryz.func8 (by kernel_rfl)
  (of_decide_eq_true (by kernel_rfl)) (by unfold Func.isWrapper; first | (rw [if_pos (by decide +kernel)]; kernel_rfl) | (rw [if_neg (by decide +kernel)]; exact ⟨rfl,rfl⟩))
  (fun os started H enc _ => ephemerisStretches_lifted os started H enc)
theorem ephemerisStretches_proved : Rows.EphemerisStretchesSaid:=ephemerisStretches_over
end Go.Proofs.YtjidhhfabfnhnaaGreat
