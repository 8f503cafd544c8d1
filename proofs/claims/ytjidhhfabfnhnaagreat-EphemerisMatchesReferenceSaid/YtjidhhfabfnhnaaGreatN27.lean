/- The reference: the order of passes (printed by contact_c4.py). -/
import Derived.Test.YtjidhhfabfnhnaaGreatN25
import Derived.Test.YtjidhhfabfnhnaaGreatN26
import Derived.Test.YtjidhhfabfnhnaaGreatN01
import Derived.Test.YtjidhhfabfnhnaaGreatN11
namespace Go.Proofs.YtjidhhfabfnhnaaGreat
open Go.RowKit
attribute [local go_sem] Oper.semAt_some
theorem Jf (l:List St) (us:Int) (j:Nat) (h:j<l.length):(l.take (j+1)).any (fun x=>x.id==us)=((l.take j).any (fun x=>x.id==us)||(l[j].id==us)):=by
 rw[List.take_succ_eq_append_getElem h,List.any_append];simp
set_option maxRecDepth 100000 in
set_option maxHeartbeats 4000000 in
theorem lM (sats:List St) (l:List fE) (SA A:Option Addr) (sn sc n c:Nat) (w:World) (hS:RA aC 21 w w.heap.size SA sn sc sats) (hU:RA aF 10 w w.heap.size A n c l) :
  Calls Tryz.prog 25 #[.slice SA sn sc,.slice A n c] w fun e w'=>e=.returned (.bool (dX sats l))∧Ext w w':=by
 have hn:n≤9223372036854775807:=hU.le;have hsn:sn≤9223372036854775807:=hS.le;have LK:=hU.len;have HUL:=Lib.hid LK;have HSL:=Lib.hid hS.len;have O1:=Lib.hid (qV sats SA sn sc w hS);have HS:=Lib.hid hS;have HU:=Lib.hid hU;obtain⟨ids,Hg⟩:∃i,i=sats.map (·.id):=⟨_,rfl⟩;obtain⟨Q,hQ⟩:∃q,q=kY ids none l:=⟨_,rfl⟩;obtain⟨q0,hq0⟩:∃q,q=gB sats:=⟨_,rfl⟩;have hve:dX sats l=(Q&&decide (n≤24)&&q0):=by unfold dX;rw[←Hg,←hQ,←hq0,LK]
 rw[←hq0]at O1;obtain⟨R,hR⟩:∃R,R=dX sats l:=⟨_,rfl⟩;rw[←hR];rw[←hR]at hve;have HVE:=Lib.hid hve;have Vs:Hid (Q=kY ids ((bI l 0).map (·.kn)) (l.drop 0)):=Lib.hid hQ;have Xv:=Lib.hid Hg;clear Hg hQ hq0 hve hR hS hU LK;go_enter Tryz.func25,Tryz.ntmps25;go_wp2_with fail;refine O1.out.mono ?_;rintro e W1 ⟨rfl,hx1⟩;have jB:Hid (Ext w W1):=Lib.hid hx1;clear hx1 O1;cases q0 with
 |false =>
  have HF:Hid (R=false):=Lib.hid (by rw[HVE.out];simp);have iq:=jB;go_wp2;go_ret;exact⟨by rw[HF.out];rfl,iq.out⟩
 |true =>
  by_cases h24:n≤24
  ·have h24i:¬(24:Int)<(n:Int):=by omega
   have Zu:Hid (R=Q):=Lib.hid (by rw[HVE.out,decide_eq_true h24];simp);go_wp2;go_loopw [6] (fun i wr=>∃k:Nat,k≤n∧i=.int .i64 k∧Hid (Q=kY ids ((bI l k).map (·.kn)) (l.drop k))∧Hid (Ext w wr)) (fun i _=>n-(intOf i).toNat)
   case atStart=>exact⟨0,Nat.zero_le _,rfl,Vs,jB⟩
   case round =>
    clear Vs jB;obtain⟨k,hk,rfl,Zh,HX⟩:=hrel;by_cases hkn:k<n
    ·have hkz:(k:Int)<(n:Int):=by omega
     obtain⟨bu,ou,hzu,WC,hbu,nY⟩:=HU.out.at_ fJ hkn;subst WC;have hst:=yh ids l k hzu;rw[←Zh.out]at hst;have hpv:(bI l (k+1)).map (·.kn)=some l[k].kn:=by simp[bI,hzu]
     have hpc:¬k=0→∃(j:Nat) (pk:Int),k=j+1∧(bI l k).map (·.kn)=some pk∧w.cell? ⟨bu,ou+j*10+2,none⟩=some (.int .i64 pk):=fun hk0=>by
      refine⟨k-1,(l[k-1]'(by omega)).kn,by omega,by unfold bI;rw[if_neg hk0,List.getElem?_eq_getElem (by omega)];rfl,?_⟩;obtain⟨b2,o2,hz2,hA2,_,hc2⟩:=HU.out.at_ fJ (k:=k-1) (by omega);injection hA2 with hA2;injection hA2 with h1 h2;subst h1 h2;exact hc2 2 (by simp)
     generalize hu:l[k]=u at hst nY hpv;obtain⟨us,uf,uk,⟨pe,ph,lo,hi,no,tu,sl⟩⟩:=u;have Zi:xU ⟨us,uf,uk,⟨pe,ph,lo,hi,no,tu,sl⟩⟩=(inB uf 0 1000000&&inB uk 0 1000000&&dO ⟨pe,ph,lo,hi,no,tu,sl⟩):=rfl;rw[Zi]at hst;dsimp only at hst hpv;have hov:=fun w=>pJ pe ph lo hi no tu sl w;have hi1:=fun w=>(vK uf 0 1000000 w).mono (fun e w' h=>(⟨h.1,h.2.symm⟩:e=.returned (.bool (inB uf 0 1000000))∧w'=w));have hi2:=fun w=>(vK uk 0 1000000 w).mono (fun e w' h=>(⟨h.1,h.2.symm⟩:e=.returned (.bool (inB uk 0 1000000))∧w'=w));generalize dO ⟨pe,ph,lo,hi,no,tu,sl⟩=q5 at hst hov;generalize inB uf 0 1000000=q2 at hst hi1;generalize inB uk 0 1000000=q3 at hst hi2;have HST:=Lib.hid hst;have Zl:=Lib.hid hpv;have Z7:=Lib.hid hpc;have Zj:=Lib.hid hov;have HI1:=Lib.hid hi1;have HI2:=Lib.hid hi2;have yw0:w.cell? ⟨bu,ou+k*10,none⟩=some (.int .i64 us):=nY 0 (by simp);have yw1:w.cell? ⟨bu,ou+k*10+1,none⟩=some (.int .i64 uf):=nY 1 (by simp);have yw2:w.cell? ⟨bu,ou+k*10+2,none⟩=some (.int .i64 uk):=nY 2 (by simp);have yw3:w.cell? ⟨bu,ou+k*10+3,none⟩=some (.int .i64 pe):=nY 3 (by simp);have yw4:w.cell? ⟨bu,ou+k*10+4,none⟩=some (.int .i64 ph):=nY 4 (by simp);have yw5:w.cell? ⟨bu,ou+k*10+5,none⟩=some (.int .i64 lo):=nY 5 (by simp);have yw6:w.cell? ⟨bu,ou+k*10+6,none⟩=some (.int .i64 hi):=nY 6 (by simp);have yw7:w.cell? ⟨bu,ou+k*10+7,none⟩=some (.int .i64 no):=nY 7 (by simp);have yw8:w.cell? ⟨bu,ou+k*10+8,none⟩=some (.int .i64 tu):=nY 8 (by simp);have yw9:w.cell? ⟨bu,ou+k*10+9,none⟩=some (.int .i64 sl):=nY 9 (by simp);have HCY:Hid (∀W,Ext w W→W.cell? ⟨bu,ou+k*10,none⟩=some (.int .i64 us)∧W.cell? ⟨bu,ou+k*10+1,none⟩=some (.int .i64 uf)∧W.cell? ⟨bu,ou+k*10+2,none⟩=some (.int .i64 uk)∧W.cell? ⟨bu,ou+k*10+3,none⟩=some (.int .i64 pe)∧W.cell? ⟨bu,ou+k*10+4,none⟩=some (.int .i64 ph)∧W.cell? ⟨bu,ou+k*10+5,none⟩=some (.int .i64 lo)∧W.cell? ⟨bu,ou+k*10+6,none⟩=some (.int .i64 hi)∧W.cell? ⟨bu,ou+k*10+7,none⟩=some (.int .i64 no)∧W.cell? ⟨bu,ou+k*10+8,none⟩=some (.int .i64 tu)∧W.cell? ⟨bu,ou+k*10+9,none⟩=some (.int .i64 sl)):=Lib.hid (fun W hx=>⟨ah hx yw0,ah hx yw1,ah hx yw2,ah hx yw3,ah hx yw4,ah hx yw5,ah hx yw6,ah hx yw7,ah hx yw8,ah hx yw9⟩);clear hst hpv hpc hov hi1 hi2 nY hzu hbu hu Zi yw0 yw1 yw2 yw3 yw4 yw5 yw6 yw7 yw8 yw9;obtain⟨V0,hV0⟩:∃V,V=wr:=⟨_,rfl⟩;rw[←hV0]at HX⊢;clear hV0;go_wp2;go_loopw [7,8] (fun th m wr=>∃j:Nat,j≤sn∧th=.bool ((sats.take j).any (fun x=>x.id==us))∧m=.int .i64 j∧Ext V0 wr) (fun _ m _=>sn-(intOf m).toNat)
     case atStart=>exact⟨0,Nat.zero_le _,by simp,rfl,Below.refl _ _⟩
     case round =>
      obtain⟨j,hj,rfl,rfl,hY⟩:=hrel;by_cases hjn:j<sn
      ·have hjz:(j:Int)<(sn:Int):=by omega
       obtain⟨bs,os,hzs,hAs,hbs,hcs⟩:=(HS.out.below (Ext.trans HX.out hY)).at_ ig hjn;subst hAs;have hat:=Jf sats us j hzs;have z0:wr.cell? ⟨bs,os+j*21,none⟩=some (.int .i64 sats[j].id):=hcs 0 (by simp);generalize sats[j].id=jR at hat z0;obtain⟨y0,-⟩:=HCY.out wr (Ext.trans HX.out hY);generalize (sats.take j).any (fun x=>x.id==us)=th at hat⊢;have HAT:=Lib.hid hat;have HY:=Lib.hid hY;clear hcs hzs hbs hat hY;cases th with
       |true =>
        go_wp2;go_quiet (fail)
        go_wp2;go_roundw
        case rel=>exact⟨j+1,by omega,by rw[HAT.out];rfl,by go_num,Ext.trans HY.out (below_drewN (Below.refl _ _) _)⟩
        case measure=>simp[intOf];omega
       |false =>
        obtain⟨qe,hqe⟩:∃q,(jR==us)=q:=⟨_,rfl⟩;have HQE:=Lib.hid hqe;go_wp2;go_quiet (fail)
        go_wp2;go_roundw
        case rel=>exact⟨j+1,by omega,by rw[HAT.out,HQE.out];rfl,by go_num,Ext.trans HY.out (below_drewN (Below.refl _ _) _)⟩
        case measure=>simp[intOf];omega
      ·have hjz:¬(j:Int)<(sn:Int):=by omega
       have hth:(sats.take j).any (fun x=>x.id==us)=decide (us∈ids):=by rw[List.take_of_length_le (by rw[HSL.out];omega),Xv.out];exact OW _ _
       rw[hth];generalize decide (us∈ids)=q1 at HST⊢;have WE:Hid (Ext w wr):=Lib.hid (Ext.trans HX.out hY);obtain⟨y0,y1,y2,y3,y4,y5,y6,y7,y8,y9⟩:=HCY.out wr WE.out;clear hth hY;go_wp2_with fail;refine (Zj.out _).mono ?_;rintro e W2 ⟨rfl,hx2⟩;have iq:Hid (Ext w W2):=Lib.hid (Ext.trans WE.out hx2);obtain⟨y0,y1,y2,-⟩:=HCY.out W2 iq.out;clear hx2 y3 y4 y5 y6 y7 y8 y9;go_upto_region 13 with (fail);cases q1 with
       |false =>
        have HF:Hid (R=false):=Lib.hid (by rw[Zu.out,HST.out];simp);go_quiet (first | with_reducible exact Calls.quiet_of_same (HI1.out _) | with_reducible exact Calls.quiet_of_same (HI2.out _))
        go_wp2;go_ret;exact⟨by rw[HF.out];rfl,Ext.trans iq.out (below_drewN (Below.refl _ _) _)⟩
       |true =>
        cases q5 with
        |false =>
         have HF:Hid (R=false):=Lib.hid (by rw[Zu.out,HST.out];simp);go_quiet (first | with_reducible exact Calls.quiet_of_same (HI1.out _) | with_reducible exact Calls.quiet_of_same (HI2.out _))
         go_wp2;go_ret;exact⟨by rw[HF.out];rfl,Ext.trans iq.out (below_drewN (Below.refl _ _) _)⟩
        |true =>
         cases q2 with
         |false =>
          have HF:Hid (R=false):=Lib.hid (by rw[Zu.out,HST.out];simp);go_quiet (first | with_reducible exact Calls.quiet_of_same (HI1.out _) | with_reducible exact Calls.quiet_of_same (HI2.out _))
          go_wp2;go_ret;exact⟨by rw[HF.out];rfl,Ext.trans iq.out (below_drewN (Below.refl _ _) _)⟩
         |true =>
          cases q3 with
          |false =>
           have HF:Hid (R=false):=Lib.hid (by rw[Zu.out,HST.out];simp);go_quiet (first | with_reducible exact Calls.quiet_of_same (HI1.out _) | with_reducible exact Calls.quiet_of_same (HI2.out _))
           go_wp2;go_ret;exact⟨by rw[HF.out];rfl,Ext.trans iq.out (below_drewN (Below.refl _ _) _)⟩
          |true =>
           by_cases hk0:k=0
           ·have hkd:decide (0<k)=false:=by simp;omega
            have HN:Hid (Q=kY ids ((bI l (k+1)).map (·.kn)) (l.drop (k+1))):=Lib.hid (by rw[HST.out,Zl.out];subst hk0;simp[bI]);clear hk0;go_quiet (first | with_reducible exact Calls.quiet_of_same (HI1.out _) | with_reducible exact Calls.quiet_of_same (HI2.out _))
            go_wp2;go_roundw
            case rel=>exact⟨k+1,by omega,by go_num,HN,Lib.hid (Ext.trans iq.out (below_drewN (Below.refl _ _) _))⟩
            case measure=>simp[intOf];omega
           ·obtain⟨j2,pk,hkj,hpk,hpc⟩:=Z7.out hk0;have hkd:decide (0<k)=true:=by simp;omega
            have hwj:IntKind.i64.wrap ((k:Int)-1)=(j2:Int):=by rw[hkj,show (((j2+1:Nat):Int)-1)=(j2:Int) by omega];exact IntWalk.i64_in _ (by omega)
            have hj2:j2<n:=by omega
            have x2:=ah iq.out hpc;by_cases hlt:uk<pk
            ·have HF:Hid (R=false):=Lib.hid (by rw[Zu.out,HST.out,hpk];have:¬pk≤uk:=(by omega);simp[this]);clear hkj hpk hpc hk0;go_quiet (first | with_reducible exact Calls.quiet_of_same (HI1.out _) | with_reducible exact Calls.quiet_of_same (HI2.out _))
             go_wp2;go_ret;exact⟨by rw[HF.out];rfl,Ext.trans iq.out (below_drewN (Below.refl _ _) _)⟩
            ·have HN:Hid (Q=kY ids ((bI l (k+1)).map (·.kn)) (l.drop (k+1))):=Lib.hid (by rw[HST.out,Zl.out,hpk];have:pk≤uk:=(by omega);simp[this]);clear hkj hpk hpc hk0;go_quiet (first | with_reducible exact Calls.quiet_of_same (HI1.out _) | with_reducible exact Calls.quiet_of_same (HI2.out _))
             go_wp2;go_roundw
             case rel=>exact⟨k+1,by omega,by go_num,HN,Lib.hid (Ext.trans iq.out (below_drewN (Below.refl _ _) _))⟩
             case measure=>simp[intOf];omega
    ·have hkz:¬(k:Int)<(n:Int):=by omega
     have HF:Hid (R=true):=Lib.hid (by rw[Zu.out,Zh.out,List.drop_of_length_le (by rw[HUL.out];omega)];rfl);clear Zh;go_wp2;go_ret;exact⟨by rw[HF.out];rfl,HX.out⟩
  ·have h24i:(24:Int)<(n:Int):=by omega
   have HF:Hid (R=false):=Lib.hid (by rw[HVE.out,decide_eq_false h24];simp);go_wp2;go_ret;exact⟨by rw[HF.out];rfl,jB.out⟩
end Go.Proofs.YtjidhhfabfnhnaaGreat
namespace Go.Proofs.YtjidhhfabfnhnaaGreat
open Go.RowKit
attribute [local go_sem] Oper.semAt_some
theorem zF {ids:List Int} : ∀ {l:List fE} {p:Option Int},kY ids p l=true→∀u∈l,xU u=true
 |[],_,_,_,hu=>by cases hu
 |v::r,p,h,u,hu=>by
  unfold kY at h;simp only[Bool.and_eq_true]at h;rcases List.mem_cons.1 hu with rfl | hu
  ·exact h.1.1.2
  ·exact zF h.2 u hu
theorem BM {x:St} {l:List fE} (h:lG x l=true):∀u∈l,u.sat=x.id→0≤u.fr:=by
 intro u hu he;unfold lG dX at h;simp only[Bool.and_eq_true]at h;have h1:=zF h.1.1 u (by unfold iZ;rw[List.mem_filter];exact⟨hu,by simp[he]⟩);simp only[xU,Bool.and_eq_true,jL]at h1;exact h1.1.1.1
theorem La (id:Int) (l:List fE):(iZ id l).length≤l.length:=List.length_filter_le _ _
set_option maxRecDepth 100000 in
set_option maxHeartbeats 4000000 in
theorem DX (x:St) (l:List fE) (A:Option Addr) (n c:Nat) (t kn:Int) (w:World) (h:RA aF 10 w w.heap.size A n c l) (hn:n≤2000) :
  Calls Tryz.prog 26 #[.agg (aC x).toArray,.slice A n c,.int .i64 t,.int .i64 kn] w fun e w'=>e=.returned (Df (jO x l t kn))∧Ext w w':=by
 have LK:=h.len;have hoe:jO x l t kn=if (inB t 0 1000000&&lG x l)=true then some (iK x l kn t) else none:=rfl
 obtain⟨R,hR⟩:∃R,R=jO x l t kn:=⟨_,rfl⟩;rw[←hR];rw[←hR]at hoe;have how:=La x.id l;obtain⟨L,hL⟩:∃L,L=iZ x.id l:=⟨_,rfl⟩;rw[←hL]at how;have hvs:lG x l=dX [x] L:=by rw[hL];rfl
 obtain⟨q,hq⟩:∃q,q=dX [x] L:=⟨_,rfl⟩;obtain⟨qi,hqi⟩:∃q,q=inB t 0 1000000:=⟨_,rfl⟩;have WB:Hid (q=true→∀u∈l,u.sat=x.id→0≤u.fr):=Lib.hid (fun hq1=>BM (by rw[hvs,←hq];exact hq1));rw[hvs,←hq,←hqi]at hoe;have O7:Hid (∀w,Calls Tryz.prog 75 #[.int .i64 t,.int .i64 0,.int .i64 1000000] w fun e w'=>e=.returned (.bool qi)∧w=w'):=Lib.hid (by rw[hqi];exact vK t 0 1000000);obtain⟨SX,gY⟩:∃X,(aC x).toArray=X:=⟨_,rfl⟩;have HOW:Hid (∀W,Ext w W→Calls Tryz.prog 76 #[.agg SX,.slice A n c] W (jc aF 10 66 L W)):=Lib.hid (fun W hx=>by rw[←gY,hL];exact Gh x l A n c W (aB h hx) hn);have QV:Hid (∀W (g:Nat) B m d,aI W g 53 SX→RA aF 10 W W.heap.size B m d L→Calls Tryz.prog 25 #[.slice (some ⟨g,0,none⟩) 1 1,.slice B m d] W fun e w'=>e=.returned (.bool q)∧Ext W w'):=Lib.hid (fun W g B m d hb hr=>by rw[hq];rw[←gY]at hb;exact lM [x] L _ B 1 1 m d W (RA.one rfl hb) hr);obtain⟨OX,uH⟩:∃X,(aQ (iK x l kn t)).toArray=X:=⟨_,rfl⟩;have WG:Hid (q=true→∀W,Ext w W→Calls Tryz.prog 77 #[.agg SX,.slice A n c,.int .i64 t,.int .i64 kn] W fun e w'=>e=.returned (.agg OX)∧Ext W w'):=Lib.hid (fun hq1 W hx=>by rw[←gY,←uH];exact uw x l A n c t kn W (aB h hx) (WB.out hq1));have Nj:Hid (OX.size=7):=Lib.hid (by rw[←uH];rfl);have WA:Hid (OX.all (·.oneCell')=true):=Lib.hid (by rw[←uH];simp[aQ,Value.oneCell']);have HS2:Hid (SX.size=21):=Lib.hid (by rw[←gY];rfl);have YF:Hid ((qi&&q)=true→Df R=.tuple #[.agg OX,.int .i64 0]):=Lib.hid (fun hh=>by rw[hoe,if_pos hh,←uH];rfl);have Fq:Hid ((qi&&q)=false→Df R=.tuple #[.agg #[.int .i64 0,.int .i64 0,.int .i64 0,.int .i64 0,.int .i64 0,.int .i64 0,.int .i64 0],.int .i64 360]):=Lib.hid (fun hh=>by rw[hoe,if_neg (by rw[hh];simp)];rfl);have hlL:L.length≤2000:=by omega
 rw[gY];clear hR hoe hvs hL hq hqi gY uH h how LK WB;go_enter Tryz.func26,Tryz.ntmps26;go_upto_region 1 with (fail);have J4:aI ((w.alloc (.cells SX 53)).alloc (.cells #[.int .i64 0,.int .i64 0,.int .i64 0,.int .i64 0,.int .i64 0,.int .i64 0,.int .i64 0] 51)) w.heap.size 53 SX:=(aI.new _ _ _).alloc _;have J8:aI ((w.alloc (.cells SX 53)).alloc (.cells #[.int .i64 0,.int .i64 0,.int .i64 0,.int .i64 0,.int .i64 0,.int .i64 0,.int .i64 0] 51)) (w.heap.size+1) 51 #[.int .i64 0,.int .i64 0,.int .i64 0,.int .i64 0,.int .i64 0,.int .i64 0,.int .i64 0]:=aI.aU _ _ _ (by simp);have hx0:Ext w ((w.alloc (.cells SX 53)).alloc (.cells #[.int .i64 0,.int .i64 0,.int .i64 0,.int .i64 0,.int .i64 0,.int .i64 0,.int .i64 0] 51)):=aj (aj (Below.refl _ _) _) _;obtain⟨g4,hg4⟩:∃g,g=w.heap.size:=⟨_,rfl⟩;obtain⟨g8,hg8⟩:∃g,g=w.heap.size+1:=⟨_,rfl⟩;have hl8:w.heap.size≤g8:=by omega
 rw[←hg8,←hg4];rw[←hg4]at J4;rw[←hg8]at J8;generalize (w.alloc (.cells SX 53)).alloc (.cells #[.int .i64 0,.int .i64 0,.int .i64 0,.int .i64 0,.int .i64 0,.int .i64 0,.int .i64 0] 51)=W0 at J4 J8 hx0⊢;clear hg4 hg8;have jU:=Lib.hid J4;have uT:=Lib.hid J8;have HX0:=Lib.hid hx0;clear J4 J8 hx0;cases q with
 |false =>
  refine aH 12 [some (.agg SX),none,some (.agg SX),some (.slice A n c),none,some (.bool false),some (.bool true),some (.bool true),some (undef),some (undef),some (undef),some (.bool true)] [(1,.w fun v w1=>∃g,v=.slice (some ⟨g,0,none⟩) 1 1∧aI w1 g 53 SX),(4,.w fun v w1=>∃B m d,v=.slice B m d∧RA aF 10 w1 w1.heap.size B m d L)] ?_ ?_ ?_
  ·refine⟨?_,?_,trivial⟩
   ·intro v w1 w2 hr hx;obtain⟨g,h1,h2⟩:=hr;exact⟨g,h1,h2.ext hx⟩
   ·intro v w1 w2 hr hx;obtain⟨B,m,d,h1,h2⟩:=hr;exact⟨B,m,d,h1,aB h2 hx⟩
  ·refine⟨?x0,?x1,?x2,?_,?x4,?x5,?_,?_,?_,?_,?_,?_,trivial⟩
   case x0 =>
    intro vals w1 hx hd;clear hd;simp only[Lf];refine ay rfl 53 _ rfl g4 0 rfl SX SX.toList (by simp) _ (aI.range (jU.out.ext hx.aG) _ rfl) Tryz.underlying53 rfl (by rw[Array.length_toList,HS2.out];exact aN) ?_;go_wp2;exact q_
   case x1 =>
    intro vals w1 hx hd;clear hd;simp only[Lf,au,Act.put,aX,aW];refine aV rfl _ _ _ rfl SX rfl Tryz.underlying28 21 fQ HS2.out (by omega) (by omega) ?_;go_wp2;exact⟨rfl,(by repeat (first | exact Below.refl _ _ | assumption | refine Below.drew ?_ | refine below_drewN ?_ _ | refine aj ?_ _ | refine Below.setCell ?_ (by first | (simp;done) | omega | (simp;omega)) _ | refine aA ?_ (by assumption))),_,rfl,aI.new _ _ _⟩
   case x2 =>
    intro vals w1 hx hd;clear hd;simp only[Lf,au,Act.put,aX,aW];refine ay rfl 53 _ rfl g4 0 rfl SX SX.toList (by simp) _ (aI.range (jU.out.ext hx.aG) _ rfl) Tryz.underlying53 rfl (by rw[Array.length_toList,HS2.out];exact aN) ?_;go_wp2;exact q_
   case x4 =>
    intro vals w1 hx hd;clear hd;simp only[Lf,au,Act.put,aX,aW];go_wp2_with fail;refine (HOW.out _ (Ext.trans HX0.out hx.aG)).mono ?_;rintro e w2 ⟨v2,rfl,hown,hb2⟩;obtain⟨B,d,hv,_,_⟩:=aP hown;subst hv;have hra:=Lib.hid (RA.dD hown rfl (by omega));clear hown;go_wp2;exact⟨rfl,hb2,B,_,d,rfl,hra.out⟩
   case x5 =>
    intro vals w1 hx hd;have r1:(fun v w1=>∃g,v=.slice (some ⟨g,0,none⟩) 1 1∧aI w1 g 53 SX) (vals 1) w1:=hd 1 (by decide) rfl;dsimp only at r1;have r4:(fun v w1=>∃B m d,v=.slice B m d∧RA aF 10 w1 w1.heap.size B m d L) (vals 4) w1:=hd 4 (by decide) rfl;dsimp only at r4;clear hd;simp only[Lf,au,Act.put,aX,aW];obtain⟨g,e_1,jb⟩:=r1;obtain⟨B,m,d,e_4,hra⟩:=r4;rw[e_1,e_4];have HC:=Lib.hid (QV.out _ _ _ _ _ jb hra);clear jb hra;go_wp2_with fail;refine HC.out.mono ?_;rintro e w2 ⟨rfl,hb2⟩;go_wp2;exact⟨rfl,hb2,rfl⟩
   all_goals
    intro vals w1 hx hd;clear hd;simp only[Lf,au,Act.put,aX,aW];go_wp2;exact gW
  intro vals W1 hx hf;have e11:vals 11=.bool true:=hf 11 (by omega);have hx:=hx.aG;have jB:=Lib.hid (Ext.trans HX0.out hx);have Qm:=Lib.hid (uT.out.ext hx);have Ql:=Lib.hid (jU.out.ext hx);clear hf hx;refine dJ (by kernel_rfl) ?_;simp only[Lf,au,Act.put,FR_];rw[e11];clear e11;have HE:=Lib.hid (Fq.out (by cases qi<;>rfl));go_wp2_with (refine wpList_store_row rfl 51 _ _ rfl g8 #[.int .i64 0,.int .i64 0,.int .i64 0,.int .i64 0,.int .i64 0,.int .i64 0,.int .i64 0] rfl rfl 51 _ Qm.out bF rfl (by simp[Value.oneCell']) ?_);exact bodyPost_ret (dQ Tryz.results26 _ _ g8 #[.int .i64 0,.int .i64 0,.int .i64 0,.int .i64 0,.int .i64 0,.int .i64 0,.int .i64 0] (.int .i64 360) rfl rfl (Qm.out.row #[.int .i64 0,.int .i64 0,.int .i64 0,.int .i64 0,.int .i64 0,.int .i64 0,.int .i64 0]) _ Tryz.underlying51 rfl bF) rfl ⟨by rw[HE.out],below_setRow jB.out hl8 _⟩
 |true =>
  cases qi with
  |false =>
   refine aH 12 [some (.agg SX),none,some (.agg SX),some (.slice A n c),none,some (.bool true),some (.bool false),some (.bool false),some (.int .i64 t),some (.bool false),some (.bool true),some (.bool true)] [(1,.w fun v w1=>∃g,v=.slice (some ⟨g,0,none⟩) 1 1∧aI w1 g 53 SX),(4,.w fun v w1=>∃B m d,v=.slice B m d∧RA aF 10 w1 w1.heap.size B m d L)] ?_ ?_ ?_
   ·refine⟨?_,?_,trivial⟩
    ·intro v w1 w2 hr hx;obtain⟨g,h1,h2⟩:=hr;exact⟨g,h1,h2.ext hx⟩
    ·intro v w1 w2 hr hx;obtain⟨B,m,d,h1,h2⟩:=hr;exact⟨B,m,d,h1,aB h2 hx⟩
   ·refine⟨?x0,?x1,?x2,?_,?x4,?x5,?_,?_,?_,?x9,?_,?_,trivial⟩
    case x0 =>
     intro vals w1 hx hd;clear hd;simp only[Lf];refine ay rfl 53 _ rfl g4 0 rfl SX SX.toList (by simp) _ (aI.range (jU.out.ext hx.aG) _ rfl) Tryz.underlying53 rfl (by rw[Array.length_toList,HS2.out];exact aN) ?_;go_wp2;exact q_
    case x1 =>
     intro vals w1 hx hd;clear hd;simp only[Lf,au,Act.put,aX,aW];refine aV rfl _ _ _ rfl SX rfl Tryz.underlying28 21 fQ HS2.out (by omega) (by omega) ?_;go_wp2;exact⟨rfl,(by repeat (first | exact Below.refl _ _ | assumption | refine Below.drew ?_ | refine below_drewN ?_ _ | refine aj ?_ _ | refine Below.setCell ?_ (by first | (simp;done) | omega | (simp;omega)) _ | refine aA ?_ (by assumption))),_,rfl,aI.new _ _ _⟩
    case x2 =>
     intro vals w1 hx hd;clear hd;simp only[Lf,au,Act.put,aX,aW];refine ay rfl 53 _ rfl g4 0 rfl SX SX.toList (by simp) _ (aI.range (jU.out.ext hx.aG) _ rfl) Tryz.underlying53 rfl (by rw[Array.length_toList,HS2.out];exact aN) ?_;go_wp2;exact q_
    case x4 =>
     intro vals w1 hx hd;clear hd;simp only[Lf,au,Act.put,aX,aW];go_wp2_with fail;refine (HOW.out _ (Ext.trans HX0.out hx.aG)).mono ?_;rintro e w2 ⟨v2,rfl,hown,hb2⟩;obtain⟨B,d,hv,_,_⟩:=aP hown;subst hv;have hra:=Lib.hid (RA.dD hown rfl (by omega));clear hown;go_wp2;exact⟨rfl,hb2,B,_,d,rfl,hra.out⟩
    case x5 =>
     intro vals w1 hx hd;have r1:(fun v w1=>∃g,v=.slice (some ⟨g,0,none⟩) 1 1∧aI w1 g 53 SX) (vals 1) w1:=hd 1 (by decide) rfl;dsimp only at r1;have r4:(fun v w1=>∃B m d,v=.slice B m d∧RA aF 10 w1 w1.heap.size B m d L) (vals 4) w1:=hd 4 (by decide) rfl;dsimp only at r4;clear hd;simp only[Lf,au,Act.put,aX,aW];obtain⟨g,e_1,jb⟩:=r1;obtain⟨B,m,d,e_4,hra⟩:=r4;rw[e_1,e_4];have HC:=Lib.hid (QV.out _ _ _ _ _ jb hra);clear jb hra;go_wp2_with fail;refine HC.out.mono ?_;rintro e w2 ⟨rfl,hb2⟩;go_wp2;exact⟨rfl,hb2,rfl⟩
    case x9 =>
     intro vals w1 hx hd;clear hd;simp only[Lf,au,Act.put,aX,aW];go_wp2_with fail;refine (O7.out _).mono ?_;rintro e w2 ⟨rfl,rfl⟩;go_wp2;exact q_
    all_goals
     intro vals w1 hx hd;clear hd;simp only[Lf,au,Act.put,aX,aW];go_wp2;exact gW
   intro vals W1 hx hf;have e11:vals 11=.bool true:=hf 11 (by omega);have hx:=hx.aG;have jB:=Lib.hid (Ext.trans HX0.out hx);have Qm:=Lib.hid (uT.out.ext hx);have Ql:=Lib.hid (jU.out.ext hx);clear hf hx;refine dJ (by kernel_rfl) ?_;simp only[Lf,au,Act.put,FR_];rw[e11];clear e11;have HE:=Lib.hid (Fq.out rfl);go_wp2_with (refine wpList_store_row rfl 51 _ _ rfl g8 #[.int .i64 0,.int .i64 0,.int .i64 0,.int .i64 0,.int .i64 0,.int .i64 0,.int .i64 0] rfl rfl 51 _ Qm.out bF rfl (by simp[Value.oneCell']) ?_);exact bodyPost_ret (dQ Tryz.results26 _ _ g8 #[.int .i64 0,.int .i64 0,.int .i64 0,.int .i64 0,.int .i64 0,.int .i64 0,.int .i64 0] (.int .i64 360) rfl rfl (Qm.out.row #[.int .i64 0,.int .i64 0,.int .i64 0,.int .i64 0,.int .i64 0,.int .i64 0,.int .i64 0]) _ Tryz.underlying51 rfl bF) rfl ⟨by rw[HE.out],below_setRow jB.out hl8 _⟩
  |true =>
   refine aH 12 [some (.agg SX),none,some (.agg SX),some (.slice A n c),none,some (.bool true),some (.bool false),some (.bool false),some (.int .i64 t),some (.bool true),some (.bool false),some (.bool false)] [(1,.w fun v w1=>∃g,v=.slice (some ⟨g,0,none⟩) 1 1∧aI w1 g 53 SX),(4,.w fun v w1=>∃B m d,v=.slice B m d∧RA aF 10 w1 w1.heap.size B m d L)] ?_ ?_ ?_
   ·refine⟨?_,?_,trivial⟩
    ·intro v w1 w2 hr hx;obtain⟨g,h1,h2⟩:=hr;exact⟨g,h1,h2.ext hx⟩
    ·intro v w1 w2 hr hx;obtain⟨B,m,d,h1,h2⟩:=hr;exact⟨B,m,d,h1,aB h2 hx⟩
   ·refine⟨?x0,?x1,?x2,?_,?x4,?x5,?_,?_,?_,?x9,?_,?_,trivial⟩
    case x0 =>
     intro vals w1 hx hd;clear hd;simp only[Lf];refine ay rfl 53 _ rfl g4 0 rfl SX SX.toList (by simp) _ (aI.range (jU.out.ext hx.aG) _ rfl) Tryz.underlying53 rfl (by rw[Array.length_toList,HS2.out];exact aN) ?_;go_wp2;exact q_
    case x1 =>
     intro vals w1 hx hd;clear hd;simp only[Lf,au,Act.put,aX,aW];refine aV rfl _ _ _ rfl SX rfl Tryz.underlying28 21 fQ HS2.out (by omega) (by omega) ?_;go_wp2;exact⟨rfl,(by repeat (first | exact Below.refl _ _ | assumption | refine Below.drew ?_ | refine below_drewN ?_ _ | refine aj ?_ _ | refine Below.setCell ?_ (by first | (simp;done) | omega | (simp;omega)) _ | refine aA ?_ (by assumption))),_,rfl,aI.new _ _ _⟩
    case x2 =>
     intro vals w1 hx hd;clear hd;simp only[Lf,au,Act.put,aX,aW];refine ay rfl 53 _ rfl g4 0 rfl SX SX.toList (by simp) _ (aI.range (jU.out.ext hx.aG) _ rfl) Tryz.underlying53 rfl (by rw[Array.length_toList,HS2.out];exact aN) ?_;go_wp2;exact q_
    case x4 =>
     intro vals w1 hx hd;clear hd;simp only[Lf,au,Act.put,aX,aW];go_wp2_with fail;refine (HOW.out _ (Ext.trans HX0.out hx.aG)).mono ?_;rintro e w2 ⟨v2,rfl,hown,hb2⟩;obtain⟨B,d,hv,_,_⟩:=aP hown;subst hv;have hra:=Lib.hid (RA.dD hown rfl (by omega));clear hown;go_wp2;exact⟨rfl,hb2,B,_,d,rfl,hra.out⟩
    case x5 =>
     intro vals w1 hx hd;have r1:(fun v w1=>∃g,v=.slice (some ⟨g,0,none⟩) 1 1∧aI w1 g 53 SX) (vals 1) w1:=hd 1 (by decide) rfl;dsimp only at r1;have r4:(fun v w1=>∃B m d,v=.slice B m d∧RA aF 10 w1 w1.heap.size B m d L) (vals 4) w1:=hd 4 (by decide) rfl;dsimp only at r4;clear hd;simp only[Lf,au,Act.put,aX,aW];obtain⟨g,e_1,jb⟩:=r1;obtain⟨B,m,d,e_4,hra⟩:=r4;rw[e_1,e_4];have HC:=Lib.hid (QV.out _ _ _ _ _ jb hra);clear jb hra;go_wp2_with fail;refine HC.out.mono ?_;rintro e w2 ⟨rfl,hb2⟩;go_wp2;exact⟨rfl,hb2,rfl⟩
    case x9 =>
     intro vals w1 hx hd;clear hd;simp only[Lf,au,Act.put,aX,aW];go_wp2_with fail;refine (O7.out _).mono ?_;rintro e w2 ⟨rfl,rfl⟩;go_wp2;exact q_
    all_goals
     intro vals w1 hx hd;clear hd;simp only[Lf,au,Act.put,aX,aW];go_wp2;exact gW
   intro vals W1 hx hf;have e11:vals 11=.bool false:=hf 11 (by omega);have hx:=hx.aG;have jB:=Lib.hid (Ext.trans HX0.out hx);have Qm:=Lib.hid (uT.out.ext hx);have Ql:=Lib.hid (jU.out.ext hx);clear hf hx;refine dJ (by kernel_rfl) ?_;simp only[Lf,au,Act.put,FR_];rw[e11];clear e11;have HE:=Lib.hid (YF.out rfl);have HO:=Lib.hid (WG.out rfl _ jB.out);go_wp2_with (refine ay rfl 53 _ rfl g4 0 rfl SX SX.toList (by simp) _ (aI.range Ql.out _ rfl) Tryz.underlying53 rfl (by rw[Array.length_toList,HS2.out];exact aN) ?_);refine HO.out.mono ?_;rintro e W2 ⟨rfl,hx2⟩;have sK:=Lib.hid (Ext.trans jB.out hx2);have HK82:=Lib.hid (Qm.out.ext hx2);clear hx2;go_wp2_with (refine wpList_store_row rfl 51 _ _ rfl g8 OX rfl rfl 51 _ HK82.out (by rw[Nj.out];exact bF) (by rw[Nj.out];rfl) WA.out ?_);exact bodyPost_ret (dQ Tryz.results26 _ _ g8 OX (.int .i64 0) rfl rfl (HK82.out.row OX) _ Tryz.underlying51 rfl (by rw[Nj.out];exact bF)) rfl ⟨by rw[HE.out],below_setRow sK.out hl8 _⟩
end Go.Proofs.YtjidhhfabfnhnaaGreat
namespace Go.Proofs.YtjidhhfabfnhnaaGreat
def kE:List Str→Int→iQ→List Str
 |[],m,o=>[⟨⟨m,m+1⟩,o⟩]
 |[s],m,o=>if s.eU=o then [⟨⟨s.sp.fr,m+1⟩,s.eU⟩] else [s,⟨⟨m,m+1⟩,o⟩]
 |s::s2::r,m,o=>s::kE (s2::r) m o
def nG (t:Int) (o:iQ):List Str→List Str
 |[]=>[⟨⟨t,t+1⟩,o⟩]
 |s::r=>if s.eU=o then ⟨⟨t,s.sp.tt⟩,o⟩::r else ⟨⟨t,t+1⟩,o⟩::s::r
theorem vM (f:Int→iQ) (t:Int) (n:Nat):eF f t (n+1)=nG t (f t) (eF f (t+1) n):=by
 rw[eF];cases eF f (t+1) n<;>rfl
theorem Jg (t m:Int) (o p:iQ):∀(l:List Str),(l=[]→m=t+1)→nG t o (kE l m p)=kE (nG t o l) m p
 |[],h=>by
  have hm:=h rfl;by_cases e:p=o
  ·simp[kE,nG,e]
  ·simp[kE,nG,e,Ne.symm e]
 |[s],_=>by
  by_cases e:s.eU=p
  ·by_cases e2:s.eU=o
   ·have e3:o=p:=e2.symm.trans e;simp[kE,nG,e2,e3]
   ·have e3:¬p=o:=fun h=>e2 (e.trans h);simp[kE,nG,e,e3]
  ·by_cases e2:s.eU=o
   ·have e3:¬o=p:=fun h=>e (e2.trans h);simp[kE,nG,e2,e3]
   ·simp[kE,nG,e,e2]
 |s::s2::r,_=>by
  by_cases e2:s.eU=o
  ·simp[kE,nG,e2]
  ·simp[kE,nG,e2]
theorem QW (f:Int→iQ) (t:Int) (n:Nat) (h:eF f t n=[]):n=0:=by
 cases n with
 |zero=>rfl
 |succ n =>
  rw[vM]at h;cases hl:eF f (t+1) n with
  |nil=>rw[hl]at h;simp[nG]at h
  |cons s r =>
   rw[hl]at h;by_cases e:s.eU=f t
   ·simp[nG,e]at h
   ·simp[nG,e]at h
theorem Ns (f:Int→iQ) (n:Nat):∀t:Int,eF f t (n+1)=kE (eF f t n) (t+n) (f (t+n)):=by
 induction n with
 |zero=>intro t;rw[show t+((0:Nat):Int)=t by omega];rfl
 |succ n ih =>
  intro t;rw[vM,ih (t+1),vM f t n,show t+1+(n:Int)=t+((n+1:Nat):Int) by omega];exact Jg t _ _ _ _ (fun h=>by have:=QW f (t+1) n h;omega)
theorem zG (m:Int) (o:iQ):∀(l:List Str) (h:0<l.length),(l[l.length-1].eU=o→kE l m o=l.set (l.length-1) ⟨⟨l[l.length-1].sp.fr,m+1⟩,l[l.length-1].eU⟩)∧(¬l[l.length-1].eU=o→kE l m o=l++[⟨⟨m,m+1⟩,o⟩])
 |[s],_=>by
  constructor
  ·intro h;simp only[List.length_singleton,Nat.sub_self,List.getElem_cons_zero]at h;simp[kE,h]
  ·intro h;simp only[List.length_singleton,Nat.sub_self,List.getElem_cons_zero]at h;simp[kE,h]
 |s::s2::r,_=>by
  have ih:=zG m o (s2::r) (by simp);have e1:(s::s2::r)[(s::s2::r).length-1]=(s2::r)[(s2::r).length-1]:=by simp
  rw[e1];constructor
  ·intro h;unfold kE;rw[ih.1 h];simp
  ·intro h;unfold kE;rw[ih.2 h];simp
end Go.Proofs.YtjidhhfabfnhnaaGreat
namespace Go.Proofs.YtjidhhfabfnhnaaGreat
open Go.RowKit
attribute [local go_sem] Oper.semAt_some
theorem UQ (l:List Str) (i:Nat) (hi:i<l.length) (m:Int):(l.flatMap strCells).set (i*9+1) (.int .i64 m)=(l.set i ⟨⟨l[i].sp.fr,m⟩,l[i].eU⟩).flatMap strCells:=by
 induction l generalizing i with
 |nil=>simp at hi
 |cons s r ih =>
  cases i with
  |zero=>rfl
  |succ i =>
   have h:=ih i (by simpa using hi);rw[List.set_cons_succ,List.flatMap_cons,List.flatMap_cons];have e:(i+1)*9+1=(strCells s).length+(i*9+1):=by show _=9+_;omega
   rw[e,List.set_append_right _ _ (by omega),Nat.add_sub_cancel_left,h];rfl
theorem Lc {W0 w:World} (ty:TypeId) (v:Value) (acc:List Str) (x:Str) (hx:Ext W0 w) (h:w.ownsRow W0.heap.size 96 9 v acc.length (acc.flatMap strCells)) (hn:acc.length≤1000000) :
  ∃v' w',(Builtin.append_ #[83,83] ty #[v,.slice (some ⟨w.heap.size,0,none⟩) 1 1]).run Tryz.prog (w.alloc (.cells (strCells x).toArray 96))=.ok v' w'∧w'.ownsRow W0.heap.size 96 9 v' (acc++[x]).length ((acc++[x]).flatMap strCells)∧Ext W0 w':=by
 obtain⟨i0,hi0,hz0,hz1,hz2⟩:=info_parts Fg;have jx:=aI.new w 96 (strCells x).toArray;have hx5:Ext w (w.alloc (.cells (strCells x).toArray 96)):=aj (Below.refl _ _) _;have hrow:=bM h hx5;have hx6:=Ext.trans hx hx5;have hBs:=Below.size hx6;obtain⟨v2,W7,hr,hrow2,hg2,-⟩:=run_append_own (P:=Tryz.prog) (w.alloc (.cells (strCells x).toArray 96)) W0.heap.size 83 ty 96 i0 _ 9 72 Tryz.underlying83 hi0 hz0 hz1 hz2 rfl (by omega) _ _ _ hrow ⟨w.heap.size,0,none⟩ 1 1 (strCells x) rfl (by intro i u hu;rw[Addr.add_lit,Nat.zero_add,jx.cell];simpa using hu) (cells_one x) (by unfold maxLen;omega) (by omega) (by omega);exact⟨v2,W7,hr,by rw[List.length_append,List.flatMap_append];simpa using hrow2,hx6.grown hg2 hBs (fun q e=>(World.ownsRow.lt hrow q e).1)⟩
set_option maxRecDepth 100000 in
set_option maxHeartbeats 4000000 in
theorem qW (x:St) (l:List fE) (A:Option Addr) (n c:Nat) (a b kn:Int) (w:World) (h:RA aF 10 w w.heap.size A n c l) (hfr:∀u∈l,u.sat=x.id→0≤u.fr) (ha:0≤a) (hab:a≤b) (hb:b≤1000000) :
  Calls Tryz.prog 79 #[.agg (aC x).toArray,.slice A n c,.agg #[.int .i64 a,.int .i64 b],.int .i64 kn] w (jc strCells 9 96 (eF (iK x l kn) a (b-a).toNat) w):=by
 obtain⟨N,hN⟩:∃N,N=(b-a).toNat:=⟨_,rfl⟩;have hNb:a+(N:Int)=b:=by omega
 rw[←hN];obtain⟨SX,gY⟩:∃X,(aC x).toArray=X:=⟨_,rfl⟩;have WG:Hid (∀W t,Ext w W→Calls Tryz.prog 77 #[.agg SX,.slice A n c,.int .i64 t,.int .i64 kn] W fun e w'=>e=.returned (.agg (aQ (iK x l kn t)).toArray)∧Ext W w'):=Lib.hid (fun W t hx=>by rw[←gY];exact uw x l A n c t kn W (aB h hx) hfr);have HS2:Hid (SX.size=21):=Lib.hid (by rw[←gY];rfl);rw[gY];generalize iK x l kn=F at WG⊢;clear hN gY h hfr;go_enter Tryz.func79,Tryz.ntmps79;go_upto_region 1 with (fail);have J4:aI ((w.alloc (.cells SX 53)).alloc (.cells #[.int .i64 a,.int .i64 b] 32)) w.heap.size 53 SX:=(aI.new _ _ _).alloc _;have J6:aI ((w.alloc (.cells SX 53)).alloc (.cells #[.int .i64 a,.int .i64 b] 32)) (w.heap.size+1) 32 #[.int .i64 a,.int .i64 b]:=aI.aU _ _ _ (by simp);have hx0:Ext w ((w.alloc (.cells SX 53)).alloc (.cells #[.int .i64 a,.int .i64 b] 32)):=aj (aj (Below.refl _ _) _) _;obtain⟨g4,hg4⟩:∃g,g=w.heap.size:=⟨_,rfl⟩;obtain⟨g6,hg6⟩:∃g,g=w.heap.size+1:=⟨_,rfl⟩;rw[←hg6,←hg4];rw[←hg4]at J4;rw[←hg6]at J6;generalize (w.alloc (.cells SX 53)).alloc (.cells #[.int .i64 a,.int .i64 b] 32)=W0 at J4 J6 hx0⊢;clear hg4 hg6;have s0:W0.cell? ⟨g6,0,none⟩=some (.int .i64 a):=J6.cell 0;have jU:=Lib.hid J4;have HJ6:=Lib.hid J6;have HX0:=Lib.hid hx0;clear J4 J6 hx0;go_wp2;clear s0;go_loopw [9,10] (fun v t wr=>∃k:Nat,k≤N∧t=.int .i64 (a+k)∧Hid (wr.ownsRow W0.heap.size 96 9 v (eF F a k).length ((eF F a k).flatMap strCells))∧Hid (Ext W0 wr)) (fun _ t _=>(b-intOf t).toNat)
 case atStart=>exact⟨0,Nat.zero_le _,by simp,Lib.hid (World.ownsRow_nil _ _ _ _),Lib.hid (Below.refl _ _)⟩
 case round =>
  obtain⟨k,hk,rfl,HR,HX⟩:=hrel;have t1:wr.cell? ⟨g6,1,none⟩=some (.int .i64 b):=(HJ6.out.ext HX.out).cell 1;obtain⟨t,ht⟩:∃t,t=a+(k:Int):=⟨_,rfl⟩;rw[←ht];by_cases hkn:k<N
  ·have htb:t<b:=by omega
   have ht0:0≤t:=by omega
   have hsn:=Ns F k a;rw[←ht]at hsn;have hlen:=rC F k a;have HT:=Lib.hid ht;clear ht;have HO:=Lib.hid (WG.out wr t (Ext.trans HX0.out HX.out));have HJ4r:=Lib.hid (jU.out.ext HX.out);obtain⟨o,ho⟩:∃o,o=F t:=⟨_,rfl⟩;rw[←ho]at HO hsn;clear ho;obtain⟨L,hL⟩:∃L,L=eF F a k:=⟨_,rfl⟩;rw[←hL]at HR hsn hlen;have yH:=Lib.hid hsn;clear hL hsn;go_wp2_with (refine ay rfl 53 _ rfl g4 0 rfl SX SX.toList (by simp) _ (aI.range HJ4r.out _ rfl) Tryz.underlying53 rfl (by rw[Array.length_toList,HS2.out];exact aN) ?_);refine HO.out.mono ?_;rintro e W2 ⟨rfl,hx2⟩;obtain⟨pe,ph,lo,hi,no,tu,sl⟩:=o;simp only[aQ];have hy:Ext W2 (W2.alloc (.cells #[.int .i64 pe,.int .i64 ph,.int .i64 lo,.int .i64 hi,.int .i64 no,.int .i64 tu,.int .i64 sl] 51)):=aj (Below.refl _ _) _;have JO:aI (W2.alloc (.cells #[.int .i64 pe,.int .i64 ph,.int .i64 lo,.int .i64 hi,.int .i64 no,.int .i64 tu,.int .i64 sl] 51)) W2.heap.size 51 #[.int .i64 pe,.int .i64 ph,.int .i64 lo,.int .i64 hi,.int .i64 no,.int .i64 tu,.int .i64 sl]:=aI.new _ _ _;go_upto_region 6 with (refine aZ rfl 51 _ _ rfl _ #[.int .i64 pe,.int .i64 ph,.int .i64 lo,.int .i64 hi,.int .i64 no,.int .i64 tu,.int .i64 sl] rfl rfl bF rfl (by simp[Value.oneCell']) ?_);generalize W2.heap.size=g11 at JO⊢;generalize W2.alloc (.cells #[.int .i64 pe,.int .i64 ph,.int .i64 lo,.int .i64 hi,.int .i64 no,.int .i64 tu,.int .i64 sl] 51)=V at JO hy⊢;have WE:Hid (Ext W0 V):=Lib.hid (Ext.trans HX.out (Ext.trans hx2 hy));have hR:=bM HR.out (Ext.trans hx2 hy);obtain⟨A5,k5,hv5,hc1,hc2⟩:=aP hR;subst hv5;have Gz:=Lib.hid hR;have NW:=Lib.hid JO;clear hx2 hy HO hR JO HR t1;obtain⟨m,hm⟩:∃m,m=L.length:=⟨_,rfl⟩;rw[←hm]at Gz hlen hc1⊢;have HM:=Lib.hid hm;clear hm;go_upto_region 7 with (fail);by_cases hm0:m=0
   ·have hd0:decide (0<m)=false:=by simp;omega
    have hPU:eF F a (k+1)=L++[⟨⟨t,t+1⟩,⟨pe,ph,lo,hi,no,tu,sl⟩⟩]:=by rw[yH.out,List.eq_nil_of_length_eq_zero (HM.out.symm.trans hm0)];rfl
    have Xt:=Lib.hid hPU;clear hPU hm0;refine aH 13 [some (.int .i64 (m:Int)),some (.bool false),some (.bool false),some (undef),some (undef),some (undef),some (undef),some (undef),some (undef),some (undef),some (undef),some (undef),some (.bool false)] [] ?_ ?_ ?_
    ·trivial
    ·refine⟨?_,?_,?_,?_,?_,?_,?_,?_,?_,?_,?_,?_,?_,trivial⟩
     all_goals
      intro vals w1 hx hd;clear hd;simp only[Lf,au,Act.put,aX,aW];go_wp2;exact gW
    intro vals V1 hx hf;have e12:vals 12=.bool false:=hf 12 (by omega);have Ac:=hx.aG;have QY:=Lib.hid (Ext.trans WE.out Ac);have Nu:=Lib.hid (bM Gz.out Ac);have rQ:=Lib.hid (NW.out.ext Ac);clear hf hx;refine dJ (by kernel_rfl) ?_;simp only[Lf,au,Act.put,FR_];rw[e12];clear e12;have hlm:L.length≤1000000:=by have:=HM.out;omega
    obtain⟨v5,w5,hrun,hown,hext⟩:=Lc 83 _ L ⟨⟨t,t+1⟩,⟨pe,ph,lo,hi,no,tu,sl⟩⟩ QY.out (by rw[←HM.out];exact Nu.out) hlm;have kH:=Lib.hid hrun;have uO:Hid (w5.ownsRow W0.heap.size 96 9 v5 (eF F a (k+1)).length ((eF F a (k+1)).flatMap strCells)):=Lib.hid (by rw[Xt.out];exact hown);have HEX:=Lib.hid hext;have z0:V1.cell? ⟨g11,0,none⟩=some (.int .i64 pe):=rQ.out.cell 0;have z1:V1.cell? ⟨g11,1,none⟩=some (.int .i64 ph):=rQ.out.cell 1;have z2:V1.cell? ⟨g11,2,none⟩=some (.int .i64 lo):=rQ.out.cell 2;have z3:V1.cell? ⟨g11,3,none⟩=some (.int .i64 hi):=rQ.out.cell 3;have z4:V1.cell? ⟨g11,4,none⟩=some (.int .i64 no):=rQ.out.cell 4;have z5:V1.cell? ⟨g11,5,none⟩=some (.int .i64 tu):=rQ.out.cell 5;have z6:V1.cell? ⟨g11,6,none⟩=some (.int .i64 sl):=rQ.out.cell 6;clear hrun hown hext Ac;go_wp2_with (refine aO rfl _ _ _ rfl rfl rfl kH.out ?_);go_roundw
    case rel=>exact⟨k+1,by omega,by rw[show a+((k+1:Nat):Int)=t+1 by have:=HT.out;omega],uO,HEX⟩
    case measure=>simp[intOf];omega
   ·obtain⟨J,hJ⟩:∃J,m=J+1:=⟨m-1,by omega⟩;obtain⟨g,cap,hv,hgb,hglt⟩:=World.ownsRow.form Gz.out (by omega);injection hv with hA _ hcc;subst hA hcc;have Si:J<L.length:=by have:=HM.out;omega
    have hpl:=zG t ⟨pe,ph,lo,hi,no,tu,sl⟩ L (by omega);have e1:L.length-1=J:=by have:=HM.out;omega
    simp only[e1]at hpl;have hset:=UQ L J Si (t+1);have c1:V.cell? ⟨g,J*9+1,none⟩=some (.int .i64 L[J].sp.tt):=by rw[Gz.out.cellAt _ (by omega),jl iT L J Si 1 (by omega)];rfl
    have c2:V.cell? ⟨g,J*9+2,none⟩=some (.int .i64 L[J].eU.period):=by rw[Gz.out.cellAt _ (by omega),jl iT L J Si 2 (by omega)];rfl
    have c3:V.cell? ⟨g,J*9+3,none⟩=some (.int .i64 L[J].eU.phase):=by rw[Gz.out.cellAt _ (by omega),jl iT L J Si 3 (by omega)];rfl
    have c4:V.cell? ⟨g,J*9+4,none⟩=some (.int .i64 L[J].eU.low):=by rw[Gz.out.cellAt _ (by omega),jl iT L J Si 4 (by omega)];rfl
    have c5:V.cell? ⟨g,J*9+5,none⟩=some (.int .i64 L[J].eU.high):=by rw[Gz.out.cellAt _ (by omega),jl iT L J Si 5 (by omega)];rfl
    have c6:V.cell? ⟨g,J*9+6,none⟩=some (.int .i64 L[J].eU.node):=by rw[Gz.out.cellAt _ (by omega),jl iT L J Si 6 (by omega)];rfl
    have c7:V.cell? ⟨g,J*9+7,none⟩=some (.int .i64 L[J].eU.turn):=by rw[Gz.out.cellAt _ (by omega),jl iT L J Si 7 (by omega)];rfl
    have c8:V.cell? ⟨g,J*9+8,none⟩=some (.int .i64 L[J].eU.eY):=by rw[Gz.out.cellAt _ (by omega),jl iT L J Si 8 (by omega)];rfl
    have f1:V.frozen? ⟨g,J*9+1,none⟩=false:=Gz.out.frozenAt _;generalize L[J]=s at hpl hset c1 c2 c3 c4 c5 c6 c7 c8;obtain⟨⟨sf,st⟩,⟨YG,YH,YI,YJ,qno,YK,YL⟩⟩:=s;dsimp only at hpl hset c1 c2 c3 c4 c5 c6 c7 c8;have hd0:decide (0<m)=true:=by simp;omega
    have HWJ:Hid (IntKind.i64.wrap ((m:Int)-1)=(J:Int)):=Lib.hid (by rw[hJ,show (((J+1:Nat):Int)-1)=(J:Int) by omega];exact IntWalk.i64_in _ (by omega));have hJm:J<m:=by omega
    have sN:=Lib.hid hpl;have HSET:=Lib.hid hset;have Vu:=Lib.hid hJ;clear hpl hset hJ e1 hm0 Si;have o0:V.cell? ⟨g11,0,none⟩=some (.int .i64 pe):=NW.out.cell 0;have o1:V.cell? ⟨g11,1,none⟩=some (.int .i64 ph):=NW.out.cell 1;have o2:V.cell? ⟨g11,2,none⟩=some (.int .i64 lo):=NW.out.cell 2;have o3:V.cell? ⟨g11,3,none⟩=some (.int .i64 hi):=NW.out.cell 3;have o4:V.cell? ⟨g11,4,none⟩=some (.int .i64 no):=NW.out.cell 4;have o5:V.cell? ⟨g11,5,none⟩=some (.int .i64 tu):=NW.out.cell 5;have o6:V.cell? ⟨g11,6,none⟩=some (.int .i64 sl):=NW.out.cell 6;by_cases he:(⟨YG,YH,YI,YJ,qno,YK,YL⟩:iQ)=⟨pe,ph,lo,hi,no,tu,sl⟩
    ·have Pj:Hid (∀w:World,(binOp .eql 51 (.agg #[.int .i64 YG,.int .i64 YH,.int .i64 YI,.int .i64 YJ,.int .i64 qno,.int .i64 YK,.int .i64 YL]) (.agg #[.int .i64 pe,.int .i64 ph,.int .i64 lo,.int .i64 hi,.int .i64 no,.int .i64 tu,.int .i64 sl])).run Tryz.prog w=.ok (.bool true) w):=Lib.hid (fun w=>by have h:=yE ⟨YG,YH,YI,YJ,qno,YK,YL⟩ ⟨pe,ph,lo,hi,no,tu,sl⟩ w;rw[decide_eq_true he]at h;exact h);have Xt:=Lib.hid (yH.out.trans (sN.out.1 he));clear he;refine aH 13 [some (.int .i64 (m:Int)),some (.bool true),some (.bool true),some (.slice (some ⟨g,0,none⟩) m k5),some (.int .i64 (m:Int)),some (.int .i64 (J:Int)),some (.int .i64 (J:Int)),some (.pointer (some ⟨g,J*9,none⟩)),some (.pointer (some ⟨g,J*9+2,none⟩)),some (.agg #[.int .i64 YG,.int .i64 YH,.int .i64 YI,.int .i64 YJ,.int .i64 qno,.int .i64 YK,.int .i64 YL]),some (.agg #[.int .i64 pe,.int .i64 ph,.int .i64 lo,.int .i64 hi,.int .i64 no,.int .i64 tu,.int .i64 sl]),some (.bool true),some (.bool true)] [] ?_ ?_ ?_
     ·trivial
     ·refine⟨?_,?_,?_,?_,?_,?x5,?x6,?_,?_,?_,?_,?x11,?_,trivial⟩
      case x5 =>
       intro vals w1 hx hd;clear hd;simp only[Lf,au,Act.put,aX,aW];have hwj:=HWJ.out;go_wp2;exact gW
      case x6 =>
       intro vals w1 hx hd;clear hd;simp only[Lf,au,Act.put,aX,aW];by_cases hj0:(0:Int)<(J:Int)
       ·(go_wp2;exact q_)
       ·(obtain rfl:J=0:=(by omega);go_wp2;exact q_)
      case x11 =>
       intro vals w1 hx hd;clear hd;simp only[Lf,au,Act.put,aX,aW];have heq:=Pj.out;go_wp2;exact gW
      all_goals
       intro vals w1 hx hd;clear hd;simp only[Lf,au,Act.put,aX,aW];have c2:=ah hx c2;have c3:=ah hx c3;have c4:=ah hx c4;have c5:=ah hx c5;have c6:=ah hx c6;have c7:=ah hx c7;have c8:=ah hx c8;have o0:=ah hx o0;have o1:=ah hx o1;have o2:=ah hx o2;have o3:=ah hx o3;have o4:=ah hx o4;have o5:=ah hx o5;have o6:=ah hx o6;go_wp2;exact gW
     intro vals V1 hx hf;have e12:vals 12=.bool true:=hf 12 (by omega);have Ac:=hx.aG;have QY:=Lib.hid (Ext.trans WE.out Ac);have Nu:=Lib.hid (bM Gz.out Ac);have rQ:=Lib.hid (NW.out.ext Ac);clear hf hx;refine dJ (by kernel_rfl) ?_;simp only[Lf,au,Act.put,FR_];rw[e12];clear e12;clear c2 c3 c4 c5 c6 c7 c8 o0 o1 o2 o3 o4 o5 o6;have c1:=ah Ac c1;have f1:V1.frozen? ⟨g,J*9+1,none⟩=false:=Nu.out.frozenAt _;have hst:=Nu.out.stored (J*9+1) (.int .i64 (t+1));have uO:Hid ((V1.setCell ⟨g,J*9+1,none⟩ (.int .i64 (t+1))).ownsRow W0.heap.size 96 9 (.slice (some ⟨g,0,none⟩) m k5) (eF F a (k+1)).length ((eF F a (k+1)).flatMap strCells)):=Lib.hid (by
      rw[Xt.out,List.length_set,←HM.out,←HSET.out];exact hst.1)
     have HEX:=Lib.hid (QY.out.setCell (p:=⟨g,J*9+1,none⟩) hgb (.int .i64 (t+1)));have m2:(0:Int)≤(m:Int)-1:=by omega
     have m3:((m:Int)-1).toNat=J:=by have:=Vu.out;omega
     clear hst HWJ Pj;go_wp2;go_roundw
     case rel=>exact⟨k+1,by omega,by rw[show a+((k+1:Nat):Int)=t+1 by have:=HT.out;omega],uO,HEX⟩
     case measure=>simp[intOf];omega
    ·have Pj:Hid (∀w:World,(binOp .eql 51 (.agg #[.int .i64 YG,.int .i64 YH,.int .i64 YI,.int .i64 YJ,.int .i64 qno,.int .i64 YK,.int .i64 YL]) (.agg #[.int .i64 pe,.int .i64 ph,.int .i64 lo,.int .i64 hi,.int .i64 no,.int .i64 tu,.int .i64 sl])).run Tryz.prog w=.ok (.bool false) w):=Lib.hid (fun w=>by have h:=yE ⟨YG,YH,YI,YJ,qno,YK,YL⟩ ⟨pe,ph,lo,hi,no,tu,sl⟩ w;rw[decide_eq_false he]at h;exact h);have Xt:=Lib.hid (yH.out.trans (sN.out.2 he));clear he;refine aH 13 [some (.int .i64 (m:Int)),some (.bool true),some (.bool true),some (.slice (some ⟨g,0,none⟩) m k5),some (.int .i64 (m:Int)),some (.int .i64 (J:Int)),some (.int .i64 (J:Int)),some (.pointer (some ⟨g,J*9,none⟩)),some (.pointer (some ⟨g,J*9+2,none⟩)),some (.agg #[.int .i64 YG,.int .i64 YH,.int .i64 YI,.int .i64 YJ,.int .i64 qno,.int .i64 YK,.int .i64 YL]),some (.agg #[.int .i64 pe,.int .i64 ph,.int .i64 lo,.int .i64 hi,.int .i64 no,.int .i64 tu,.int .i64 sl]),some (.bool false),some (.bool false)] [] ?_ ?_ ?_
     ·trivial
     ·refine⟨?_,?_,?_,?_,?_,?x5,?x6,?_,?_,?_,?_,?x11,?_,trivial⟩
      case x5 =>
       intro vals w1 hx hd;clear hd;simp only[Lf,au,Act.put,aX,aW];have hwj:=HWJ.out;go_wp2;exact gW
      case x6 =>
       intro vals w1 hx hd;clear hd;simp only[Lf,au,Act.put,aX,aW];by_cases hj0:(0:Int)<(J:Int)
       ·(go_wp2;exact q_)
       ·(obtain rfl:J=0:=(by omega);go_wp2;exact q_)
      case x11 =>
       intro vals w1 hx hd;clear hd;simp only[Lf,au,Act.put,aX,aW];have heq:=Pj.out;go_wp2;exact gW
      all_goals
       intro vals w1 hx hd;clear hd;simp only[Lf,au,Act.put,aX,aW];have c2:=ah hx c2;have c3:=ah hx c3;have c4:=ah hx c4;have c5:=ah hx c5;have c6:=ah hx c6;have c7:=ah hx c7;have c8:=ah hx c8;have o0:=ah hx o0;have o1:=ah hx o1;have o2:=ah hx o2;have o3:=ah hx o3;have o4:=ah hx o4;have o5:=ah hx o5;have o6:=ah hx o6;go_wp2;exact gW
     intro vals V1 hx hf;have e12:vals 12=.bool false:=hf 12 (by omega);have Ac:=hx.aG;have QY:=Lib.hid (Ext.trans WE.out Ac);have Nu:=Lib.hid (bM Gz.out Ac);have rQ:=Lib.hid (NW.out.ext Ac);clear hf hx;refine dJ (by kernel_rfl) ?_;simp only[Lf,au,Act.put,FR_];rw[e12];clear e12;clear c2 c3 c4 c5 c6 c7 c8 o0 o1 o2 o3 o4 o5 o6;clear HWJ Pj c1;have hlm:L.length≤1000000:=by have:=HM.out;omega
     obtain⟨v5,w5,hrun,hown,hext⟩:=Lc 83 _ L ⟨⟨t,t+1⟩,⟨pe,ph,lo,hi,no,tu,sl⟩⟩ QY.out (by rw[←HM.out];exact Nu.out) hlm;have kH:=Lib.hid hrun;have uO:Hid (w5.ownsRow W0.heap.size 96 9 v5 (eF F a (k+1)).length ((eF F a (k+1)).flatMap strCells)):=Lib.hid (by rw[Xt.out];exact hown);have HEX:=Lib.hid hext;have z0:V1.cell? ⟨g11,0,none⟩=some (.int .i64 pe):=rQ.out.cell 0;have z1:V1.cell? ⟨g11,1,none⟩=some (.int .i64 ph):=rQ.out.cell 1;have z2:V1.cell? ⟨g11,2,none⟩=some (.int .i64 lo):=rQ.out.cell 2;have z3:V1.cell? ⟨g11,3,none⟩=some (.int .i64 hi):=rQ.out.cell 3;have z4:V1.cell? ⟨g11,4,none⟩=some (.int .i64 no):=rQ.out.cell 4;have z5:V1.cell? ⟨g11,5,none⟩=some (.int .i64 tu):=rQ.out.cell 5;have z6:V1.cell? ⟨g11,6,none⟩=some (.int .i64 sl):=rQ.out.cell 6;clear hrun hown hext Ac;go_wp2_with (refine aO rfl _ _ _ rfl rfl rfl kH.out ?_);go_roundw
     case rel=>exact⟨k+1,by omega,by rw[show a+((k+1:Nat):Int)=t+1 by have:=HT.out;omega],uO,HEX⟩
     case measure=>simp[intOf];omega
  ·have htb:¬t<b:=by omega
   have zO:Hid (k=N):=Lib.hid (by omega);clear ht;go_wp2;go_ret;exact⟨_,rfl,by have h:=HR.out;rw[zO.out]at h;exact own_base h HX0.out.size,Ext.trans HX0.out HX.out⟩
end Go.Proofs.YtjidhhfabfnhnaaGreat
namespace Go.Proofs.YtjidhhfabfnhnaaGreat
open Go.RowKit
theorem QZ (x y:bY):ltOf aY x y=true↔x.can.fr<y.can.fr∨(x.can.fr=y.can.fr∧(x.sat<y.sat∨(x.sat=y.sat∧(x.cZ<y.cZ∨(x.cZ=y.cZ∧(x.sure.fr<y.sure.fr∨(x.sure.fr=y.sure.fr∧x.can.tt<y.can.tt))))))):=by
 have hor:∀a b:Int,JA a b<0↔(a<0∨(a=0∧b<0)):=fun a b=>by unfold JA;split<;>omega
 have hc:∀a b:Int,h_ a b<0↔a<b:=fun a b=>by unfold h_;split<;>(try split)<;>omega
 have hz:∀a b:Int,h_ a b=0↔a=b:=fun a b=>by unfold h_;split<;>(try split)<;>omega
 simp only[ltOf,aY,decide_eq_true_eq,hor,hc,hz]
set_option maxHeartbeats 2000000 in
theorem zH (nS nT aa ab ac ad nU nV ba bb bc bd:Int) (w:World) :
  Calls Tryz.prog 135 #[.agg #[.int .i64 nS,.int .i64 nT,.int .i64 aa,.int .i64 ab,.int .i64 ac,.int .i64 ad],.agg #[.int .i64 nU,.int .i64 nV,.int .i64 ba,.int .i64 bb,.int .i64 bc,.int .i64 bd]] w fun e w'=>e=.returned (.bool (ltOf aY ⟨nS,nT,⟨aa,ab⟩,⟨ac,ad⟩⟩ ⟨nU,nV,⟨ba,bb⟩,⟨bc,bd⟩⟩))∧Below w.heap.size w w':=by
 have hl:=QZ ⟨nS,nT,⟨aa,ab⟩,⟨ac,ad⟩⟩ ⟨nU,nV,⟨ba,bb⟩,⟨bc,bd⟩⟩;dsimp only at hl;generalize ltOf aY ⟨nS,nT,⟨aa,ab⟩,⟨ac,ad⟩⟩ ⟨nU,nV,⟨ba,bb⟩,⟨bc,bd⟩⟩=r at hl⊢;have hr:∀z:Int,∀u:Int,(z<u↔r=true)→Ending.returned (.bool (decide (z<u)))=.returned (.bool r):=fun z u h=>by
  have:decide (z<u)=r:=by rw[Bool.eq_iff_iff,decide_eq_true_iff];exact h
  rw[this]
 have HR:=Lib.hid hr;have HL:=Lib.hid hl;clear hr hl;by_cases h1:ac=bc
 ·subst h1;by_cases h2:nS=nU
  ·subst h2;by_cases h3:nT=nV
   ·subst h3;by_cases h4:aa=ba
    ·subst h4;go_enter Tryz.func135,Tryz.ntmps135;go_wp2;go_ret;exact⟨HR.out _ _ (by rw[HL.out];first | omega | (simp only[true_and];omega)),(by repeat (first | exact Below.refl _ _ | assumption | refine Below.drew ?_ | refine below_drewN ?_ _ | refine aj ?_ _ | refine Below.setCell ?_ (by first | (simp;done) | omega | (simp;omega)) _ | refine aA ?_ (by assumption)))⟩
    ·have n4:(aa != ba)=true:=by simpa using h4
     go_enter Tryz.func135,Tryz.ntmps135;go_wp2;go_ret;exact⟨HR.out _ _ (by rw[HL.out];first | omega | (simp only[true_and];omega)),(by repeat (first | exact Below.refl _ _ | assumption | refine Below.drew ?_ | refine below_drewN ?_ _ | refine aj ?_ _ | refine Below.setCell ?_ (by first | (simp;done) | omega | (simp;omega)) _ | refine aA ?_ (by assumption)))⟩
   ·have n3:(nT != nV)=true:=by simpa using h3
    go_enter Tryz.func135,Tryz.ntmps135;go_wp2;go_ret;exact⟨HR.out _ _ (by rw[HL.out];first | omega | (simp only[true_and];omega)),(by repeat (first | exact Below.refl _ _ | assumption | refine Below.drew ?_ | refine below_drewN ?_ _ | refine aj ?_ _ | refine Below.setCell ?_ (by first | (simp;done) | omega | (simp;omega)) _ | refine aA ?_ (by assumption)))⟩
  ·have n2:(nS != nU)=true:=by simpa using h2
   go_enter Tryz.func135,Tryz.ntmps135;go_wp2;go_ret;exact⟨HR.out _ _ (by rw[HL.out];first | omega | (simp only[true_and];omega)),(by repeat (first | exact Below.refl _ _ | assumption | refine Below.drew ?_ | refine below_drewN ?_ _ | refine aj ?_ _ | refine Below.setCell ?_ (by first | (simp;done) | omega | (simp;omega)) _ | refine aA ?_ (by assumption)))⟩
 ·have n1:(ac != bc)=true:=by simpa using h1
  go_enter Tryz.func135,Tryz.ntmps135;go_wp2;go_ret;exact⟨HR.out _ _ (by rw[HL.out];first | omega | (simp only[true_and];omega)),(by repeat (first | exact Below.refl _ _ | assumption | refine Below.drew ?_ | refine below_drewN ?_ _ | refine aj ?_ _ | refine Below.setCell ?_ (by first | (simp;done) | omega | (simp;omega)) _ | refine aA ?_ (by assumption)))⟩
end Go.Proofs.YtjidhhfabfnhnaaGreat
