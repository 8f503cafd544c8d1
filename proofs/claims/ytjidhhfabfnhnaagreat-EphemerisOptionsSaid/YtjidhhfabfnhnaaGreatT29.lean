/- The reference: Passes (printed by contact_q2.py). -/
import Derived.Test.YtjidhhfabfnhnaaGreatT28
import Derived.Test.YtjidhhfabfnhnaaGreatT26
import Derived.Test.YtjidhhfabfnhnaaGreatT01
import Derived.Test.YtjidhhfabfnhnaaGreatT17
import Derived.Test.YtjidhhfabfnhnaaGreatT24
import Derived.Test.YtjidhhfabfnhnaaGreatT16
import Derived.Test.YtjidhhfabfnhnaaGreatT09
import Derived.Test.YtjidhhfabfnhnaaGreatT13
import Derived.ArgAppend
import Derived.Deep.CutRange
namespace Go.Proofs.YtjidhhfabfnhnaaGreat
open Go.RowKit
attribute [local go_sem] Oper.semAt_some
theorem MB (l:List St) (us:Int) (j:Nat) (h:j<l.length):(l.take (j+1)).any (fun x=>x.id==us)=((l.take j).any (fun x=>x.id==us)||(l[j].id==us)):=by
 rw[List.take_succ_eq_append_getElem h,List.any_append];simp
set_option maxRecDepth 100000 in
set_option maxHeartbeats 4000000 in
theorem Gg (sats:List St) (l:List fE) (SA A:Option Addr) (sn sc n c:Nat) (w:World) (hS:RA aC 21 w w.heap.size SA sn sc sats) (hU:RA aI 10 w w.heap.size A n c l) :
  Calls Tryz.prog 25 #[.slice SA sn sc,.slice A n c] w fun e w'=>e=.returned (.bool (fV sats l))∧Ext w w':=by
 have hn:n≤9223372036854775807:=hU.le;have hsn:sn≤9223372036854775807:=hS.le;have Ws:=hU.len;have HUL:=Lib.hid Ws;have HSL:=Lib.hid hS.len;have RH:=Lib.hid (sS sats SA sn sc w hS);have HS:=Lib.hid hS;have HU:=Lib.hid hU;obtain⟨ids,JZ⟩:∃i,i=sats.map (·.id):=⟨_,rfl⟩;obtain⟨Q,hQ⟩:∃q,q=jV ids none l:=⟨_,rfl⟩;obtain⟨q0,hq0⟩:∃q,q=eH sats:=⟨_,rfl⟩;have hve:fV sats l=(Q&&decide (n≤24)&&q0):=by unfold fV;rw[←JZ,←hQ,←hq0,Ws]
 rw[←hq0]at RH;obtain⟨R,hR⟩:∃R,R=fV sats l:=⟨_,rfl⟩;rw[←hR];rw[←hR]at hve;have HVE:=Lib.hid hve;have Yx:Hid (Q=jV ids ((aV l 0).map (·.kn)) (l.drop 0)):=Lib.hid hQ;have ZX:=Lib.hid JZ;clear JZ hQ hq0 hve hR hS hU Ws;go_enter Tryz.func25,Tryz.ntmps25;go_wp2_with fail;refine RH.out.mono ?_;rintro e W1 ⟨rfl,hx1⟩;have kC:Hid (Ext w W1):=Lib.hid hx1;clear hx1 RH;cases q0 with
 |false =>
  have HF:Hid (R=false):=Lib.hid (by rw[HVE.out];simp);have iP:=kC;go_wp2;go_ret;exact⟨by rw[HF.out];rfl,iP.out⟩
 |true =>
  by_cases h24:n≤24
  ·have h24i:¬(24:Int)<(n:Int):=by omega
   have HRQ:Hid (R=Q):=Lib.hid (by rw[HVE.out,decide_eq_true h24];simp);go_wp2;go_loopw [6] (fun i wr=>∃k:Nat,k≤n∧i=.int .i64 k∧Hid (Q=jV ids ((aV l k).map (·.kn)) (l.drop k))∧Hid (Ext w wr)) (fun i _=>n-(intOf i).toNat)
   case atStart=>exact⟨0,Nat.zero_le _,rfl,Yx,kC⟩
   case round =>
    clear Yx kC;obtain⟨k,hk,rfl,HQK,HX⟩:=hrel;by_cases hkn:k<n
    ·have hkz:(k:Int)<(n:Int):=by omega
     obtain⟨bu,ou,hzu,hAu,hbu,tZ⟩:=HU.out.at_ iR hkn;subst hAu;have hst:=zX ids l k hzu;rw[←HQK.out]at hst;have hpv:(aV l (k+1)).map (·.kn)=some l[k].kn:=by simp[aV,hzu]
     have hpc:¬k=0→∃(j:Nat) (pk:Int),k=j+1∧(aV l k).map (·.kn)=some pk∧w.cell? ⟨bu,ou+j*10+2,none⟩=some (.int .i64 pk):=fun hk0=>by
      refine⟨k-1,(l[k-1]'(by omega)).kn,by omega,by unfold aV;rw[if_neg hk0,List.getElem?_eq_getElem (by omega)];rfl,?_⟩;obtain⟨b2,o2,hz2,hA2,_,hc2⟩:=HU.out.at_ iR (k:=k-1) (by omega);injection hA2 with hA2;injection hA2 with h1 h2;subst h1 h2;exact hc2 2 (by simp)
     generalize hu:l[k]=u at hst tZ hpv;obtain⟨us,uf,uk,⟨pe,ph,lo,hi,no,tu,sl⟩⟩:=u;have huo:yE ⟨us,uf,uk,⟨pe,ph,lo,hi,no,tu,sl⟩⟩=(inB uf 0 1000000&&inB uk 0 1000000&&dw ⟨pe,ph,lo,hi,no,tu,sl⟩):=rfl;rw[huo]at hst;dsimp only at hst hpv;have hov:=fun w=>lZ pe ph lo hi no tu sl w;have hi1:=fun w=>(Eh uf 0 1000000 w).mono (fun e w' h=>(⟨h.1,h.2.symm⟩:e=.returned (.bool (inB uf 0 1000000))∧w'=w));have hi2:=fun w=>(Eh uk 0 1000000 w).mono (fun e w' h=>(⟨h.1,h.2.symm⟩:e=.returned (.bool (inB uk 0 1000000))∧w'=w));generalize dw ⟨pe,ph,lo,hi,no,tu,sl⟩=q5 at hst hov;generalize inB uf 0 1000000=q2 at hst hi1;generalize inB uk 0 1000000=q3 at hst hi2;have HST:=Lib.hid hst;have HPV:=Lib.hid hpv;have HPC:=Lib.hid hpc;have HOV:=Lib.hid hov;have HI1:=Lib.hid hi1;have HI2:=Lib.hid hi2;have yw0:w.cell? ⟨bu,ou+k*10,none⟩=some (.int .i64 us):=tZ 0 (by simp);have yw1:w.cell? ⟨bu,ou+k*10+1,none⟩=some (.int .i64 uf):=tZ 1 (by simp);have yw2:w.cell? ⟨bu,ou+k*10+2,none⟩=some (.int .i64 uk):=tZ 2 (by simp);have yw3:w.cell? ⟨bu,ou+k*10+3,none⟩=some (.int .i64 pe):=tZ 3 (by simp);have yw4:w.cell? ⟨bu,ou+k*10+4,none⟩=some (.int .i64 ph):=tZ 4 (by simp);have yw5:w.cell? ⟨bu,ou+k*10+5,none⟩=some (.int .i64 lo):=tZ 5 (by simp);have yw6:w.cell? ⟨bu,ou+k*10+6,none⟩=some (.int .i64 hi):=tZ 6 (by simp);have yw7:w.cell? ⟨bu,ou+k*10+7,none⟩=some (.int .i64 no):=tZ 7 (by simp);have yw8:w.cell? ⟨bu,ou+k*10+8,none⟩=some (.int .i64 tu):=tZ 8 (by simp);have yw9:w.cell? ⟨bu,ou+k*10+9,none⟩=some (.int .i64 sl):=tZ 9 (by simp);have HCY:Hid (∀W,Ext w W→W.cell? ⟨bu,ou+k*10,none⟩=some (.int .i64 us)∧W.cell? ⟨bu,ou+k*10+1,none⟩=some (.int .i64 uf)∧W.cell? ⟨bu,ou+k*10+2,none⟩=some (.int .i64 uk)∧W.cell? ⟨bu,ou+k*10+3,none⟩=some (.int .i64 pe)∧W.cell? ⟨bu,ou+k*10+4,none⟩=some (.int .i64 ph)∧W.cell? ⟨bu,ou+k*10+5,none⟩=some (.int .i64 lo)∧W.cell? ⟨bu,ou+k*10+6,none⟩=some (.int .i64 hi)∧W.cell? ⟨bu,ou+k*10+7,none⟩=some (.int .i64 no)∧W.cell? ⟨bu,ou+k*10+8,none⟩=some (.int .i64 tu)∧W.cell? ⟨bu,ou+k*10+9,none⟩=some (.int .i64 sl)):=Lib.hid (fun W hx=>⟨ah hx yw0,ah hx yw1,ah hx yw2,ah hx yw3,ah hx yw4,ah hx yw5,ah hx yw6,ah hx yw7,ah hx yw8,ah hx yw9⟩);clear hst hpv hpc hov hi1 hi2 tZ hzu hbu hu huo yw0 yw1 yw2 yw3 yw4 yw5 yw6 yw7 yw8 yw9;obtain⟨V0,hV0⟩:∃V,V=wr:=⟨_,rfl⟩;rw[←hV0]at HX⊢;clear hV0;go_wp2;go_loopw [7,8] (fun th m wr=>∃j:Nat,j≤sn∧th=.bool ((sats.take j).any (fun x=>x.id==us))∧m=.int .i64 j∧Ext V0 wr) (fun _ m _=>sn-(intOf m).toNat)
     case atStart=>exact⟨0,Nat.zero_le _,by simp,rfl,Below.refl _ _⟩
     case round =>
      obtain⟨j,hj,rfl,rfl,hY⟩:=hrel;by_cases hjn:j<sn
      ·have hjz:(j:Int)<(sn:Int):=by omega
       obtain⟨bs,os,hzs,hAs,hbs,hcs⟩:=(HS.out.below (Ext.trans HX.out hY)).at_ gJ hjn;subst hAs;have hat:=MB sats us j hzs;have z0:wr.cell? ⟨bs,os+j*21,none⟩=some (.int .i64 sats[j].id):=hcs 0 (by simp);generalize sats[j].id=fO at hat z0;obtain⟨y0,-⟩:=HCY.out wr (Ext.trans HX.out hY);generalize (sats.take j).any (fun x=>x.id==us)=th at hat⊢;have HAT:=Lib.hid hat;have HY:=Lib.hid hY;clear hcs hzs hbs hat hY;cases th with
       |true =>
        go_wp2;go_quiet (fail)
        go_wp2;go_roundw
        case rel=>exact⟨j+1,by omega,by rw[HAT.out];rfl,by go_num,Ext.trans HY.out (below_drewN (Below.refl _ _) _)⟩
        case measure=>simp[intOf];omega
       |false =>
        obtain⟨qe,hqe⟩:∃q,(fO==us)=q:=⟨_,rfl⟩;have HQE:=Lib.hid hqe;go_wp2;go_quiet (fail)
        go_wp2;go_roundw
        case rel=>exact⟨j+1,by omega,by rw[HAT.out,HQE.out];rfl,by go_num,Ext.trans HY.out (below_drewN (Below.refl _ _) _)⟩
        case measure=>simp[intOf];omega
      ·have hjz:¬(j:Int)<(sn:Int):=by omega
       have hth:(sats.take j).any (fun x=>x.id==us)=decide (us∈ids):=by rw[List.take_of_length_le (by rw[HSL.out];omega),ZX.out];exact RF _ _
       rw[hth];generalize decide (us∈ids)=q1 at HST⊢;have Zn:Hid (Ext w wr):=Lib.hid (Ext.trans HX.out hY);obtain⟨y0,y1,y2,y3,y4,y5,y6,y7,y8,y9⟩:=HCY.out wr Zn.out;clear hth hY;go_wp2_with fail;refine (HOV.out _).mono ?_;rintro e W2 ⟨rfl,hx2⟩;have iP:Hid (Ext w W2):=Lib.hid (Ext.trans Zn.out hx2);obtain⟨y0,y1,y2,-⟩:=HCY.out W2 iP.out;clear hx2 y3 y4 y5 y6 y7 y8 y9;go_upto_region 13 with (fail);cases q1 with
       |false =>
        have HF:Hid (R=false):=Lib.hid (by rw[HRQ.out,HST.out];simp);go_quiet (first | with_reducible exact Calls.quiet_of_same (HI1.out _) | with_reducible exact Calls.quiet_of_same (HI2.out _))
        go_wp2;go_ret;exact⟨by rw[HF.out];rfl,Ext.trans iP.out (below_drewN (Below.refl _ _) _)⟩
       |true =>
        cases q5 with
        |false =>
         have HF:Hid (R=false):=Lib.hid (by rw[HRQ.out,HST.out];simp);go_quiet (first | with_reducible exact Calls.quiet_of_same (HI1.out _) | with_reducible exact Calls.quiet_of_same (HI2.out _))
         go_wp2;go_ret;exact⟨by rw[HF.out];rfl,Ext.trans iP.out (below_drewN (Below.refl _ _) _)⟩
        |true =>
         cases q2 with
         |false =>
          have HF:Hid (R=false):=Lib.hid (by rw[HRQ.out,HST.out];simp);go_quiet (first | with_reducible exact Calls.quiet_of_same (HI1.out _) | with_reducible exact Calls.quiet_of_same (HI2.out _))
          go_wp2;go_ret;exact⟨by rw[HF.out];rfl,Ext.trans iP.out (below_drewN (Below.refl _ _) _)⟩
         |true =>
          cases q3 with
          |false =>
           have HF:Hid (R=false):=Lib.hid (by rw[HRQ.out,HST.out];simp);go_quiet (first | with_reducible exact Calls.quiet_of_same (HI1.out _) | with_reducible exact Calls.quiet_of_same (HI2.out _))
           go_wp2;go_ret;exact⟨by rw[HF.out];rfl,Ext.trans iP.out (below_drewN (Below.refl _ _) _)⟩
          |true =>
           by_cases hk0:k=0
           ·have hkd:decide (0<k)=false:=by simp;omega
            have HN:Hid (Q=jV ids ((aV l (k+1)).map (·.kn)) (l.drop (k+1))):=Lib.hid (by rw[HST.out,HPV.out];subst hk0;simp[aV]);clear hk0;go_quiet (first | with_reducible exact Calls.quiet_of_same (HI1.out _) | with_reducible exact Calls.quiet_of_same (HI2.out _))
            go_wp2;go_roundw
            case rel=>exact⟨k+1,by omega,by go_num,HN,Lib.hid (Ext.trans iP.out (below_drewN (Below.refl _ _) _))⟩
            case measure=>simp[intOf];omega
           ·obtain⟨j2,pk,hkj,hpk,hpc⟩:=HPC.out hk0;have hkd:decide (0<k)=true:=by simp;omega
            have hwj:IntKind.i64.wrap ((k:Int)-1)=(j2:Int):=by rw[hkj,show (((j2+1:Nat):Int)-1)=(j2:Int) by omega];exact IntWalk.i64_in _ (by omega)
            have hj2:j2<n:=by omega
            have x2:=ah iP.out hpc;by_cases hlt:uk<pk
            ·have HF:Hid (R=false):=Lib.hid (by rw[HRQ.out,HST.out,hpk];have:¬pk≤uk:=(by omega);simp[this]);clear hkj hpk hpc hk0;go_quiet (first | with_reducible exact Calls.quiet_of_same (HI1.out _) | with_reducible exact Calls.quiet_of_same (HI2.out _))
             go_wp2;go_ret;exact⟨by rw[HF.out];rfl,Ext.trans iP.out (below_drewN (Below.refl _ _) _)⟩
            ·have HN:Hid (Q=jV ids ((aV l (k+1)).map (·.kn)) (l.drop (k+1))):=Lib.hid (by rw[HST.out,HPV.out,hpk];have:pk≤uk:=(by omega);simp[this]);clear hkj hpk hpc hk0;go_quiet (first | with_reducible exact Calls.quiet_of_same (HI1.out _) | with_reducible exact Calls.quiet_of_same (HI2.out _))
             go_wp2;go_roundw
             case rel=>exact⟨k+1,by omega,by go_num,HN,Lib.hid (Ext.trans iP.out (below_drewN (Below.refl _ _) _))⟩
             case measure=>simp[intOf];omega
    ·have hkz:¬(k:Int)<(n:Int):=by omega
     have HF:Hid (R=true):=Lib.hid (by rw[HRQ.out,HQK.out,List.drop_of_length_le (by rw[HUL.out];omega)];rfl);clear HQK;go_wp2;go_ret;exact⟨by rw[HF.out];rfl,HX.out⟩
  ·have h24i:(24:Int)<(n:Int):=by omega
   have HF:Hid (R=false):=Lib.hid (by rw[HVE.out,decide_eq_false h24];simp);go_wp2;go_ret;exact⟨by rw[HF.out];rfl,kC.out⟩
end Go.Proofs.YtjidhhfabfnhnaaGreat
namespace Go.Proofs.YtjidhhfabfnhnaaGreat
open Go.RowKit
attribute [local go_sem] Oper.semAt_some
theorem I_ {ids:List Int} : ∀ {l:List fE} {p:Option Int},jV ids p l=true→∀u∈l,yE u=true
 |[],_,_,_,hu=>by cases hu
 |v::r,p,h,u,hu=>by
  unfold jV at h;simp only[Bool.and_eq_true]at h;rcases List.mem_cons.1 hu with rfl | hu
  ·exact h.1.1.2
  ·exact I_ h.2 u hu
end Go.Proofs.YtjidhhfabfnhnaaGreat
namespace Go.Proofs.YtjidhhfabfnhnaaGreat
def kJ:List Str→Int→iM→List Str
 |[],m,o=>[⟨⟨m,m+1⟩,o⟩]
 |[s],m,o=>if s.eY=o then [⟨⟨s.sp.fr,m+1⟩,s.eY⟩] else [s,⟨⟨m,m+1⟩,o⟩]
 |s::s2::r,m,o=>s::kJ (s2::r) m o
def oC (t:Int) (o:iM):List Str→List Str
 |[]=>[⟨⟨t,t+1⟩,o⟩]
 |s::r=>if s.eY=o then ⟨⟨t,s.sp.tt⟩,o⟩::r else ⟨⟨t,t+1⟩,o⟩::s::r
theorem yj (f:Int→iM) (t:Int) (n:Nat):eX f t (n+1)=oC t (f t) (eX f (t+1) n):=by
 rw[eX];cases eX f (t+1) n<;>rfl
theorem MC (t m:Int) (o p:iM):∀(l:List Str),(l=[]→m=t+1)→oC t o (kJ l m p)=kJ (oC t o l) m p
 |[],h=>by
  have hm:=h rfl;by_cases e:p=o
  ·simp[kJ,oC,e]
  ·simp[kJ,oC,e,Ne.symm e]
 |[s],_=>by
  by_cases e:s.eY=p
  ·by_cases e2:s.eY=o
   ·have e3:o=p:=e2.symm.trans e;simp[kJ,oC,e2,e3]
   ·have e3:¬p=o:=fun h=>e2 (e.trans h);simp[kJ,oC,e,e3]
  ·by_cases e2:s.eY=o
   ·have e3:¬o=p:=fun h=>e (e2.trans h);simp[kJ,oC,e2,e3]
   ·simp[kJ,oC,e,e2]
 |s::s2::r,_=>by
  by_cases e2:s.eY=o
  ·simp[kJ,oC,e2]
  ·simp[kJ,oC,e2]
theorem UD (f:Int→iM) (t:Int) (n:Nat) (h:eX f t n=[]):n=0:=by
 cases n with
 |zero=>rfl
 |succ n =>
  rw[yj]at h;cases hl:eX f (t+1) n with
  |nil=>rw[hl]at h;simp[oC]at h
  |cons s r =>
   rw[hl]at h;by_cases e:s.eY=f t
   ·simp[oC,e]at h
   ·simp[oC,e]at h
theorem PW (f:Int→iM) (n:Nat):∀t:Int,eX f t (n+1)=kJ (eX f t n) (t+n) (f (t+n)):=by
 induction n with
 |zero=>intro t;rw[show t+((0:Nat):Int)=t by omega];rfl
 |succ n ih =>
  intro t;rw[yj,ih (t+1),yj f t n,show t+1+(n:Int)=t+((n+1:Nat):Int) by omega];exact MC t _ _ _ _ (fun h=>by have:=UD f (t+1) n h;omega)
theorem BL (m:Int) (o:iM):∀(l:List Str) (h:0<l.length),(l[l.length-1].eY=o→kJ l m o=l.set (l.length-1) ⟨⟨l[l.length-1].sp.fr,m+1⟩,l[l.length-1].eY⟩)∧(¬l[l.length-1].eY=o→kJ l m o=l++[⟨⟨m,m+1⟩,o⟩])
 |[s],_=>by
  constructor
  ·intro h;simp only[List.length_singleton,Nat.sub_self,List.getElem_cons_zero]at h;simp[kJ,h]
  ·intro h;simp only[List.length_singleton,Nat.sub_self,List.getElem_cons_zero]at h;simp[kJ,h]
 |s::s2::r,_=>by
  have ih:=BL m o (s2::r) (by simp);have e1:(s::s2::r)[(s::s2::r).length-1]=(s2::r)[(s2::r).length-1]:=by simp
  rw[e1];constructor
  ·intro h;unfold kJ;rw[ih.1 h];simp
  ·intro h;unfold kJ;rw[ih.2 h];simp
end Go.Proofs.YtjidhhfabfnhnaaGreat
namespace Go.Proofs.YtjidhhfabfnhnaaGreat
open Go.RowKit
attribute [local go_sem] Oper.semAt_some
theorem XY (l:List Str) (i:Nat) (hi:i<l.length) (m:Int):(l.flatMap strCells).set (i*9+1) (.int .i64 m)=(l.set i ⟨⟨l[i].sp.fr,m⟩,l[i].eY⟩).flatMap strCells:=by
 induction l generalizing i with
 |nil=>simp at hi
 |cons s r ih =>
  cases i with
  |zero=>rfl
  |succ i =>
   have h:=ih i (by simpa using hi);rw[List.set_cons_succ,List.flatMap_cons,List.flatMap_cons];have e:(i+1)*9+1=(strCells s).length+(i*9+1):=by show _=9+_;omega
   rw[e,List.set_append_right _ _ (by omega),Nat.add_sub_cancel_left,h];rfl
theorem N_ {W0 w:World} (ty:TypeId) (v:Value) (acc:List Str) (x:Str) (hx:Ext W0 w) (h:w.ownsRow W0.heap.size 96 9 v acc.length (acc.flatMap strCells)) (hn:acc.length≤1000000) :
  ∃v' w',(Builtin.append_ #[83,83] ty #[v,.slice (some ⟨w.heap.size,0,none⟩) 1 1]).run Tryz.prog (w.alloc (.cells (strCells x).toArray 96))=.ok v' w'∧w'.ownsRow W0.heap.size 96 9 v' (acc++[x]).length ((acc++[x]).flatMap strCells)∧Ext W0 w':=by
 obtain⟨i0,hi0,hz0,hz1,hz2⟩:=info_parts H_;have jx:=aG.new w 96 (strCells x).toArray;have hx5:Ext w (w.alloc (.cells (strCells x).toArray 96)):=aj (Below.refl _ _) _;have hrow:=bT h hx5;have hx6:=Ext.trans hx hx5;have hBs:=Below.size hx6;obtain⟨v2,W7,hr,hrow2,hg2,-⟩:=run_append_own (P:=Tryz.prog) (w.alloc (.cells (strCells x).toArray 96)) W0.heap.size 83 ty 96 i0 _ 9 72 Tryz.underlying83 hi0 hz0 hz1 hz2 rfl (by omega) _ _ _ hrow ⟨w.heap.size,0,none⟩ 1 1 (strCells x) rfl (by intro i u hu;rw[Addr.add_lit,Nat.zero_add,jx.cell];simpa using hu) (cells_one x) (by unfold maxLen;omega) (by omega) (by omega);exact⟨v2,W7,hr,by rw[List.length_append,List.flatMap_append];simpa using hrow2,hx6.grown hg2 hBs (fun q e=>(World.ownsRow.lt hrow q e).1)⟩
set_option maxRecDepth 100000 in
set_option maxHeartbeats 4000000 in
theorem BM (x:St) (l:List fE) (A:Option Addr) (n c:Nat) (a b kn:Int) (w:World) (h:RA aI 10 w w.heap.size A n c l) (hfr:∀u∈l,u.sat=x.id→0≤u.fr) (ha:0≤a) (hab:a≤b) (hb:b≤1000000) :
  Calls Tryz.prog 79 #[.agg (aC x).toArray,.slice A n c,.agg #[.int .i64 a,.int .i64 b],.int .i64 kn] w (nZ strCells 9 96 (eX (fK x l kn) a (b-a).toNat) w):=by
 obtain⟨N,hN⟩:∃N,N=(b-a).toNat:=⟨_,rfl⟩;have hNb:a+(N:Int)=b:=by omega
 rw[←hN];obtain⟨SX,g_⟩:∃X,(aC x).toArray=X:=⟨_,rfl⟩;have HOR:Hid (∀W t,Ext w W→Calls Tryz.prog 77 #[.agg SX,.slice A n c,.int .i64 t,.int .i64 kn] W fun e w'=>e=.returned (.agg (aN (fK x l kn t)).toArray)∧Ext W w'):=Lib.hid (fun W t hx=>by rw[←g_];exact Gf x l A n c t kn W (aB h hx) hfr);have HS2:Hid (SX.size=21):=Lib.hid (by rw[←g_];rfl);rw[g_];generalize fK x l kn=F at HOR⊢;clear hN g_ h hfr;go_enter Tryz.func79,Tryz.ntmps79;go_upto_region 1 with (fail);have J4:aG ((w.alloc (.cells SX 53)).alloc (.cells #[.int .i64 a,.int .i64 b] 32)) w.heap.size 53 SX:=(aG.new _ _ _).alloc _;have J6:aG ((w.alloc (.cells SX 53)).alloc (.cells #[.int .i64 a,.int .i64 b] 32)) (w.heap.size+1) 32 #[.int .i64 a,.int .i64 b]:=aG.bC _ _ _ (by simp);have hx0:Ext w ((w.alloc (.cells SX 53)).alloc (.cells #[.int .i64 a,.int .i64 b] 32)):=aj (aj (Below.refl _ _) _) _;obtain⟨g4,hg4⟩:∃g,g=w.heap.size:=⟨_,rfl⟩;obtain⟨g6,hg6⟩:∃g,g=w.heap.size+1:=⟨_,rfl⟩;rw[←hg6,←hg4];rw[←hg4]at J4;rw[←hg6]at J6;generalize (w.alloc (.cells SX 53)).alloc (.cells #[.int .i64 a,.int .i64 b] 32)=W0 at J4 J6 hx0⊢;clear hg4 hg6;have s0:W0.cell? ⟨g6,0,none⟩=some (.int .i64 a):=J6.cell 0;have qY:=Lib.hid J4;have HJ6:=Lib.hid J6;have HX0:=Lib.hid hx0;clear J4 J6 hx0;go_wp2;clear s0;go_loopw [9,10] (fun v t wr=>∃k:Nat,k≤N∧t=.int .i64 (a+k)∧Hid (wr.ownsRow W0.heap.size 96 9 v (eX F a k).length ((eX F a k).flatMap strCells))∧Hid (Ext W0 wr)) (fun _ t _=>(b-intOf t).toNat)
 case atStart=>exact⟨0,Nat.zero_le _,by simp,Lib.hid (World.ownsRow_nil _ _ _ _),Lib.hid (Below.refl _ _)⟩
 case round =>
  obtain⟨k,hk,rfl,HR,HX⟩:=hrel;have t1:wr.cell? ⟨g6,1,none⟩=some (.int .i64 b):=(HJ6.out.ext HX.out).cell 1;obtain⟨t,ht⟩:∃t,t=a+(k:Int):=⟨_,rfl⟩;rw[←ht];by_cases hkn:k<N
  ·have htb:t<b:=by omega
   have ht0:0≤t:=by omega
   have hsn:=PW F k a;rw[←ht]at hsn;have hlen:=vH F k a;have HT:=Lib.hid ht;clear ht;have HO:=Lib.hid (HOR.out wr t (Ext.trans HX0.out HX.out));have HJ4r:=Lib.hid (qY.out.ext HX.out);obtain⟨o,ho⟩:∃o,o=F t:=⟨_,rfl⟩;rw[←ho]at HO hsn;clear ho;obtain⟨L,hL⟩:∃L,L=eX F a k:=⟨_,rfl⟩;rw[←hL]at HR hsn hlen;have Ai:=Lib.hid hsn;clear hL hsn;go_wp2_with (refine ay rfl 53 _ rfl g4 0 rfl SX SX.toList (by simp) _ (aG.range HJ4r.out _ rfl) Tryz.underlying53 rfl (by rw[Array.length_toList,HS2.out];exact aQ) ?_);refine HO.out.mono ?_;rintro e W2 ⟨rfl,hx2⟩;obtain⟨pe,ph,lo,hi,no,tu,sl⟩:=o;simp only[aN];have hy:Ext W2 (W2.alloc (.cells #[.int .i64 pe,.int .i64 ph,.int .i64 lo,.int .i64 hi,.int .i64 no,.int .i64 tu,.int .i64 sl] 51)):=aj (Below.refl _ _) _;have JO:aG (W2.alloc (.cells #[.int .i64 pe,.int .i64 ph,.int .i64 lo,.int .i64 hi,.int .i64 no,.int .i64 tu,.int .i64 sl] 51)) W2.heap.size 51 #[.int .i64 pe,.int .i64 ph,.int .i64 lo,.int .i64 hi,.int .i64 no,.int .i64 tu,.int .i64 sl]:=aG.new _ _ _;go_upto_region 6 with (refine aS rfl 51 _ _ rfl _ #[.int .i64 pe,.int .i64 ph,.int .i64 lo,.int .i64 hi,.int .i64 no,.int .i64 tu,.int .i64 sl] rfl rfl aZ rfl (by simp[Value.oneCell']) ?_);generalize W2.heap.size=g11 at JO⊢;generalize W2.alloc (.cells #[.int .i64 pe,.int .i64 ph,.int .i64 lo,.int .i64 hi,.int .i64 no,.int .i64 tu,.int .i64 sl] 51)=V at JO hy⊢;have Zn:Hid (Ext W0 V):=Lib.hid (Ext.trans HX.out (Ext.trans hx2 hy));have hR:=bT HR.out (Ext.trans hx2 hy);obtain⟨A5,k5,hv5,hc1,hc2⟩:=aX hR;subst hv5;have Oa:=Lib.hid hR;have VF:=Lib.hid JO;clear hx2 hy HO hR JO HR t1;obtain⟨m,hm⟩:∃m,m=L.length:=⟨_,rfl⟩;rw[←hm]at Oa hlen hc1⊢;have HM:=Lib.hid hm;clear hm;go_upto_region 7 with (fail);by_cases hm0:m=0
   ·have hd0:decide (0<m)=false:=by simp;omega
    have hPU:eX F a (k+1)=L++[⟨⟨t,t+1⟩,⟨pe,ph,lo,hi,no,tu,sl⟩⟩]:=by rw[Ai.out,List.eq_nil_of_length_eq_zero (HM.out.symm.trans hm0)];rfl
    have ZV:=Lib.hid hPU;clear hPU hm0;refine aF 13 [some (.int .i64 (m:Int)),some (.bool false),some (.bool false),some (undef),some (undef),some (undef),some (undef),some (undef),some (undef),some (undef),some (undef),some (undef),some (.bool false)] [] ?_ ?_ ?_
    ·trivial
    ·refine⟨?_,?_,?_,?_,?_,?_,?_,?_,?_,?_,?_,?_,?_,trivial⟩
     all_goals
      intro vals w1 hx hd;clear hd;simp only[Lf,au,Act.put,bH,bG];go_wp2;exact iq
    intro vals V1 hx hf;have e12:vals 12=.bool false:=hf 12 (by omega);have nC:=hx.aH;have UF:=Lib.hid (Ext.trans Zn.out nC);have PY:=Lib.hid (bT Oa.out nC);have um:=Lib.hid (VF.out.ext nC);clear hf hx;refine dO (by kernel_rfl) ?_;simp only[Lf,au,Act.put,FR_];rw[e12];clear e12;have hlm:L.length≤1000000:=by have:=HM.out;omega
    obtain⟨v5,w5,hrun,hown,hext⟩:=N_ 83 _ L ⟨⟨t,t+1⟩,⟨pe,ph,lo,hi,no,tu,sl⟩⟩ UF.out (by rw[←HM.out];exact PY.out) hlm;have jY:=Lib.hid hrun;have ql:Hid (w5.ownsRow W0.heap.size 96 9 v5 (eX F a (k+1)).length ((eX F a (k+1)).flatMap strCells)):=Lib.hid (by rw[ZV.out];exact hown);have HEX:=Lib.hid hext;have z0:V1.cell? ⟨g11,0,none⟩=some (.int .i64 pe):=um.out.cell 0;have z1:V1.cell? ⟨g11,1,none⟩=some (.int .i64 ph):=um.out.cell 1;have z2:V1.cell? ⟨g11,2,none⟩=some (.int .i64 lo):=um.out.cell 2;have z3:V1.cell? ⟨g11,3,none⟩=some (.int .i64 hi):=um.out.cell 3;have z4:V1.cell? ⟨g11,4,none⟩=some (.int .i64 no):=um.out.cell 4;have z5:V1.cell? ⟨g11,5,none⟩=some (.int .i64 tu):=um.out.cell 5;have z6:V1.cell? ⟨g11,6,none⟩=some (.int .i64 sl):=um.out.cell 6;clear hrun hown hext nC;go_wp2_with (refine aP rfl _ _ _ rfl rfl rfl jY.out ?_);go_roundw
    case rel=>exact⟨k+1,by omega,by rw[show a+((k+1:Nat):Int)=t+1 by have:=HT.out;omega],ql,HEX⟩
    case measure=>simp[intOf];omega
   ·obtain⟨J,hJ⟩:∃J,m=J+1:=⟨m-1,by omega⟩;obtain⟨g,cap,hv,hgb,hglt⟩:=World.ownsRow.form Oa.out (by omega);injection hv with hA _ hcc;subst hA hcc;have VG:J<L.length:=by have:=HM.out;omega
    have hpl:=BL t ⟨pe,ph,lo,hi,no,tu,sl⟩ L (by omega);have e1:L.length-1=J:=by have:=HM.out;omega
    simp only[e1]at hpl;have hset:=XY L J VG (t+1);have c1:V.cell? ⟨g,J*9+1,none⟩=some (.int .i64 L[J].sp.tt):=by rw[Oa.out.cellAt _ (by omega),jC jl L J VG 1 (by omega)];rfl
    have c2:V.cell? ⟨g,J*9+2,none⟩=some (.int .i64 L[J].eY.period):=by rw[Oa.out.cellAt _ (by omega),jC jl L J VG 2 (by omega)];rfl
    have c3:V.cell? ⟨g,J*9+3,none⟩=some (.int .i64 L[J].eY.phase):=by rw[Oa.out.cellAt _ (by omega),jC jl L J VG 3 (by omega)];rfl
    have c4:V.cell? ⟨g,J*9+4,none⟩=some (.int .i64 L[J].eY.low):=by rw[Oa.out.cellAt _ (by omega),jC jl L J VG 4 (by omega)];rfl
    have c5:V.cell? ⟨g,J*9+5,none⟩=some (.int .i64 L[J].eY.high):=by rw[Oa.out.cellAt _ (by omega),jC jl L J VG 5 (by omega)];rfl
    have c6:V.cell? ⟨g,J*9+6,none⟩=some (.int .i64 L[J].eY.node):=by rw[Oa.out.cellAt _ (by omega),jC jl L J VG 6 (by omega)];rfl
    have c7:V.cell? ⟨g,J*9+7,none⟩=some (.int .i64 L[J].eY.turn):=by rw[Oa.out.cellAt _ (by omega),jC jl L J VG 7 (by omega)];rfl
    have c8:V.cell? ⟨g,J*9+8,none⟩=some (.int .i64 L[J].eY.dP):=by rw[Oa.out.cellAt _ (by omega),jC jl L J VG 8 (by omega)];rfl
    have f1:V.frozen? ⟨g,J*9+1,none⟩=false:=Oa.out.frozenAt _;generalize L[J]=s at hpl hset c1 c2 c3 c4 c5 c6 c7 c8;obtain⟨⟨sf,st⟩,⟨qpe,qph,qlo,qhi,qno,qtu,qsl⟩⟩:=s;dsimp only at hpl hset c1 c2 c3 c4 c5 c6 c7 c8;have hd0:decide (0<m)=true:=by simp;omega
    have HWJ:Hid (IntKind.i64.wrap ((m:Int)-1)=(J:Int)):=Lib.hid (by rw[hJ,show (((J+1:Nat):Int)-1)=(J:Int) by omega];exact IntWalk.i64_in _ (by omega));have hJm:J<m:=by omega
    have uQ:=Lib.hid hpl;have HSET:=Lib.hid hset;have Yz:=Lib.hid hJ;clear hpl hset hJ e1 hm0 VG;have o0:V.cell? ⟨g11,0,none⟩=some (.int .i64 pe):=VF.out.cell 0;have o1:V.cell? ⟨g11,1,none⟩=some (.int .i64 ph):=VF.out.cell 1;have o2:V.cell? ⟨g11,2,none⟩=some (.int .i64 lo):=VF.out.cell 2;have o3:V.cell? ⟨g11,3,none⟩=some (.int .i64 hi):=VF.out.cell 3;have o4:V.cell? ⟨g11,4,none⟩=some (.int .i64 no):=VF.out.cell 4;have o5:V.cell? ⟨g11,5,none⟩=some (.int .i64 tu):=VF.out.cell 5;have o6:V.cell? ⟨g11,6,none⟩=some (.int .i64 sl):=VF.out.cell 6;by_cases he:(⟨qpe,qph,qlo,qhi,qno,qtu,qsl⟩:iM)=⟨pe,ph,lo,hi,no,tu,sl⟩
    ·have Sl:Hid (∀w:World,(binOp .eql 51 (.agg #[.int .i64 qpe,.int .i64 qph,.int .i64 qlo,.int .i64 qhi,.int .i64 qno,.int .i64 qtu,.int .i64 qsl]) (.agg #[.int .i64 pe,.int .i64 ph,.int .i64 lo,.int .i64 hi,.int .i64 no,.int .i64 tu,.int .i64 sl])).run Tryz.prog w=.ok (.bool true) w):=Lib.hid (fun w=>by have h:=uS ⟨qpe,qph,qlo,qhi,qno,qtu,qsl⟩ ⟨pe,ph,lo,hi,no,tu,sl⟩ w;rw[decide_eq_true he]at h;exact h);have ZV:=Lib.hid (Ai.out.trans (uQ.out.1 he));clear he;refine aF 13 [some (.int .i64 (m:Int)),some (.bool true),some (.bool true),some (.slice (some ⟨g,0,none⟩) m k5),some (.int .i64 (m:Int)),some (.int .i64 (J:Int)),some (.int .i64 (J:Int)),some (.pointer (some ⟨g,J*9,none⟩)),some (.pointer (some ⟨g,J*9+2,none⟩)),some (.agg #[.int .i64 qpe,.int .i64 qph,.int .i64 qlo,.int .i64 qhi,.int .i64 qno,.int .i64 qtu,.int .i64 qsl]),some (.agg #[.int .i64 pe,.int .i64 ph,.int .i64 lo,.int .i64 hi,.int .i64 no,.int .i64 tu,.int .i64 sl]),some (.bool true),some (.bool true)] [] ?_ ?_ ?_
     ·trivial
     ·refine⟨?_,?_,?_,?_,?_,?x5,?x6,?_,?_,?_,?_,?x11,?_,trivial⟩
      case x5 =>
       intro vals w1 hx hd;clear hd;simp only[Lf,au,Act.put,bH,bG];have hwj:=HWJ.out;go_wp2;exact iq
      case x6 =>
       intro vals w1 hx hd;clear hd;simp only[Lf,au,Act.put,bH,bG];by_cases hj0:(0:Int)<(J:Int)
       ·(go_wp2;exact q_)
       ·(obtain rfl:J=0:=(by omega);go_wp2;exact q_)
      case x11 =>
       intro vals w1 hx hd;clear hd;simp only[Lf,au,Act.put,bH,bG];have heq:=Sl.out;go_wp2;exact iq
      all_goals
       intro vals w1 hx hd;clear hd;simp only[Lf,au,Act.put,bH,bG];have c2:=ah hx c2;have c3:=ah hx c3;have c4:=ah hx c4;have c5:=ah hx c5;have c6:=ah hx c6;have c7:=ah hx c7;have c8:=ah hx c8;have o0:=ah hx o0;have o1:=ah hx o1;have o2:=ah hx o2;have o3:=ah hx o3;have o4:=ah hx o4;have o5:=ah hx o5;have o6:=ah hx o6;go_wp2;exact iq
     intro vals V1 hx hf;have e12:vals 12=.bool true:=hf 12 (by omega);have nC:=hx.aH;have UF:=Lib.hid (Ext.trans Zn.out nC);have PY:=Lib.hid (bT Oa.out nC);have um:=Lib.hid (VF.out.ext nC);clear hf hx;refine dO (by kernel_rfl) ?_;simp only[Lf,au,Act.put,FR_];rw[e12];clear e12;clear c2 c3 c4 c5 c6 c7 c8 o0 o1 o2 o3 o4 o5 o6;have c1:=ah nC c1;have f1:V1.frozen? ⟨g,J*9+1,none⟩=false:=PY.out.frozenAt _;have hst:=PY.out.stored (J*9+1) (.int .i64 (t+1));have ql:Hid ((V1.setCell ⟨g,J*9+1,none⟩ (.int .i64 (t+1))).ownsRow W0.heap.size 96 9 (.slice (some ⟨g,0,none⟩) m k5) (eX F a (k+1)).length ((eX F a (k+1)).flatMap strCells)):=Lib.hid (by
      rw[ZV.out,List.length_set,←HM.out,←HSET.out];exact hst.1)
     have HEX:=Lib.hid (UF.out.setCell (p:=⟨g,J*9+1,none⟩) hgb (.int .i64 (t+1)));have m2:(0:Int)≤(m:Int)-1:=by omega
     have m3:((m:Int)-1).toNat=J:=by have:=Yz.out;omega
     clear hst HWJ Sl;go_wp2;go_roundw
     case rel=>exact⟨k+1,by omega,by rw[show a+((k+1:Nat):Int)=t+1 by have:=HT.out;omega],ql,HEX⟩
     case measure=>simp[intOf];omega
    ·have Sl:Hid (∀w:World,(binOp .eql 51 (.agg #[.int .i64 qpe,.int .i64 qph,.int .i64 qlo,.int .i64 qhi,.int .i64 qno,.int .i64 qtu,.int .i64 qsl]) (.agg #[.int .i64 pe,.int .i64 ph,.int .i64 lo,.int .i64 hi,.int .i64 no,.int .i64 tu,.int .i64 sl])).run Tryz.prog w=.ok (.bool false) w):=Lib.hid (fun w=>by have h:=uS ⟨qpe,qph,qlo,qhi,qno,qtu,qsl⟩ ⟨pe,ph,lo,hi,no,tu,sl⟩ w;rw[decide_eq_false he]at h;exact h);have ZV:=Lib.hid (Ai.out.trans (uQ.out.2 he));clear he;refine aF 13 [some (.int .i64 (m:Int)),some (.bool true),some (.bool true),some (.slice (some ⟨g,0,none⟩) m k5),some (.int .i64 (m:Int)),some (.int .i64 (J:Int)),some (.int .i64 (J:Int)),some (.pointer (some ⟨g,J*9,none⟩)),some (.pointer (some ⟨g,J*9+2,none⟩)),some (.agg #[.int .i64 qpe,.int .i64 qph,.int .i64 qlo,.int .i64 qhi,.int .i64 qno,.int .i64 qtu,.int .i64 qsl]),some (.agg #[.int .i64 pe,.int .i64 ph,.int .i64 lo,.int .i64 hi,.int .i64 no,.int .i64 tu,.int .i64 sl]),some (.bool false),some (.bool false)] [] ?_ ?_ ?_
     ·trivial
     ·refine⟨?_,?_,?_,?_,?_,?x5,?x6,?_,?_,?_,?_,?x11,?_,trivial⟩
      case x5 =>
       intro vals w1 hx hd;clear hd;simp only[Lf,au,Act.put,bH,bG];have hwj:=HWJ.out;go_wp2;exact iq
      case x6 =>
       intro vals w1 hx hd;clear hd;simp only[Lf,au,Act.put,bH,bG];by_cases hj0:(0:Int)<(J:Int)
       ·(go_wp2;exact q_)
       ·(obtain rfl:J=0:=(by omega);go_wp2;exact q_)
      case x11 =>
       intro vals w1 hx hd;clear hd;simp only[Lf,au,Act.put,bH,bG];have heq:=Sl.out;go_wp2;exact iq
      all_goals
       intro vals w1 hx hd;clear hd;simp only[Lf,au,Act.put,bH,bG];have c2:=ah hx c2;have c3:=ah hx c3;have c4:=ah hx c4;have c5:=ah hx c5;have c6:=ah hx c6;have c7:=ah hx c7;have c8:=ah hx c8;have o0:=ah hx o0;have o1:=ah hx o1;have o2:=ah hx o2;have o3:=ah hx o3;have o4:=ah hx o4;have o5:=ah hx o5;have o6:=ah hx o6;go_wp2;exact iq
     intro vals V1 hx hf;have e12:vals 12=.bool false:=hf 12 (by omega);have nC:=hx.aH;have UF:=Lib.hid (Ext.trans Zn.out nC);have PY:=Lib.hid (bT Oa.out nC);have um:=Lib.hid (VF.out.ext nC);clear hf hx;refine dO (by kernel_rfl) ?_;simp only[Lf,au,Act.put,FR_];rw[e12];clear e12;clear c2 c3 c4 c5 c6 c7 c8 o0 o1 o2 o3 o4 o5 o6;clear HWJ Sl c1;have hlm:L.length≤1000000:=by have:=HM.out;omega
     obtain⟨v5,w5,hrun,hown,hext⟩:=N_ 83 _ L ⟨⟨t,t+1⟩,⟨pe,ph,lo,hi,no,tu,sl⟩⟩ UF.out (by rw[←HM.out];exact PY.out) hlm;have jY:=Lib.hid hrun;have ql:Hid (w5.ownsRow W0.heap.size 96 9 v5 (eX F a (k+1)).length ((eX F a (k+1)).flatMap strCells)):=Lib.hid (by rw[ZV.out];exact hown);have HEX:=Lib.hid hext;have z0:V1.cell? ⟨g11,0,none⟩=some (.int .i64 pe):=um.out.cell 0;have z1:V1.cell? ⟨g11,1,none⟩=some (.int .i64 ph):=um.out.cell 1;have z2:V1.cell? ⟨g11,2,none⟩=some (.int .i64 lo):=um.out.cell 2;have z3:V1.cell? ⟨g11,3,none⟩=some (.int .i64 hi):=um.out.cell 3;have z4:V1.cell? ⟨g11,4,none⟩=some (.int .i64 no):=um.out.cell 4;have z5:V1.cell? ⟨g11,5,none⟩=some (.int .i64 tu):=um.out.cell 5;have z6:V1.cell? ⟨g11,6,none⟩=some (.int .i64 sl):=um.out.cell 6;clear hrun hown hext nC;go_wp2_with (refine aP rfl _ _ _ rfl rfl rfl jY.out ?_);go_roundw
     case rel=>exact⟨k+1,by omega,by rw[show a+((k+1:Nat):Int)=t+1 by have:=HT.out;omega],ql,HEX⟩
     case measure=>simp[intOf];omega
  ·have htb:¬t<b:=by omega
   have Ci:Hid (k=N):=Lib.hid (by omega);clear ht;go_wp2;go_ret;exact⟨_,rfl,by have h:=HR.out;rw[Ci.out]at h;exact own_base h HX0.out.size,Ext.trans HX0.out HX.out⟩
end Go.Proofs.YtjidhhfabfnhnaaGreat
namespace Go.Proofs.YtjidhhfabfnhnaaGreat
open Go.RowKit
attribute [local go_sem] Oper.semAt_some
set_option maxHeartbeats 2000000 in
theorem Jd (a b:Int) (w:World) :
  Calls Tryz.prog 78 #[.agg #[.int .i64 a,.int .i64 b]] w fun e w'=>e=.returned (.bool (jD ⟨a,b⟩))∧Ext w w':=by
 by_cases h:0≤a∧a<b∧b≤1000000
 ·obtain⟨h1,h2,h3⟩:=h;have hs:jD ⟨a,b⟩=decide (b-a≤1440):=by simp[jD,h1,h2,h3]
  rw[hs];clear hs;go_enter Tryz.func78,Tryz.ntmps78;go_wp2;go_ret;exact⟨by simp[*],(by repeat (first | exact Below.refl _ _ | assumption | refine Below.drew ?_ | refine below_drewN ?_ _ | refine aj ?_ _ | refine Below.setCell ?_ (by first | (simp;done) | omega | (simp;omega)) _ | refine aA ?_ (by assumption)))⟩
 ·have hs:jD ⟨a,b⟩=false:=by
   simp only[jD,decide_eq_false_iff_not];omega
  rw[hs];clear hs;by_cases h1:0≤a
  ·by_cases h2:a<b
   ·have h3:¬b≤1000000:=by omega
    clear h;go_enter Tryz.func78,Tryz.ntmps78;go_wp2;go_ret;exact⟨by simp[*],(by repeat (first | exact Below.refl _ _ | assumption | refine Below.drew ?_ | refine below_drewN ?_ _ | refine aj ?_ _ | refine Below.setCell ?_ (by first | (simp;done) | omega | (simp;omega)) _ | refine aA ?_ (by assumption)))⟩
   ·clear h;go_enter Tryz.func78,Tryz.ntmps78;go_wp2;go_ret;exact⟨by simp[*],(by repeat (first | exact Below.refl _ _ | assumption | refine Below.drew ?_ | refine below_drewN ?_ _ | refine aj ?_ _ | refine Below.setCell ?_ (by first | (simp;done) | omega | (simp;omega)) _ | refine aA ?_ (by assumption)))⟩
  ·clear h;go_enter Tryz.func78,Tryz.ntmps78;go_wp2;go_ret;exact⟨by simp[*],(by repeat (first | exact Below.refl _ _ | assumption | refine Below.drew ?_ | refine below_drewN ?_ _ | refine aj ?_ _ | refine Below.setCell ?_ (by first | (simp;done) | omega | (simp;omega)) _ | refine aA ?_ (by assumption)))⟩
set_option maxHeartbeats 2000000 in
theorem Dl (oO oP aa ab ac ad oQ oU ba bb bc bd:Int) (w:World) :
  Calls Tryz.prog 82 #[.agg #[.int .i64 oO,.int .i64 oP,.int .i64 aa,.int .i64 ab,.int .i64 ac,.int .i64 ad],.agg #[.int .i64 oQ,.int .i64 oU,.int .i64 ba,.int .i64 bb,.int .i64 bc,.int .i64 bd]] w fun e w'=>e=.returned (.bool (ltOf aU ⟨oO,oP,⟨aa,ab⟩,⟨ac,ad⟩⟩ ⟨oQ,oU,⟨ba,bb⟩,⟨bc,bd⟩⟩))∧Below w.heap.size w w':=by
 have hl:=Um ⟨oO,oP,⟨aa,ab⟩,⟨ac,ad⟩⟩ ⟨oQ,oU,⟨ba,bb⟩,⟨bc,bd⟩⟩;dsimp only at hl;generalize ltOf aU ⟨oO,oP,⟨aa,ab⟩,⟨ac,ad⟩⟩ ⟨oQ,oU,⟨ba,bb⟩,⟨bc,bd⟩⟩=r at hl⊢;have hr:∀z:Int,∀u:Int,(z<u↔r=true)→Ending.returned (.bool (decide (z<u)))=.returned (.bool r):=fun z u h=>by
  have:decide (z<u)=r:=by rw[Bool.eq_iff_iff,decide_eq_true_iff];exact h
  rw[this]
 have HR:=Lib.hid hr;have HL:=Lib.hid hl;clear hr hl;by_cases h1:ac=bc
 ·subst h1;by_cases h2:oO=oQ
  ·subst h2;by_cases h3:oP=oU
   ·subst h3;by_cases h4:aa=ba
    ·subst h4;go_enter Tryz.func82,Tryz.ntmps82;go_wp2;go_ret;exact⟨HR.out _ _ (by rw[HL.out];first | omega | (simp only[true_and];omega)),(by repeat (first | exact Below.refl _ _ | assumption | refine Below.drew ?_ | refine below_drewN ?_ _ | refine aj ?_ _ | refine Below.setCell ?_ (by first | (simp;done) | omega | (simp;omega)) _ | refine aA ?_ (by assumption)))⟩
    ·have n4:(aa != ba)=true:=by simpa using h4
     go_enter Tryz.func82,Tryz.ntmps82;go_wp2;go_ret;exact⟨HR.out _ _ (by rw[HL.out];first | omega | (simp only[true_and];omega)),(by repeat (first | exact Below.refl _ _ | assumption | refine Below.drew ?_ | refine below_drewN ?_ _ | refine aj ?_ _ | refine Below.setCell ?_ (by first | (simp;done) | omega | (simp;omega)) _ | refine aA ?_ (by assumption)))⟩
   ·have n3:(oP != oU)=true:=by simpa using h3
    go_enter Tryz.func82,Tryz.ntmps82;go_wp2;go_ret;exact⟨HR.out _ _ (by rw[HL.out];first | omega | (simp only[true_and];omega)),(by repeat (first | exact Below.refl _ _ | assumption | refine Below.drew ?_ | refine below_drewN ?_ _ | refine aj ?_ _ | refine Below.setCell ?_ (by first | (simp;done) | omega | (simp;omega)) _ | refine aA ?_ (by assumption)))⟩
  ·have n2:(oO != oQ)=true:=by simpa using h2
   go_enter Tryz.func82,Tryz.ntmps82;go_wp2;go_ret;exact⟨HR.out _ _ (by rw[HL.out];first | omega | (simp only[true_and];omega)),(by repeat (first | exact Below.refl _ _ | assumption | refine Below.drew ?_ | refine below_drewN ?_ _ | refine aj ?_ _ | refine Below.setCell ?_ (by first | (simp;done) | omega | (simp;omega)) _ | refine aA ?_ (by assumption)))⟩
 ·have n1:(ac != bc)=true:=by simpa using h1
  go_enter Tryz.func82,Tryz.ntmps82;go_wp2;go_ret;exact⟨HR.out _ _ (by rw[HL.out];first | omega | (simp only[true_and];omega)),(by repeat (first | exact Below.refl _ _ | assumption | refine Below.drew ?_ | refine below_drewN ?_ _ | refine aj ?_ _ | refine Below.setCell ?_ (by first | (simp;done) | omega | (simp;omega)) _ | refine aA ?_ (by assumption)))⟩
end Go.Proofs.YtjidhhfabfnhnaaGreat
namespace Go.Proofs.YtjidhhfabfnhnaaGreat
open Go.RowKit
attribute [local go_sem] Oper.semAt_some
end Go.Proofs.YtjidhhfabfnhnaaGreat
namespace Go.Proofs.YtjidhhfabfnhnaaGreat
theorem MF {o:iM} {y:iD} (ho:dw o=true) (hy:fZ y=true) {t la:Int} (h1:0≤t∧t≤1000000) (h2 : -10≤la∧la≤10):zJ o y t la=some (kS o y (t-la)):=by
 have h3:(inB t 0 1000000&&inB la (-10) 10&&dw o)=true:=by
  rw[ho,Bool.and_true,Bool.and_eq_true,jf,jf];omega
 rw[zJ,Nb,if_pos h3];dsimp only;rw[if_pos hy];rfl
end Go.Proofs.YtjidhhfabfnhnaaGreat
namespace Go.Proofs.YtjidhhfabfnhnaaGreat
open Go.RowKit
set_option maxHeartbeats 2000000 in
theorem Ob (a b p q:Int) (w:World) :
  Calls Tryz.prog 134 #[.agg #[.int .i64 a,.int .i64 b],.agg #[.int .i64 p,.int .i64 q]] w
   fun e w'=>e=.returned (.agg #[.int .i64 (iy ⟨a,b⟩ 0 ⟨p,q⟩).fr,.int .i64 (iy ⟨a,b⟩ 0 ⟨p,q⟩).tt])∧Below w.heap.size w w':=by
 obtain⟨m,hm⟩:∃m,m=max a p:=⟨_,rfl⟩;obtain⟨n,hn⟩:∃n,n=min b q:=⟨_,rfl⟩;have hw:iy ⟨a,b⟩ 0 ⟨p,q⟩=if n≤m then ⟨0,0⟩ else ⟨m,n⟩:=by rw[hm,hn];unfold iy;dsimp only;rw[Int.sub_zero,Int.add_zero]
 rw[hw];clear hw;have hm2:(p≤a∧m=a)∨(a<p∧m=p):=by omega
 have hn2:(b≤q∧n=b)∨(q<b∧n=q):=by omega
 clear hm hn;rcases hm2 with ⟨k1,rfl⟩ | ⟨k1,rfl⟩<;>rcases hn2 with ⟨k2,rfl⟩ | ⟨k2,rfl⟩
 ·by_cases h:n≤m
  ·rw[if_pos h];go_enter Tryz.func134,Tryz.ntmps134;go_wp2;exact bodyPost_ret (v:=.agg #[.int .i64 0,.int .i64 0]) (by simp[results,Tryz.results134,go_sem]) rfl ⟨rfl,(by repeat (first | exact Below.refl _ _ | assumption | refine Below.drew ?_ | refine below_drewN ?_ _ | refine aj ?_ _ | refine Below.setCell ?_ (by first | (simp;done) | omega | (simp;omega)) _ | refine aA ?_ (by assumption)))⟩
  ·rw[if_neg h];go_enter Tryz.func134,Tryz.ntmps134;go_wp2;exact bodyPost_ret (v:=.agg #[.int .i64 m,.int .i64 n]) (by simp[results,Tryz.results134,go_sem]) rfl ⟨rfl,(by repeat (first | exact Below.refl _ _ | assumption | refine Below.drew ?_ | refine below_drewN ?_ _ | refine aj ?_ _ | refine Below.setCell ?_ (by first | (simp;done) | omega | (simp;omega)) _ | refine aA ?_ (by assumption)))⟩
 ·by_cases h:n≤m
  ·rw[if_pos h];go_enter Tryz.func134,Tryz.ntmps134;go_wp2;exact bodyPost_ret (v:=.agg #[.int .i64 0,.int .i64 0]) (by simp[results,Tryz.results134,go_sem]) rfl ⟨rfl,(by repeat (first | exact Below.refl _ _ | assumption | refine Below.drew ?_ | refine below_drewN ?_ _ | refine aj ?_ _ | refine Below.setCell ?_ (by first | (simp;done) | omega | (simp;omega)) _ | refine aA ?_ (by assumption)))⟩
  ·rw[if_neg h];go_enter Tryz.func134,Tryz.ntmps134;go_wp2;exact bodyPost_ret (v:=.agg #[.int .i64 m,.int .i64 n]) (by simp[results,Tryz.results134,go_sem]) rfl ⟨rfl,(by repeat (first | exact Below.refl _ _ | assumption | refine Below.drew ?_ | refine below_drewN ?_ _ | refine aj ?_ _ | refine Below.setCell ?_ (by first | (simp;done) | omega | (simp;omega)) _ | refine aA ?_ (by assumption)))⟩
 ·by_cases h:n≤m
  ·rw[if_pos h];go_enter Tryz.func134,Tryz.ntmps134;go_wp2;exact bodyPost_ret (v:=.agg #[.int .i64 0,.int .i64 0]) (by simp[results,Tryz.results134,go_sem]) rfl ⟨rfl,(by repeat (first | exact Below.refl _ _ | assumption | refine Below.drew ?_ | refine below_drewN ?_ _ | refine aj ?_ _ | refine Below.setCell ?_ (by first | (simp;done) | omega | (simp;omega)) _ | refine aA ?_ (by assumption)))⟩
  ·rw[if_neg h];go_enter Tryz.func134,Tryz.ntmps134;go_wp2;exact bodyPost_ret (v:=.agg #[.int .i64 m,.int .i64 n]) (by simp[results,Tryz.results134,go_sem]) rfl ⟨rfl,(by repeat (first | exact Below.refl _ _ | assumption | refine Below.drew ?_ | refine below_drewN ?_ _ | refine aj ?_ _ | refine Below.setCell ?_ (by first | (simp;done) | omega | (simp;omega)) _ | refine aA ?_ (by assumption)))⟩
 ·by_cases h:n≤m
  ·rw[if_pos h];go_enter Tryz.func134,Tryz.ntmps134;go_wp2;exact bodyPost_ret (v:=.agg #[.int .i64 0,.int .i64 0]) (by simp[results,Tryz.results134,go_sem]) rfl ⟨rfl,(by repeat (first | exact Below.refl _ _ | assumption | refine Below.drew ?_ | refine below_drewN ?_ _ | refine aj ?_ _ | refine Below.setCell ?_ (by first | (simp;done) | omega | (simp;omega)) _ | refine aA ?_ (by assumption)))⟩
  ·rw[if_neg h];go_enter Tryz.func134,Tryz.ntmps134;go_wp2;exact bodyPost_ret (v:=.agg #[.int .i64 m,.int .i64 n]) (by simp[results,Tryz.results134,go_sem]) rfl ⟨rfl,(by repeat (first | exact Below.refl _ _ | assumption | refine Below.drew ?_ | refine below_drewN ?_ _ | refine aj ?_ _ | refine Below.setCell ?_ (by first | (simp;done) | omega | (simp;omega)) _ | refine aA ?_ (by assumption)))⟩
set_option maxRecDepth 100000 in
set_option maxHeartbeats 2000000 in
theorem Je (p f lo hi no tu sl id x y re an sk m:Int) (w:World) (ho:dw ⟨p,f,lo,hi,no,tu,sl⟩=true) (hs:fZ ⟨id,⟨x,y⟩,re,an,sk⟩=true) (h1 : -10≤m) (h2:m≤1000010) :
  Calls Tryz.prog 133 #[.agg #[.int .i64 p,.int .i64 f,.int .i64 lo,.int .i64 hi,.int .i64 no,.int .i64 tu,.int .i64 sl],.agg #[.int .i64 id,.int .i64 x,.int .i64 y,.int .i64 re,.int .i64 an,.int .i64 sk],.int .i64 m] w fun e w'=>e=.returned (.bool (kS ⟨p,f,lo,hi,no,tu,sl⟩ ⟨id,⟨x,y⟩,re,an,sk⟩ m))∧Below w.heap.size w w':=by
 have hv:=fun (t u:Int) (ht:0≤t∧t≤1000000) (hl : -10≤u∧u≤10) (he:t-u=m) (w:World)=>by
  have h:=PE p f lo hi no tu sl id x y re an sk t u w;rw[MF ho hs ht hl,he,show Yt (some (kS ⟨p,f,lo,hi,no,tu,sl⟩ ⟨id,⟨x,y⟩,re,an,sk⟩ m))=.tuple #[.bool (kS ⟨p,f,lo,hi,no,tu,sl⟩ ⟨id,⟨x,y⟩,re,an,sk⟩ m),.int .i64 0] from rfl]at h;exact h
 generalize kS ⟨p,f,lo,hi,no,tu,sl⟩ ⟨id,⟨x,y⟩,re,an,sk⟩ m=r at hv⊢;have HV:=Lib.hid hv;clear hv ho hs;rcases show m≤0∨(0<m∧m<1000000)∨1000000≤m by omega with c | c | c
 ·have c1:¬(0:Int)<m:=by omega
  have hw:IntKind.i64.wrap (-m) = -m:=IntWalk.i64_in _ (by omega);have hw2:IntKind.i64.wrap (0-m) = -m:=by rw[show (0:Int)-m = -m by omega];exact IntWalk.i64_in _ (by omega)
  go_enter Tryz.func133,Tryz.ntmps133;go_wp2_with (go_at_call 160;refine (HV.out (0) (-m) (by omega) (by omega) (by omega) _).mono ?_;rintro e w' ⟨rfl,hb⟩)
  all_goals
   go_ret;exact⟨by simp_all,(by repeat (first | exact Below.refl _ _ | assumption | refine Below.drew ?_ | refine below_drewN ?_ _ | refine aj ?_ _ | refine Below.setCell ?_ (by first | (simp;done) | omega | (simp;omega)) _ | refine aA ?_ (by assumption)))⟩
 ·obtain⟨c1,c2⟩:=c;have hw:IntKind.i64.wrap (0)=0:=IntWalk.i64_in _ (by omega);have hw2:IntKind.i64.wrap (m-m)=0:=by rw[show m-m=0 by omega];exact IntWalk.i64_in _ (by omega)
  go_enter Tryz.func133,Tryz.ntmps133;go_wp2_with (go_at_call 160;refine (HV.out (m) (0) (by omega) (by omega) (by omega) _).mono ?_;rintro e w' ⟨rfl,hb⟩)
  all_goals
   go_ret;exact⟨by simp_all,(by repeat (first | exact Below.refl _ _ | assumption | refine Below.drew ?_ | refine below_drewN ?_ _ | refine aj ?_ _ | refine Below.setCell ?_ (by first | (simp;done) | omega | (simp;omega)) _ | refine aA ?_ (by assumption)))⟩
 ·have c1:(0:Int)<m:=by omega
  have c2:¬m<1000000:=by omega
  have hw:IntKind.i64.wrap (1000000-m)=1000000-m:=IntWalk.i64_in _ (by omega);have hw2:IntKind.i64.wrap (1000000-m)=1000000-m:=by rw[show (1000000:Int)-m=1000000-m by omega];exact IntWalk.i64_in _ (by omega)
  go_enter Tryz.func133,Tryz.ntmps133;go_wp2_with (go_at_call 160;refine (HV.out (1000000) (1000000-m) (by omega) (by omega) (by omega) _).mono ?_;rintro e w' ⟨rfl,hb⟩)
  all_goals
   go_ret;exact⟨by simp_all,(by repeat (first | exact Below.refl _ _ | assumption | refine Below.drew ?_ | refine below_drewN ?_ _ | refine aj ?_ _ | refine Below.setCell ?_ (by first | (simp;done) | omega | (simp;omega)) _ | refine aA ?_ (by assumption)))⟩
section
variable {is:Int→Bool} {a e:Int}
def qR (is:Int→Bool) (e m:Int):List iO:=bK is m (e-m).toNat
theorem rest_end {m:Int} (h:e≤m):qR is e m=[]:=by
 rw[qR,show (e-m).toNat=0 by omega];rfl
theorem Ei {m:Int} (hm:m<e) (h:is m=false):qR is e m=qR is e (m+1):=by
 rw[qR,show (e-m).toNat=(e-(m+1)).toNat+1 by omega,lG _ h];rfl
theorem MG {fr m:Int} (h1:fr<m) (h2:m≤e) (hi:∀t,fr≤t→t<m→is t=true) (hs:m=e∨is m=false):qR is e fr=⟨fr,m⟩::qR is e m:=by
 have h:=uM is (m-fr).toNat (e-fr).toNat fr (by omega) (by omega) (fun i hi2=>hi _ (by omega) (by omega)) (by
  rcases hs with hs | hs
  ·exact .inl (by omega)
  ·exact .inr (by rw[show fr+((m-fr).toNat:Int)=m by omega];exact hs))
 rw[show fr+((m-fr).toNat:Int)=m by omega,show (e-fr).toNat-(m-fr).toNat=(e-m).toNat by omega]at h;exact h
end
theorem Ej {a b k:Int} {span:iO} : iy ⟨a-k,b+k⟩ 0 span=iy ⟨a,b⟩ k span:=by
 unfold iy;dsimp only;rw[Int.sub_zero,Int.add_zero]
end Go.Proofs.YtjidhhfabfnhnaaGreat
namespace Go.Proofs.YtjidhhfabfnhnaaGreat
open Go.RowKit
theorem tY:(Tryz.prog.info? 75).map (·.size)=some 6:=by kernel_rfl
theorem qK:(Tryz.prog.info? 75).map (fun i=>(i.zero.map (fun z=>z.cells.size),i.size))=some (some 6,6):=by kernel_rfl
theorem UG (x:bP):∀u∈ak x,u.oneCell'=true:=by simp[ak,Value.oneCell']
theorem UH (l:List bP):∀u∈l.flatMap ak,u.oneCell'=true:=by
 intro u hu;obtain⟨x,_,hx⟩:=List.mem_flatMap.1 hu;exact UG x u hx
def MH (o:iM):List Value:=[.int .i64 o.period,.int .i64 o.phase,.int .i64 o.low,.int .i64 o.high,.int .i64 o.node,.int .i64 o.turn,.int .i64 o.dP]
theorem UJ (x:iM):(MH x).toArray.all (·.oneCell')=true:=by simp[MH,Value.oneCell']
theorem RA.MH {w:World} {B n c:Nat} {A:Option Addr} {l:List St} (h:RA aC 21 w B A n c l) {k:Nat} (hk:k<n):∃(b o:Nat) (hz:k<l.length),A=some ⟨b,o,none⟩∧b<B∧w.rangeAt b (o+k*21) (aC l[k])∧w.rangeAt b (o+k*21+2) (Go.Proofs.YtjidhhfabfnhnaaGreat.MH l[k].aY):=by
 obtain⟨b,o,hz,hA,hb,hr⟩:=h.range gJ hk;refine⟨b,o,hz,hA,hb,hr,fun j v hv=>?_⟩;rw[Nat.add_assoc];refine hr (2+j) v ?_;rw[←hv]
 match j,hv with
 |0,_=>rfl
 |1,_=>rfl
 |2,_=>rfl
 |3,_=>rfl
 |4,_=>rfl
 |5,_=>rfl
 |6,_=>rfl
 |j+7,hv=>simp[Go.Proofs.YtjidhhfabfnhnaaGreat.MH]at hv
theorem aG.set6 {w:World} {g:Nat} {t:TypeId} {a0 a1 a2 a3 a4 a5:Value} (h:aG w g t #[a0,a1,a2,a3,a4,a5]) (b0 b1 b2 b3 b4 b5:Value) :
  aG ((((((w.setCell ⟨g,0,none⟩ b0).setCell ⟨g,1,none⟩ b1).setCell ⟨g,2,none⟩ b2).setCell ⟨g,3,none⟩ b3).setCell ⟨g,4,none⟩ b4).setCell ⟨g,5,none⟩ b5) g t #[b0,b1,b2,b3,b4,b5]:=by
 have k:=(((((h.cZ 0 b0).cZ 1 b1).cZ 2 b2).cZ 3 b3).cZ 4 b4).cZ 5 b5;simp only[List.setIfInBounds_toArray,List.set_cons_zero,List.set_cons_succ]at k;exact k
theorem qU {P:Program} (w:World) (t ty e:TypeId) (i:TypeInfo) (ht:P.underlying t=some (.slice e)) (hi:P.info? e=some i) (b:Addr) (n c:Nat) (hn:n≤c) (A:Option Addr) (c':Nat) :
  (Builtin.append_ #[t,t] ty #[.slice (some b) n c,.slice A 0 c']).run P w=.ok (.slice (some b) n c) w:=by
 cases A<;>simp[Builtin.append_,run_underlying ht,sizeOf,typeInfo,hi,Builtin.lenOf,Builtin.firstCells,hn,storeCells,loadCells,loadCellsFrom]
def qV (W:World) (v:Value) (l:List bP):Prop:=∃A c,v=.slice (some A) l.length c∧∀q u,(l.flatMap ak)[q]?=some u→W.cell? (A.add q)=some u
theorem qV.ext {W W':World} {v:Value} {l:List bP} (h:qV W v l) (hx:Ext W W'):qV W' v l:=by
 obtain⟨A,c,h1,h2⟩:=h;exact⟨A,c,h1,fun q u hu=>ah hx (h2 q u hu)⟩
def pV (W:World) (b:Nat) (v:Value) (l:List bP):Prop:=W.ownsRow b 75 6 v l.length (l.flatMap ak)
theorem pV.ext {W W':World} {b:Nat} {v:Value} {l:List bP} (h:pV W b v l) (hx:Ext W W'):pV W' b v l:=bT h hx
theorem pV.base {W:World} {b b':Nat} {v:Value} {l:List bP} (h:pV W b v l) (hb:b'≤b):pV W b' v l:=own_base h hb
theorem wM {w:World} (ty:TypeId) (g:Nat) (z:bP) (l:List bP) (A:Option Addr) (m c B:Nat) (hg:aG w g 75 (ak z).toArray) (hr:Reads w B 6 A m (l.flatMap ak)) (hm:m≤3000000) :
  ∃v' w',(Builtin.append_ #[36,36] ty #[.slice (some ⟨g,0,none⟩) 1 1,.slice A m c]).run Tryz.prog w=.ok v' w'∧Ext w w'∧qV w' v' (z::l):=by
 obtain⟨i0,hi0,hz0,hz1,hz2⟩:=info_parts AU;have hlm:l.length=m:=by have h1:=hr.1;rw[rJ bg]at h1;omega
 rcases Nat.eq_zero_or_pos m with h0 | h0
 ·subst h0;obtain rfl:l=[]:=List.eq_nil_of_length_eq_zero hlm;refine⟨_,_,qU w _ _ _ i0 Tryz.underlying36 hi0 ⟨g,0,none⟩ 1 1 (Nat.le_refl _) A c,Ext.refl _,⟨g,0,none⟩,1,rfl,fun j u hu=>?_⟩;rw[Addr.add_lit,Nat.zero_add,hg.cell];simpa using hu
 ·obtain⟨b,o,rfl,hb,hc⟩:=hr.2 h0;obtain⟨v',w',h1,h2,h3⟩:=run_append_arg_grows (P:=Tryz.prog) (w:=w) 36 ty 75 i0 _ 6 48 Tryz.underlying36 hi0 hz0 hz1 hz2 rfl (by omega) ⟨g,0,none⟩ 1 1 (ak z) rfl (fun j u hu=>by rw[Addr.add_lit,Nat.zero_add,hg.cell];simpa using hu) ⟨b,o,none⟩ m c _ hr.1 (fun j u hu=>by rw[Addr.add_lit];exact hc j u hu) (by omega) (by unfold maxLen;omega) (by omega);rcases h2.2 with ⟨rfl,hn⟩ | ⟨g',cap,cur,rfl,_,_,_,_,_⟩
  ·omega
  ·have hrd:=Reads.d_ h2;obtain⟨b',o',hA,_,hc'⟩:=hrd.2 (by omega);injection hA with hA;refine⟨_,_,h1,⟨h3.os,h3.tape,h3.output,h3.size,fun k hk=>h3.block k hk (by simp)⟩,⟨g',0,none⟩,cap,by rw[List.length_cons,hlm,Nat.add_comm],fun j u hu=>?_⟩;rw[hA,Addr.add_lit];exact hc' j u (by rw[←List.flatMap_cons];exact hu)
theorem wO {w:World} (ty:TypeId) (xs ys:List bP) (v:Value) (n c':Nat) (A':Addr) (hv:(v=.slice none 0 0∧n=0)∨∃g,v=.slice (some ⟨g,0,none⟩) n n∧∀j u,(xs.flatMap ak)[j]?=some u→w.cell? ⟨g,j,none⟩=some u) (hx:xs.length=n) (hm:0<ys.length) (hn:n+ys.length≤3000000)
  (hr:∀j u,(ys.flatMap ak)[j]?=some u→w.cell? (A'.add j)=some u) :
  ∃v' w',(Builtin.append_ #[36,36] ty #[v,.slice (some A') ys.length c']).run Tryz.prog w=.ok v' w'∧Ext w w'∧pV w' w.heap.size v' (xs++ys):=by
 obtain⟨i0,hi0,hz0,hz1,hz2⟩:=info_parts AU;have hly:(ys.flatMap ak).length=ys.length*6:=by rw[rJ bg]
 have hlx:(xs.flatMap ak).length=n*6:=by rw[rJ bg,hx]
 unfold pV;rw[List.flatMap_append,List.length_append,hx];rcases hv with ⟨rfl,rfl⟩ | ⟨g,rfl,hc⟩
 ·obtain rfl:xs=[]:=List.eq_nil_of_length_eq_zero hx;obtain⟨v',w',h1,h2,h3,-⟩:=run_append_own (P:=Tryz.prog) w w.heap.size 36 ty 75 i0 _ 6 48 Tryz.underlying36 hi0 hz0 hz1 hz2 rfl (by omega) _ 0 [] (World.ownsRow_nil _ _ _ _) A' ys.length c' _ hly hr (UH ys) (by unfold maxLen;omega) (by omega) (Nat.le_refl _);exact⟨v',w',h1,⟨h3.os,h3.tape,h3.output,h3.size,fun k hk=>h3.block k hk (by simp[Value.ownBlock])⟩,h2⟩
 ·obtain⟨v',w',h1,h2,h3⟩:=run_append_arg_grows (P:=Tryz.prog) (w:=w) 36 ty 75 i0 _ 6 48 Tryz.underlying36 hi0 hz0 hz1 hz2 rfl (by omega) ⟨g,0,none⟩ n n _ hlx (fun j u hu=>by rw[Addr.add_lit,Nat.zero_add];exact hc j u hu) A' ys.length c' _ hly hr (by omega) (by unfold maxLen;omega) (by omega);exact⟨v',w',h1,⟨h3.os,h3.tape,h3.output,h3.size,fun k hk=>h3.block k hk (by simp)⟩,h2⟩
def Jf (is:Int→Bool) (a0 e0:Int) (m fr:Int) (D:List iO):Prop :=
 (fr=a0-1∧bK is a0 (e0-a0).toNat=D++qR is e0 m)∨(a0≤fr∧fr<m∧m≤e0∧(∀t,fr≤t→t<m→is t=true)∧bK is a0 (e0-a0).toNat=D++qR is e0 fr)
end Go.Proofs.YtjidhhfabfnhnaaGreat
