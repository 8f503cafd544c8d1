/- How many maximal spells there are; in plain Lean. -/
import Derived.Test.YtjidhhfabfnhnaaGreatT01
import Derived.Test.YtjidhhfabfnhnaaGreatT29
import Derived.Test.YtjidhhfabfnhnaaGreatT18
import Derived.Test.YtjidhhfabfnhnaaGreatT30
import Derived.BigQuiet
import Derived.Test.YtjidhhfabfnhnaaGreatT25
import Derived.Test.YtjidhhfabfnhnaaGreatT28
import Derived.Test.YtjidhhfabfnhnaaGreatT24
import Derived.Test.YtjidhhfabfnhnaaGreatT09
namespace Go.Proofs.YtjidhhfabfnhnaaGreat
open Go.RowKit
attribute [local go_sem] Oper.semAt_some
theorem P_ {sats:List St} {l:List fE} (h:fV sats l=true):∀u∈l,0≤u.fr:=by
 intro u hu;unfold fV at h;simp only[Bool.and_eq_true]at h;have h1:=I_ h.1.1 u hu;simp only[yE,Bool.and_eq_true,jf]at h1;exact h1.1.1.1
theorem Qa {sats:List St} {l:List fE} (h:fV sats l=true):sats.length≤24:=by
 unfold fV at h;rw[Bool.and_eq_true]at h;exact (vN h.2).1
theorem RA.strQ {w:World} {B n c:Nat} {A:Option Addr} {l:List Str} (h:RA strCells 9 w B A n c l) {k:Nat} (hk:k<n):∃(b o:Nat) (hz:k<l.length),A=some ⟨b,o,none⟩∧w.cell? ⟨b,o+k*9,none⟩=some (.int .i64 l[k].sp.fr)∧w.cell? ⟨b,o+k*9+1,none⟩=some (.int .i64 l[k].sp.tt)∧w.rangeAt b (o+k*9+2) (aN l[k].eY):=by
 obtain⟨b,o,hz,hA,hb,hr⟩:=h.range jl hk;refine⟨b,o,hz,hA,hr 0 _ rfl,hr 1 _ rfl,fun j v hv=>?_⟩;rw[Nat.add_assoc];refine hr (2+j) v ?_;rw[←hv]
 match j,hv with
 |0,_=>rfl
 |1,_=>rfl
 |2,_=>rfl
 |3,_=>rfl
 |4,_=>rfl
 |5,_=>rfl
 |6,_=>rfl
 |j+7,hv=>simp[aN]at hv
def uq (w W:World) (v:Value) (l:List bP):Prop:=W.ownsRow w.heap.size 75 6 v l.length ((bM (ltOf aU) l).flatMap ak)
theorem uq.ext {w W W':World} {v:Value} {l:List bP} (h:uq w W v l) (hx:Ext W W'):uq w W' v l:=bT h hx
theorem uq.ra {w W:World} {A:Option Addr} {n c:Nat} {l:List bP} (h:uq w W (.slice A n c) l) (hn:n=l.length) (hb:n≤3000000):RA ak 6 W W.heap.size A n c (bM (ltOf aU) l):=by
 subst hn;exact RA.d_ h (kY l) (by omega)
theorem uq.form {w W:World} {v:Value} {l:List bP} (h:uq w W v l):∃A c,v=.slice A l.length c∧l.length≤c∧c≤maxLen∧((A=none∧l.length=0∧c=0)∨∃g,A=some ⟨g,0,none⟩):=by
 rcases h.2 with ⟨rfl,hn⟩ | ⟨g,cap,cur,rfl,_,_,h1,h2,_⟩
 ·rw[hn];exact⟨none,0,rfl,Nat.le_refl _,Nat.zero_le _,.inl ⟨rfl,rfl,rfl⟩⟩
 ·exact⟨_,_,rfl,h1,h2,.inr ⟨g,rfl⟩⟩
theorem MQ {aK:List iD} {s:St} {PL:List Str} {k:Nat} {M:List bP} (hk:k<PL.length) (h:dA aK s (PL.take k)=some M):dA aK s (PL.take (k+1))=match dB [nH s PL[k].eY] aK PL[k].sp with
  |none=>none
  |some q=>some (M++q):=by
 rw[List.take_succ_eq_append_getElem hk];exact Bc _ h
set_option maxRecDepth 100000 in
set_option maxHeartbeats 16000000 in
theorem Dn (sats:List St) (aK:List iD) (l:List fE) (SA TA A:Option Addr) (sn sc tn tc un uc:Nat) (a b kn:Int) (w:World) (hS:RA aC 21 w w.heap.size SA sn sc sats) (hT:RA bJ 6 w w.heap.size TA tn tc aK) (hU:RA aI 10 w w.heap.size A un uc l) :
  Calls Tryz.prog 30 #[.slice SA sn sc,.slice TA tn tc,.slice A un uc,.agg #[.int .i64 a,.int .i64 b],.int .i64 kn] w (pJ (bU sats aK l ⟨a,b⟩ kn) w):=by
 have HVT:Hid (∀W,Ext w W→Calls Tryz.prog 80 #[.slice TA tn tc] W fun e w'=>e=.returned (.bool (gU aK))∧Ext W w'):=Lib.hid (fun W h=>sQ aK TA tn tc W (aB hT h));have HVA:Hid (∀W,Ext w W→Calls Tryz.prog 25 #[.slice SA sn sc,.slice A un uc] W fun e w'=>e=.returned (.bool (fV sats l))∧Ext W w'):=Lib.hid (fun W h=>Gg sats l SA A sn sc un uc W (aB hS h) (aB hU h));have HIN:=Lib.hid (Jd a b);have yR:=Lib.hid hS;have CY:=Lib.hid hT;have Ny:=Lib.hid hU;have Ai:=Lib.hid hS.len;have hsm:sc≤9223372036854775807:=by have h9:=hS.vw;unfold maxLen at h9;exact h9
 have hsn1:=hS.cap;clear hS hT hU;obtain⟨res,hres⟩:∃r,r=bU sats aK l ⟨a,b⟩ kn:=⟨_,rfl⟩;rw[←hres];rw[bU]at hres;have h24:fV sats l=true→sats.length≤24:=Qa;have hfr:fV sats l=true→∀u∈l,0≤u.fr:=P_;have hsp:jD ⟨a,b⟩=true→0≤a∧a<b∧b≤1000000∧b-a≤1440:=fun h=>by simpa [jD]using h
 generalize fV sats l=q at HVA hres h24 hfr;generalize gU aK=qt at HVT hres;generalize jD ⟨a,b⟩=qi at HIN hres hsp;have jy:=Lib.hid hres;have H24:=Lib.hid h24;have HFR:=Lib.hid hfr;have Ia:=Lib.hid hsp;clear hres h24 hfr hsp;go_enter Tryz.func30,Tryz.ntmps30;go_wp2_with fail;have J8:aG (w.alloc (.cells #[.int .i64 a,.int .i64 b] 32)) w.heap.size 32 #[.int .i64 a,.int .i64 b]:=aG.new _ _ _;have hB:Ext w (w.alloc (.cells #[.int .i64 a,.int .i64 b] 32)):=aj (Below.refl _ _) _;obtain⟨g8,hg8⟩:∃g,g=w.heap.size:=⟨_,rfl⟩;rw[←hg8]at J8⊢;generalize w.alloc (.cells #[.int .i64 a,.int .i64 b] 32)=W0 at J8 hB⊢;clear hg8;refine (HVT.out _ hB).mono ?_;rintro e W1 ⟨rfl,hx⟩;have J8:=J8.ext hx;have hB:=Ext.trans hB hx;clear hx;go_wp2_with (fail);refine (HVA.out _ hB).mono ?_;rintro e W2 ⟨rfl,hx⟩;have J8:=J8.ext hx;have hB:=Ext.trans hB hx;clear hx;cases q
 ·skip;go_wp2;have hr:=jy.out;simp at hr;subst hr;exact bodyPost_ret (v:=.tuple #[.slice none 0 0,.int .i64 360]) (by simp[results,Tryz.results30,go_sem]) rfl ⟨rfl,hB⟩
 ·skip;cases qt
  ·skip;go_wp2;have hr:=jy.out;simp at hr;subst hr;exact bodyPost_ret (v:=.tuple #[.slice none 0 0,.int .i64 360]) (by simp[results,Tryz.results30,go_sem]) rfl ⟨rfl,hB⟩
  ·skip;have t0:W2.cell? ⟨g8,0,none⟩=some (.int .i64 a):=J8.cell 0;have t1:W2.cell? ⟨g8,1,none⟩=some (.int .i64 b):=J8.cell 1;go_wp2_with (fail);refine (HIN.out _).mono ?_;rintro e W3 ⟨rfl,hx⟩;have J8:=J8.ext hx;have hB:=Ext.trans hB hx;clear hx;clear t0 t1;cases qi
   ·skip;go_wp2;have hr:=jy.out;simp at hr;subst hr;exact bodyPost_ret (v:=.tuple #[.slice none 0 0,.int .i64 360]) (by simp[results,Tryz.results30,go_sem]) rfl ⟨rfl,hB⟩
   ·skip;obtain⟨b1,b2,b3,b4⟩:=Ia.out (by trivial);have hs24:=H24.out (by trivial);have hfr:=HFR.out (by trivial);have hres:=jy.out;simp only[Bool.and_self,if_true]at hres;have jy:=Lib.hid hres;have HFR:=Lib.hid hfr;rw[Ai.out]at hs24;clear hres hfr HVT HVA HIN H24 Ia;have yR:=Lib.hid (aB yR.out hB);have CY:=Lib.hid (aB CY.out hB);have Ny:=Lib.hid (aB Ny.out hB);obtain⟨Wb,hWb⟩:∃W:World,W=W3:=⟨_,rfl⟩;rw[←hWb]at J8 hB yR CY Ny⊢;clear hWb;have hbs:=Below.size hB;have uP:=Lib.hid J8;clear J8;go_wp2;go_loopw [13,14] (fun x y wr=>∃(i:Nat) (L:List bP),i≤sn∧y=.int .i64 i∧Hid (jF aK l ⟨a,b⟩ kn (sats.take i)=some L)∧Hid (uq w wr x L)∧Ext Wb wr) (fun _ y _=>sn-(intOf y).toNat)
    case atStart=>exact⟨0,[],Nat.zero_le _,rfl,Lib.hid rfl,Lib.hid (World.ownsRow_nil _ _ _ _),Ext.refl _⟩
    case round =>
     obtain⟨i,L,hi,rfl,Ar,HO,hx⟩:=hrel;by_cases hin:i<sn
     ·skip;obtain⟨gs,Qz,hz,hA,_,hr⟩:=(yR.out.below hx).range gJ hin;subst hA;have hll:L.length≤2211840:=by
       have h1:=all_le aK l ⟨a,b⟩ kn (by dsimp only;omega) _ _ Ar.out;have h2:=List.length_take_le i sats;omega
      have hnext:∀M,dA aK sats[i] (oW sats[i] l ⟨a,b⟩ kn)=some M→jF aK l ⟨a,b⟩ kn (sats.take (i+1))=some (L++M):=fun M h=>by
       rw[List.take_succ_eq_append_getElem hz];exact Io Ar.out h
      have hstop:dA aK sats[i] (oW sats[i] l ⟨a,b⟩ kn)=none→res=none:=fun h=>by
       have h1:=jy.out;rw[Ik hz h]at h1;exact h1
      have hpl:(oW sats[i] l ⟨a,b⟩ kn).length≤1440:=by
       have h3:=vH (fK sats[i] l kn) (b-a).toNat a
       show (eX (fK sats[i] l kn) a (b-a).toNat).length≤1440
       omega
      have hst:∀W,Ext Wb W→Calls Tryz.prog 79 #[.agg (aC sats[i]).toArray,.slice A un uc,.agg #[.int .i64 a,.int .i64 b],.int .i64 kn] W (nZ strCells 9 96 (oW sats[i] l ⟨a,b⟩ kn) W):=fun W h=>BM sats[i] l A un uc a b kn W (aB Ny.out h) (fun u hu _=>HFR.out u hu) b1 (by omega) b3;generalize oW sats[i] l ⟨a,b⟩ kn=PL at hnext hstop hpl hst;generalize sats[i]=s at hr hnext hstop hst;obtain⟨SX,g_⟩:∃X,(aC s).toArray=X:=⟨_,rfl⟩;rw[g_]at hst;have Vz:Hid (SX.size=21):=Lib.hid (by rw[←g_];rfl);have XI:Hid (SX.all (·.oneCell')=true):=Lib.hid (by rw[←g_];exact nU _);have HRG:Hid (wr.rangeAt gs (Qz+i*21) SX.toList):=Lib.hid (by rw[←g_];exact hr);have HNEXT:=Lib.hid hnext;have HSTOP:=Lib.hid hstop;have HST:=Lib.hid hst;have kF:=Lib.hid g_;clear hnext hstop hst g_ hr hz Ar;have hJ:=uP.out.ext hx;have t0:wr.cell? ⟨g8,0,none⟩=some (.int .i64 a):=hJ.cell 0;have t1:wr.cell? ⟨g8,1,none⟩=some (.int .i64 b):=hJ.cell 1;go_upto_region 8 with (fail);have HXW:=Lib.hid hx;refine aF 8 [some (.slice (some ⟨gs,Qz,none⟩) sn sc),some (.int .i64 (i:Int)),some (.pointer (some ⟨gs,Qz+i*21,none⟩)),some (.agg SX),some (.slice A un uc),some (.agg #[.int .i64 a,.int .i64 b]),some (.int .i64 kn),none] [(7,.w fun v w1=>w1.ownsRow wr.heap.size 96 9 v PL.length (PL.flatMap strCells))] ?_ ?_ ?_
      ·refine⟨?_,trivial⟩
       ·intro v w1 w2 hr hx;exact bT hr hx
      ·refine⟨?_,?_,?_,?x3,?_,?_,?_,?x7,trivial⟩
       case x3 =>
        intro vals w1 hx hd;clear hd;simp only[Lf,au,Act.put,bH,bG];refine ay rfl 53 _ rfl gs (Qz+i*21) rfl SX SX.toList (by simp) _ (RA.dD HRG.out hx.aH) Tryz.underlying53 rfl (by rw[Array.length_toList,Vz.out];exact aQ) ?_;go_wp2;exact q_
       case x7 =>
        intro vals w1 hx hd;clear hd;simp only[Lf,au,Act.put,bH,bG];have hzz:=Below.size hx.aH;go_wp2_with fail;refine (HST.out _ (Ext.trans HXW.out hx.aH)).mono ?_;rintro e w2 ⟨v2,rfl,hown,hb2⟩;have hown:=Lib.hid (own_base hown hzz);go_wp2;exact⟨rfl,hb2,hown.out⟩
       all_goals
        intro vals w1 hx hd;clear hd;simp only[Lf,au,Act.put,bH,bG];have t0:=ah hx t0;have t1:=ah hx t1;go_wp2;exact iq
      intro vals Wc hy hf;have hown:Wc.ownsRow wr.heap.size 96 9 (vals 7) PL.length (PL.flatMap strCells):=hf 7 (by omega);clear hf t0 t1;have hy:=hy.aH;refine eP 8 _ (by kernel_rfl) (by kernel_rfl) rfl ?_;simp only[Lf,au,Act.put,FR_];generalize vals 7=v15 at hown⊢;obtain⟨PA,pc,hv15,_,_⟩:=aX hown;subst hv15;obtain⟨pn,hpn⟩:∃n,n=PL.length:=⟨_,rfl⟩;rw[←hpn]at hown hpl⊢;have Vy:=Lib.hid (RA.d_ hown hpn.symm (by omega));have hpm:pc≤9223372036854775807:=by have h9:=Vy.out.vw;unfold maxLen at h9;exact h9
      have hpc1:=Vy.out.cap;have OB:=Lib.hid hpn;clear hown hpn HST;have HO:=Lib.hid (HO.out.ext hy);have hx:=Ext.trans hx hy;have HRG:=Lib.hid (RA.dD HRG.out hy);clear hy HXW hJ;go_wp2;go_loopw [13,16] (fun x y wr=>∃(k:Nat) (M:List bP),k≤pn∧y=.int .i64 k∧Hid (dA aK s (PL.take k)=some M)∧Hid (uq w wr x (L++M))∧Ext Wc wr) (fun _ y _=>pn-(intOf y).toNat)
      case atStart=>exact⟨0,[],Nat.zero_le _,rfl,Lib.hid rfl,Lib.hid (by simpa using HO.out),Ext.refl _⟩
      case round =>
       clear HO;obtain⟨k,M,hk,rfl,Zp,HO,hy⟩:=hrel;by_cases hkn:k<pn
       ·skip;obtain⟨gp,Zr,hz,hA,d0,d1,hro⟩:=RA.strQ (Vy.out.below hy) hkn;subst hA;have hml:M.length≤92160:=by
         have h1:=AV aK s _ _ Zp.out;have h2:=List.length_take_le k PL;omega
        have hpt:=MQ hz Zp.out;have MR:dB [nH s PL[k].eY] aK PL[k].sp=none→res=none:=fun h=>by
         rw[h]at hpt;exact HSTOP.out (Ba (List.take_prefix _ _) hpt)
        have hple:∀o,dB [nH s PL[k].eY] aK PL[k].sp=some o→o.length≤64:=fun o h=>xK h;have UU:∀(o:iM) (f t:Int) (W:World) (g:Nat),o=PL[k].eY→f=PL[k].sp.fr→t=PL[k].sp.tt→Ext Wb W→aG W g 53 (aC (nH s o)).toArray→Calls Tryz.prog 81 #[.slice (some ⟨g,0,none⟩) 1 1,.slice TA tn tc,.agg #[.int .i64 f,.int .i64 t]] W (tN (dB [nH s PL[k].eY] aK PL[k].sp) W):=fun o f t W g ho hf ht hx hb=>by
         subst ho hf ht;exact Jg [nH s PL[k].eY] aK _ TA 1 1 tn tc _ _ W (RA.one rfl hb) (aB CY.out hx)
        obtain⟨o,ho⟩:∃o,o=PL[k].eY:=⟨_,rfl⟩;obtain⟨f,hf⟩:∃o,o=PL[k].sp.fr:=⟨_,rfl⟩;obtain⟨t,ht⟩:∃o,o=PL[k].sp.tt:=⟨_,rfl⟩;have hcall:=fun W g=>UU o f t W g ho hf ht;clear UU;rw[←hf]at d0;rw[←ht]at d1;rw[←ho]at hro;generalize dB [nH s PL[k].eY] aK PL[k].sp=RP at hpt MR hple hcall;clear ho hf ht hz;obtain⟨OX,yM⟩:∃X,(aN o).toArray=X:=⟨_,rfl⟩;have XQ:Hid (OX.size=7):=Lib.hid (by rw[←yM];rfl);have QB:Hid (wr.rangeAt gp (Zr+k*9+2) OX.toList):=Lib.hid (by rw[←yM];exact hro);have Qq:=Lib.hid yM;have HPT:=Lib.hid hpt;have UW:=Lib.hid MR;have HPLE:=Lib.hid hple;have Jl:=Lib.hid hcall;have HRG2:=Lib.hid (RA.dD HRG.out hy);clear hro yM hpt MR hple hcall Zp;go_upto_region 13 with (first | (refine ay rfl 53 _ rfl gs (Qz+i*21) rfl SX SX.toList (by simp) _ (HRG2.out) Tryz.underlying53 rfl (by rw[Array.length_toList,Vz.out];exact aQ) ?_) | (refine aS rfl 53 _ _ rfl _ SX rfl rfl (by rw[Vz.out];exact aQ) (by rw[Vz.out];rfl) XI.out ?_));have X_:aG (wr.alloc (.cells SX 53)) wr.heap.size 53 SX:=aG.new _ _ _;have hc:Ext wr (wr.alloc (.cells SX 53)):=aj (Below.refl _ _) _;obtain⟨g17,hg⟩:∃g,g=wr.heap.size:=⟨_,rfl⟩;rw[←hg]at X_⊢;generalize wr.alloc (.cells SX 53)=Wd at X_ hc⊢;have n17:wr.heap.size≤g17:=by omega
        clear hg HRG2;have Vp:Hid (Wd.there g17 2 7):=Lib.hid (X_.Le 2 7 (by rw[Vz.out];decide));have HRO2:=Lib.hid (RA.dD QB.out hc);go_upto_region 14 with (first | (refine ay rfl 51 _ rfl gp (Zr+k*9+2) rfl OX OX.toList (by simp) _ (HRO2.out) Tryz.underlying51 rfl (by rw[Array.length_toList,XQ.out];exact aZ) ?_) | (refine dL rfl 51 _ _ rfl g17 2 OX (aN o) Qq.out rfl rfl Vp.out aZ (Il o) ?_));have hc:Ext wr (Wd.setCells g17 2 (aN o)):=vX n17 _ _ _ hc;have X_:aG (Wd.setCells g17 2 (aN o)) g17 53 (aC (nH s o)).toArray:=NR s o (by rw[kF.out];exact X_);generalize Wd.setCells g17 2 (aN o)=We at hc X_⊢;obtain⟨MX,hMX⟩:∃X,(aC (nH s o)).toArray=X:=⟨_,rfl⟩;have hcall:=Jl.out;rw[hMX]at X_ hcall;have Jl:=Lib.hid hcall;have HZM:Hid (MX.size=21):=Lib.hid (by rw[←hMX];rfl);clear hMX hcall Vp HRO2 Qq QB XQ n17;have d0:=ah hc d0;have d1:=ah hc d1;have HO:=Lib.hid (HO.out.ext hc);have hy:=Ext.trans hy hc;have DY:=Lib.hid (Ext.trans hx hy);clear hc;have HJ17:=Lib.hid X_;clear X_;cases RP with
        |none =>
         refine aF 14 [some (.agg MX),none,some (.slice TA tn tc),some (.slice (some ⟨gp,Zr,none⟩) pn pc),some (.int .i64 (k:Int)),some (.pointer (some ⟨gp,Zr+k*9,none⟩)),some (.pointer (some ⟨gp,Zr+k*9,none⟩)),some (.agg #[.int .i64 f,.int .i64 t]),some (.tuple #[.slice none 0 0,.int .i64 90]),some (.tuple #[.slice none 0 0,.int .i64 90]),some (.slice none 0 0),some (.int .i64 90),some (.slice none 0 0),some (.int .i64 90)] [(1,.w fun v w1=>∃g,v=.slice (some ⟨g,0,none⟩) 1 1∧aG w1 g 53 MX)] ?_ ?_ ?_
         ·refine⟨?_,trivial⟩
          ·intro v w1 w2 hr hx;obtain⟨g,h1,h2⟩:=hr;exact⟨g,h1,h2.ext hx⟩
         ·refine⟨?x0,?x1,?_,?_,?_,?_,?_,?_,?x8,?_,?_,?_,?_,?_,trivial⟩
          case x0 =>
           intro vals w1 hx hd;clear hd;simp only[Lf];refine ay rfl 53 _ rfl g17 0 rfl MX MX.toList (by simp) _ (aG.range (HJ17.out.ext hx.aH) _ rfl) Tryz.underlying53 rfl (by rw[Array.length_toList,HZM.out];exact aQ) ?_;go_wp2;exact q_
          case x1 =>
           intro vals w1 hx hd;clear hd;simp only[Lf,au,Act.put,bH,bG];refine bY rfl _ _ _ rfl MX rfl Tryz.underlying28 21 pq HZM.out (by omega) (by omega) ?_;go_wp2;exact⟨rfl,(by repeat (first | exact Below.refl _ _ | assumption | refine Below.drew ?_ | refine below_drewN ?_ _ | refine aj ?_ _ | refine Below.setCell ?_ (by first | (simp;done) | omega | (simp;omega)) _ | refine aA ?_ (by assumption))),_,rfl,aG.new _ _ _⟩
          case x8 =>
           intro vals w1 hx hd;have r1:(fun v w1=>∃g,v=.slice (some ⟨g,0,none⟩) 1 1∧aG w1 g 53 MX) (vals 1) w1:=hd 1 (by decide) rfl;dsimp only at r1;obtain⟨g,e_1,jb⟩:=r1;clear hd;simp only[Lf,au,Act.put,bH,bG,e_1];clear e_1;have HC:=Lib.hid (Jl.out _ _ (Ext.trans DY.out hx.aH) jb);clear jb;go_wp2_with fail;refine HC.out.mono ?_;rintro e w2 ⟨rfl,hb2⟩;go_wp2;exact⟨rfl,hb2,rfl⟩
          all_goals
           intro vals w1 hx hd;clear hd;simp only[Lf,au,Act.put,bH,bG];have d0:=ah hx d0;have d1:=ah hx d1;go_wp2;exact iq
         intro vals Wf hz hf;have e12:vals 12=.slice none 0 0:=hf 12 (by omega);have e13:vals 13=.int .i64 90:=hf 13 (by omega);clear hf d0 d1;have hz:=hz.aH;refine dO (by kernel_rfl) ?_;simp only[Lf,au,Act.put,FR_];rw[e12,e13];clear e12 e13;obtain rfl:res=none:=UW.out rfl;clear jy HO;go_wp2;exact bodyPost_ret (v:=.tuple #[.slice none 0 0,.int .i64 360]) (by simp[results,Tryz.results30,go_sem]) rfl ⟨rfl,Ext.trans hB (Ext.trans DY.out hz)⟩
        |some ol =>
         have hol:=HPLE.out ol rfl;have hpt:=HPT.out;dsimp only at hpt;have HPT:=Lib.hid hpt;obtain⟨mn,hmn⟩:∃n,n=ol.length:=⟨_,rfl⟩;rw[←hmn]at hol;have WT:=Lib.hid hmn;clear hpt hmn HPLE UW;refine aF 14 [some (.agg MX),none,some (.slice TA tn tc),some (.slice (some ⟨gp,Zr,none⟩) pn pc),some (.int .i64 (k:Int)),some (.pointer (some ⟨gp,Zr+k*9,none⟩)),some (.pointer (some ⟨gp,Zr+k*9,none⟩)),some (.agg #[.int .i64 f,.int .i64 t]),none,none,none,some (.int .i64 0),none,some (.int .i64 0)] [(1,.w fun v w1=>∃g,v=.slice (some ⟨g,0,none⟩) 1 1∧aG w1 g 53 MX),(8,.w fun v w1=>∃A c,v=.tuple #[.slice A mn c,.int .i64 0]∧RA ak 6 w1 w1.heap.size A mn c ol),(9,.w fun v w1=>∃A c,v=.tuple #[.slice A mn c,.int .i64 0]∧RA ak 6 w1 w1.heap.size A mn c ol),(10,.w fun v w1=>∃A c,v=.slice A mn c∧RA ak 6 w1 w1.heap.size A mn c ol),(12,.w fun v w1=>∃A c,v=.slice A mn c∧RA ak 6 w1 w1.heap.size A mn c ol)] ?_ ?_ ?_
         ·refine⟨?_,?_,?_,?_,?_,trivial⟩
          ·intro v w1 w2 hr hx;obtain⟨g,h1,h2⟩:=hr;exact⟨g,h1,h2.ext hx⟩
          ·intro v w1 w2 hr hx;obtain⟨A,c,h1,h2⟩:=hr;exact⟨A,c,h1,aB h2 hx⟩
          ·intro v w1 w2 hr hx;obtain⟨A,c,h1,h2⟩:=hr;exact⟨A,c,h1,aB h2 hx⟩
          ·intro v w1 w2 hr hx;obtain⟨A,c,h1,h2⟩:=hr;exact⟨A,c,h1,aB h2 hx⟩
          ·intro v w1 w2 hr hx;obtain⟨A,c,h1,h2⟩:=hr;exact⟨A,c,h1,aB h2 hx⟩
         ·refine⟨?x0,?x1,?_,?_,?_,?_,?_,?_,?x8,?x9,?x10,?x11,?x12,?_,trivial⟩
          case x0 =>
           intro vals w1 hx hd;clear hd;simp only[Lf];refine ay rfl 53 _ rfl g17 0 rfl MX MX.toList (by simp) _ (aG.range (HJ17.out.ext hx.aH) _ rfl) Tryz.underlying53 rfl (by rw[Array.length_toList,HZM.out];exact aQ) ?_;go_wp2;exact q_
          case x1 =>
           intro vals w1 hx hd;clear hd;simp only[Lf,au,Act.put,bH,bG];refine bY rfl _ _ _ rfl MX rfl Tryz.underlying28 21 pq HZM.out (by omega) (by omega) ?_;go_wp2;exact⟨rfl,(by repeat (first | exact Below.refl _ _ | assumption | refine Below.drew ?_ | refine below_drewN ?_ _ | refine aj ?_ _ | refine Below.setCell ?_ (by first | (simp;done) | omega | (simp;omega)) _ | refine aA ?_ (by assumption))),_,rfl,aG.new _ _ _⟩
          case x8 =>
           intro vals w1 hx hd;have r1:(fun v w1=>∃g,v=.slice (some ⟨g,0,none⟩) 1 1∧aG w1 g 53 MX) (vals 1) w1:=hd 1 (by decide) rfl;dsimp only at r1;obtain⟨g,e_1,jb⟩:=r1;clear hd;simp only[Lf,au,Act.put,bH,bG,e_1];clear e_1;have HC:=Lib.hid (Jl.out _ _ (Ext.trans DY.out hx.aH) jb);clear jb;go_wp2_with fail;refine HC.out.mono ?_;rintro e w2 ⟨v2,rfl,hown,hb2⟩;obtain⟨A2,c2,hv2,_,_⟩:=aX hown;subst hv2;rw[←WT.out]at hown⊢;have hra:=Lib.hid (RA.d_ hown WT.out.symm (by omega));clear hown;go_wp2;exact⟨rfl,hb2,A2,c2,rfl,hra.out⟩
          case x9 =>
           intro vals w1 hx hd;have r8:(fun v w1=>∃A c,v=.tuple #[.slice A mn c,.int .i64 0]∧RA ak 6 w1 w1.heap.size A mn c ol) (vals 8) w1:=hd 8 (by decide) rfl;dsimp only at r8;obtain⟨A2,c2,e_8,hra⟩:=r8;clear hd;simp only[Lf,au,Act.put,bH,bG,e_8];clear e_8;have hra:=Lib.hid hra;go_wp2;exact⟨rfl,Ext.refl _,A2,c2,rfl,hra.out⟩
          case x10 =>
           intro vals w1 hx hd;have r9:(fun v w1=>∃A c,v=.tuple #[.slice A mn c,.int .i64 0]∧RA ak 6 w1 w1.heap.size A mn c ol) (vals 9) w1:=hd 9 (by decide) rfl;dsimp only at r9;obtain⟨A2,c2,e_9,hra⟩:=r9;clear hd;simp only[Lf,au,Act.put,bH,bG,e_9];clear e_9;have hra:=Lib.hid hra;go_wp2;exact⟨rfl,Ext.refl _,A2,c2,rfl,hra.out⟩
          case x11 =>
           intro vals w1 hx hd;have r9:(fun v w1=>∃A c,v=.tuple #[.slice A mn c,.int .i64 0]∧RA ak 6 w1 w1.heap.size A mn c ol) (vals 9) w1:=hd 9 (by decide) rfl;dsimp only at r9;obtain⟨A2,c2,e_9,hra⟩:=r9;clear hd;simp only[Lf,au,Act.put,bH,bG,e_9];clear e_9;clear hra;go_wp2;exact q_
          case x12 =>
           intro vals w1 hx hd;have r1:(fun v w1=>∃g,v=.slice (some ⟨g,0,none⟩) 1 1∧aG w1 g 53 MX) (vals 1) w1:=hd 1 (by decide) rfl;dsimp only at r1;obtain⟨g,e_1,jb⟩:=r1;have r8:(fun v w1=>∃A c,v=.tuple #[.slice A mn c,.int .i64 0]∧RA ak 6 w1 w1.heap.size A mn c ol) (vals 8) w1:=hd 8 (by decide) rfl;dsimp only at r8;obtain⟨A2,c2,e_8,hra⟩:=r8;have r9:(fun v w1=>∃A c,v=.tuple #[.slice A mn c,.int .i64 0]∧RA ak 6 w1 w1.heap.size A mn c ol) (vals 9) w1:=hd 9 (by decide) rfl;dsimp only at r9;obtain⟨A2,c2,e_9,hra⟩:=r9;have r10:(fun v w1=>∃A c,v=.slice A mn c∧RA ak 6 w1 w1.heap.size A mn c ol) (vals 10) w1:=hd 10 (by decide) rfl;dsimp only at r10;obtain⟨A2,c2,e_10,hra⟩:=r10;clear hd;simp only[Lf,au,Act.put,bH,bG,e_1,e_8,e_9,e_10];clear e_1 e_8 e_9 e_10;have hra:=Lib.hid hra;go_wp2;exact⟨rfl,Ext.refl _,A2,c2,rfl,hra.out⟩
          all_goals
           intro vals w1 hx hd;clear hd;simp only[Lf,au,Act.put,bH,bG];have d0:=ah hx d0;have d1:=ah hx d1;go_wp2;exact iq
         intro vals Wf hz hf;obtain⟨mA,mc,e12,hra⟩:∃A c,vals 12=.slice A mn c∧RA ak 6 Wf Wf.heap.size A mn c ol:=hf 12 (by omega);have e13:vals 13=.int .i64 0:=hf 13 (by omega);clear hf d0 d1;have hz:=hz.aH;refine dO (by kernel_rfl) ?_;simp only[Lf,au,Act.put,FR_];rw[e12,e13];clear e12 e13;have xg:=Lib.hid hra;have hmc:mc≤9223372036854775807:=by have h9:=xg.out.vw;unfold maxLen at h9;exact h9
         have hmc1:=xg.out.cap;have HO:=Lib.hid (HO.out.ext hz);have hy:=Ext.trans hy hz;clear hra hz HJ17 Jl DY;go_wp2;go_loopw [13,20] (fun x y wr=>∃n:Nat,n≤mn∧y=.int .i64 n∧Hid (uq w wr x ((L++M)++ol.take n))∧Ext Wf wr) (fun _ y _=>mn-(intOf y).toNat)
         case atStart=>exact⟨0,Nat.zero_le _,rfl,Lib.hid (by simpa using HO.out),Ext.refl _⟩
         case round =>
          clear HO;obtain⟨n,hn,rfl,HO,hv⟩:=hrel;by_cases hnn:n<mn
          ·skip;obtain⟨mg,MS,hz,hA,_,hr⟩:=(xg.out.below hv).range bg hnn;subst hA;have Oc:(L++M)++ol.take (n+1)=((L++M)++ol.take n)++[ol[n]]:=by rw[List.take_succ_eq_append_getElem hz,List.append_assoc (L++M)]
           have JB:((L++M)++ol.take n).length≤2400000:=by
            have h2:=List.length_take_le n ol;rw[List.length_append,List.length_append];omega
           generalize ol[n]=P at hr Oc;generalize (L++M)++ol.take n=QL at HO Oc JB;obtain⟨AO,cO,hvo,ho1,ho2,XZ⟩:=HO.out.form;obtain⟨nO,Jj⟩:∃n,n=QL.length:=⟨_,rfl⟩;rw[←Jj]at hvo ho1 XZ JB;subst hvo;have QB:=Lib.hid (HO.out.ra Jj (by omega));obtain⟨OL,X0⟩:∃l,l=bM (ltOf aU) QL:=⟨_,rfl⟩;have UO:OL.length=nO:=by rw[X0,kY,Jj]
           rw[←X0]at QB;have HOL:=Lib.hid X0;have HNO:=Lib.hid Jj;have uV:=Lib.hid UO;have HAO:=Lib.hid XZ;have hcO:cO≤9223372036854775807:=by unfold maxLen at ho2;exact ho2
           have HSN2:=Lib.hid Oc;clear X0 Jj UO XZ ho2 HO Oc;obtain⟨PX,MK⟩:∃X,(ak P).toArray=X:=⟨_,rfl⟩;have X9:Hid (PX.size=6):=Lib.hid (by rw[←MK];rfl);have TP:Hid (wr.rangeAt mg (MS+n*6) PX.toList):=Lib.hid (by rw[←MK];exact hr);have VI:=Lib.hid MK;clear MK;obtain⟨⟨fO,Eo,⟨p2,p3⟩,⟨p4,p5⟩⟩,Zt⟩:∃P2,P2=P:=⟨_,rfl⟩;have ZL:=Lib.hid Zt;have u0:wr.cell? ⟨mg,MS+n*6,none⟩=some (.int .i64 fO):=by have h:=hr 0 (.int .i64 fO) (by rw[←Zt];rfl);exact h
           have u1:wr.cell? ⟨mg,MS+n*6+1,none⟩=some (.int .i64 Eo):=by have h:=hr 1 (.int .i64 Eo) (by rw[←Zt];rfl);exact h
           have u2:wr.cell? ⟨mg,MS+n*6+2,none⟩=some (.int .i64 p2):=by have h:=hr 2 (.int .i64 p2) (by rw[←Zt];rfl);exact h
           have u3:wr.cell? ⟨mg,MS+n*6+3,none⟩=some (.int .i64 p3):=by have h:=hr 3 (.int .i64 p3) (by rw[←Zt];rfl);exact h
           have u4:wr.cell? ⟨mg,MS+n*6+4,none⟩=some (.int .i64 p4):=by have h:=hr 4 (.int .i64 p4) (by rw[←Zt];rfl);exact h
           have u5:wr.cell? ⟨mg,MS+n*6+5,none⟩=some (.int .i64 p5):=by have h:=hr 5 (.int .i64 p5) (by rw[←Zt];rfl);exact h
           clear hr Zt hz;obtain⟨Wh,hWh⟩:∃W:World,W=wr:=⟨_,rfl⟩;rw[←hWh]at hv QB TP u0 u1 u2 u3 u4 u5⊢;clear hWh;go_wp2;go_loopw [21] (fun x wr=>∃j:Nat,j≤nO∧x=.int .i64 j∧Hid (∀z∈OL.drop j,ltOf aU P z=true)∧Ext Wh wr) (fun x _=>(intOf x).toNat)
           case atStart=>exact⟨nO,Nat.le_refl _,rfl,Lib.hid (fun z hz=>by rw[List.drop_of_length_le (by rw[uV.out];exact Nat.le_refl _)]at hz;cases hz),Ext.refl _⟩
           case round =>
            obtain⟨j,hj,rfl,Cm,hh⟩:=hrel;go_upto_region 21 with (fail);go_cut [102] from 89 to 102 (fun v wc=>∃q:Bool,v=.bool q∧Hid ((q=true→∃h:j-1<OL.length,0<j∧ltOf aU P OL[j-1]=true)∧(q=false→j=0∨∃h:j-1<OL.length,0<j∧ltOf aU P OL[j-1]=false))∧Ext wr wc)
            case first =>
             by_cases hj0:j=0
             ·have cj:decide ((0:Int)<(j:Int))=false:=by simp;omega
              refine aF 14 [some (.int .i64 (j:Int)),some (.bool false),some (.bool false),some (undef),some (undef),some (undef),some (undef),some (undef),some (undef),some (undef),some (undef),some (undef),some (undef),some (.bool false)] [] ?_ ?_ ?_
              ·trivial
              ·refine⟨?_,?_,?_,?_,?_,?_,?_,?_,?_,?_,?_,?_,?_,?_,trivial⟩
               all_goals
                intro vals w1 hx hd;clear hd;simp only[Lf,au,Act.put,bH,bG];go_wp2;exact iq
              intro vals W5 hx9 hf;have e13:vals 13=.bool false:=hf 13 (by omega);clear hf;have hx9:=hx9.aH;refine dO (by kernel_rfl) ?_;simp only[Lf,au,Act.put,FR_];rw[e13];clear e13;go_wp2_with fail;go_meet
              case rel=>exact⟨false,rfl,Lib.hid ⟨fun h=>(by cases h),fun _=>.inl hj0⟩,hx9⟩
             ·have hj1:0<j:=by omega
              have cj:decide ((0:Int)<(j:Int))=true:=by simp;omega
              have hki:IntKind.i64.wrap ((j:Int)-1)=(j:Int)-1:=IntWalk.i64_in _ (by omega);have rP:((j:Int)-1).toNat=j-1:=by omega
              have hkz:(0:Int)≤(j:Int)-1:=by omega
              have hkl:(j:Int)-1<(nO:Int):=by omega
              obtain⟨go,Jk,Zq,hA,_,hc1⟩:=(QB.out.below hh).at_ bg (show j-1<nO by omega);have hst:∀q,ltOf aU P OL[j-1]=q→(∃h:j-1<OL.length,0<j∧ltOf aU P OL[j-1]=q):=fun q h=>⟨Zq,hj1,h⟩;have hbf:=fun W=>Dl fO Eo p2 p3 p4 p5 OL[j-1].sat OL[j-1].dh OL[j-1].sure.fr OL[j-1].sure.tt OL[j-1].can.fr OL[j-1].can.tt W;have hpe:=ZL.out;rw[hpe]at hbf;obtain⟨lq,hlq⟩:∃q,q=ltOf aU P OL[j-1]:=⟨_,rfl⟩;have qM:∀W,Calls Tryz.prog 82 #[.agg #[.int .i64 fO,.int .i64 Eo,.int .i64 p2,.int .i64 p3,.int .i64 p4,.int .i64 p5],.agg #[.int .i64 OL[j-1].sat,.int .i64 OL[j-1].dh,.int .i64 OL[j-1].sure.fr,.int .i64 OL[j-1].sure.tt,.int .i64 OL[j-1].can.fr,.int .i64 OL[j-1].can.tt]] W fun e w'=>e=.returned (.bool lq)∧Ext W w':=by rw[hlq];exact hbf
              have XP:Hid ((lq=true→∃h:j-1<OL.length,0<j∧ltOf aU P OL[j-1]=true)∧(lq=false→j=0∨∃h:j-1<OL.length,0<j∧ltOf aU P OL[j-1]=false)):=Lib.hid ⟨fun h=>hst true (by rw[←hlq];exact h),fun h=>.inr (hst false (by rw[←hlq];exact h))⟩;generalize OL[j-1]=ez at hc1 qM;have v0:wr.cell? ⟨go,Jk+(j-1)*6,none⟩=some (.int .i64 ez.sat):=hc1 0 (by omega);have v1:wr.cell? ⟨go,Jk+(j-1)*6+1,none⟩=some (.int .i64 ez.dh):=hc1 1 (by omega);have v2:wr.cell? ⟨go,Jk+(j-1)*6+2,none⟩=some (.int .i64 ez.sure.fr):=hc1 2 (by omega);have v3:wr.cell? ⟨go,Jk+(j-1)*6+3,none⟩=some (.int .i64 ez.sure.tt):=hc1 3 (by omega);have v4:wr.cell? ⟨go,Jk+(j-1)*6+4,none⟩=some (.int .i64 ez.can.fr):=hc1 4 (by omega);have v5:wr.cell? ⟨go,Jk+(j-1)*6+5,none⟩=some (.int .i64 ez.can.tt):=hc1 5 (by omega);generalize ez.sat=z0_ at v0 qM;generalize ez.dh=z1_ at v1 qM;generalize ez.sure.fr=z2_ at v2 qM;generalize ez.sure.tt=z3_ at v3 qM;generalize ez.can.fr=z4_ at v4 qM;generalize ez.can.tt=z5_ at v5 qM;have HBF:=Lib.hid qM;clear hst hbf hpe hlq qM hc1 Zq;subst hA;have u0:=ah hh u0;have u1:=ah hh u1;have u2:=ah hh u2;have u3:=ah hh u3;have u4:=ah hh u4;have u5:=ah hh u5;refine aF 14 [some (.int .i64 (j:Int)),some (.bool true),some (.bool true),some (.slice (some ⟨mg,MS,none⟩) mn mc),some (.int .i64 (n:Int)),some (.pointer (some ⟨mg,MS+n*6,none⟩)),some (.agg #[.int .i64 fO,.int .i64 Eo,.int .i64 p2,.int .i64 p3,.int .i64 p4,.int .i64 p5]),some (.slice (some ⟨go,Jk,none⟩) nO cO),some (.int .i64 (j:Int)),some (.int .i64 ((j:Int)-1)),some (.pointer (some ⟨go,Jk+(j-1)*6,none⟩)),some (.agg #[.int .i64 z0_,.int .i64 z1_,.int .i64 z2_,.int .i64 z3_,.int .i64 z4_,.int .i64 z5_]),some (.bool lq),some (.bool lq)] [] ?_ ?_ ?_
              ·trivial
              ·refine⟨?_,?_,?_,?_,?_,?_,?_,?_,?_,?_,?_,?_,?x12,?_,trivial⟩
               case x12 =>
                intro vals w1 hx hd;clear hd;simp only[Lf,au,Act.put,bH,bG];go_wp2_with fail;refine (HBF.out _).mono ?_;rintro e w2 ⟨rfl,hb2⟩;go_wp2;exact⟨rfl,hb2,rfl⟩
               all_goals
                intro vals w1 hx hd;clear hd;simp only[Lf,au,Act.put,bH,bG];have u0:=ah hx u0;have u1:=ah hx u1;have u2:=ah hx u2;have u3:=ah hx u3;have u4:=ah hx u4;have u5:=ah hx u5;have v0:=ah hx v0;have v1:=ah hx v1;have v2:=ah hx v2;have v3:=ah hx v3;have v4:=ah hx v4;have v5:=ah hx v5;go_wp2;exact iq
              intro vals W5 hx9 hf;have e13:vals 13=.bool lq:=hf 13 (by omega);clear hf;have hx9:=hx9.aH;refine dO (by kernel_rfl) ?_;simp only[Lf,au,Act.put,FR_];rw[e13];clear e13;go_wp2_with fail;go_meet
              case rel=>exact⟨lq,rfl,Lib.hid XP.out,hx9⟩
            obtain⟨q,rfl,X4,hx9⟩:=hcut;have hh:=Ext.trans hh hx9;clear hx9;obtain⟨Wk,hWk⟩:∃W:World,W=wc:=⟨_,rfl⟩;rw[←hWk]at hh⊢;clear hWk;cases q
            ·skip;have hstop:=X4.out.2 rfl;have hins:=UL (L:=QL) (P:=P) (j:=j) (by rw[←HOL.out,uV.out];exact hj) (by rw[←HOL.out];exact Cm.out) (by rw[←HOL.out];exact hstop);rw[←HOL.out]at hins;obtain⟨CL,X5⟩:∃l,l=P::OL.drop j:=⟨_,rfl⟩;have MJ:CL.length=nO-j+1:=by rw[X5,List.length_cons,List.length_drop,uV.out]
             rw[←X5]at hins;obtain⟨NL,X6⟩:∃l,l=OL.take j++CL:=⟨_,rfl⟩;have UQ:NL.length=nO+1:=by rw[X6,List.length_append,List.length_take,uV.out,MJ];omega
             rw[←X6]at hins;have KZ:=Lib.hid hins;have Yy:=Lib.hid X5;have X7:=Lib.hid X6;have UR:=Lib.hid MJ;have X8:=Lib.hid UQ;clear hstop hins X4 Cm X5 X6 MJ UQ u0 u1 u2 u3 u4 u5;have hv:=Ext.trans hv hh;go_upto_region 23 with (fail);have Df:=Lib.hid (aB QB.out hh);have HRX2:=Lib.hid (RA.dD TP.out hh);have hws:w.heap.size≤Wk.heap.size:=Below.size (Ext.trans hB (Ext.trans hx (Ext.trans hy hv)));have hsplit:OL.flatMap ak=(OL.take j).flatMap ak++(OL.drop j).flatMap ak:=by rw[←List.flatMap_append,List.take_append_drop]
             rcases HAO.out with ⟨rfl,hn0,rfl⟩ | ⟨gO,rfl⟩
             ·skip;obtain rfl:nO=0:=hn0;obtain rfl:j=0:=by omega
              clear HAO;have Vs:Hid (Reads Wk Wk.heap.size 6 none 0 ((OL.drop 0).flatMap ak)):=Lib.hid (by rw[show OL=[] from List.eq_nil_of_length_eq_zero uV.out];exact Reads.none_);refine aF 14 [some (.slice none 0 0),some (.int .i64 0),some (.int .i64 0),some (.slice none 0 0),some (.slice (some ⟨mg,MS,none⟩) mn mc),some (.int .i64 (n:Int)),some (.pointer (some ⟨mg,MS+n*6,none⟩)),some (.agg PX),none,some (.slice none 0 0),some (.int .i64 0),some (.slice none 0 0),none,none] [(8,.w fun v w1=>∃g,v=.slice (some ⟨g,0,none⟩) 1 1∧aG w1 g 75 PX),(12,.w fun v w1=>qV w1 v CL),(13,.w fun v w1=>pV w1 Wk.heap.size v NL)] ?_ ?_ ?_
              ·refine⟨?_,?_,?_,trivial⟩
               ·intro v w1 w2 hr hx;obtain⟨g,h1,h3⟩:=hr;exact⟨g,h1,h3.ext hx⟩
               ·intro v w1 w2 hr hx;exact hr.ext hx
               ·intro v w1 w2 hr hx;exact hr.ext hx
              ·refine⟨?_,?_,?_,?_,?_,?_,?_,?x7,?x8,?_,?_,?_,?x12,?x13,trivial⟩
               case x7 =>
                intro vals w1 hx hd;clear hd;simp only[Lf,au,Act.put,bH,bG];refine ay rfl 75 _ rfl mg (MS+n*6) rfl PX PX.toList (by simp) _ (RA.dD HRX2.out hx.aH) Tryz.underlying75 rfl (by rw[Array.length_toList,X9.out];exact tY) ?_;go_wp2;exact q_
               case x8 =>
                intro vals w1 hx hd;clear hd;simp only[Lf,au,Act.put,bH,bG];refine bY rfl _ _ _ rfl PX rfl Tryz.underlying36 6 qK X9.out (by omega) (by omega) ?_;go_wp2;exact⟨rfl,(by repeat (first | exact Below.refl _ _ | assumption | refine Below.drew ?_ | refine below_drewN ?_ _ | refine aj ?_ _ | refine Below.setCell ?_ (by first | (simp;done) | omega | (simp;omega)) _ | refine aA ?_ (by assumption))),_,rfl,aG.new _ _ _⟩
               case x12 =>
                intro vals w1 hx hd;have r8:(fun v w1=>∃g,v=.slice (some ⟨g,0,none⟩) 1 1∧aG w1 g 75 PX) (vals 8) w1:=hd 8 (by decide) rfl;dsimp only at r8;obtain⟨gx,e_8,jb⟩:=r8;clear hd;simp only[Lf,au,Act.put,bH,bG,e_8];clear e_8;rw[←VI.out]at jb;obtain⟨v9,w9,hrun,hx9,hcs⟩:=wM _ gx P (OL.drop 0) none 0 _ _ jb (Vs.out.below hx.aH) (by omega);rw[←Yy.out]at hcs;refine aP rfl _ _ _ rfl rfl rfl hrun ?_;clear hrun;go_wp2;exact⟨rfl,hx9,hcs⟩
               case x13 =>
                intro vals w1 hx hd;have r12:(fun v w1=>qV w1 v CL) (vals 12) w1:=hd 12 (by decide) rfl;dsimp only at r12;obtain⟨A9,c9,e_12,hc9⟩:=r12;clear hd;simp only[Lf,au,Act.put,bH,bG,e_12];clear e_12;have hzz:=Below.size hx.aH;have MN:=List.length_take (i:=0) (l:=OL);have MO:=UR.out;have MP:=uV.out;obtain⟨v9,w9,hrun,hx9,hown⟩:=wO _ (OL.take 0) CL _ 0 c9 A9 (.inl ⟨rfl,rfl⟩) (by omega) (by omega) (by omega) hc9;rw[←X7.out]at hown;refine aP rfl _ _ _ rfl rfl rfl hrun ?_;clear hrun MN MO MP;go_wp2;exact⟨rfl,hx9,hown.base hzz⟩
               all_goals
                intro vals w1 hx hd;clear hd;simp only[Lf,au,Act.put,bH,bG];go_wp2;exact iq
              intro vals W5 hx9 hf;have hown:pV W5 Wk.heap.size (vals 13) NL:=hf 13 (by omega);clear hf;have hx9:=hx9.aH;have HOWN:=Lib.hid (hown.base hws);clear hown;refine eP 14 _ (by kernel_rfl) (by kernel_rfl) rfl ?_;simp only[Lf,au,Act.put,FR_];generalize vals 13=v8 at HOWN⊢;have hv:=Ext.trans hv hx9;have ho:=HOWN.out;unfold pV at ho;rw[X8.out,←KZ.out]at ho;obtain⟨A9,c9,hv9,_,_⟩:=aX ho;subst hv9;have CP:Hid (uq w W5 (.slice A9 (0+1) c9) ((L++M)++ol.take (n+1))):=Lib.hid (by rw[HSN2.out];unfold uq;rw[List.length_append,←HNO.out];exact ho);clear ho HOWN hx9;go_wp2;go_roundw
              case rel=>exact⟨n+1,by omega,by go_num,CP,hv⟩
              case measure=>simp[intOf];omega
             ·skip;clear HAO;obtain⟨A8,h8⟩:∃A8:Addr,(cO=j∧A8=⟨gO,0,none⟩)∨(j<cO∧A8=⟨gO,j*6,none⟩):=by
               by_cases h:cO=j
               ·exact⟨_,.inl ⟨h,rfl⟩⟩
               ·exact⟨_,.inr ⟨by omega,rfl⟩⟩
              have hrd:=Df.out.rd.cut hj ho1;rw[BN bg]at hrd;have Vs:Hid (Reads Wk Wk.heap.size 6 (some A8) (nO-j) ((OL.drop j).flatMap ak)):=Lib.hid (by
               rcases h8 with ⟨h,rfl⟩ | ⟨h,rfl⟩
               ·rw[if_pos h]at hrd;exact hrd
               ·rw[if_neg (by omega)]at hrd;simpa [Addr.add_lit]using hrd)
              have HCU:Hid (∀q u,((OL.take j).flatMap ak)[q]?=some u→Wk.cell? ⟨gO,q,none⟩=some u):=Lib.hid (fun q u hu=>by
               have JB:=(List.getElem?_eq_some_iff.1 hu).1;have hql2:0<nO:=by
                have:=Df.out.len;rcases Nat.eq_zero_or_pos nO with h | h
                ·rw[show OL=[] from List.eq_nil_of_length_eq_zero (by omega)]at JB;simp at JB
                ·exact h
               obtain⟨b9,o9,hA,_,hc⟩:=Df.out.rd.2 hql2;injection hA with hA;injection hA with h1 h2;subst h1 h2;have:=hc q u (by rw[hsplit,List.getElem?_append_left JB];exact hu);rwa[Nat.zero_add]at this)
              have H8:=Lib.hid h8;clear h8 hrd hsplit;refine aF 14 [some (.slice (some ⟨gO,0,none⟩) nO cO),some (.int .i64 (j:Int)),some (.int .i64 (j:Int)),some (.slice (some ⟨gO,0,none⟩) j j),some (.slice (some ⟨mg,MS,none⟩) mn mc),some (.int .i64 (n:Int)),some (.pointer (some ⟨mg,MS+n*6,none⟩)),some (.agg PX),none,some (.slice (some ⟨gO,0,none⟩) nO cO),some (.int .i64 (j:Int)),some (.slice (some A8) (nO-j) (cO-j)),none,none] [(8,.w fun v w1=>∃g,v=.slice (some ⟨g,0,none⟩) 1 1∧aG w1 g 75 PX),(12,.w fun v w1=>qV w1 v CL),(13,.w fun v w1=>pV w1 Wk.heap.size v NL)] ?_ ?_ ?_
              ·refine⟨?_,?_,?_,trivial⟩
               ·intro v w1 w2 hr hx;obtain⟨g,h1,h3⟩:=hr;exact⟨g,h1,h3.ext hx⟩
               ·intro v w1 w2 hr hx;exact hr.ext hx
               ·intro v w1 w2 hr hx;exact hr.ext hx
              ·refine⟨?_,?_,?_,?_,?_,?_,?_,?x7,?x8,?_,?_,?x11,?x12,?x13,trivial⟩
               case x7 =>
                intro vals w1 hx hd;clear hd;simp only[Lf,au,Act.put,bH,bG];refine ay rfl 75 _ rfl mg (MS+n*6) rfl PX PX.toList (by simp) _ (RA.dD HRX2.out hx.aH) Tryz.underlying75 rfl (by rw[Array.length_toList,X9.out];exact tY) ?_;go_wp2;exact q_
               case x8 =>
                intro vals w1 hx hd;clear hd;simp only[Lf,au,Act.put,bH,bG];refine bY rfl _ _ _ rfl PX rfl Tryz.underlying36 6 qK X9.out (by omega) (by omega) ?_;go_wp2;exact⟨rfl,(by repeat (first | exact Below.refl _ _ | assumption | refine Below.drew ?_ | refine below_drewN ?_ _ | refine aj ?_ _ | refine Below.setCell ?_ (by first | (simp;done) | omega | (simp;omega)) _ | refine aA ?_ (by assumption))),_,rfl,aG.new _ _ _⟩
               case x11 =>
                intro vals w1 hx hd;clear hd;simp only[Lf,au,Act.put,bH,bG];rcases H8.out with ⟨h8,h9⟩ | ⟨h8,h9⟩
                all_goals subst h9
                ·(go_wp2;exact q_)
                ·(go_wp2;exact q_)
               case x12 =>
                intro vals w1 hx hd;have r8:(fun v w1=>∃g,v=.slice (some ⟨g,0,none⟩) 1 1∧aG w1 g 75 PX) (vals 8) w1:=hd 8 (by decide) rfl;dsimp only at r8;obtain⟨gx,e_8,jb⟩:=r8;clear hd;simp only[Lf,au,Act.put,bH,bG,e_8];clear e_8;rw[←VI.out]at jb;obtain⟨v9,w9,hrun,hx9,hcs⟩:=wM _ gx P (OL.drop j) (some A8) (nO-j) _ _ jb (Vs.out.below hx.aH) (by omega);rw[←Yy.out]at hcs;refine aP rfl _ _ _ rfl rfl rfl hrun ?_;clear hrun;go_wp2;exact⟨rfl,hx9,hcs⟩
               case x13 =>
                intro vals w1 hx hd;have r12:(fun v w1=>qV w1 v CL) (vals 12) w1:=hd 12 (by decide) rfl;dsimp only at r12;obtain⟨A9,c9,e_12,hc9⟩:=r12;clear hd;simp only[Lf,au,Act.put,bH,bG,e_12];clear e_12;have hzz:=Below.size hx.aH;have MN:=List.length_take (i:=j) (l:=OL);have MO:=UR.out;have MP:=uV.out;obtain⟨v9,w9,hrun,hx9,hown⟩:=wO _ (OL.take j) CL _ j c9 A9 (.inr ⟨gO,rfl,fun q u hu=>ah hx.aH (HCU.out q u hu)⟩) (by omega) (by omega) (by omega) hc9;rw[←X7.out]at hown;refine aP rfl _ _ _ rfl rfl rfl hrun ?_;clear hrun MN MO MP;go_wp2;exact⟨rfl,hx9,hown.base hzz⟩
               all_goals
                intro vals w1 hx hd;clear hd;simp only[Lf,au,Act.put,bH,bG];go_wp2;exact iq
              intro vals W5 hx9 hf;have hown:pV W5 Wk.heap.size (vals 13) NL:=hf 13 (by omega);clear hf;have hx9:=hx9.aH;have HOWN:=Lib.hid (hown.base hws);clear hown;refine eP 14 _ (by kernel_rfl) (by kernel_rfl) rfl ?_;simp only[Lf,au,Act.put,FR_];generalize vals 13=v8 at HOWN⊢;have hv:=Ext.trans hv hx9;have ho:=HOWN.out;unfold pV at ho;rw[X8.out,←KZ.out]at ho;obtain⟨A9,c9,hv9,_,_⟩:=aX ho;subst hv9;have CP:Hid (uq w W5 (.slice A9 (nO+1) c9) ((L++M)++ol.take (n+1))):=Lib.hid (by rw[HSN2.out];unfold uq;rw[List.length_append,←HNO.out];exact ho);clear ho HOWN hx9;go_wp2;go_roundw
              case rel=>exact⟨n+1,by omega,by go_num,CP,hv⟩
              case measure=>simp[intOf];omega
            ·skip;obtain⟨hzj,hj1,hlt⟩:=X4.out.1 rfl;have HLT2:Hid (∀z∈OL.drop (j-1),ltOf aU P z=true):=Lib.hid (fun z hz=>by
              rw[List.drop_eq_getElem_cons hzj,show j-1+1=j by omega,List.mem_cons]at hz;rcases hz with rfl | hz
              ·exact hlt
              ·exact Cm.out z hz)
             have hki:IntKind.i64.wrap ((j:Int)-1)=(j:Int)-1:=IntWalk.i64_in _ (by omega);clear X4 Cm hzj hlt;go_wp2;go_roundw
             case rel=>exact⟨j-1,by omega,by rw[show ((j-1:Nat):Int)=(j:Int)-1 by omega],HLT2,hh⟩
             case measure=>simp[intOf];omega
          ·skip;have CP:Hid (uq w wr u13 (L++(M++ol))):=Lib.hid (by have h:=HO.out;rwa[List.take_of_length_le (by rw[←WT.out];omega),List.append_assoc]at h);clear HO;have hy:=Ext.trans hy hv;have HPT2:Hid (dA aK s (PL.take (k+1))=some (M++ol)):=HPT;go_wp2;go_roundw
           case rel=>exact⟨k+1,M++ol,by omega,by go_num,HPT2,CP,hy⟩
           case measure=>simp[intOf];omega
       ·skip;have CP:Hid (jF aK l ⟨a,b⟩ kn (sats.take (i+1))=some (L++M)):=Lib.hid (HNEXT.out M (by have h:=Zp.out;rwa[List.take_of_length_le (by rw[←OB.out];omega)]at h));have hx:=Ext.trans hx hy;clear Zp;go_wp2;go_roundw
        case rel=>exact⟨i+1,L++M,by omega,by go_num,CP,HO,hx⟩
        case measure=>simp[intOf];omega
     ·skip;have hal:=Ar.out;rw[List.take_of_length_le (by rw[Ai.out];omega)]at hal;have hr:=jy.out;rw[hal]at hr;dsimp only at hr;clear hal jy;obtain⟨AO,cO,hvo,ho1,ho2,XZ⟩:=HO.out.form;subst hvo;clear XZ;have hll:L.length≤2211840:=by
       have h1:=all_le aK l ⟨a,b⟩ kn (by dsimp only;omega) _ _ Ar.out;have h2:=List.length_take_le i sats;have h3:=Ai.out;omega
      obtain⟨nO,Jj⟩:∃n,n=L.length:=⟨_,rfl⟩;rw[←Jj]at hr ho1 hll⊢;by_cases h64:nO≤64
      ·skip;have h65:¬(64:Int)<(nO:Int):=by omega
       rw[if_pos h64]at hr;have ho:=HO.out;unfold uq at ho;rw[←kY (lt:=ltOf aU) L]at ho;have HOE:=Lib.hid ho;have HRE:=Lib.hid hr;have X7:Hid ((bM (ltOf aU) L).length=nO):=Lib.hid (by rw[kY,Jj]);clear ho hr HO Jj;go_wp2;rw[HRE.out];exact bodyPost_ret (v:=.tuple #[.slice AO nO cO,.int .i64 0]) (by simp[results,Tryz.results30,go_sem]) rfl ⟨⟨_,rfl,by have h:=HOE.out;rw[X7.out]at h⊢;exact h⟩,Ext.trans hB hx⟩
      ·skip;have h65:(64:Int)<(nO:Int):=by omega
       rw[if_neg h64]at hr;subst hr;clear HO Jj;go_wp2;exact bodyPost_ret (v:=.tuple #[.slice none 0 0,.int .i64 360]) (by simp[results,Tryz.results30,go_sem]) rfl ⟨rfl,Ext.trans hB hx⟩
end Go.Proofs.YtjidhhfabfnhnaaGreat
namespace Go.Proofs.YtjidhhfabfnhnaaGreat
theorem UY (c:D_):eH (qQ c)=true:=Ut _ _
theorem UZ (c:D_):PK ((qQ c).map (·.id)) (Uj c) (BG c):=by
 have h:=L6 c;exact Uy _ _ _ ⟨h.1,by omega⟩ (fun s hs=>Eb (wJ c s hs))
theorem Qb (c:D_):(BG c).length≤6:=Uz _ _ _
theorem U0 (c:D_) (s:St) (hs:s∈qQ c):qj s (BG c)=true:=PO (UZ c) (by have:=Qb c;omega) (wJ c s hs)
end Go.Proofs.YtjidhhfabfnhnaaGreat
namespace Go.Proofs.YtjidhhfabfnhnaaGreat
section
variable {α:Type} {lt:α→α→Bool}
theorem pW {l:List α} {y:α} : y∈bM lt l↔y∈l:=by
 suffices h:∀(l B:List α),y∈l.foldl (mV lt) B↔y∈l∨y∈B by simpa [bM]using h l []
 intro l
 induction l with
 |nil=>intro B;simp
 |cons x l ih =>
  intro B;rw[List.foldl_cons,ih,RZ,List.mem_cons];constructor
  ·rintro (h | h | h)
   ·exact .inl (.inr h)
   ·exact .inl (.inl h)
   ·exact .inr h
  ·rintro ((h | h) | h)
   ·exact .inr (.inl h)
   ·exact .inl h
   ·exact .inr (.inr h)
end
theorem U1 (s:St) (ST:List iD) (sp:iO):mX [s] ST sp=ST.flatMap (eU s sp):=by simp[mX]
theorem U2 {s:St} {sp:iO} {y:iD} {p:bP} (h:p∈eU s sp y):p.sat=s.id:=by
 obtain⟨x,_,rfl⟩:=List.mem_map.1 h;rfl
theorem Ya {s:St} {ST:List iD} {sp:iO} {ps:List bP} (h:dB [s] ST sp=some ps) {p:bP} (hp:p∈ps):p.sat=s.id:=by
 unfold dB at h
 split at h
 ·split at h
  ·injection h with h;rw[←h,pW,U1]at hp;obtain⟨y,_,hy⟩:=List.mem_flatMap.1 hp;exact U2 hy
  ·cases h
 ·cases h
theorem yw {ST:List iD} {s:St} : ∀ {xs:List Str} {ps:List bP},dA ST s xs=some ps→∀p∈ps,p.sat=s.id
 |[],ps,h,p,hp=>by
  unfold dA at h;injection h with h;rw[←h]at hp;cases hp
 |x::r,ps,h,p,hp=>by
  unfold dA at h
  split at h
  ·rename_i a b ha hb
   injection h with h;rw[←h]at hp;rcases List.mem_append.1 hp with hp | hp
   ·exact Ya ha hp
   ·exact yw hb p hp
  ·cases h
theorem wQ {ST:List iD} {l:List fE} {sp:iO} {kn:Int} : ∀ {S:List St} {o:List bP},jF ST l sp kn S=some o→∀p,p∈o↔∃s∈S,∃ps,dA ST s (oW s l sp kn)=some ps∧p∈ps
 |[],o,h,p=>by
  unfold jF at h;injection h with h;rw[←h];simp
 |s::S,o,h,p=>by
  unfold jF at h
  split at h
  ·rename_i a b ha hb
   injection h with h;rw[←h,List.mem_append,wQ hb p];constructor
   ·rintro (hp | ⟨t,ht,ps,h1,h2⟩)
    ·exact⟨s,List.mem_cons_self ..,a,ha,hp⟩
    ·exact⟨t,List.mem_cons_of_mem _ ht,ps,h1,h2⟩
   ·rintro⟨t,ht,ps,h1,h2⟩;rcases List.mem_cons.1 ht with rfl | ht
    ·rw[ha]at h1;injection h1 with h1;exact .inl (by rw[h1];exact h2)
    ·exact .inr ⟨t,ht,ps,h1,h2⟩
  ·cases h
theorem sU {S:List St} {ST:List iD} {l:List fE} {sp:iO} {kn:Int} {a:List bP} (h:bU S ST l sp kn=some a):∃o,jF ST l sp kn S=some o∧a=bM (ltOf aU) o:=by
 unfold bU at h
 split at h
 ·split at h
  ·cases h
  ·rename_i o ho
   split at h
   ·injection h with h;exact⟨o,ho,h.symm⟩
   ·cases h
 ·cases h
theorem BO {sat x y t:Int} : ∀ {l:List fE} (b:Option fE),(∀u∈l,Np sat x t u=Np sat y t u)→fF sat x t l b=fF sat y t l b
 |[],_,_=>rfl
 |u::r,b,h=>by
  unfold fF;have e:Gq sat x t b u=Gq sat y t b u:=by unfold Gq;rw[h u (List.mem_cons_self ..)]
  rw[e];exact BO _ (fun v hv=>h v (List.mem_cons_of_mem _ hv))
def kK (id x y:Int) (u:fE):Bool:=u.sat==id&&decide (x<u.kn)&&decide (u.kn≤y)
theorem yx {s:St} {l:List fE} {x y:Int} (hxy:x≤y) (h:l.any (kK s.id x y)=false):fK s l x=fK s l y:=by
 funext t
 unfold fK;rw[BO none (fun u hu=>?_)];have h1:=List.any_eq_false.1 h u hu;unfold Np;by_cases e:u.sat=s.id
 ·have h2:¬(x<u.kn∧u.kn≤y):=fun hh=>h1 (by simp[kK,e,hh.1,hh.2]);have h3:decide (u.kn≤x)=decide (u.kn≤y):=by
   by_cases h4:u.kn≤x
   ·rw[decide_eq_true h4,decide_eq_true (by omega)]
   ·rw[decide_eq_false h4,decide_eq_false (by omega)]
  rw[h3]
 ·have h2:(u.sat==s.id)=false:=by simp[e]
  rw[h2];simp
theorem MV {S:List St} {ST:List iD} {l:List fE} {sp:iO} {x y id:Int} {a b:List bP} (hxy:x≤y) (ha:bU S ST l sp x=some a) (hb:bU S ST l sp y=some b)
  (h:l.any (kK id x y)=false) {p:bP} (hp:p.sat=id):p∈a↔p∈b:=by
 obtain⟨o1,h1,rfl⟩:=sU ha;obtain⟨o2,h2,rfl⟩:=sU hb;rw[pW,pW,wQ h1,wQ h2];constructor
 ·rintro⟨s,hs,ps,h3,h4⟩;have e:=yw h3 p h4;have ho:oW s l sp x=oW s l sp y:=by unfold oW;rw[yx hxy (by rw[←e,hp];exact h)]
  exact⟨s,hs,ps,by rw[←ho];exact h3,h4⟩
 ·rintro⟨s,hs,ps,h3,h4⟩;have e:=yw h3 p h4;have ho:oW s l sp x=oW s l sp y:=by unfold oW;rw[yx hxy (by rw[←e,hp];exact h)]
  exact⟨s,hs,ps,by rw[ho];exact h3,h4⟩
end Go.Proofs.YtjidhhfabfnhnaaGreat
namespace Go.Proofs.YtjidhhfabfnhnaaGreat
section
variable {s:St} {y:iD} {span:iO} {t:Int}
theorem Yb (hs0:0≤s.aY.dP) (hsp:span.fr<span.tt):∃L,eU s span y=L.map (h_ s y span)∧XB (kS s.aY y) (span.fr-s.aY.dP) (span.tt+s.aY.dP) L:=by
 have hok:=Po (kS s.aY y) (span.tt-span.fr+2*s.aY.dP).toNat (span.fr-s.aY.dP);rw[show span.fr-s.aY.dP+((span.tt-span.fr+2*s.aY.dP).toNat:Int)=span.tt+s.aY.dP by omega]at hok;exact⟨_,rfl,hok⟩
end
end Go.Proofs.YtjidhhfabfnhnaaGreat
