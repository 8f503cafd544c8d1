/- The reference: Passes by what is known (printed by eph_r11.py). -/
import Derived.Test.YtjidhhfabfnhnaaGreatN01
import Derived.Test.YtjidhhfabfnhnaaGreatN28
import Derived.Test.YtjidhhfabfnhnaaGreatN18
import Derived.Test.YtjidhhfabfnhnaaGreatN29
import Derived.BigQuiet
namespace Go.Proofs.YtjidhhfabfnhnaaGreat
open Go.RowKit
attribute [local go_sem] Oper.semAt_some
theorem Ny {sats:List St} {l:List fE} (h:dX sats l=true):∀u∈l,0≤u.fr:=by
 intro u hu;unfold dX at h;simp only[Bool.and_eq_true]at h;have h1:=zF h.1.1 u hu;simp only[xU,Bool.and_eq_true,jL]at h1;exact h1.1.1.1
theorem Nz {sats:List St} {l:List fE} (h:dX sats l=true):sats.length≤24:=by
 unfold dX at h;rw[Bool.and_eq_true]at h;exact (xq h.2).1
theorem RA.strQ {w:World} {B n c:Nat} {A:Option Addr} {l:List Str} (h:RA strCells 9 w B A n c l) {k:Nat} (hk:k<n):∃(b o:Nat) (hz:k<l.length),A=some ⟨b,o,none⟩∧w.cell? ⟨b,o+k*9,none⟩=some (.int .i64 l[k].sp.fr)∧w.cell? ⟨b,o+k*9+1,none⟩=some (.int .i64 l[k].sp.tt)∧w.rangeAt b (o+k*9+2) (aQ l[k].eU):=by
 obtain⟨b,o,hz,hA,hb,hr⟩:=h.range iT hk;refine⟨b,o,hz,hA,hr 0 _ rfl,hr 1 _ rfl,fun j v hv=>?_⟩;rw[Nat.add_assoc];refine hr (2+j) v ?_;rw[←hv]
 match j,hv with
 |0,_=>rfl
 |1,_=>rfl
 |2,_=>rfl
 |3,_=>rfl
 |4,_=>rfl
 |5,_=>rfl
 |6,_=>rfl
 |j+7,hv=>simp[aQ]at hv
def rU (w W:World) (v:Value) (l:List bY):Prop:=W.ownsRow w.heap.size 75 6 v l.length ((bP (ltOf aY) l).flatMap ak)
theorem rU.ext {w W W':World} {v:Value} {l:List bY} (h:rU w W v l) (hx:Ext W W'):rU w W' v l:=bM h hx
theorem rU.ra {w W:World} {A:Option Addr} {n c:Nat} {l:List bY} (h:rU w W (.slice A n c) l) (hn:n=l.length) (hb:n≤3000000):RA ak 6 W W.heap.size A n c (bP (ltOf aY) l):=by
 subst hn;exact RA.dD h (kP l) (by omega)
theorem rU.form {w W:World} {v:Value} {l:List bY} (h:rU w W v l):∃A c,v=.slice A l.length c∧l.length≤c∧c≤maxLen∧((A=none∧l.length=0∧c=0)∨∃g,A=some ⟨g,0,none⟩):=by
 rcases h.2 with ⟨rfl,hn⟩ | ⟨g,cap,cur,rfl,_,_,h1,h2,_⟩
 ·rw[hn];exact⟨none,0,rfl,Nat.le_refl _,Nat.zero_le _,.inl ⟨rfl,rfl,rfl⟩⟩
 ·exact⟨_,_,rfl,h1,h2,.inr ⟨g,rfl⟩⟩
theorem Jr {aJ:List jd} {s:St} {PL:List Str} {k:Nat} {M:List bY} (hk:k<PL.length) (h:dU aJ s (PL.take k)=some M):dU aJ s (PL.take (k+1))=match dR [nH s PL[k].eU] aJ PL[k].sp with
  |none=>none
  |some q=>some (M++q):=by
 rw[List.take_succ_eq_append_getElem hk];exact yV _ h
set_option maxRecDepth 100000 in
set_option maxHeartbeats 16000000 in
theorem sD (sats:List St) (aJ:List jd) (l:List fE) (SA TA A:Option Addr) (sn sc tn tc un uc:Nat) (a b kn:Int) (w:World) (hS:RA aC 21 w w.heap.size SA sn sc sats) (hT:RA bJ 6 w w.heap.size TA tn tc aJ) (hU:RA aF 10 w w.heap.size A un uc l) :
  Calls Tryz.prog 30 #[.slice SA sn sc,.slice TA tn tc,.slice A un uc,.agg #[.int .i64 a,.int .i64 b],.int .i64 kn] w (ng (dK sats aJ l ⟨a,b⟩ kn) w):=by
 have YQ:Hid (∀W,Ext w W→Calls Tryz.prog 80 #[.slice TA tn tc] W fun e w'=>e=.returned (.bool (gG aJ))∧Ext W w'):=Lib.hid (fun W h=>qU aJ TA tn tc W (aB hT h));have QV:Hid (∀W,Ext w W→Calls Tryz.prog 25 #[.slice SA sn sc,.slice A un uc] W fun e w'=>e=.returned (.bool (dX sats l))∧Ext W w'):=Lib.hid (fun W h=>lM sats l SA A sn sc un uc W (aB hS h) (aB hU h));have O7:=Lib.hid (wG a b);have xg:=Lib.hid hS;have Bz:=Lib.hid hT;have NQ:=Lib.hid hU;have yH:=Lib.hid hS.len;have hsm:sc≤9223372036854775807:=by have h9:=hS.sJ;unfold maxLen at h9;exact h9
 have hsn1:=hS.cap;clear hS hT hU;obtain⟨res,hres⟩:∃r,r=dK sats aJ l ⟨a,b⟩ kn:=⟨_,rfl⟩;rw[←hres];rw[dK]at hres;have h24:dX sats l=true→sats.length≤24:=Nz;have hfr:dX sats l=true→∀u∈l,0≤u.fr:=Ny;have hsp:gX ⟨a,b⟩=true→0≤a∧a<b∧b≤1000000∧b-a≤1440:=fun h=>by simpa [gX]using h
 generalize dX sats l=q at QV hres h24 hfr;generalize gG aJ=qt at YQ hres;generalize gX ⟨a,b⟩=qi at O7 hres hsp;have jg:=Lib.hid hres;have H24:=Lib.hid h24;have WB:=Lib.hid hfr;have Fh:=Lib.hid hsp;clear hres h24 hfr hsp;go_enter Tryz.func30,Tryz.ntmps30;go_wp2_with fail;have J8:aI (w.alloc (.cells #[.int .i64 a,.int .i64 b] 32)) w.heap.size 32 #[.int .i64 a,.int .i64 b]:=aI.new _ _ _;have hB:Ext w (w.alloc (.cells #[.int .i64 a,.int .i64 b] 32)):=aj (Below.refl _ _) _;obtain⟨g8,hg8⟩:∃g,g=w.heap.size:=⟨_,rfl⟩;rw[←hg8]at J8⊢;generalize w.alloc (.cells #[.int .i64 a,.int .i64 b] 32)=W0 at J8 hB⊢;clear hg8;refine (YQ.out _ hB).mono ?_;rintro e W1 ⟨rfl,hx⟩;have J8:=J8.ext hx;have hB:=Ext.trans hB hx;clear hx;go_wp2_with (fail);refine (QV.out _ hB).mono ?_;rintro e W2 ⟨rfl,hx⟩;have J8:=J8.ext hx;have hB:=Ext.trans hB hx;clear hx;cases q
 ·skip;go_wp2;have hr:=jg.out;simp at hr;subst hr;exact bodyPost_ret (v:=.tuple #[.slice none 0 0,.int .i64 360]) (by simp[results,Tryz.results30,go_sem]) rfl ⟨rfl,hB⟩
 ·skip;cases qt
  ·skip;go_wp2;have hr:=jg.out;simp at hr;subst hr;exact bodyPost_ret (v:=.tuple #[.slice none 0 0,.int .i64 360]) (by simp[results,Tryz.results30,go_sem]) rfl ⟨rfl,hB⟩
  ·skip;have t0:W2.cell? ⟨g8,0,none⟩=some (.int .i64 a):=J8.cell 0;have t1:W2.cell? ⟨g8,1,none⟩=some (.int .i64 b):=J8.cell 1;go_wp2_with (fail);refine (O7.out _).mono ?_;rintro e W3 ⟨rfl,hx⟩;have J8:=J8.ext hx;have hB:=Ext.trans hB hx;clear hx;clear t0 t1;cases qi
   ·skip;go_wp2;have hr:=jg.out;simp at hr;subst hr;exact bodyPost_ret (v:=.tuple #[.slice none 0 0,.int .i64 360]) (by simp[results,Tryz.results30,go_sem]) rfl ⟨rfl,hB⟩
   ·skip;obtain⟨b1,b2,b3,b4⟩:=Fh.out (by trivial);have hs24:=H24.out (by trivial);have hfr:=WB.out (by trivial);have hres:=jg.out;simp only[Bool.and_self,if_true]at hres;have jg:=Lib.hid hres;have WB:=Lib.hid hfr;rw[yH.out]at hs24;clear hres hfr YQ QV O7 H24 Fh;have xg:=Lib.hid (aB xg.out hB);have Bz:=Lib.hid (aB Bz.out hB);have NQ:=Lib.hid (aB NQ.out hB);obtain⟨Wb,hWb⟩:∃W:World,W=W3:=⟨_,rfl⟩;rw[←hWb]at J8 hB xg Bz NQ⊢;clear hWb;have hbs:=Below.size hB;have uT:=Lib.hid J8;clear J8;go_wp2;go_loopw [13,14] (fun x y wr=>∃(i:Nat) (L:List bY),i≤sn∧y=.int .i64 i∧Hid (jW aJ l ⟨a,b⟩ kn (sats.take i)=some L)∧Hid (rU w wr x L)∧Ext Wb wr) (fun _ y _=>sn-(intOf y).toNat)
    case atStart=>exact⟨0,[],Nat.zero_le _,rfl,Lib.hid rfl,Lib.hid (World.ownsRow_nil _ _ _ _),Ext.refl _⟩
    case round =>
     obtain⟨i,L,hi,rfl,yL,HO,hx⟩:=hrel;by_cases hin:i<sn
     ·skip;obtain⟨gs,NY,hz,hA,_,hr⟩:=(xg.out.below hx).range ig hin;subst hA;have hll:L.length≤2211840:=by
       have h1:=all_le aJ l ⟨a,b⟩ kn (by dsimp only;omega) _ _ yL.out;have h2:=List.length_take_le i sats;omega
      have hnext:∀M,dU aJ sats[i] (uN sats[i] l ⟨a,b⟩ kn)=some M→jW aJ l ⟨a,b⟩ kn (sats.take (i+1))=some (L++M):=fun M h=>by
       rw[List.take_succ_eq_append_getElem hz];exact FP yL.out h
      have hstop:dU aJ sats[i] (uN sats[i] l ⟨a,b⟩ kn)=none→res=none:=fun h=>by
       have h1:=jg.out;rw[FM hz h]at h1;exact h1
      have hpl:(uN sats[i] l ⟨a,b⟩ kn).length≤1440:=by
       have h3:=rC (iK sats[i] l kn) (b-a).toNat a
       show (eF (iK sats[i] l kn) a (b-a).toNat).length≤1440
       omega
      have hst:∀W,Ext Wb W→Calls Tryz.prog 79 #[.agg (aC sats[i]).toArray,.slice A un uc,.agg #[.int .i64 a,.int .i64 b],.int .i64 kn] W (jc strCells 9 96 (uN sats[i] l ⟨a,b⟩ kn) W):=fun W h=>qW sats[i] l A un uc a b kn W (aB NQ.out h) (fun u hu _=>WB.out u hu) b1 (by omega) b3;generalize uN sats[i] l ⟨a,b⟩ kn=PL at hnext hstop hpl hst;generalize sats[i]=s at hr hnext hstop hst;obtain⟨SX,gY⟩:∃X,(aC s).toArray=X:=⟨_,rfl⟩;rw[gY]at hst;have HZS:Hid (SX.size=21):=Lib.hid (by rw[←gY];rfl);have Nj:Hid (SX.all (·.oneCell')=true):=Lib.hid (by rw[←gY];exact oP _);have HRG:Hid (wr.rangeAt gs (NY+i*21) SX.toList):=Lib.hid (by rw[←gY];exact hr);have HNEXT:=Lib.hid hnext;have HSTOP:=Lib.hid hstop;have HST:=Lib.hid hst;have kF:=Lib.hid gY;clear hnext hstop hst gY hr hz yL;have hJ:=uT.out.ext hx;have t0:wr.cell? ⟨g8,0,none⟩=some (.int .i64 a):=hJ.cell 0;have t1:wr.cell? ⟨g8,1,none⟩=some (.int .i64 b):=hJ.cell 1;go_upto_region 8 with (fail);have HXW:=Lib.hid hx;refine aH 8 [some (.slice (some ⟨gs,NY,none⟩) sn sc),some (.int .i64 (i:Int)),some (.pointer (some ⟨gs,NY+i*21,none⟩)),some (.agg SX),some (.slice A un uc),some (.agg #[.int .i64 a,.int .i64 b]),some (.int .i64 kn),none] [(7,.w fun v w1=>w1.ownsRow wr.heap.size 96 9 v PL.length (PL.flatMap strCells))] ?_ ?_ ?_
      ·refine⟨?_,trivial⟩
       ·intro v w1 w2 hr hx;exact bM hr hx
      ·refine⟨?_,?_,?_,?x3,?_,?_,?_,?x7,trivial⟩
       case x3 =>
        intro vals w1 hx hd;clear hd;simp only[Lf,au,Act.put,aX,aW];refine ay rfl 53 _ rfl gs (NY+i*21) rfl SX SX.toList (by simp) _ (RA.bV HRG.out hx.aG) Tryz.underlying53 rfl (by rw[Array.length_toList,HZS.out];exact aN) ?_;go_wp2;exact q_
       case x7 =>
        intro vals w1 hx hd;clear hd;simp only[Lf,au,Act.put,aX,aW];have hzz:=Below.size hx.aG;go_wp2_with fail;refine (HST.out _ (Ext.trans HXW.out hx.aG)).mono ?_;rintro e w2 ⟨v2,rfl,hown,hb2⟩;have hown:=Lib.hid (own_base hown hzz);go_wp2;exact⟨rfl,hb2,hown.out⟩
       all_goals
        intro vals w1 hx hd;clear hd;simp only[Lf,au,Act.put,aX,aW];have t0:=ah hx t0;have t1:=ah hx t1;go_wp2;exact gW
      intro vals Wc hy hf;have hown:Wc.ownsRow wr.heap.size 96 9 (vals 7) PL.length (PL.flatMap strCells):=hf 7 (by omega);clear hf t0 t1;have hy:=hy.aG;refine d_ 8 _ (by kernel_rfl) (by kernel_rfl) rfl ?_;simp only[Lf,au,Act.put,FR_];generalize vals 7=v15 at hown⊢;obtain⟨PA,pc,hv15,_,_⟩:=aP hown;subst hv15;obtain⟨pn,hpn⟩:∃n,n=PL.length:=⟨_,rfl⟩;rw[←hpn]at hown hpl⊢;have HRP:=Lib.hid (RA.dD hown hpn.symm (by omega));have hpm:pc≤9223372036854775807:=by have h9:=HRP.out.sJ;unfold maxLen at h9;exact h9
      have hpc1:=HRP.out.cap;have OZ:=Lib.hid hpn;clear hown hpn HST;have HO:=Lib.hid (HO.out.ext hy);have hx:=Ext.trans hx hy;have HRG:=Lib.hid (RA.bV HRG.out hy);clear hy HXW hJ;go_wp2;go_loopw [13,16] (fun x y wr=>∃(k:Nat) (M:List bY),k≤pn∧y=.int .i64 k∧Hid (dU aJ s (PL.take k)=some M)∧Hid (rU w wr x (L++M))∧Ext Wc wr) (fun _ y _=>pn-(intOf y).toNat)
      case atStart=>exact⟨0,[],Nat.zero_le _,rfl,Lib.hid rfl,Lib.hid (by simpa using HO.out),Ext.refl _⟩
      case round =>
       clear HO;obtain⟨k,M,hk,rfl,WI,HO,hy⟩:=hrel;by_cases hkn:k<pn
       ·skip;obtain⟨gp,WJ,hz,hA,d0,d1,hro⟩:=RA.strQ (HRP.out.below hy) hkn;subst hA;have hml:M.length≤92160:=by
         have h1:=yR aJ s _ _ WI.out;have h2:=List.length_take_le k PL;omega
        have hpt:=Jr hz WI.out;have Js:dR [nH s PL[k].eU] aJ PL[k].sp=none→res=none:=fun h=>by
         rw[h]at hpt;exact HSTOP.out (yU (List.take_prefix _ _) hpt)
        have Y5:∀o,dR [nH s PL[k].eU] aJ PL[k].sp=some o→o.length≤64:=fun o h=>u_ h;have Rq:∀(o:iQ) (f t:Int) (W:World) (g:Nat),o=PL[k].eU→f=PL[k].sp.fr→t=PL[k].sp.tt→Ext Wb W→aI W g 53 (aC (nH s o)).toArray→Calls Tryz.prog 81 #[.slice (some ⟨g,0,none⟩) 1 1,.slice TA tn tc,.agg #[.int .i64 f,.int .i64 t]] W (rG (dR [nH s PL[k].eU] aJ PL[k].sp) W):=fun o f t W g ho hf ht hx hb=>by
         subst ho hf ht;exact Gl [nH s PL[k].eU] aJ _ TA 1 1 tn tc _ _ W (RA.one rfl hb) (aB Bz.out hx)
        obtain⟨o,ho⟩:∃o,o=PL[k].eU:=⟨_,rfl⟩;obtain⟨f,hf⟩:∃o,o=PL[k].sp.fr:=⟨_,rfl⟩;obtain⟨t,ht⟩:∃o,o=PL[k].sp.tt:=⟨_,rfl⟩;have hcall:=fun W g=>Rq o f t W g ho hf ht;clear Rq;rw[←hf]at d0;rw[←ht]at d1;rw[←ho]at hro;generalize dR [nH s PL[k].eU] aJ PL[k].sp=RP at hpt Js Y5 hcall;clear ho hf ht hz;obtain⟨OX,uH⟩:∃X,(aQ o).toArray=X:=⟨_,rfl⟩;have Sj:Hid (OX.size=7):=Lib.hid (by rw[←uH];rfl);have Sl:Hid (wr.rangeAt gp (WJ+k*9+2) OX.toList):=Lib.hid (by rw[←uH];exact hro);have He:=Lib.hid uH;have HPT:=Lib.hid hpt;have Rt:=Lib.hid Js;have HPLE:=Lib.hid Y5;have Gs:=Lib.hid hcall;have HRG2:=Lib.hid (RA.bV HRG.out hy);clear hro uH hpt Js Y5 hcall WI;go_upto_region 13 with (first | (refine ay rfl 53 _ rfl gs (NY+i*21) rfl SX SX.toList (by simp) _ (HRG2.out) Tryz.underlying53 rfl (by rw[Array.length_toList,HZS.out];exact aN) ?_) | (refine aZ rfl 53 _ _ rfl _ SX rfl rfl (by rw[HZS.out];exact aN) (by rw[HZS.out];rfl) Nj.out ?_));have U4:aI (wr.alloc (.cells SX 53)) wr.heap.size 53 SX:=aI.new _ _ _;have hc:Ext wr (wr.alloc (.cells SX 53)):=aj (Below.refl _ _) _;obtain⟨g17,hg⟩:∃g,g=wr.heap.size:=⟨_,rfl⟩;rw[←hg]at U4⊢;generalize wr.alloc (.cells SX 53)=Wd at U4 hc⊢;have n17:wr.heap.size≤g17:=by omega
        clear hg HRG2;have LW:Hid (Wd.there g17 2 7):=Lib.hid (U4.Iq 2 7 (by rw[HZS.out];decide));have HRO2:=Lib.hid (RA.bV Sl.out hc);go_upto_region 14 with (first | (refine ay rfl 51 _ rfl gp (WJ+k*9+2) rfl OX OX.toList (by simp) _ (HRO2.out) Tryz.underlying51 rfl (by rw[Array.length_toList,Sj.out];exact bF) ?_) | (refine dA rfl 51 _ _ rfl g17 2 OX (aQ o) He.out rfl rfl LW.out bF (FN o) ?_));have hc:Ext wr (Wd.setCells g17 2 (aQ o)):=pF n17 _ _ _ hc;have U4:aI (Wd.setCells g17 2 (aQ o)) g17 53 (aC (nH s o)).toArray:=KE s o (by rw[kF.out];exact U4);generalize Wd.setCells g17 2 (aQ o)=We at hc U4⊢;obtain⟨MX,hMX⟩:∃X,(aC (nH s o)).toArray=X:=⟨_,rfl⟩;have hcall:=Gs.out;rw[hMX]at U4 hcall;have Gs:=Lib.hid hcall;have HZM:Hid (MX.size=21):=Lib.hid (by rw[←hMX];rfl);clear hMX hcall LW HRO2 He Sl Sj n17;have d0:=ah hc d0;have d1:=ah hc d1;have HO:=Lib.hid (HO.out.ext hc);have hy:=Ext.trans hy hc;have KF:=Lib.hid (Ext.trans hx hy);clear hc;have Y6:=Lib.hid U4;clear U4;cases RP with
        |none =>
         refine aH 14 [some (.agg MX),none,some (.slice TA tn tc),some (.slice (some ⟨gp,WJ,none⟩) pn pc),some (.int .i64 (k:Int)),some (.pointer (some ⟨gp,WJ+k*9,none⟩)),some (.pointer (some ⟨gp,WJ+k*9,none⟩)),some (.agg #[.int .i64 f,.int .i64 t]),some (.tuple #[.slice none 0 0,.int .i64 90]),some (.tuple #[.slice none 0 0,.int .i64 90]),some (.slice none 0 0),some (.int .i64 90),some (.slice none 0 0),some (.int .i64 90)] [(1,.w fun v w1=>∃g,v=.slice (some ⟨g,0,none⟩) 1 1∧aI w1 g 53 MX)] ?_ ?_ ?_
         ·refine⟨?_,trivial⟩
          ·intro v w1 w2 hr hx;obtain⟨g,h1,h2⟩:=hr;exact⟨g,h1,h2.ext hx⟩
         ·refine⟨?x0,?x1,?_,?_,?_,?_,?_,?_,?x8,?_,?_,?_,?_,?_,trivial⟩
          case x0 =>
           intro vals w1 hx hd;clear hd;simp only[Lf];refine ay rfl 53 _ rfl g17 0 rfl MX MX.toList (by simp) _ (aI.range (Y6.out.ext hx.aG) _ rfl) Tryz.underlying53 rfl (by rw[Array.length_toList,HZM.out];exact aN) ?_;go_wp2;exact q_
          case x1 =>
           intro vals w1 hx hd;clear hd;simp only[Lf,au,Act.put,aX,aW];refine aV rfl _ _ _ rfl MX rfl Tryz.underlying28 21 fQ HZM.out (by omega) (by omega) ?_;go_wp2;exact⟨rfl,(by repeat (first | exact Below.refl _ _ | assumption | refine Below.drew ?_ | refine below_drewN ?_ _ | refine aj ?_ _ | refine Below.setCell ?_ (by first | (simp;done) | omega | (simp;omega)) _ | refine aA ?_ (by assumption))),_,rfl,aI.new _ _ _⟩
          case x8 =>
           intro vals w1 hx hd;have r1:(fun v w1=>∃g,v=.slice (some ⟨g,0,none⟩) 1 1∧aI w1 g 53 MX) (vals 1) w1:=hd 1 (by decide) rfl;dsimp only at r1;obtain⟨g,e_1,jb⟩:=r1;clear hd;simp only[Lf,au,Act.put,aX,aW,e_1];clear e_1;have HC:=Lib.hid (Gs.out _ _ (Ext.trans KF.out hx.aG) jb);clear jb;go_wp2_with fail;refine HC.out.mono ?_;rintro e w2 ⟨rfl,hb2⟩;go_wp2;exact⟨rfl,hb2,rfl⟩
          all_goals
           intro vals w1 hx hd;clear hd;simp only[Lf,au,Act.put,aX,aW];have d0:=ah hx d0;have d1:=ah hx d1;go_wp2;exact gW
         intro vals Wf hz hf;have e12:vals 12=.slice none 0 0:=hf 12 (by omega);have e13:vals 13=.int .i64 90:=hf 13 (by omega);clear hf d0 d1;have hz:=hz.aG;refine dJ (by kernel_rfl) ?_;simp only[Lf,au,Act.put,FR_];rw[e12,e13];clear e12 e13;obtain rfl:res=none:=Rt.out rfl;clear jg HO;go_wp2;exact bodyPost_ret (v:=.tuple #[.slice none 0 0,.int .i64 360]) (by simp[results,Tryz.results30,go_sem]) rfl ⟨rfl,Ext.trans hB (Ext.trans KF.out hz)⟩
        |some ol =>
         have hol:=HPLE.out ol rfl;have hpt:=HPT.out;dsimp only at hpt;have HPT:=Lib.hid hpt;obtain⟨mn,hmn⟩:∃n,n=ol.length:=⟨_,rfl⟩;rw[←hmn]at hol;have TY:=Lib.hid hmn;clear hpt hmn HPLE Rt;refine aH 14 [some (.agg MX),none,some (.slice TA tn tc),some (.slice (some ⟨gp,WJ,none⟩) pn pc),some (.int .i64 (k:Int)),some (.pointer (some ⟨gp,WJ+k*9,none⟩)),some (.pointer (some ⟨gp,WJ+k*9,none⟩)),some (.agg #[.int .i64 f,.int .i64 t]),none,none,none,some (.int .i64 0),none,some (.int .i64 0)] [(1,.w fun v w1=>∃g,v=.slice (some ⟨g,0,none⟩) 1 1∧aI w1 g 53 MX),(8,.w fun v w1=>∃A c,v=.tuple #[.slice A mn c,.int .i64 0]∧RA ak 6 w1 w1.heap.size A mn c ol),(9,.w fun v w1=>∃A c,v=.tuple #[.slice A mn c,.int .i64 0]∧RA ak 6 w1 w1.heap.size A mn c ol),(10,.w fun v w1=>∃A c,v=.slice A mn c∧RA ak 6 w1 w1.heap.size A mn c ol),(12,.w fun v w1=>∃A c,v=.slice A mn c∧RA ak 6 w1 w1.heap.size A mn c ol)] ?_ ?_ ?_
         ·refine⟨?_,?_,?_,?_,?_,trivial⟩
          ·intro v w1 w2 hr hx;obtain⟨g,h1,h2⟩:=hr;exact⟨g,h1,h2.ext hx⟩
          ·intro v w1 w2 hr hx;obtain⟨A,c,h1,h2⟩:=hr;exact⟨A,c,h1,aB h2 hx⟩
          ·intro v w1 w2 hr hx;obtain⟨A,c,h1,h2⟩:=hr;exact⟨A,c,h1,aB h2 hx⟩
          ·intro v w1 w2 hr hx;obtain⟨A,c,h1,h2⟩:=hr;exact⟨A,c,h1,aB h2 hx⟩
          ·intro v w1 w2 hr hx;obtain⟨A,c,h1,h2⟩:=hr;exact⟨A,c,h1,aB h2 hx⟩
         ·refine⟨?x0,?x1,?_,?_,?_,?_,?_,?_,?x8,?x9,?x10,?x11,?x12,?_,trivial⟩
          case x0 =>
           intro vals w1 hx hd;clear hd;simp only[Lf];refine ay rfl 53 _ rfl g17 0 rfl MX MX.toList (by simp) _ (aI.range (Y6.out.ext hx.aG) _ rfl) Tryz.underlying53 rfl (by rw[Array.length_toList,HZM.out];exact aN) ?_;go_wp2;exact q_
          case x1 =>
           intro vals w1 hx hd;clear hd;simp only[Lf,au,Act.put,aX,aW];refine aV rfl _ _ _ rfl MX rfl Tryz.underlying28 21 fQ HZM.out (by omega) (by omega) ?_;go_wp2;exact⟨rfl,(by repeat (first | exact Below.refl _ _ | assumption | refine Below.drew ?_ | refine below_drewN ?_ _ | refine aj ?_ _ | refine Below.setCell ?_ (by first | (simp;done) | omega | (simp;omega)) _ | refine aA ?_ (by assumption))),_,rfl,aI.new _ _ _⟩
          case x8 =>
           intro vals w1 hx hd;have r1:(fun v w1=>∃g,v=.slice (some ⟨g,0,none⟩) 1 1∧aI w1 g 53 MX) (vals 1) w1:=hd 1 (by decide) rfl;dsimp only at r1;obtain⟨g,e_1,jb⟩:=r1;clear hd;simp only[Lf,au,Act.put,aX,aW,e_1];clear e_1;have HC:=Lib.hid (Gs.out _ _ (Ext.trans KF.out hx.aG) jb);clear jb;go_wp2_with fail;refine HC.out.mono ?_;rintro e w2 ⟨v2,rfl,hown,hb2⟩;obtain⟨A2,c2,hv2,_,_⟩:=aP hown;subst hv2;rw[←TY.out]at hown⊢;have hra:=Lib.hid (RA.dD hown TY.out.symm (by omega));clear hown;go_wp2;exact⟨rfl,hb2,A2,c2,rfl,hra.out⟩
          case x9 =>
           intro vals w1 hx hd;have r8:(fun v w1=>∃A c,v=.tuple #[.slice A mn c,.int .i64 0]∧RA ak 6 w1 w1.heap.size A mn c ol) (vals 8) w1:=hd 8 (by decide) rfl;dsimp only at r8;obtain⟨A2,c2,e_8,hra⟩:=r8;clear hd;simp only[Lf,au,Act.put,aX,aW,e_8];clear e_8;have hra:=Lib.hid hra;go_wp2;exact⟨rfl,Ext.refl _,A2,c2,rfl,hra.out⟩
          case x10 =>
           intro vals w1 hx hd;have r9:(fun v w1=>∃A c,v=.tuple #[.slice A mn c,.int .i64 0]∧RA ak 6 w1 w1.heap.size A mn c ol) (vals 9) w1:=hd 9 (by decide) rfl;dsimp only at r9;obtain⟨A2,c2,e_9,hra⟩:=r9;clear hd;simp only[Lf,au,Act.put,aX,aW,e_9];clear e_9;have hra:=Lib.hid hra;go_wp2;exact⟨rfl,Ext.refl _,A2,c2,rfl,hra.out⟩
          case x11 =>
           intro vals w1 hx hd;have r9:(fun v w1=>∃A c,v=.tuple #[.slice A mn c,.int .i64 0]∧RA ak 6 w1 w1.heap.size A mn c ol) (vals 9) w1:=hd 9 (by decide) rfl;dsimp only at r9;obtain⟨A2,c2,e_9,hra⟩:=r9;clear hd;simp only[Lf,au,Act.put,aX,aW,e_9];clear e_9;clear hra;go_wp2;exact q_
          case x12 =>
           intro vals w1 hx hd;have r1:(fun v w1=>∃g,v=.slice (some ⟨g,0,none⟩) 1 1∧aI w1 g 53 MX) (vals 1) w1:=hd 1 (by decide) rfl;dsimp only at r1;obtain⟨g,e_1,jb⟩:=r1;have r8:(fun v w1=>∃A c,v=.tuple #[.slice A mn c,.int .i64 0]∧RA ak 6 w1 w1.heap.size A mn c ol) (vals 8) w1:=hd 8 (by decide) rfl;dsimp only at r8;obtain⟨A2,c2,e_8,hra⟩:=r8;have r9:(fun v w1=>∃A c,v=.tuple #[.slice A mn c,.int .i64 0]∧RA ak 6 w1 w1.heap.size A mn c ol) (vals 9) w1:=hd 9 (by decide) rfl;dsimp only at r9;obtain⟨A2,c2,e_9,hra⟩:=r9;have r10:(fun v w1=>∃A c,v=.slice A mn c∧RA ak 6 w1 w1.heap.size A mn c ol) (vals 10) w1:=hd 10 (by decide) rfl;dsimp only at r10;obtain⟨A2,c2,e_10,hra⟩:=r10;clear hd;simp only[Lf,au,Act.put,aX,aW,e_1,e_8,e_9,e_10];clear e_1 e_8 e_9 e_10;have hra:=Lib.hid hra;go_wp2;exact⟨rfl,Ext.refl _,A2,c2,rfl,hra.out⟩
          all_goals
           intro vals w1 hx hd;clear hd;simp only[Lf,au,Act.put,aX,aW];have d0:=ah hx d0;have d1:=ah hx d1;go_wp2;exact gW
         intro vals Wf hz hf;obtain⟨mA,mc,e12,hra⟩:∃A c,vals 12=.slice A mn c∧RA ak 6 Wf Wf.heap.size A mn c ol:=hf 12 (by omega);have e13:vals 13=.int .i64 0:=hf 13 (by omega);clear hf d0 d1;have hz:=hz.aG;refine dJ (by kernel_rfl) ?_;simp only[Lf,au,Act.put,FR_];rw[e12,e13];clear e12 e13;have CU:=Lib.hid hra;have hmc:mc≤9223372036854775807:=by have h9:=CU.out.sJ;unfold maxLen at h9;exact h9
         have hmc1:=CU.out.cap;have HO:=Lib.hid (HO.out.ext hz);have hy:=Ext.trans hy hz;clear hra hz Y6 Gs KF;go_wp2;go_loopw [13,20] (fun x y wr=>∃n:Nat,n≤mn∧y=.int .i64 n∧Hid (rU w wr x ((L++M)++ol.take n))∧Ext Wf wr) (fun _ y _=>mn-(intOf y).toNat)
         case atStart=>exact⟨0,Nat.zero_le _,rfl,Lib.hid (by simpa using HO.out),Ext.refl _⟩
         case round =>
          clear HO;obtain⟨n,hn,rfl,HO,hv⟩:=hrel;by_cases hnn:n<mn
          ·skip;obtain⟨mg,Jt,hz,hA,_,hr⟩:=(CU.out.below hv).range bg hnn;subst hA;have Le:(L++M)++ol.take (n+1)=((L++M)++ol.take n)++[ol[n]]:=by rw[List.take_succ_eq_append_getElem hz,List.append_assoc (L++M)]
           have GH:((L++M)++ol.take n).length≤2400000:=by
            have h2:=List.length_take_le n ol;rw[List.length_append,List.length_append];omega
           generalize ol[n]=P at hr Le;generalize (L++M)++ol.take n=QL at HO Le GH;obtain⟨AO,cO,YV,ho1,ho2,UU⟩:=HO.out.form;obtain⟨nO,Gp⟩:∃n,n=QL.length:=⟨_,rfl⟩;rw[←Gp]at YV ho1 UU GH;subst YV;have Sl:=Lib.hid (HO.out.ra Gp (by omega));obtain⟨OL,UW⟩:∃l,l=bP (ltOf aY) QL:=⟨_,rfl⟩;have Rk:OL.length=nO:=by rw[UW,kP,Gp]
           rw[←UW]at Sl;have HOL:=Lib.hid UW;have Zx:=Lib.hid Gp;have sQ:=Lib.hid Rk;have YW:=Lib.hid UU;have hcO:cO≤9223372036854775807:=by unfold maxLen at ho2;exact ho2
           have HSN2:=Lib.hid Le;clear UW Gp Rk UU ho2 HO Le;obtain⟨PX,U2⟩:∃X,(ak P).toArray=X:=⟨_,rfl⟩;have U3:Hid (PX.size=6):=Lib.hid (by rw[←U2];rfl);have BH:Hid (wr.rangeAt mg (Jt+n*6) PX.toList):=Lib.hid (by rw[←U2];exact hr);have HPX:=Lib.hid U2;clear U2;obtain⟨⟨jR,BU,⟨p2,p3⟩,⟨p4,p5⟩⟩,WL⟩:∃P2,P2=P:=⟨_,rfl⟩;have HPE:=Lib.hid WL;have u0:wr.cell? ⟨mg,Jt+n*6,none⟩=some (.int .i64 jR):=by have h:=hr 0 (.int .i64 jR) (by rw[←WL];rfl);exact h
           have u1:wr.cell? ⟨mg,Jt+n*6+1,none⟩=some (.int .i64 BU):=by have h:=hr 1 (.int .i64 BU) (by rw[←WL];rfl);exact h
           have u2:wr.cell? ⟨mg,Jt+n*6+2,none⟩=some (.int .i64 p2):=by have h:=hr 2 (.int .i64 p2) (by rw[←WL];rfl);exact h
           have u3:wr.cell? ⟨mg,Jt+n*6+3,none⟩=some (.int .i64 p3):=by have h:=hr 3 (.int .i64 p3) (by rw[←WL];rfl);exact h
           have u4:wr.cell? ⟨mg,Jt+n*6+4,none⟩=some (.int .i64 p4):=by have h:=hr 4 (.int .i64 p4) (by rw[←WL];rfl);exact h
           have u5:wr.cell? ⟨mg,Jt+n*6+5,none⟩=some (.int .i64 p5):=by have h:=hr 5 (.int .i64 p5) (by rw[←WL];rfl);exact h
           clear hr WL hz;obtain⟨Wh,hWh⟩:∃W:World,W=wr:=⟨_,rfl⟩;rw[←hWh]at hv Sl BH u0 u1 u2 u3 u4 u5⊢;clear hWh;go_wp2;go_loopw [21] (fun x wr=>∃j:Nat,j≤nO∧x=.int .i64 j∧Hid (∀z∈OL.drop j,ltOf aY P z=true)∧Ext Wh wr) (fun x _=>(intOf x).toNat)
           case atStart=>exact⟨nO,Nat.le_refl _,rfl,Lib.hid (fun z hz=>by rw[List.drop_of_length_le (by rw[sQ.out];exact Nat.le_refl _)]at hz;cases hz),Ext.refl _⟩
           case round =>
            obtain⟨j,hj,rfl,D_,hh⟩:=hrel;go_upto_region 21 with (fail);go_cut [102] from 89 to 102 (fun v wc=>∃q:Bool,v=.bool q∧Hid ((q=true→∃h:j-1<OL.length,0<j∧ltOf aY P OL[j-1]=true)∧(q=false→j=0∨∃h:j-1<OL.length,0<j∧ltOf aY P OL[j-1]=false))∧Ext wr wc)
            case first =>
             by_cases hj0:j=0
             ·have cj:decide ((0:Int)<(j:Int))=false:=by simp;omega
              refine aH 14 [some (.int .i64 (j:Int)),some (.bool false),some (.bool false),some (undef),some (undef),some (undef),some (undef),some (undef),some (undef),some (undef),some (undef),some (undef),some (undef),some (.bool false)] [] ?_ ?_ ?_
              ·trivial
              ·refine⟨?_,?_,?_,?_,?_,?_,?_,?_,?_,?_,?_,?_,?_,?_,trivial⟩
               all_goals
                intro vals w1 hx hd;clear hd;simp only[Lf,au,Act.put,aX,aW];go_wp2;exact gW
              intro vals W5 hx9 hf;have e13:vals 13=.bool false:=hf 13 (by omega);clear hf;have hx9:=hx9.aG;refine dJ (by kernel_rfl) ?_;simp only[Lf,au,Act.put,FR_];rw[e13];clear e13;go_wp2_with fail;go_meet
              case rel=>exact⟨false,rfl,Lib.hid ⟨fun h=>(by cases h),fun _=>.inl hj0⟩,hx9⟩
             ·have hj1:0<j:=by omega
              have cj:decide ((0:Int)<(j:Int))=true:=by simp;omega
              have hki:IntKind.i64.wrap ((j:Int)-1)=(j:Int)-1:=IntWalk.i64_in _ (by omega);have qG:((j:Int)-1).toNat=j-1:=by omega
              have hkz:(0:Int)≤(j:Int)-1:=by omega
              have hkl:(j:Int)-1<(nO:Int):=by omega
              obtain⟨go,Gq,hzo,hA,_,hc1⟩:=(Sl.out.below hh).at_ bg (show j-1<nO by omega);have hst:∀q,ltOf aY P OL[j-1]=q→(∃h:j-1<OL.length,0<j∧ltOf aY P OL[j-1]=q):=fun q h=>⟨hzo,hj1,h⟩;have hbf:=fun W=>Aj jR BU p2 p3 p4 p5 OL[j-1].sat OL[j-1].cZ OL[j-1].sure.fr OL[j-1].sure.tt OL[j-1].can.fr OL[j-1].can.tt W;have hpe:=HPE.out;rw[hpe]at hbf;obtain⟨lq,hlq⟩:∃q,q=ltOf aY P OL[j-1]:=⟨_,rfl⟩;have pR:∀W,Calls Tryz.prog 82 #[.agg #[.int .i64 jR,.int .i64 BU,.int .i64 p2,.int .i64 p3,.int .i64 p4,.int .i64 p5],.agg #[.int .i64 OL[j-1].sat,.int .i64 OL[j-1].cZ,.int .i64 OL[j-1].sure.fr,.int .i64 OL[j-1].sure.tt,.int .i64 OL[j-1].can.fr,.int .i64 OL[j-1].can.tt]] W fun e w'=>e=.returned (.bool lq)∧Ext W w':=by rw[hlq];exact hbf
              have HLQ:Hid ((lq=true→∃h:j-1<OL.length,0<j∧ltOf aY P OL[j-1]=true)∧(lq=false→j=0∨∃h:j-1<OL.length,0<j∧ltOf aY P OL[j-1]=false)):=Lib.hid ⟨fun h=>hst true (by rw[←hlq];exact h),fun h=>.inr (hst false (by rw[←hlq];exact h))⟩;generalize OL[j-1]=ez at hc1 pR;have v0:wr.cell? ⟨go,Gq+(j-1)*6,none⟩=some (.int .i64 ez.sat):=hc1 0 (by omega);have v1:wr.cell? ⟨go,Gq+(j-1)*6+1,none⟩=some (.int .i64 ez.cZ):=hc1 1 (by omega);have v2:wr.cell? ⟨go,Gq+(j-1)*6+2,none⟩=some (.int .i64 ez.sure.fr):=hc1 2 (by omega);have v3:wr.cell? ⟨go,Gq+(j-1)*6+3,none⟩=some (.int .i64 ez.sure.tt):=hc1 3 (by omega);have v4:wr.cell? ⟨go,Gq+(j-1)*6+4,none⟩=some (.int .i64 ez.can.fr):=hc1 4 (by omega);have v5:wr.cell? ⟨go,Gq+(j-1)*6+5,none⟩=some (.int .i64 ez.can.tt):=hc1 5 (by omega);generalize ez.sat=z0_ at v0 pR;generalize ez.cZ=z1_ at v1 pR;generalize ez.sure.fr=z2_ at v2 pR;generalize ez.sure.tt=z3_ at v3 pR;generalize ez.can.fr=z4_ at v4 pR;generalize ez.can.tt=z5_ at v5 pR;have HBF:=Lib.hid pR;clear hst hbf hpe hlq pR hc1 hzo;subst hA;have u0:=ah hh u0;have u1:=ah hh u1;have u2:=ah hh u2;have u3:=ah hh u3;have u4:=ah hh u4;have u5:=ah hh u5;refine aH 14 [some (.int .i64 (j:Int)),some (.bool true),some (.bool true),some (.slice (some ⟨mg,Jt,none⟩) mn mc),some (.int .i64 (n:Int)),some (.pointer (some ⟨mg,Jt+n*6,none⟩)),some (.agg #[.int .i64 jR,.int .i64 BU,.int .i64 p2,.int .i64 p3,.int .i64 p4,.int .i64 p5]),some (.slice (some ⟨go,Gq,none⟩) nO cO),some (.int .i64 (j:Int)),some (.int .i64 ((j:Int)-1)),some (.pointer (some ⟨go,Gq+(j-1)*6,none⟩)),some (.agg #[.int .i64 z0_,.int .i64 z1_,.int .i64 z2_,.int .i64 z3_,.int .i64 z4_,.int .i64 z5_]),some (.bool lq),some (.bool lq)] [] ?_ ?_ ?_
              ·trivial
              ·refine⟨?_,?_,?_,?_,?_,?_,?_,?_,?_,?_,?_,?_,?x12,?_,trivial⟩
               case x12 =>
                intro vals w1 hx hd;clear hd;simp only[Lf,au,Act.put,aX,aW];go_wp2_with fail;refine (HBF.out _).mono ?_;rintro e w2 ⟨rfl,hb2⟩;go_wp2;exact⟨rfl,hb2,rfl⟩
               all_goals
                intro vals w1 hx hd;clear hd;simp only[Lf,au,Act.put,aX,aW];have u0:=ah hx u0;have u1:=ah hx u1;have u2:=ah hx u2;have u3:=ah hx u3;have u4:=ah hx u4;have u5:=ah hx u5;have v0:=ah hx v0;have v1:=ah hx v1;have v2:=ah hx v2;have v3:=ah hx v3;have v4:=ah hx v4;have v5:=ah hx v5;go_wp2;exact gW
              intro vals W5 hx9 hf;have e13:vals 13=.bool lq:=hf 13 (by omega);clear hf;have hx9:=hx9.aG;refine dJ (by kernel_rfl) ?_;simp only[Lf,au,Act.put,FR_];rw[e13];clear e13;go_wp2_with fail;go_meet
              case rel=>exact⟨lq,rfl,Lib.hid HLQ.out,hx9⟩
            obtain⟨q,rfl,UY,hx9⟩:=hcut;have hh:=Ext.trans hh hx9;clear hx9;obtain⟨Wk,hWk⟩:∃W:World,W=wc:=⟨_,rfl⟩;rw[←hWk]at hh⊢;clear hWk;cases q
            ·skip;have hstop:=UY.out.2 rfl;have hins:=Rf (L:=QL) (P:=P) (j:=j) (by rw[←HOL.out,sQ.out];exact hj) (by rw[←HOL.out];exact D_.out) (by rw[←HOL.out];exact hstop);rw[←HOL.out]at hins;obtain⟨CL,UZ⟩:∃l,l=P::OL.drop j:=⟨_,rfl⟩;have Jm:CL.length=nO-j+1:=by rw[UZ,List.length_cons,List.length_drop,sQ.out]
             rw[←UZ]at hins;obtain⟨NL,U0⟩:∃l,l=OL.take j++CL:=⟨_,rfl⟩;have Rn:NL.length=nO+1:=by rw[U0,List.length_append,List.length_take,sQ.out,Jm];omega
             rw[←U0]at hins;have Ik:=Lib.hid hins;have Vt:=Lib.hid UZ;have YZ:=Lib.hid U0;have Ro:=Lib.hid Jm;have U1:=Lib.hid Rn;clear hstop hins UY D_ UZ U0 Jm Rn u0 u1 u2 u3 u4 u5;have hv:=Ext.trans hv hh;go_upto_region 23 with (fail);have Ag:=Lib.hid (aB Sl.out hh);have HRX2:=Lib.hid (RA.bV BH.out hh);have hws:w.heap.size≤Wk.heap.size:=Below.size (Ext.trans hB (Ext.trans hx (Ext.trans hy hv)));have hsplit:OL.flatMap ak=(OL.take j).flatMap ak++(OL.drop j).flatMap ak:=by rw[←List.flatMap_append,List.take_append_drop]
             rcases YW.out with ⟨rfl,hn0,rfl⟩ | ⟨gO,rfl⟩
             ·skip;obtain rfl:nO=0:=hn0;obtain rfl:j=0:=by omega
              clear YW;have RY:Hid (Reads Wk Wk.heap.size 6 none 0 ((OL.drop 0).flatMap ak)):=Lib.hid (by rw[show OL=[] from List.eq_nil_of_length_eq_zero sQ.out];exact Reads.none_);refine aH 14 [some (.slice none 0 0),some (.int .i64 0),some (.int .i64 0),some (.slice none 0 0),some (.slice (some ⟨mg,Jt,none⟩) mn mc),some (.int .i64 (n:Int)),some (.pointer (some ⟨mg,Jt+n*6,none⟩)),some (.agg PX),none,some (.slice none 0 0),some (.int .i64 0),some (.slice none 0 0),none,none] [(8,.w fun v w1=>∃g,v=.slice (some ⟨g,0,none⟩) 1 1∧aI w1 g 75 PX),(12,.w fun v w1=>qh w1 v CL),(13,.w fun v w1=>oK w1 Wk.heap.size v NL)] ?_ ?_ ?_
              ·refine⟨?_,?_,?_,trivial⟩
               ·intro v w1 w2 hr hx;obtain⟨g,h1,h3⟩:=hr;exact⟨g,h1,h3.ext hx⟩
               ·intro v w1 w2 hr hx;exact hr.ext hx
               ·intro v w1 w2 hr hx;exact hr.ext hx
              ·refine⟨?_,?_,?_,?_,?_,?_,?_,?x7,?x8,?_,?_,?_,?x12,?x13,trivial⟩
               case x7 =>
                intro vals w1 hx hd;clear hd;simp only[Lf,au,Act.put,aX,aW];refine ay rfl 75 _ rfl mg (Jt+n*6) rfl PX PX.toList (by simp) _ (RA.bV HRX2.out hx.aG) Tryz.underlying75 rfl (by rw[Array.length_toList,U3.out];exact rH) ?_;go_wp2;exact q_
               case x8 =>
                intro vals w1 hx hd;clear hd;simp only[Lf,au,Act.put,aX,aW];refine aV rfl _ _ _ rfl PX rfl Tryz.underlying36 6 pK U3.out (by omega) (by omega) ?_;go_wp2;exact⟨rfl,(by repeat (first | exact Below.refl _ _ | assumption | refine Below.drew ?_ | refine below_drewN ?_ _ | refine aj ?_ _ | refine Below.setCell ?_ (by first | (simp;done) | omega | (simp;omega)) _ | refine aA ?_ (by assumption))),_,rfl,aI.new _ _ _⟩
               case x12 =>
                intro vals w1 hx hd;have r8:(fun v w1=>∃g,v=.slice (some ⟨g,0,none⟩) 1 1∧aI w1 g 75 PX) (vals 8) w1:=hd 8 (by decide) rfl;dsimp only at r8;obtain⟨gx,e_8,jb⟩:=r8;clear hd;simp only[Lf,au,Act.put,aX,aW,e_8];clear e_8;rw[←HPX.out]at jb;obtain⟨v9,w9,hrun,hx9,hcs⟩:=uy _ gx P (OL.drop 0) none 0 _ _ jb (RY.out.below hx.aG) (by omega);rw[←Vt.out]at hcs;refine aO rfl _ _ _ rfl rfl rfl hrun ?_;clear hrun;go_wp2;exact⟨rfl,hx9,hcs⟩
               case x13 =>
                intro vals w1 hx hd;have r12:(fun v w1=>qh w1 v CL) (vals 12) w1:=hd 12 (by decide) rfl;dsimp only at r12;obtain⟨A9,c9,e_12,hc9⟩:=r12;clear hd;simp only[Lf,au,Act.put,aX,aW,e_12];clear e_12;have hzz:=Below.size hx.aG;have Jo:=List.length_take (i:=0) (l:=OL);have Jp:=Ro.out;have Jq:=sQ.out;obtain⟨v9,w9,hrun,hx9,hown⟩:=uz _ (OL.take 0) CL _ 0 c9 A9 (.inl ⟨rfl,rfl⟩) (by omega) (by omega) (by omega) hc9;rw[←YZ.out]at hown;refine aO rfl _ _ _ rfl rfl rfl hrun ?_;clear hrun Jo Jp Jq;go_wp2;exact⟨rfl,hx9,hown.base hzz⟩
               all_goals
                intro vals w1 hx hd;clear hd;simp only[Lf,au,Act.put,aX,aW];go_wp2;exact gW
              intro vals W5 hx9 hf;have hown:oK W5 Wk.heap.size (vals 13) NL:=hf 13 (by omega);clear hf;have hx9:=hx9.aG;have HOWN:=Lib.hid (hown.base hws);clear hown;refine d_ 14 _ (by kernel_rfl) (by kernel_rfl) rfl ?_;simp only[Lf,au,Act.put,FR_];generalize vals 13=v8 at HOWN⊢;have hv:=Ext.trans hv hx9;have ho:=HOWN.out;unfold oK at ho;rw[U1.out,←Ik.out]at ho;obtain⟨A9,c9,hv9,_,_⟩:=aP ho;subst hv9;have Ep:Hid (rU w W5 (.slice A9 (0+1) c9) ((L++M)++ol.take (n+1))):=Lib.hid (by rw[HSN2.out];unfold rU;rw[List.length_append,←Zx.out];exact ho);clear ho HOWN hx9;go_wp2;go_roundw
              case rel=>exact⟨n+1,by omega,by go_num,Ep,hv⟩
              case measure=>simp[intOf];omega
             ·skip;clear YW;obtain⟨A8,h8⟩:∃A8:Addr,(cO=j∧A8=⟨gO,0,none⟩)∨(j<cO∧A8=⟨gO,j*6,none⟩):=by
               by_cases h:cO=j
               ·exact⟨_,.inl ⟨h,rfl⟩⟩
               ·exact⟨_,.inr ⟨by omega,rfl⟩⟩
              have hrd:=Ag.out.rd.cut hj ho1;rw[zJ bg]at hrd;have RY:Hid (Reads Wk Wk.heap.size 6 (some A8) (nO-j) ((OL.drop j).flatMap ak)):=Lib.hid (by
               rcases h8 with ⟨h,rfl⟩ | ⟨h,rfl⟩
               ·rw[if_pos h]at hrd;exact hrd
               ·rw[if_neg (by omega)]at hrd;simpa [Addr.add_lit]using hrd)
              have HCU:Hid (∀q u,((OL.take j).flatMap ak)[q]?=some u→Wk.cell? ⟨gO,q,none⟩=some u):=Lib.hid (fun q u hu=>by
               have GH:=(List.getElem?_eq_some_iff.1 hu).1;have Y0:0<nO:=by
                have:=Ag.out.len;rcases Nat.eq_zero_or_pos nO with h | h
                ·rw[show OL=[] from List.eq_nil_of_length_eq_zero (by omega)]at GH;simp at GH
                ·exact h
               obtain⟨b9,o9,hA,_,hc⟩:=Ag.out.rd.2 Y0;injection hA with hA;injection hA with h1 h2;subst h1 h2;have:=hc q u (by rw[hsplit,List.getElem?_append_left GH];exact hu);rwa[Nat.zero_add]at this)
              have H8:=Lib.hid h8;clear h8 hrd hsplit;refine aH 14 [some (.slice (some ⟨gO,0,none⟩) nO cO),some (.int .i64 (j:Int)),some (.int .i64 (j:Int)),some (.slice (some ⟨gO,0,none⟩) j j),some (.slice (some ⟨mg,Jt,none⟩) mn mc),some (.int .i64 (n:Int)),some (.pointer (some ⟨mg,Jt+n*6,none⟩)),some (.agg PX),none,some (.slice (some ⟨gO,0,none⟩) nO cO),some (.int .i64 (j:Int)),some (.slice (some A8) (nO-j) (cO-j)),none,none] [(8,.w fun v w1=>∃g,v=.slice (some ⟨g,0,none⟩) 1 1∧aI w1 g 75 PX),(12,.w fun v w1=>qh w1 v CL),(13,.w fun v w1=>oK w1 Wk.heap.size v NL)] ?_ ?_ ?_
              ·refine⟨?_,?_,?_,trivial⟩
               ·intro v w1 w2 hr hx;obtain⟨g,h1,h3⟩:=hr;exact⟨g,h1,h3.ext hx⟩
               ·intro v w1 w2 hr hx;exact hr.ext hx
               ·intro v w1 w2 hr hx;exact hr.ext hx
              ·refine⟨?_,?_,?_,?_,?_,?_,?_,?x7,?x8,?_,?_,?x11,?x12,?x13,trivial⟩
               case x7 =>
                intro vals w1 hx hd;clear hd;simp only[Lf,au,Act.put,aX,aW];refine ay rfl 75 _ rfl mg (Jt+n*6) rfl PX PX.toList (by simp) _ (RA.bV HRX2.out hx.aG) Tryz.underlying75 rfl (by rw[Array.length_toList,U3.out];exact rH) ?_;go_wp2;exact q_
               case x8 =>
                intro vals w1 hx hd;clear hd;simp only[Lf,au,Act.put,aX,aW];refine aV rfl _ _ _ rfl PX rfl Tryz.underlying36 6 pK U3.out (by omega) (by omega) ?_;go_wp2;exact⟨rfl,(by repeat (first | exact Below.refl _ _ | assumption | refine Below.drew ?_ | refine below_drewN ?_ _ | refine aj ?_ _ | refine Below.setCell ?_ (by first | (simp;done) | omega | (simp;omega)) _ | refine aA ?_ (by assumption))),_,rfl,aI.new _ _ _⟩
               case x11 =>
                intro vals w1 hx hd;clear hd;simp only[Lf,au,Act.put,aX,aW];rcases H8.out with ⟨h8,h9⟩ | ⟨h8,h9⟩
                all_goals subst h9
                ·(go_wp2;exact q_)
                ·(go_wp2;exact q_)
               case x12 =>
                intro vals w1 hx hd;have r8:(fun v w1=>∃g,v=.slice (some ⟨g,0,none⟩) 1 1∧aI w1 g 75 PX) (vals 8) w1:=hd 8 (by decide) rfl;dsimp only at r8;obtain⟨gx,e_8,jb⟩:=r8;clear hd;simp only[Lf,au,Act.put,aX,aW,e_8];clear e_8;rw[←HPX.out]at jb;obtain⟨v9,w9,hrun,hx9,hcs⟩:=uy _ gx P (OL.drop j) (some A8) (nO-j) _ _ jb (RY.out.below hx.aG) (by omega);rw[←Vt.out]at hcs;refine aO rfl _ _ _ rfl rfl rfl hrun ?_;clear hrun;go_wp2;exact⟨rfl,hx9,hcs⟩
               case x13 =>
                intro vals w1 hx hd;have r12:(fun v w1=>qh w1 v CL) (vals 12) w1:=hd 12 (by decide) rfl;dsimp only at r12;obtain⟨A9,c9,e_12,hc9⟩:=r12;clear hd;simp only[Lf,au,Act.put,aX,aW,e_12];clear e_12;have hzz:=Below.size hx.aG;have Jo:=List.length_take (i:=j) (l:=OL);have Jp:=Ro.out;have Jq:=sQ.out;obtain⟨v9,w9,hrun,hx9,hown⟩:=uz _ (OL.take j) CL _ j c9 A9 (.inr ⟨gO,rfl,fun q u hu=>ah hx.aG (HCU.out q u hu)⟩) (by omega) (by omega) (by omega) hc9;rw[←YZ.out]at hown;refine aO rfl _ _ _ rfl rfl rfl hrun ?_;clear hrun Jo Jp Jq;go_wp2;exact⟨rfl,hx9,hown.base hzz⟩
               all_goals
                intro vals w1 hx hd;clear hd;simp only[Lf,au,Act.put,aX,aW];go_wp2;exact gW
              intro vals W5 hx9 hf;have hown:oK W5 Wk.heap.size (vals 13) NL:=hf 13 (by omega);clear hf;have hx9:=hx9.aG;have HOWN:=Lib.hid (hown.base hws);clear hown;refine d_ 14 _ (by kernel_rfl) (by kernel_rfl) rfl ?_;simp only[Lf,au,Act.put,FR_];generalize vals 13=v8 at HOWN⊢;have hv:=Ext.trans hv hx9;have ho:=HOWN.out;unfold oK at ho;rw[U1.out,←Ik.out]at ho;obtain⟨A9,c9,hv9,_,_⟩:=aP ho;subst hv9;have Ep:Hid (rU w W5 (.slice A9 (nO+1) c9) ((L++M)++ol.take (n+1))):=Lib.hid (by rw[HSN2.out];unfold rU;rw[List.length_append,←Zx.out];exact ho);clear ho HOWN hx9;go_wp2;go_roundw
              case rel=>exact⟨n+1,by omega,by go_num,Ep,hv⟩
              case measure=>simp[intOf];omega
            ·skip;obtain⟨hzj,hj1,hlt⟩:=UY.out.1 rfl;have Y4:Hid (∀z∈OL.drop (j-1),ltOf aY P z=true):=Lib.hid (fun z hz=>by
              rw[List.drop_eq_getElem_cons hzj,show j-1+1=j by omega,List.mem_cons]at hz;rcases hz with rfl | hz
              ·exact hlt
              ·exact D_.out z hz)
             have hki:IntKind.i64.wrap ((j:Int)-1)=(j:Int)-1:=IntWalk.i64_in _ (by omega);clear UY D_ hzj hlt;go_wp2;go_roundw
             case rel=>exact⟨j-1,by omega,by rw[show ((j-1:Nat):Int)=(j:Int)-1 by omega],Y4,hh⟩
             case measure=>simp[intOf];omega
          ·skip;have Ep:Hid (rU w wr u13 (L++(M++ol))):=Lib.hid (by have h:=HO.out;rwa[List.take_of_length_le (by rw[←TY.out];omega),List.append_assoc]at h);clear HO;have hy:=Ext.trans hy hv;have HPT2:Hid (dU aJ s (PL.take (k+1))=some (M++ol)):=HPT;go_wp2;go_roundw
           case rel=>exact⟨k+1,M++ol,by omega,by go_num,HPT2,Ep,hy⟩
           case measure=>simp[intOf];omega
       ·skip;have Ep:Hid (jW aJ l ⟨a,b⟩ kn (sats.take (i+1))=some (L++M)):=Lib.hid (HNEXT.out M (by have h:=WI.out;rwa[List.take_of_length_le (by rw[←OZ.out];omega)]at h));have hx:=Ext.trans hx hy;clear WI;go_wp2;go_roundw
        case rel=>exact⟨i+1,L++M,by omega,by go_num,Ep,HO,hx⟩
        case measure=>simp[intOf];omega
     ·skip;have hal:=yL.out;rw[List.take_of_length_le (by rw[yH.out];omega)]at hal;have hr:=jg.out;rw[hal]at hr;dsimp only at hr;clear hal jg;obtain⟨AO,cO,YV,ho1,ho2,UU⟩:=HO.out.form;subst YV;clear UU;have hll:L.length≤2211840:=by
       have h1:=all_le aJ l ⟨a,b⟩ kn (by dsimp only;omega) _ _ yL.out;have h2:=List.length_take_le i sats;have h3:=yH.out;omega
      obtain⟨nO,Gp⟩:∃n,n=L.length:=⟨_,rfl⟩;rw[←Gp]at hr ho1 hll⊢;by_cases h64:nO≤64
      ·skip;have h65:¬(64:Int)<(nO:Int):=by omega
       rw[if_pos h64]at hr;have ho:=HO.out;unfold rU at ho;rw[←kP (lt:=ltOf aY) L]at ho;have HOE:=Lib.hid ho;have YF:=Lib.hid hr;have YZ:Hid ((bP (ltOf aY) L).length=nO):=Lib.hid (by rw[kP,Gp]);clear ho hr HO Gp;go_wp2;rw[YF.out];exact bodyPost_ret (v:=.tuple #[.slice AO nO cO,.int .i64 0]) (by simp[results,Tryz.results30,go_sem]) rfl ⟨⟨_,rfl,by have h:=HOE.out;rw[YZ.out]at h⊢;exact h⟩,Ext.trans hB hx⟩
      ·skip;have h65:(64:Int)<(nO:Int):=by omega
       rw[if_neg h64]at hr;subst hr;clear HO Gp;go_wp2;exact bodyPost_ret (v:=.tuple #[.slice none 0 0,.int .i64 360]) (by simp[results,Tryz.results30,go_sem]) rfl ⟨rfl,Ext.trans hB hx⟩
end Go.Proofs.YtjidhhfabfnhnaaGreat
